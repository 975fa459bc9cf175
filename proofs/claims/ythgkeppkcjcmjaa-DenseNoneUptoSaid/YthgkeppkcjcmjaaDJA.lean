/- Part of a proof that a law of the given program answers true. -/
import Derived.Test.YthgkeppkcjcmjaaDPF
set_option linter.unusedSimpArgs false
set_option linter.unusedVariables false
set_option maxHeartbeats 4000000
namespace Go.Proofs
open Go.E
theorem YJ {H:Nat→Option MObj} {id z n:Nat} {es es':List V} {ro:Bool} (hH:H id=some (.own z es ro)) (he:ErL true H es es') (hn:es.length=n):Er true H (.msl id z 0 n) (.sl z false es'):=by
 obtain ⟨h1,h2⟩:=he.get
 refine .msl id z 0 n es ro es' rfl hH (by omega) (by omega) fun i c c' h3 h4=>?_
 rw[Nat.zero_add]at h3
 exact h2 i c c' h3 h4
theorem qaC {K:V→Prop} {k z off:Nat} {es cs:List V} {ro:Bool} {c:V} (hx:es[k]?=some (.agg cs)) (hc:cs[off]?=some c) (hk:K c):onS (ldQ (some (.own z es ro)) false 1 k off) K:=by
 have e:ldQ (some (.own z es ro)) false 1 k off=some c:=by
  simp only[ldQ,hx,jH]
  rw[if_neg (by simp[V.isAgg])]
  simp[QT,V.cells,hc]
 rw[e];exact hk
theorem qaw {K:St→Prop} {s:St} {id k z off:Nat} {es cs:List V} {v:V} (hx:es[k]?=some (.agg cs)) (hv:v.cells=[v]) (hc:v.okCell=true) (ha:v.isAgg=false) (ho:off<cs.length)
 (hk:K (s.setO id (some (.own z (es.set k (.agg (cs.set off v))) false)))):onS (stQ s (some (.own z es false)) 1 id k off v) K:=by
 have e0:jm 1 z (.agg cs) v off=some (.agg (cs.set off v)):=by
  unfold jm
  rw[if_neg (by rw[ha];simp[V.isAgg])]
  cases v<;>simp_all [V.isAgg]
 have e:stQ s (some (.own z es false)) 1 id k off v=some (s.setO id (some (.own z (es.set k (.agg (cs.set off v))) false))):=by
  simp only[stQ,hx,e0,hv,hc,List.length_singleton,and_self,if_true,Option.map_some]
 rw[e];exact hk
theorem Yz {K:St→Prop} {s:St} {id k z off:Nat} {es cs:List V} {v:V} {o:Option MObj} (hO:o=some (.own z es false)) (hx:es[k]?=some (.agg cs)) (hv:v.cells=[v]) (hc:v.okCell=true) (ha:v.isAgg=false) (ho:off<cs.length)
 (hk:K (s.setO id (some (.own z (es.set k (.agg (cs.set off v))) false)))):onS (stQ s o 1 id k off v) K:=by subst hO;exact qaw hx hv hc ha ho hk
theorem YT {K:V→Prop} {k z off:Nat} {es cs:List V} {ro:Bool} {c:V} {o:Option MObj} (hO:o=some (.own z es ro)) (hx:es[k]?=some (.agg cs)) (hc:cs[off]?=some c) (hk:K c):onS (ldQ o false 1 k off) K:=by subst hO;exact qaC hx hc hk
theorem Gr.ok {H:Nat→Option MObj} {next z:Nat} {es:List V} {v:V} (h:Gr H next z es v):v.cells=[v]∧v.okCell=true∧v.isAgg=false:=by
 rcases h with rfl|⟨id,f,rfl,_⟩<;>exact⟨rfl,rfl,rfl⟩
theorem qaF {cls:Cls} {id:Nat} {s:St} {K:V→St→Prop} {z bytes:Nat} {vy:V} {ys:List V} (hcl:(cls == .t)=false) (hs:qI s.H z ys vy)
 (hb:ys.length *bytes≤140737488355328) (hl:ys.length≤maxLen)
 (hk:K (.msl id z 0 ys.length) (s.setO id (some (.own z ys false)))):KG cls id s K true z bytes (.sl z true []) vy:=by
 unfold KG
 rw[hs.1 s rfl]
 refine⟨fun e=>(by subst e;cases hcl),?_⟩
 have e:qU id s true z (.sl z true []) ys=some (.msl id z 0 ys.length,s.setO id (some (.own z ys false)),ys.length):=by simp[qU]
 rw[e]
 exact⟨hb,hl,hk⟩
def Kc (s:Sym):List Decl→List Decl
 |[]=>[]
 |[d]=>[{d with syms:=d.syms++[s]}]
 |d::e::r=>d::Kc s (e::r)
theorem Qg (s:Sym) (o:List Decl) (d:Decl):Kc s (o++[d])=o++[{d with syms:=d.syms++[s]}]:=by
 induction o with
 |nil=>rfl
 | cons a o ih=>
   cases o with
   |nil=>rfl
   |cons b o=>show a::Kc s (b::o++[d])=_;rw[ih];rfl
def xG (i:Nat) (x:Int) (out:List Decl):List Decl:=
 if x % 8 % 4=0 then out else if 4<x % 8∧out≠[]then Kc (kG i) out else out++[{kind:=1+x % 8 % 4,syms:=[kG i]}]
def zU (l:List Int):Nat→List Decl
 |0=>[]
 |i+1=>xG i (l.getD i 0) (zU l i)
def ko (l:List Int):List Decl:=zU l (min 4 l.length)
def DI (H:Nat→Option MObj) (next:Nat) (v:V) (out:List Decl):Prop:=
 (out=[]∧v=.sl 4 true [])∨ ∃id es k vS ss,∃(o:List Decl) (sy:List Sym),v=.msl id 4 0 (es.length+1)∧H id=some (.own 4 (es++[.agg [vi k,.str [],vS,vi 0]]) false)∧id<next∧Gr H next 4 ss vS∧QG es (o.map Decl.V)∧QG ss (sy.map Sym.V)∧out=o++[{kind:=k,syms:=sy}]∧es.length≤4∧ss.length≤4
theorem DI.mono {H H':Nat→Option MObj} {next next':Nat} {v:V} {out:List Decl} (h:DI H next v out) (hn:next≤next') (hH: ∀j,j<next→H' j=H j):DI H' next' v out:=by
 rcases h with h|⟨id,es,k,vS,ss,o,sy,h1,h2,h3,h4,h5⟩
 · exact Or.inl h
 · exact Or.inr ⟨id,es,k,vS,ss,o,sy,h1,by rw[hH id h3];exact h2,by omega,h4.mono hn (fun j _ hj=>hH j hj),h5⟩
theorem Qe {l :List Int} (hl:l.length≤1099511627776):Pure Try.prog 44 [.sl 1 false (l.map (V.int .i64))] (.sl 4 false ((ko l).map Decl.V)):=by
 refine pure_intro Try.func44 qu2 qxm (by show 1≤59;decide) ?_
 show ewp _ qix _ _
 repeat' with_reducible first
  |refine s_ ?_
  |simp only[wZZ,seval]
 refine qd ?nx1 (fun(i:Nat) s=>s.f 0=?v1_0∧s.f 4=vi i∧(i≤l.length)∧(i≤4)∧((∃v,s.f 3=v∧DI s.H s.next v (zU l i)∧(zU l i).length≤i∧ ∀d∈zU l i,d.syms.length≤i))) (fun i=>l.length - i) (0) wj_ (by refine⟨?_,?_,wo_,wo_,(by exact⟨_,by simp only[wL,seval],Or.inl ⟨rfl,rfl⟩,Nat.le_refl _,fun d h=>by cases h⟩)⟩<;>first|(simp only[wL,wM,wN,wX,seval,Option.some.injEq]<;>exact wt_)|rfl|exact⟨_,rfl⟩) ?_
 intro i s hnx ⟨g0,g4,k1_0,k1_1,k1_2⟩
 obtain ⟨v3,g3,hD,hln,hsy⟩:=k1_2
 have hzi:=w1_ i
 by_cases hi:i<l.length∧i<4
 · obtain ⟨hi1,hi4⟩:=hi
   obtain ⟨q,hq⟩: ∃q:Nat,l[i] % 8=q:=⟨(l[i] % 8).toNat,by omega⟩
   have hq8:q<8:=by omega
   have hm:(q:Int).tmod 4=((q % 4:Nat):Int):=by rw[Int.tmod_eq_emod_of_nonneg (by omega)];omega
   have hst:zU l (i+1)=xG i l[i] (zU l i):=by show xG i (l.getD i 0) _=_;rw[List.getD_eq_getElem?_getD,ge_ hi1];rfl
   unfold xG at hst
   rw[hq]at hst
   by_cases h0:q % 4=0
   · rw[if_pos (by omega)]at hst
     repeat' with_reducible first
      |refine s_ ?_
      |simp only[wZZ,seval,g0,g4,g3,hq,hm,hzi]
      |(first|apply qa|apply qh|apply qg)<;>intro h h_<;>(try simp only[wD,reduceCtorEq]at h_)<;>(try exact wb_)<;>(try simp only[h])
      |refine t_ ?_
      |refine jA we_ we_ (qB wf_ wf_) ?_
     refine⟨wk_,i+1,(by omega),?_⟩
     refine⟨?_,?_,?_,?_,?_⟩
     iterate 2 (focus(first|(simp only[wL,wM,wN,wX,seval,Option.some.injEq,g0,g4]<;>exact wt_)|rfl|exact⟨_,rfl⟩))
     all_goals try omega
     exact⟨v3,rfl,by rw[hst];exact hD.mono (by omega) (fun _ _=>rfl),by rw[hst];omega,fun d hd=>by rw[hst]at hd;have:=hsy d hd;omega⟩
   · rw [if_neg (by omega)]at hst
     have hqm:0<q % 4:=by omega
     have hz1:IntKind.i64.wrap (1+((q % 4:Nat):Int))=1+((q % 4:Nat):Int):=wrap64 (by omega) (by omega)
     rcases hD with ⟨h1,rfl⟩|⟨id,es,k,vS,ss,o,sy,rfl,h2,h3,h4,h5,h6,h7,h8,h9⟩
     · rw[h1,if_neg (by simp)]at hst
       repeat' with_reducible first
        |refine s_ ?_
        |simp only[wZZ,seval,g0,g4,g3,hq,hm,hzi,hz1]
        |(first|apply qa|apply qh|apply qg)<;>intro h h_<;>(try simp only[wD,reduceCtorEq]at h_)<;>(try exact wb_)<;>(try simp only[h])
        |(refine qaF rfl qI.sl (by simp only[wZ]<;>omega) (by unfold maxLen;simp only[wZ]<;>omega) ?_)
        |refine t_ ?_
        |refine jA we_ we_ (qB wf_ wf_) ?_
        |refine xS we_ (jG wf_ wf_) ?_
       all_goals
        refine⟨by(try simp only[wN])<;>omega,i+1,by omega,trivial,rfl,by omega,by omega,_,rfl,?_,by rw[hst];simp,fun d hd=>by rw[hst]at hd;simp at hd;subst hd;simp⟩
        rw[hst]
        refine Or.inr ⟨_,[],1+((q % 4:Nat):Int),.sl 4 true [(kG i).V],[(kG i).V],[],[kG i],rfl,?_,by(try simp only[wN])<;>omega,Gr.clip,.nil,.cons qb .nil,by simp,by simp,by simp⟩
        simp only[wM]
        repeat(first|rw[if_pos trivial]|rw[if_pos rfl]|rw[if_neg (by omega)])
        rfl
     · have hol:o.length=es.length:=by have:=h5.len;simpa using this
       have hdl:(zU l i).length=o.length+1:=by rw[h7];simp
       have hzl:IntKind.i64.wrap (((es.length+1:Nat):Int) - 1)=(es.length:Int):=by rw[wrap64 (by omega) (by omega)];omega
       by_cases hq4:4<q
       · rw [if_pos ⟨by omega,by rw[h7];simp⟩,h7,Qg]at hst
         have hg1:(es++[V.agg [vi k,.str [],vS,vi 0]])[es.length]?=some (V.agg [vi k,.str [],vS,vi 0]):=by simp
         have hne:gid vS≠some id:=h4.ne (fun f e=>by rw[h2]at e;cases e)
         repeat' with_reducible first
          |refine s_ ?_
          |simp only[wZZ,seval,g0,g4,g3,hq,hm,hzi,hz1,hzl,h2,qc hne]
          |(first|apply qa|apply qh|apply qg)<;>intro h h_<;>(try simp only[wD,reduceCtorEq]at h_)<;>(try exact wb_)<;>(try simp only[h])
          |apply qQ rfl (h4.mono (Nat.le_refl _) (fun id h1 h2=>by(try simp only[wM]);(repeat rw[if_neg (by omega)])));(focus(first|exact qI.sl|exact qI.asl));(focus(simp only[wZ]<;>omega));(focus(unfold maxLen;simp only[wZ]<;>omega))
          |(refine qaC hg1 rfl ?_)
          |apply qaw hg1;exact wu_;exact wu_;exact wu_;(focus(simp only[wZ]<;>omega))
          |refine t_ ?_
          |refine jA we_ we_ (qB wf_ wf_) ?_
          |refine xS we_ (jG wf_ wf_) ?_
          |simp(disch:=omega) only[w64,if_neg]
         have hsl:(es++[V.agg [vi k,.str [],vS,vi 0]]).length=es.length+1:=by simp
         all_goals
          refine⟨by(try simp only[wN])<;>omega,i+1,by omega,trivial,rfl,by omega,by omega,_,rfl,?_,?_,fun d hd=>?_⟩
          · rw[hst]
            refine Or.inr ⟨id,es,k,.asl (s.next+8+6+3+3+6+12) (ss.length+1) 4 (ss++[(kG i).V]),ss++[(kG i).V],o,sy++[kG i],rfl,?_,by(try simp only[wN])<;>omega,Gr.tok (fin:=ss.length+1) ?_ ?_,h5,?_,rfl,h8,?_⟩
            · simp only[wM]
              repeat(first|rw[if_pos trivial]|rw[if_pos rfl]|rw[if_neg (by omega)])
              simp
            · simp only[wM]
              repeat(first|rw[if_pos trivial]|rw[if_pos rfl]|rw[if_neg (by omega)])
            · (try simp only[wN])<;>omega
            · rw[List.map_append];exact h6.snoc qb
            · have:=hsy _ (show ({kind:=k,syms:=sy}:Decl)∈zU l i by rw[h7];simp)
              have:=h6.len
              simp at *;omega
          · rw[hst];simp;omega
          · rw[hst]at hd
            rcases List.mem_append.1 hd with hd|hd
            · have:=hsy d (by rw[h7];exact List.mem_append_left _ hd);omega
            · rw[List.mem_singleton]at hd
              have:=hsy _ (show ({kind:=k,syms:=sy}:Decl)∈zU l i by rw[h7];simp)
              subst hd;simp at this ⊢;omega
       · rw [if_neg (by omega),h7]at hst
         repeat' with_reducible first
          |refine s_ ?_
          |simp only[wZZ,seval,g0,g4,g3,hq,hm,hzi,hz1,hzl,h2]
          |(first|apply qa|apply qh|apply qg)<;>intro h h_<;>(try simp only[wD,reduceCtorEq]at h_)<;>(try exact wb_)<;>(try simp only[h])
          |(refine Zn (es:=es++[V.agg [vi k,.str [],vS,vi 0]]) rfl (by simp only[wM];exact h2) (by simp) qI.sl (by simp only[wZ]<;>omega) (by unfold maxLen;simp only[wZ]<;>omega) ?_)
          |refine t_ ?_
          |refine jA we_ we_ (qB wf_ wf_) ?_
          |refine xS we_ (jG wf_ wf_) ?_
         all_goals
          refine⟨by(try simp only[wN])<;>omega,i+1,by omega,trivial,rfl,by omega,by omega,_,rfl,?_,?_,fun d hd=>?_⟩
          · rw[hst]
            refine Or.inr ⟨_,es++[V.agg [vi k,.str [],vS,vi 0]],1+((q % 4:Nat):Int),.sl 4 true [(kG i).V],[(kG i).V],o++[{kind:=k,syms:=sy}],[kG i],rfl,?_,by(try simp only[wN])<;>omega,Gr.clip,?_,.cons qb .nil,by simp,?_,by simp⟩
            · simp only[wM]
              repeat(first|rw[if_pos trivial]|rw[if_pos rfl]|rw[if_neg (by omega)])
            · rw[List.map_append];exact h5.snoc (ErL.agg (.cons (.int _ _) (.cons (.str _) (.cons (h4.erL h6.up) (.cons (.int _ _) .nil)))))
            · simp;omega
          · rw[hst];simp;omega
          · rw[hst]at hd
            rcases List.mem_append.1 hd with hd|hd
            · have:=hsy d (by rw[h7];exact hd);omega
            · rw[List.mem_singleton]at hd
              subst hd;simp
 · have e:zU l i=ko l:=by unfold ko;rw[show i=min 4 l.length by omega]
   rcases hD with ⟨h1,rfl⟩|⟨id,es,k,vS,ss,o,sy,rfl,h2,h3,h4,h5,h6,h7,h8,h9⟩
   · repeat' with_reducible first
      |refine s_ ?_
      |simp only[wZZ,seval,g0,g4,g3]
      |(first|apply qa|apply qh|apply qg)<;>intro h h_<;>(try simp only[wD,reduceCtorEq]at h_)<;>(try exact wb_)<;>(try simp only[h])
     rw[← e,h1]
     all_goals refine qw rfl (Or.inr rfl) ?_
     all_goals(try simp only[wL,seval,g0,g4])
     all_goals refine er_ ?_
     all_goals(try(with_reducible rfl))
     all_goals first|rfl|(rw[← e,h1];rfl)
   · repeat' with_reducible first
      |refine s_ ?_
      |simp only[wZZ,seval,g0,g4,g3]
      |(first|apply qa|apply qh|apply qg)<;>intro h h_<;>(try simp only[wD,reduceCtorEq]at h_)<;>(try exact wb_)<;>(try simp only[h])
     all_goals(rw[← e,h7,List.map_append])
     all_goals(refine qw (t:=2) rfl (Or.inr rfl) ?_)
     all_goals(simp only[wL,wM,seval])
     all_goals(refine YJ h2 (ErL.snoc h5.up (ErL.agg ?_)) (by simp))
     all_goals exact .cons (.int _ _) (.cons (.str _) (.cons (h4.erL h6.up) (.cons (.int _ _) .nil)))

structure GrI where
 nons:Int:=0
 rules:List (List Int):=[]
 levels:List Int:=[]
 inner:List Int:=[]
 bare:Bool:=false
 deriving DecidableEq,Inhabited
abbrev YZ (l:List Int):V:= .sl 1 false (l.map (V.int .i64))
@[reducible] def GrI.V (x:GrI):V:= .agg [vi x.nons,.sl 1 false (x.rules.map YZ),YZ x.levels,YZ x.inner,.bool x.bare]
def QL:List UInt8:=[123,36,36,32,61,32,36,49,125]
def YH:List UInt8:=[123,102,40,36,36,41,125]
def qGf:List UInt8:=[101,114,114,111,114]
abbrev qgV (l:List Int) (n:Nat) (j:Nat):Sym:=VE (l.getD j 0) n
def qdQ (inner:List Int) (i:Nat):Bool:=decide (i<inner.length) && decide ((inner.getD i 0).tmod 3=1)
def qxj (inner:List Int) (i:Nat):Bool:=decide (i<inner.length) && !decide ((inner.getD i 0).tmod 2=0)
def jR (l:List Int) (n:Nat) (mid:Bool):Nat→List Part
 |0=>[]
 |j+1=>jR l n mid j++[{sym:=qgV l n (j+1)}]++(if j=0∧mid=true then[{code:=QL}]else[])
def Yf (l:List Int) (n:Nat):Nat→Bool
 |0=>true
 |j+1=>Yf l n j && ((qgV l n (j+1)).lit || decide ((qgV l n (j+1)).name=qGf))
def qdz (l:List Int) (n:Nat) (inner:List Int) (i:Nat):Alt:=
 {parts:=jR l n (qdQ inner i) (min 4 (l.length - 1))++(if qxj inner i=true then[{code:=YH}]else[])}
def qaP (l:List Int) (n:Nat):Bool:=Yf l n (min 4 (l.length - 1))
theorem qdl (l:List Int) (n:Nat) (mid:Bool) (j:Nat):(jR l n mid j).length≤2 *j:=by
 induction j with
 |zero=>simp[jR]
 |succ j ih=>unfold jR;simp only[List.length_append,List.length_cons,List.length_nil];split<;>simp<;>omega
theorem getD_some {α:Type} {l:List α} {i:Nat} {d:α} (h:i<l.length):l[i]?=some (l.getD i d):=by rw[List.getD_eq_getElem?_getD,ge_ h];rfl
structure AltAt (s:St) (s0:St) (a:Nat) (ps:List Part) (pl:Bool):Prop where
 ex: ∃vP es,s.H a=some (.own 6 [.agg [vP,.str [],.bool false,vi 0,vi 0,vi 0]] false)∧Gr s.H s.next 6 es vP∧QG es (ps.map Part.V)∧ ∀j,gid vP=some j→s0.next≤j
 pl:s.f 10=.bool pl
 fr: ∀t,t<10→s.f t=s0.f t
 hp: ∀j,j<s0.next→j≠a→s.H j=s0.H j
 nx:s0.next≤s.next
theorem AltAt.mk1 {s s0:St} {a:Nat} {ps:List Part} {pl:Bool} {vP:V} {es:List V} (h1:s.H a=some (.own 6 [.agg [vP,.str [],.bool false,vi 0,vi 0,vi 0]] false)) (h2:Gr s.H s.next 6 es vP) (h3:QG es (ps.map Part.V)) (h4: ∀j,gid vP=some j→s0.next≤j)
 (h5:s.f 10=.bool pl) (h6: ∀t,t<10→s.f t=s0.f t) (h7: ∀j,j<s0.next→j≠a→s.H j=s0.H j) (h8:s0.next≤s.next):AltAt s s0 a ps pl:=⟨⟨vP,es,h1,h2,h3,h4⟩,h5,h6,h7,h8⟩
theorem qQe {s0:St} {x:GrI} {n i a xb:Nat} {E:EC} {Q:Exit→St→Prop} (hn:0<n) (hn4:n≤4) (hi:i<x.rules.length) (hi9:i<9) (hne:(x.rules.getD i [])≠[]) (hb:(x.rules.getD i []).length≤1099511627776) (hib:x.inner.length≤1099511627776)
 (f1:s0.f 1=.ptr xb 0 0) (f3:s0.f 3=vi n) (f7:s0.f 7=vi i) (f9:s0.f 9=.ptr a 0 0) (f10:s0.f 10=.bool true) (hx:s0.H xb=some (.own 5 [x.V] false)) (ha:s0.H a=some (.own 6 [.agg [.sl 6 true [],.str [],.bool false,vi 0,vi 0,vi 0]] false))
 (lx:xb<s0.next) (la:a<s0.next) (hax:a≠xb)
 (hQ: ∀s',AltAt s' s0 a (qdz (x.rules.getD i []) n x.inner i).parts (qaP (x.rules.getD i []) n)→ewp Try.prog E Q s'):ewp Try.prog (.seq qcm (.seq qb0 E)) Q s0:=by
 have hg:=getD_some (d:=[]) hi
 generalize x.rules.getD i []=l at *
 have hll:0<l.length:=List.length_pos_iff.2 hne
 repeat' with_reducible first
  |refine s_ ?_
  |simp -implicitDefEqProofs only[wZZ,seval,f1,f3,f7,f9,f10]
 refine qd ?nx3 (fun(j:Nat) s=>s.f 1=?v3_1∧s.f 2=?v3_2∧s.f 3=?v3_3∧s.f 4=?v3_4∧s.f 5=?v3_5∧s.f 7=?v3_7∧s.f 8=?v3_8∧s.f 9=?v3_9∧s.f 11=vi ((j+1:Nat):Int)∧(j+1≤l.length)∧(j≤4)∧(AltAt s s0 a (jR l n (qdQ x.inner i) j) (Yf l n j))) (fun j=>l.length - j) (0) wj_ (by refine⟨?_,?_,?_,?_,?_,?_,?_,?_,?_,wo_,wo_,(by exact⟨⟨.sl 6 true [],[],by(simp only[wM];(repeat first|rw[if_pos trivial]|rw[if_pos rfl]|rw[if_neg (by omega)]));exact ha,Gr.nil,.nil,fun j h=>by cases h⟩,by(simp -implicitDefEqProofs only[wL,seval]);exact f10,fun t ht=>by simp only[wL];repeat(first|rw[if_pos rfl]|rw[if_neg (by omega)]),fun j h1 h2=>by simp only[wM],by((try simp only[wN])<;>omega)⟩)⟩<;>first|(simp -implicitDefEqProofs only[wL,wM,wN,wX,seval,Option.some.injEq]<;>exact wt_)|rfl|exact⟨_,rfl⟩) ?_
 intro j s hnx ⟨g1,g2,g3,g4,g5,g7,g8,g9,g11,k3_0,k3_1,k3_2⟩
 obtain ⟨⟨vP,es,o1,GP,eP,hfr⟩,hpl,hfl,hhp,hnx2⟩:=k3_2
 have hx1:s.H xb=some (.own 5 [x.V] false):=by rw[hhp xb lx (by omega)];exact hx
 have q1:=hfl 1 (by omega);have q3:=hfl 3 (by omega);have q7:=hfl 7 (by omega);have q9:=hfl 9 (by omega)
 rw[f1]at q1;rw[f3]at q3;rw[f7]at q7;rw[f9]at q9
 have hzj:IntKind.i64.wrap ((j+1+1:Nat):Int)=((j+1+1:Nat):Int):=wrap64 (by omega) (by omega)
 have hPa:gid vP≠some a:=GP.ne (fun f e=>by rw[o1]at e;cases e)
 have hPx:gid vP≠some xb:=GP.ne (fun f e=>by rw[hx1]at e;cases e)
 have hle:=eP.len
 have hle2:=qdl l n (qdQ x.inner i) j
 rw[List.length_map]at hle
 by_cases hj:j+1<l.length∧j<4
 · have hgj:=getD_some (d:=(0:Int)) hj.1
   have hsym:=VX (x:=l.getD (j+1) 0) (nons:=n) (by omega) (by omega)
   have hps:jR l n (qdQ x.inner i) (j+1)=jR l n (qdQ x.inner i) j++[{sym:=qgV l n (j+1)}]++(if j=0∧qdQ x.inner i=true then[{code:=QL}]else[]):=rfl
   have hpp:Yf l n (j+1)=(Yf l n j && ((qgV l n (j+1)).lit || decide ((qgV l n (j+1)).name=qGf))):=rfl
   have hpl2:=hpl
   have hy:VE (l.getD (j+1) 0) n=qgV l n (j+1):=rfl
   rw[hy]at hsym
   generalize qgV l n (j+1)=y at *
   generalize Yf l n j=pl at *
   obtain ⟨ynm,ylt,ynu,yat⟩:=y
   by_cases hmid:i<x.inner.length∧j=0∧(x.inner.getD i 0).tmod 3=1
   · have hgi:=getD_some (d:=(0:Int)) hmid.1
     have hmb:qdQ x.inner i=true:=by unfold qdQ;rw[Bool.and_eq_true,decide_eq_true_eq,decide_eq_true_eq];exact⟨hmid.1,hmid.2.2⟩
     rw[if_pos ⟨hmid.2.1,hmb⟩]at hps
     cases pl<;>cases ylt
     all_goals
      repeat' with_reducible first
       |refine s_ ?_
       |simp -implicitDefEqProofs only[wZZ,seval,g1,g2,g3,g4,g5,g7,g8,g9,g11,f1,f3,f7,f9,hpl2,hx1,o1,hzj,qc hPa,qc hPx]
       |(first|apply qa|apply qh|apply qg)<;>intro h h_<;>(try simp only[wD,reduceCtorEq]at h_)<;>(try exact wb_)<;>(try simp only[h])
       |refine t_ ?_
       |refine cq2 hsym qb qb ?_
       |apply qQ rfl (GP.mono (Nat.le_refl _) (fun id h1 h2=>by(try simp only[wM]);(repeat rw[if_neg (by omega)])));(focus(first|exact qI.sl|exact qI.asl));(focus(simp only[wZ]<;>omega));(focus(unfold maxLen;simp only[wZ]<;>omega))
       |apply qiW;(focus((try simp only[wM]);(repeat first|rw[if_pos trivial]|rw[if_pos rfl]|rw[if_neg (by omega)]);(try rfl)));exact qI.sl;(focus(simp only[wZ]<;>omega));(focus(unfold maxLen;simp only[wZ]<;>omega))
       |simp -implicitDefEqProofs (disch:=omega) only[w64,if_neg]
     all_goals
      refine⟨by(try simp only[wN])<;>omega,j+1,by omega,trivial,trivial,trivial,trivial,trivial,trivial,trivial,trivial,rfl,by omega,by omega,?_⟩
      apply AltAt.mk1
      · simp only[wM];(repeat first|rw[if_pos trivial]|rw[if_pos rfl]|rw[if_neg (by omega)]);(try exact rfl)
      · exact Gr.tok wc_ (by((try simp only[wN])<;>omega))
      · rw[hps];(repeat rw[List.map_append]);refine(eP.snoc ?_).snoc ?_<;>exact qb
      · intro q hq;cases hq;omega
      · (simp -implicitDefEqProofs only[wL,seval]);rw[hpp];exact rfl
      · intro t ht;simp only[wL];(repeat first|rw[if_pos rfl]|rw[if_neg (by omega)]);exact hfl t ht
      · intro q h1 h2;simp only[wM];(repeat first|rw[if_pos trivial]|rw[if_pos rfl]|rw[if_neg (by omega)]|rw[qc (fun e=>by have:=hfr _ e;omega)]);(try simp only[wM]);(repeat first|rw[if_pos trivial]|rw[if_pos rfl]|rw[if_neg (by omega)]);exact hhp q h1 h2
      · ((try simp only[wN])<;>omega)
   · have hnm: ¬ (j=0∧qdQ x.inner i=true):=fun e=>hmid (by
      have:=e.2
      unfold qdQ at this
      rw[Bool.and_eq_true,decide_eq_true_eq,decide_eq_true_eq]at this
      exact⟨this.1,e.1,this.2⟩)
     rw[if_neg hnm,List.append_nil]at hps
     by_cases hin:i<x.inner.length
     · have hgi:=getD_some (d:=(0:Int)) hin
       by_cases hj0:j=0
       · have htm: ¬ (x.inner.getD i 0).tmod 3=1:=fun e=>hmid ⟨hin,hj0,e⟩
         clear hmid hnm
         cases pl<;>cases ylt
         all_goals
          repeat' with_reducible first
           |refine s_ ?_
           |simp -implicitDefEqProofs only[wZZ,seval,g1,g2,g3,g4,g5,g7,g8,g9,g11,f1,f3,f7,f9,hpl2,hx1,o1,hzj,qc hPa,qc hPx]
           |(first|apply qa|apply qh|apply qg)<;>intro h h_<;>(try simp only[wD,reduceCtorEq]at h_)<;>(try exact wb_)<;>(try simp only[h])
           |refine t_ ?_
           |refine cq2 hsym qb qb ?_
           |apply qQ rfl (GP.mono (Nat.le_refl _) (fun id h1 h2=>by(try simp only[wM]);(repeat rw[if_neg (by omega)])));(focus(first|exact qI.sl|exact qI.asl));(focus(simp only[wZ]<;>omega));(focus(unfold maxLen;simp only[wZ]<;>omega))
           |simp -implicitDefEqProofs (disch:=omega) only[w64,if_neg]
         all_goals
          refine⟨by(try simp only[wN])<;>omega,j+1,by omega,trivial,trivial,trivial,trivial,trivial,trivial,trivial,trivial,rfl,by omega,by omega,?_⟩
          apply AltAt.mk1
          · simp only[wM];(repeat first|rw[if_pos trivial]|rw[if_pos rfl]|rw[if_neg (by omega)]);(try exact rfl)
          · exact Gr.tok wc_ (by((try simp only[wN])<;>omega))
          · rw[hps];(repeat rw[List.map_append]);refine eP.snoc ?_<;>exact qb
          · intro q hq;cases hq;omega
          · (simp -implicitDefEqProofs only[wL,seval]);rw[hpp];exact rfl
          · intro t ht;simp only[wL];(repeat first|rw[if_pos rfl]|rw[if_neg (by omega)]);exact hfl t ht
          · intro q h1 h2;simp only[wM];(repeat first|rw[if_pos trivial]|rw[if_pos rfl]|rw[if_neg (by omega)]|rw[qc (fun e=>by have:=hfr _ e;omega)]);(try simp only[wM]);(repeat first|rw[if_pos trivial]|rw[if_pos rfl]|rw[if_neg (by omega)]);exact hhp q h1 h2
          · ((try simp only[wN])<;>omega)
       · clear hmid hnm
         cases pl<;>cases ylt
         all_goals
          repeat' with_reducible first
           |refine s_ ?_
           |simp -implicitDefEqProofs only[wZZ,seval,g1,g2,g3,g4,g5,g7,g8,g9,g11,f1,f3,f7,f9,hpl2,hx1,o1,hzj,qc hPa,qc hPx]
           |(first|apply qa|apply qh|apply qg)<;>intro h h_<;>(try simp only[wD,reduceCtorEq]at h_)<;>(try exact wb_)<;>(try simp only[h])
           |refine t_ ?_
           |refine cq2 hsym qb qb ?_
           |apply qQ rfl (GP.mono (Nat.le_refl _) (fun id h1 h2=>by(try simp only[wM]);(repeat rw[if_neg (by omega)])));(focus(first|exact qI.sl|exact qI.asl));(focus(simp only[wZ]<;>omega));(focus(unfold maxLen;simp only[wZ]<;>omega))
           |simp -implicitDefEqProofs (disch:=omega) only[w64,if_neg]
         all_goals
          refine⟨by(try simp only[wN])<;>omega,j+1,by omega,trivial,trivial,trivial,trivial,trivial,trivial,trivial,trivial,rfl,by omega,by omega,?_⟩
          apply AltAt.mk1
          · simp only[wM];(repeat first|rw[if_pos trivial]|rw[if_pos rfl]|rw[if_neg (by omega)]);(try exact rfl)
          · exact Gr.tok wc_ (by((try simp only[wN])<;>omega))
          · rw[hps];(repeat rw[List.map_append]);refine eP.snoc ?_<;>exact qb
          · intro q hq;cases hq;omega
          · (simp -implicitDefEqProofs only[wL,seval]);rw[hpp];exact rfl
          · intro t ht;simp only[wL];(repeat first|rw[if_pos rfl]|rw[if_neg (by omega)]);exact hfl t ht
          · intro q h1 h2;simp only[wM];(repeat first|rw[if_pos trivial]|rw[if_pos rfl]|rw[if_neg (by omega)]|rw[qc (fun e=>by have:=hfr _ e;omega)]);(try simp only[wM]);(repeat first|rw[if_pos trivial]|rw[if_pos rfl]|rw[if_neg (by omega)]);exact hhp q h1 h2
          · ((try simp only[wN])<;>omega)
     · have hgi:x.inner[i]?=none:=List.getElem?_eq_none (by omega)
       clear hmid hnm
       cases pl<;>cases ylt
       all_goals
        repeat' with_reducible first
         |refine s_ ?_
         |simp -implicitDefEqProofs only[wZZ,seval,g1,g2,g3,g4,g5,g7,g8,g9,g11,f1,f3,f7,f9,hpl2,hx1,o1,hzj,qc hPa,qc hPx]
         |(first|apply qa|apply qh|apply qg)<;>intro h h_<;>(try simp only[wD,reduceCtorEq]at h_)<;>(try exact wb_)<;>(try simp only[h])
         |refine t_ ?_
         |refine cq2 hsym qb qb ?_
         |apply qQ rfl (GP.mono (Nat.le_refl _) (fun id h1 h2=>by(try simp only[wM]);(repeat rw[if_neg (by omega)])));(focus(first|exact qI.sl|exact qI.asl));(focus(simp only[wZ]<;>omega));(focus(unfold maxLen;simp only[wZ]<;>omega))
         |simp -implicitDefEqProofs (disch:=omega) only[w64,if_neg]
       all_goals
        refine⟨by(try simp only[wN])<;>omega,j+1,by omega,trivial,trivial,trivial,trivial,trivial,trivial,trivial,trivial,rfl,by omega,by omega,?_⟩
        apply AltAt.mk1
        · simp only[wM];(repeat first|rw[if_pos trivial]|rw[if_pos rfl]|rw[if_neg (by omega)]);(try exact rfl)
        · exact Gr.tok wc_ (by((try simp only[wN])<;>omega))
        · rw[hps];(repeat rw[List.map_append]);refine eP.snoc ?_<;>exact qb
        · intro q hq;cases hq;omega
        · (simp -implicitDefEqProofs only[wL,seval]);rw[hpp];exact rfl
        · intro t ht;simp only[wL];(repeat first|rw[if_pos rfl]|rw[if_neg (by omega)]);exact hfl t ht
        · intro q h1 h2;simp only[wM];(repeat first|rw[if_pos trivial]|rw[if_pos rfl]|rw[if_neg (by omega)]|rw[qc (fun e=>by have:=hfr _ e;omega)]);(try simp only[wM]);(repeat first|rw[if_pos trivial]|rw[if_pos rfl]|rw[if_neg (by omega)]);exact hhp q h1 h2
        · ((try simp only[wN])<;>omega)
 · have hjm:j=min 4 (l.length - 1):=by omega
   have hpl2:=hpl
   have hps:(qdz l n x.inner i).parts=jR l n (qdQ x.inner i) j++(if qxj x.inner i=true then[{code:=YH}]else[]):=by unfold qdz;rw[hjm]
   have hpp:qaP l n=Yf l n j:=by unfold qaP;rw[hjm]
   rw[hpp]at hQ
   by_cases hend:qxj x.inner i=true
   · have h2:=hend
     unfold qxj at h2
     rw[Bool.and_eq_true,decide_eq_true_eq,Bool.not_eq_true',decide_eq_false_iff_not]at h2
     have hin:=h2.1
     have htm:=h2.2
     have hgi:=getD_some (d:=(0:Int)) hin
     rw[if_pos hend]at hps
     repeat' with_reducible first
      |refine s_ ?_
      |simp -implicitDefEqProofs only[wZZ,seval,g1,g2,g3,g4,g5,g7,g8,g9,g11,f1,f3,f7,f9,hpl2,hx1,o1,hzj,qc hPa,qc hPx]
      |(first|apply qa|apply qh|apply qg)<;>intro h h_<;>(try simp only[wD,reduceCtorEq]at h_)<;>(try exact wb_)<;>(try simp only[h])
      |refine t_ ?_
      |apply qQ rfl (GP.mono (Nat.le_refl _) (fun id h1 h2=>by(try simp only[wM]);(repeat rw[if_neg (by omega)])));(focus(first|exact qI.sl|exact qI.asl));(focus(simp only[wZ]<;>omega));(focus(unfold maxLen;simp only[wZ]<;>omega))
      |simp -implicitDefEqProofs (disch:=omega) only[w64,if_neg]
     all_goals
      refine hQ _ ?_
      apply AltAt.mk1
      · simp only[wM];(repeat first|rw[if_pos trivial]|rw[if_pos rfl]|rw[if_neg (by omega)]);(try exact rfl)
      · exact Gr.tok wc_ (by((try simp only[wN])<;>omega))
      · rw[hps];(repeat rw[List.map_append]);refine eP.snoc ?_<;>exact qb
      · intro q hq;cases hq;omega
      · (simp -implicitDefEqProofs only[wL,seval,hpl])
      · intro t ht;simp only[wL];(repeat first|rw[if_pos rfl]|rw[if_neg (by omega)]);exact hfl t ht
      · intro q h1 h2;simp only[wM];(repeat first|rw[if_pos trivial]|rw[if_pos rfl]|rw[if_neg (by omega)]|rw[qc (fun e=>by have:=hfr _ e;omega)]);(try simp only[wM]);(repeat first|rw[if_pos trivial]|rw[if_pos rfl]|rw[if_neg (by omega)]);exact hhp q h1 h2
      · ((try simp only[wN])<;>omega)
   · have h2:=hend
     rw[if_neg hend,List.append_nil]at hps
     by_cases hin:i<x.inner.length
     · have hgi:=getD_some (d:=(0:Int)) hin
       have htm:(x.inner.getD i 0).tmod 2=0:=by
        refine Classical.byContradiction fun h=>hend ?_
        unfold qxj
        rw[Bool.and_eq_true,decide_eq_true_eq,Bool.not_eq_true',decide_eq_false_iff_not]
        exact⟨hin,h⟩
       repeat' with_reducible first
        |refine s_ ?_
        |simp -implicitDefEqProofs only[wZZ,seval,g1,g2,g3,g4,g5,g7,g8,g9,g11,f1,f3,f7,f9,hpl2,hx1,o1,hzj,qc hPa,qc hPx]
        |(first|apply qa|apply qh|apply qg)<;>intro h h_<;>(try simp only[wD,reduceCtorEq]at h_)<;>(try exact wb_)<;>(try simp only[h])
        |refine t_ ?_
       all_goals
        refine hQ _ ?_
        apply AltAt.mk1
        · simp only[wM];exact o1
        · exact GP.mono (by((try simp only[wN])<;>omega)) (fun q _ _=>by simp only[wM])
        · rw[hps];exact eP
        · exact hfr
        · (simp -implicitDefEqProofs only[wL,seval,hpl])
        · intro t ht;simp only[wL];(repeat first|rw[if_pos rfl]|rw[if_neg (by omega)]);exact hfl t ht
        · intro q h1 h2;simp only[wM];exact hhp q h1 h2
        · ((try simp only[wN])<;>omega)
     · repeat' with_reducible first
        |refine s_ ?_
        |simp -implicitDefEqProofs only[wZZ,seval,g1,g2,g3,g4,g5,g7,g8,g9,g11,f1,f3,f7,f9,hpl2,hx1,o1,hzj,qc hPa,qc hPx]
        |(first|apply qa|apply qh|apply qg)<;>intro h h_<;>(try simp only[wD,reduceCtorEq]at h_)<;>(try exact wb_)<;>(try simp only[h])
        |refine t_ ?_
       all_goals
        refine hQ _ ?_
        apply AltAt.mk1
        · simp only[wM];exact o1
        · exact GP.mono (by((try simp only[wN])<;>omega)) (fun q _ _=>by simp only[wM])
        · rw[hps];exact eP
        · exact hfr
        · (simp -implicitDefEqProofs only[wL,seval,hpl])
        · intro t ht;simp only[wL];(repeat first|rw[if_pos rfl]|rw[if_neg (by omega)]);exact hfl t ht
        · intro q h1 h2;simp only[wM];exact hhp q h1 h2
        · ((try simp only[wN])<;>omega)
end Go.Proofs
