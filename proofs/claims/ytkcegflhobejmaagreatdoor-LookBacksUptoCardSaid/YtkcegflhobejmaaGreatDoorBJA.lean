/- Part of a proof that a law of the given program answers true. -/
import Derived.Test.YtkcegflhobejmaaGreatDoorBGC
set_option maxRecDepth 20000
set_option linter.unusedSimpArgs false
set_option linter.unusedVariables false
set_option maxHeartbeats 4000000
namespace Go.Proofs
open Go.E
theorem YG {H:Nat→Option MObj} {id z n:Nat} {es es':List V} {ro:Bool} (hH:H id=some (.own z es ro)) (he:ErL true H es es') (hn:es.length=n):Er true H (.msl id z 0 n) (.sl z false es'):=by
 obtain ⟨h1,h2⟩:=he.get
 refine .msl id z 0 n es ro es' rfl hH o_ o_ fun i c c' h3 h4=>?_
 rw[Nat.zero_add]at h3
 exact h2 i c c' h3 h4
theorem Vy {K:V→Prop} {k z off:Nat} {es cs:List V} {ro:Bool} {c:V} (hx:es[k]?=some (.agg cs)) (hc:cs[off]?=some c) (hk:K c):onS (ldQ (some (.own z es ro)) false 1 k off) K:=by
 have e:ldQ (some (.own z es ro)) false 1 k off=some c:=by
  simp only[ldQ,hx,jZ]
  rw[if_neg (by simp[V.isAgg])]
  simp[yx,V.cells,hc]
 rw[e];exact hk
theorem VT {K:St→Prop} {s:St} {id k z off:Nat} {es cs:List V} {v:V} (hx:es[k]?=some (.agg cs)) (hv:v.cells=[v]) (hc:v.okCell=true) (ha:v.isAgg=false) (ho:off<cs.length)
 (hk:K (s.setO id (some (.own z (es.set k (.agg (cs.set off v))) false)))):onS (stQ s (some (.own z es false)) 1 id k off v) K:=by
 have e0:jV 1 z (.agg cs) v off=some (.agg (cs.set off v)):=by
  unfold jV
  rw[if_neg (by rw[ha];simp[V.isAgg])]
  cases v<;>simp_all [V.isAgg]
 have e:stQ s (some (.own z es false)) 1 id k off v=some (s.setO id (some (.own z (es.set k (.agg (cs.set off v))) false))):=by
  simp only[stQ,hx,e0,hv,hc,List.length_singleton,and_self,if_true,Option.map_some]
 rw[e];exact hk
theorem qbI {K:St→Prop} {s:St} {id k z off:Nat} {es cs:List V} {v:V} {o:Option MObj} (hO:o=some (.own z es false)) (hx:es[k]?=some (.agg cs)) (hv:v.cells=[v]) (hc:v.okCell=true) (ha:v.isAgg=false) (ho:off<cs.length)
 (hk:K (s.setO id (some (.own z (es.set k (.agg (cs.set off v))) false)))):onS (stQ s o 1 id k off v) K:=by subst hO;exact VT hx hv hc ha ho hk
theorem Z9 {K:V→Prop} {k z off:Nat} {es cs:List V} {ro:Bool} {c:V} {o:Option MObj} (hO:o=some (.own z es ro)) (hx:es[k]?=some (.agg cs)) (hc:cs[off]?=some c) (hk:K c):onS (ldQ o false 1 k off) K:=by subst hO;exact Vy hx hc hk
theorem Gr.ok {H:Nat→Option MObj} {next z:Nat} {es:List V} {v:V} (h:Gr H next z es v):v.cells=[v]∧v.okCell=true∧v.isAgg=false:=by
 rcases h with rfl|⟨id,f,rfl,_⟩<;>exact⟨rfl,rfl,rfl⟩
theorem VB {cls:Cls} {id:Nat} {s:St} {K:V→St→Prop} {z bytes:Nat} {vy:V} {ys:List V} (hcl:(cls == .t)=false) (hs:qc s.H z ys vy)
 (hb:ys.length *bytes≤140737488355328) (hl:ys.length≤maxLen)
 (hk:K (.msl id z 0 ys.length) (s.setO id (some (.own z ys false)))):qaF cls id s K true z bytes (.sl z true []) vy:=by
 unfold qaF
 rw[hs.1 s rfl]
 refine⟨fun e=>(by subst e;cases hcl),?_⟩
 have e:zo id s true z (.sl z true []) ys=some (.msl id z 0 ys.length,s.setO id (some (.own z ys false)),ys.length):=by simp[zo]
 rw[e]
 exact⟨hb,hl,hk⟩
def Yb (s:Sym):List Decl→List Decl
 |[]=>[]
 |[d]=>[{d with syms:=d.syms++[s]}]
 |d::e::r=>d::Yb s (e::r)
theorem vX (s:Sym) (o:List Decl) (d:Decl):Yb s (o++[d])=o++[{d with syms:=d.syms++[s]}]:=by
 induction o with
 |nil=>rfl
 | cons a o ih=>
   cases o with
   |nil=>rfl
   |cons b o=>show a::Yb s (b::o++[d])=_;rw[ih];rfl
def xI (i:Nat) (x:Int) (out:List Decl):List Decl:=
 if x % 8 % 4=0 then out else if 4<x % 8∧out≠[]then Yb (vz i) out else out++[{kind:=1+x % 8 % 4,syms:=[vz i]}]
def ji (l:List Int):Nat→List Decl
 |0=>[]
 |i+1=>xI i (l.getD i 0) (ji l i)
def yZ (l:List Int):List Decl:=ji l (min 4 l.length)
def DI (H:Nat→Option MObj) (next:Nat) (v:V) (out:List Decl):Prop:=
 (out=[]∧v=.sl 4 true [])∨ ∃id es k vS ss,∃(o:List Decl) (sy:List Sym),v=.msl id 4 0 (es.length+1)∧H id=some (.own 4 (es++[.agg [vi k,.str [],vS,vi 0]]) false)∧id<next∧Gr H next 4 ss vS∧Ze es (o.map Decl.V)∧Ze ss (sy.map Sym.V)∧out=o++[{kind:=k,syms:=sy}]∧es.length≤4∧ss.length≤4
theorem DI.mono {H H':Nat→Option MObj} {next next':Nat} {v:V} {out:List Decl} (h:DI H next v out) (hn:next≤next') (hH: ∀j,j<next→H' j=H j):DI H' next' v out:=by
 rcases h with h|⟨id,es,k,vS,ss,o,sy,h1,h2,h3,h4,h5⟩
 · exact Or.inl h
 · exact Or.inr ⟨id,es,k,vS,ss,o,sy,h1,by rw[hH id h3];exact h2,o_,h4.mono hn (fun j _ hj=>hH j hj),h5⟩
theorem vI {l :List Int} (hl:l.length≤1099511627776):Pure Tryz.prog 46 [.sl 1 false (l.map (V.int .i64))] (.sl 4 false ((yZ l).map Decl.V)):=by
 refine pure_intro Tryz.func46 nm_ qJM (by show 1≤59;decide) ?_
 show ewp _ qf7 _ _
 repeat' with_reducible first
  |refine s_ ?_
  |simp -implicitDefEqProofs only[wZZ,seval]
 refine qi ?nx1 (fun(i:Nat) s=>s.f 0=?v1_0∧s.f 4=vi i∧(i≤l.length)∧(i≤4)∧((∃v,s.f 3=v∧DI s.H s.next v (ji l i)∧(ji l i).length≤i∧ ∀d∈ji l i,d.syms.length≤i))) (fun i=>l.length - i) (0) wj_ (by refine⟨?_,?_,wo_,wo_,(by exact⟨_,by simp -implicitDefEqProofs only[wL,seval],Or.inl ⟨rfl,rfl⟩,Nat.le_refl _,fun d h=>by cases h⟩)⟩<;>first|(simp -implicitDefEqProofs only[wL,wM,wN,wX,seval,Option.some.injEq]<;>exact wt_)|rfl|exact⟨_,rfl⟩) ?_
 intro i s hnx ⟨g0,g4,k1_0,k1_1,k1_2⟩
 obtain ⟨v3,g3,hD,hln,hsy⟩:=k1_2
 have hzi:=w1_ i
 by_cases hi:i<l.length∧i<4
 · obtain ⟨hi1,hi4⟩:=hi
   obtain ⟨q,hq⟩: ∃q:Nat,l[i] % 8=q:=⟨(l[i] % 8).toNat,o_⟩
   have hq8:q<8:=o_
   have hm:(q:Int).tmod 4=((q % 4:Nat):Int):=by rw[Int.tmod_eq_emod_of_nonneg o_];omega
   have hst:ji l (i+1)=xI i l[i] (ji l i):=by show xI i (l.getD i 0) _=_;rw[List.getD_eq_getElem?_getD,ge_ hi1];rfl
   unfold xI at hst
   rw[hq]at hst
   by_cases h0:q % 4=0
   · rw[if_pos o_]at hst
     repeat' with_reducible first
      |refine s_ ?_
      |simp -implicitDefEqProofs only[wZZ,seval,g0,g4,g3,hq,hm,hzi]
      |(first|apply qa|apply qJ|apply qK)<;>intro h h_<;>(try simp only[wD,reduceCtorEq]at h_)<;>(try exact wb_)<;>(try simp only[h])
      |refine t_ ?_
      |refine qA we_ we_ (qZ wf_ wf_) ?_
     refine⟨wk_,i+1,o_,?_⟩
     refine⟨?_,?_,?_,?_,?_⟩
     iterate 2 (focus(first|(simp -implicitDefEqProofs only[wL,wM,wN,wX,seval,Option.some.injEq,g0,g4]<;>exact wt_)|rfl|exact⟨_,rfl⟩))
     all_goals try omega
     exact⟨v3,rfl,by rw[hst];exact hD.mono o_ (fun _ _=>rfl),by rw[hst];omega,fun d hd=>by rw[hst]at hd;have:=hsy d hd;omega⟩
   · rw [if_neg o_]at hst
     have hqm:0<q % 4:=o_
     have hz1:IntKind.i64.wrap (1+((q % 4:Nat):Int))=1+((q % 4:Nat):Int):=wrap64 o_ o_
     rcases hD with ⟨h1,rfl⟩|⟨id,es,k,vS,ss,o,sy,rfl,h2,h3,h4,h5,h6,h7,h8,h9⟩
     · rw[h1,if_neg (by simp)]at hst
       repeat' with_reducible first
        |refine s_ ?_
        |simp -implicitDefEqProofs only[wZZ,seval,g0,g4,g3,hq,hm,hzi,hz1]
        |(first|apply qa|apply qJ|apply qK)<;>intro h h_<;>(try simp only[wD,reduceCtorEq]at h_)<;>(try exact wb_)<;>(try simp only[h])
        |(refine VB rfl qc.sl (by simp only[wZ]<;>omega) (by unfold maxLen;simp only[wZ]<;>omega) ?_)
        |refine t_ ?_
        |refine qA we_ we_ (qZ wf_ wf_) ?_
        |refine zf we_ (jH wf_ wf_) ?_
       all_goals
        refine⟨by(try simp only[wN])<;>omega,i+1,o_,trivial,rfl,o_,o_,_,rfl,?_,by rw[hst];simp,fun d hd=>by rw[hst]at hd;simp at hd;subst hd;simp⟩
        rw[hst]
        refine Or.inr ⟨_,[],1+((q % 4:Nat):Int),.sl 4 true [(vz i).V],[(vz i).V],[],[vz i],rfl,?_,by(try simp only[wN])<;>omega,Gr.clip,.nil,.cons qj .nil,by simp,by simp,by simp⟩
        simp only[wM]
        repeat(first|rw[if_pos trivial]|rw[if_pos rfl]|rw[if_neg o_])
        rfl
     · have hol:o.length=es.length:=by have:=h5.len;simpa using this
       have hdl:(ji l i).length=o.length+1:=by rw[h7];simp
       have hzl:IntKind.i64.wrap (((es.length+1:Nat):Int) - 1)=(es.length:Int):=by rw[wrap64 o_ o_];omega
       by_cases hq4:4<q
       · rw [if_pos ⟨o_,by rw[h7];simp⟩,h7,vX]at hst
         have hg1:(es++[V.agg [vi k,.str [],vS,vi 0]])[es.length]?=some (V.agg [vi k,.str [],vS,vi 0]):=by simp
         have hne:gid vS≠some id:=h4.ne (fun f e=>by rw[h2]at e;cases e)
         repeat' with_reducible first
          |refine s_ ?_
          |simp -implicitDefEqProofs only[wZZ,seval,g0,g4,g3,hq,hm,hzi,hz1,hzl,h2,qb hne]
          |(first|apply qa|apply qJ|apply qK)<;>intro h h_<;>(try simp only[wD,reduceCtorEq]at h_)<;>(try exact wb_)<;>(try simp only[h])
          |apply qX rfl (h4.mono (Nat.le_refl _) (fun id h1 h2=>by(try simp only[wM]);(repeat rw[if_neg o_])));(focus(first|exact qc.sl|exact qc.asl));(focus(simp only[wZ]<;>omega));(focus(unfold maxLen;simp only[wZ]<;>omega))
          |(refine Vy hg1 rfl ?_)
          |apply VT hg1;exact wu_;exact wu_;exact wu_;(focus(simp only[wZ]<;>omega))
          |refine t_ ?_
          |refine qA we_ we_ (qZ wf_ wf_) ?_
          |refine zf we_ (jH wf_ wf_) ?_
          |simp -implicitDefEqProofs (disch:=omega) only[w64,if_neg]
         have hsl:(es++[V.agg [vi k,.str [],vS,vi 0]]).length=es.length+1:=by simp
         all_goals
          refine⟨by(try simp only[wN])<;>omega,i+1,o_,trivial,rfl,o_,o_,_,rfl,?_,?_,fun d hd=>?_⟩
          · rw[hst]
            refine Or.inr ⟨id,es,k,.asl (s.next+8+6+3+3+6+12) (ss.length+1) 4 (ss++[(vz i).V]),ss++[(vz i).V],o,sy++[vz i],rfl,?_,by(try simp only[wN])<;>omega,Gr.tok (fin:=ss.length+1) ?_ ?_,h5,?_,rfl,h8,?_⟩
            · simp only[wM]
              repeat(first|rw[if_pos trivial]|rw[if_pos rfl]|rw[if_neg o_])
              simp
            · simp only[wM]
              repeat(first|rw[if_pos trivial]|rw[if_pos rfl]|rw[if_neg o_])
            · (try simp only[wN])<;>omega
            · rw[List.map_append];exact h6.snoc qj
            · have:=hsy _ (show ({kind:=k,syms:=sy}:Decl)∈ji l i by rw[h7];simp)
              have:=h6.len
              simp at *;omega
          · rw[hst];simp;omega
          · rw[hst]at hd
            rcases List.mem_append.1 hd with hd|hd
            · have:=hsy d (by rw[h7];exact List.mem_append_left _ hd);omega
            · rw[List.mem_singleton]at hd
              have:=hsy _ (show ({kind:=k,syms:=sy}:Decl)∈ji l i by rw[h7];simp)
              subst hd;simp at this ⊢;omega
       · rw [if_neg o_,h7]at hst
         repeat' with_reducible first
          |refine s_ ?_
          |simp -implicitDefEqProofs only[wZZ,seval,g0,g4,g3,hq,hm,hzi,hz1,hzl,h2]
          |(first|apply qa|apply qJ|apply qK)<;>intro h h_<;>(try simp only[wD,reduceCtorEq]at h_)<;>(try exact wb_)<;>(try simp only[h])
          |(refine Qu (es:=es++[V.agg [vi k,.str [],vS,vi 0]]) rfl (by simp only[wM];exact h2) (by simp) qc.sl (by simp only[wZ]<;>omega) (by unfold maxLen;simp only[wZ]<;>omega) ?_)
          |refine t_ ?_
          |refine qA we_ we_ (qZ wf_ wf_) ?_
          |refine zf we_ (jH wf_ wf_) ?_
         all_goals
          refine⟨by(try simp only[wN])<;>omega,i+1,o_,trivial,rfl,o_,o_,_,rfl,?_,?_,fun d hd=>?_⟩
          · rw[hst]
            refine Or.inr ⟨_,es++[V.agg [vi k,.str [],vS,vi 0]],1+((q % 4:Nat):Int),.sl 4 true [(vz i).V],[(vz i).V],o++[{kind:=k,syms:=sy}],[vz i],rfl,?_,by(try simp only[wN])<;>omega,Gr.clip,?_,.cons qj .nil,by simp,?_,by simp⟩
            · simp only[wM]
              repeat(first|rw[if_pos trivial]|rw[if_pos rfl]|rw[if_neg o_])
            · rw[List.map_append];exact h5.snoc (ErL.agg (.cons (.int _ _) (.cons (.str _) (.cons (h4.erL h6.up) (.cons (.int _ _) .nil)))))
            · simp;omega
          · rw[hst];simp;omega
          · rw[hst]at hd
            rcases List.mem_append.1 hd with hd|hd
            · have:=hsy d (by rw[h7];exact hd);omega
            · rw[List.mem_singleton]at hd
              subst hd;simp
 · have e:ji l i=yZ l:=by unfold yZ;rw[show i=min 4 l.length by omega]
   rcases hD with ⟨h1,rfl⟩|⟨id,es,k,vS,ss,o,sy,rfl,h2,h3,h4,h5,h6,h7,h8,h9⟩
   · repeat' with_reducible first
      |refine s_ ?_
      |simp -implicitDefEqProofs only[wZZ,seval,g0,g4,g3]
      |(first|apply qa|apply qJ|apply qK)<;>intro h h_<;>(try simp only[wD,reduceCtorEq]at h_)<;>(try exact wb_)<;>(try simp only[h])
     rw[← e,h1]
     all_goals refine qF rfl (Or.inr rfl) ?_
     all_goals(try simp -implicitDefEqProofs only[wL,seval,g0,g4])
     all_goals refine er_ ?_
     all_goals(try(with_reducible rfl))
     all_goals first|rfl|(rw[← e,h1];rfl)
   · repeat' with_reducible first
      |refine s_ ?_
      |simp -implicitDefEqProofs only[wZZ,seval,g0,g4,g3]
      |(first|apply qa|apply qJ|apply qK)<;>intro h h_<;>(try simp only[wD,reduceCtorEq]at h_)<;>(try exact wb_)<;>(try simp only[h])
     all_goals(rw[← e,h7,List.map_append])
     all_goals(refine qF (t:=2) rfl (Or.inr rfl) ?_)
     all_goals(simp -implicitDefEqProofs only[wL,wM,seval])
     all_goals(refine YG h2 (ErL.snoc h5.up (ErL.agg ?_)) (by simp))
     all_goals exact .cons (.int _ _) (.cons (.str _) (.cons (h4.erL h6.up) (.cons (.int _ _) .nil)))

structure GrI where
 nons:Int:=0
 rules:List (List Int):=[]
 levels:List Int:=[]
 inner:List Int:=[]
 bare:Bool:=false
 deriving DecidableEq,Inhabited
abbrev qby (l:List Int):V:= .sl 1 false (l.map (V.int .i64))
@[reducible] def GrI.V (x:GrI):V:= .agg [vi x.nons,.sl 1 false (x.rules.map qby),qby x.levels,qby x.inner,.bool x.bare]
def Qm:List UInt8:=[123,36,36,32,61,32,36,49,125]
def Jp:List UInt8:=[123,102,40,36,36,41,125]
def qIz:List UInt8:=[101,114,114,111,114]
abbrev qe6 (l:List Int) (n:Nat) (j:Nat):Sym:=X3 (l.getD j 0) n
def qbD (inner:List Int) (i:Nat):Bool:=decide (i<inner.length) && decide ((inner.getD i 0).tmod 3=1)
def qDt (inner:List Int) (i:Nat):Bool:=decide (i<inner.length) && !decide ((inner.getD i 0).tmod 2=0)
def jP (l:List Int) (n:Nat) (mid:Bool):Nat→List Part
 |0=>[]
 |j+1=>jP l n mid j++[{sym:=qe6 l n (j+1)}]++(if j=0∧mid=true then[{code:=Qm}]else[])
def Jk (l:List Int) (n:Nat):Nat→Bool
 |0=>true
 |j+1=>Jk l n j && ((qe6 l n (j+1)).lit || decide ((qe6 l n (j+1)).name=qIz))
def qbi (l:List Int) (n:Nat) (inner:List Int) (i:Nat):Alt:=
 {parts:=jP l n (qbD inner i) (min 4 (l.length - 1))++(if qDt inner i=true then[{code:=Jp}]else[])}
def Vl (l:List Int) (n:Nat):Bool:=Jk l n (min 4 (l.length - 1))
theorem qbb (l:List Int) (n:Nat) (mid:Bool) (j:Nat):(jP l n mid j).length≤2 *j:=by
 induction j with
 |zero=>simp[jP]
 |succ j ih=>unfold jP;simp only[List.length_append,List.length_cons,List.length_nil];split<;>simp<;>omega
theorem getD_some {α:Type} {l:List α} {i:Nat} {d:α} (h:i<l.length):l[i]?=some (l.getD i d):=by rw[List.getD_eq_getElem?_getD,ge_ h];rfl
structure AltAt (s:St) (s0:St) (a:Nat) (ps:List Part) (pl:Bool):Prop where
 ex: ∃vP es,s.H a=some (.own 6 [.agg [vP,.str [],.bool false,vi 0,vi 0,vi 0]] false)∧Gr s.H s.next 6 es vP∧Ze es (ps.map Part.V)∧ ∀j,gid vP=some j→s0.next≤j
 pl:s.f 10=.bool pl
 fr: ∀t,t<10→s.f t=s0.f t
 hp: ∀j,j<s0.next→j≠a→s.H j=s0.H j
 nx:s0.next≤s.next
theorem AltAt.mk1 {s s0:St} {a:Nat} {ps:List Part} {pl:Bool} {vP:V} {es:List V} (h1:s.H a=some (.own 6 [.agg [vP,.str [],.bool false,vi 0,vi 0,vi 0]] false)) (h2:Gr s.H s.next 6 es vP) (h3:Ze es (ps.map Part.V)) (h4: ∀j,gid vP=some j→s0.next≤j)
 (h5:s.f 10=.bool pl) (h6: ∀t,t<10→s.f t=s0.f t) (h7: ∀j,j<s0.next→j≠a→s.H j=s0.H j) (h8:s0.next≤s.next):AltAt s s0 a ps pl:=⟨⟨vP,es,h1,h2,h3,h4⟩,h5,h6,h7,h8⟩
theorem qRW {s0:St} {x:GrI} {n i a xb:Nat} {E:EC} {Q:Exit→St→Prop} (hn:0<n) (hn4:n≤4) (hi:i<x.rules.length) (hi9:i<9) (hne:(x.rules.getD i [])≠[]) (hb:(x.rules.getD i []).length≤1099511627776) (hib:x.inner.length≤1099511627776)
 (f1:s0.f 1=.ptr xb 0 0) (f3:s0.f 3=vi n) (f7:s0.f 7=vi i) (f9:s0.f 9=.ptr a 0 0) (f10:s0.f 10=.bool true) (hx:s0.H xb=some (.own 5 [x.V] false)) (ha:s0.H a=some (.own 6 [.agg [.sl 6 true [],.str [],.bool false,vi 0,vi 0,vi 0]] false))
 (lx:xb<s0.next) (la:a<s0.next) (hax:a≠xb)
 (hQ: ∀s',AltAt s' s0 a (qbi (x.rules.getD i []) n x.inner i).parts (Vl (x.rules.getD i []) n)→ewp Tryz.prog E Q s'):ewp Tryz.prog (.seq KZ (.seq qae E)) Q s0:=by
 have hg:=getD_some (d:=[]) hi
 generalize x.rules.getD i []=l at *
 have hll:0<l.length:=List.length_pos_iff.2 hne
 repeat' with_reducible first
  |refine s_ ?_
  |simp -implicitDefEqProofs only[wZZ,seval,f1,f3,f7,f9,f10]
 refine qi ?nx3 (fun(j:Nat) s=>s.f 1=?v3_1∧s.f 2=?v3_2∧s.f 3=?v3_3∧s.f 4=?v3_4∧s.f 5=?v3_5∧s.f 7=?v3_7∧s.f 8=?v3_8∧s.f 9=?v3_9∧s.f 11=vi ((j+1:Nat):Int)∧(j+1≤l.length)∧(j≤4)∧(AltAt s s0 a (jP l n (qbD x.inner i) j) (Jk l n j))) (fun j=>l.length - j) (0) wj_ (by refine⟨?_,?_,?_,?_,?_,?_,?_,?_,?_,wo_,wo_,(by exact⟨⟨.sl 6 true [],[],by(simp only[wM];(repeat first|rw[if_pos trivial]|rw[if_pos rfl]|rw[if_neg o_]));exact ha,Gr.nil,.nil,fun j h=>by cases h⟩,by(simp -implicitDefEqProofs only[wL,seval]);exact f10,fun t ht=>by simp only[wL];repeat(first|rw[if_pos rfl]|rw[if_neg o_]),fun j h1 h2=>by simp only[wM],wg_⟩)⟩<;>first|(simp -implicitDefEqProofs only[wL,wM,wN,wX,seval,Option.some.injEq]<;>exact wt_)|rfl|exact⟨_,rfl⟩) ?_
 intro j s hnx ⟨g1,g2,g3,g4,g5,g7,g8,g9,g11,k3_0,k3_1,k3_2⟩
 obtain ⟨⟨vP,es,o1,GP,eP,hfr⟩,hpl,hfl,hhp,hnx2⟩:=k3_2
 have hx1:s.H xb=some (.own 5 [x.V] false):=by rw[hhp xb lx o_];exact hx
 have q1:=hfl 1 o_;have q3:=hfl 3 o_;have q7:=hfl 7 o_;have q9:=hfl 9 o_
 rw[f1]at q1;rw[f3]at q3;rw[f7]at q7;rw[f9]at q9
 have hzj:IntKind.i64.wrap ((j+1+1:Nat):Int)=((j+1+1:Nat):Int):=wrap64 o_ o_
 have hPa:gid vP≠some a:=GP.ne (fun f e=>by rw[o1]at e;cases e)
 have hPx:gid vP≠some xb:=GP.ne (fun f e=>by rw[hx1]at e;cases e)
 have hle:=eP.len
 have hle2:=qbb l n (qbD x.inner i) j
 rw[List.length_map]at hle
 by_cases hj:j+1<l.length∧j<4
 · have hgj:=getD_some (d:=(0:Int)) hj.1
   have hsym:=YC (x:=l.getD (j+1) 0) (nons:=n) o_ o_
   have hps:jP l n (qbD x.inner i) (j+1)=jP l n (qbD x.inner i) j++[{sym:=qe6 l n (j+1)}]++(if j=0∧qbD x.inner i=true then[{code:=Qm}]else[]):=rfl
   have hpp:Jk l n (j+1)=(Jk l n j && ((qe6 l n (j+1)).lit || decide ((qe6 l n (j+1)).name=qIz))):=rfl
   have hpl2:=hpl
   have hy:X3 (l.getD (j+1) 0) n=qe6 l n (j+1):=rfl
   rw[hy]at hsym
   generalize qe6 l n (j+1)=y at *
   generalize Jk l n j=pl at *
   obtain ⟨ynm,ylt,ynu,yat⟩:=y
   by_cases hmid:i<x.inner.length∧j=0∧(x.inner.getD i 0).tmod 3=1
   · have hgi:=getD_some (d:=(0:Int)) hmid.1
     have hmb:qbD x.inner i=true:=by unfold qbD;rw[Bool.and_eq_true,decide_eq_true_eq,decide_eq_true_eq];exact⟨hmid.1,hmid.2.2⟩
     rw[if_pos ⟨hmid.2.1,hmb⟩]at hps
     cases pl<;>cases ylt
     all_goals
      repeat' with_reducible first
       |refine s_ ?_
       |simp -implicitDefEqProofs only[wZZ,seval,g1,g2,g3,g4,g5,g7,g8,g9,g11,f1,f3,f7,f9,hpl2,hx1,o1,hzj,qb hPa,qb hPx]
       |(first|apply qa|apply qJ|apply qK)<;>intro h h_<;>(try simp only[wD,reduceCtorEq]at h_)<;>(try exact wb_)<;>(try simp only[h])
       |refine t_ ?_
       |refine cq2 hsym qj qj ?_
       |apply qX rfl (GP.mono (Nat.le_refl _) (fun id h1 h2=>by(try simp only[wM]);(repeat rw[if_neg o_])));(focus(first|exact qc.sl|exact qc.asl));(focus(simp only[wZ]<;>omega));(focus(unfold maxLen;simp only[wZ]<;>omega))
       |apply qfY;(focus((try simp only[wM]);(repeat first|rw[if_pos trivial]|rw[if_pos rfl]|rw[if_neg o_]);(try rfl)));exact qc.sl;(focus(simp only[wZ]<;>omega));(focus(unfold maxLen;simp only[wZ]<;>omega))
       |simp -implicitDefEqProofs (disch:=omega) only[w64,if_neg]
     all_goals
      refine⟨by(try simp only[wN])<;>omega,j+1,o_,trivial,trivial,trivial,trivial,trivial,trivial,trivial,trivial,rfl,o_,o_,?_⟩
      apply AltAt.mk1
      · simp only[wM];(repeat first|rw[if_pos trivial]|rw[if_pos rfl]|rw[if_neg o_]);(try exact rfl)
      · exact Gr.tok wc_ wg_
      · rw[hps];(repeat rw[List.map_append]);refine(eP.snoc ?_).snoc ?_<;>exact qj
      · intro q hq;cases hq;omega
      · (simp -implicitDefEqProofs only[wL,seval]);rw[hpp];exact rfl
      · intro t ht;simp only[wL];(repeat first|rw[if_pos rfl]|rw[if_neg o_]);exact hfl t ht
      · intro q h1 h2;simp only[wM];(repeat first|rw[if_pos trivial]|rw[if_pos rfl]|rw[if_neg o_]|rw[qb (fun e=>by have:=hfr _ e;omega)]);(try simp only[wM]);(repeat first|rw[if_pos trivial]|rw[if_pos rfl]|rw[if_neg o_]);exact hhp q h1 h2
      · ((try simp only[wN])<;>omega)
   · have hnm: ¬ (j=0∧qbD x.inner i=true):=fun e=>hmid (by
      have:=e.2
      unfold qbD at this
      rw[Bool.and_eq_true,decide_eq_true_eq,decide_eq_true_eq]at this
      exact⟨this.1,e.1,this.2⟩)
     rw[if_neg hnm,List.append_nil]at hps
     by_cases hin:i<x.inner.length
     · have hgi:=getD_some (d:=(0:Int)) hin
       by_cases hj0:j=0
       · have htm: ¬ (x.inner.getD i 0).tmod 3=1:=fun e=>hmid ⟨hin,hj0,e⟩
         clear hmid hnm
         cases pl<;>cases ylt
         all_goals
          repeat' with_reducible first
           |refine s_ ?_
           |simp -implicitDefEqProofs only[wZZ,seval,g1,g2,g3,g4,g5,g7,g8,g9,g11,f1,f3,f7,f9,hpl2,hx1,o1,hzj,qb hPa,qb hPx]
           |(first|apply qa|apply qJ|apply qK)<;>intro h h_<;>(try simp only[wD,reduceCtorEq]at h_)<;>(try exact wb_)<;>(try simp only[h])
           |refine t_ ?_
           |refine cq2 hsym qj qj ?_
           |apply qX rfl (GP.mono (Nat.le_refl _) (fun id h1 h2=>by(try simp only[wM]);(repeat rw[if_neg o_])));(focus(first|exact qc.sl|exact qc.asl));(focus(simp only[wZ]<;>omega));(focus(unfold maxLen;simp only[wZ]<;>omega))
           |simp -implicitDefEqProofs (disch:=omega) only[w64,if_neg]
         all_goals
          refine⟨by(try simp only[wN])<;>omega,j+1,o_,trivial,trivial,trivial,trivial,trivial,trivial,trivial,trivial,rfl,o_,o_,?_⟩
          apply AltAt.mk1
          · simp only[wM];(repeat first|rw[if_pos trivial]|rw[if_pos rfl]|rw[if_neg o_]);(try exact rfl)
          · exact Gr.tok wc_ wg_
          · rw[hps];(repeat rw[List.map_append]);refine eP.snoc ?_<;>exact qj
          · intro q hq;cases hq;omega
          · (simp -implicitDefEqProofs only[wL,seval]);rw[hpp];exact rfl
          · intro t ht;simp only[wL];(repeat first|rw[if_pos rfl]|rw[if_neg o_]);exact hfl t ht
          · intro q h1 h2;simp only[wM];(repeat first|rw[if_pos trivial]|rw[if_pos rfl]|rw[if_neg o_]|rw[qb (fun e=>by have:=hfr _ e;omega)]);(try simp only[wM]);(repeat first|rw[if_pos trivial]|rw[if_pos rfl]|rw[if_neg o_]);exact hhp q h1 h2
          · ((try simp only[wN])<;>omega)
       · clear hmid hnm
         cases pl<;>cases ylt
         all_goals
          repeat' with_reducible first
           |refine s_ ?_
           |simp -implicitDefEqProofs only[wZZ,seval,g1,g2,g3,g4,g5,g7,g8,g9,g11,f1,f3,f7,f9,hpl2,hx1,o1,hzj,qb hPa,qb hPx]
           |(first|apply qa|apply qJ|apply qK)<;>intro h h_<;>(try simp only[wD,reduceCtorEq]at h_)<;>(try exact wb_)<;>(try simp only[h])
           |refine t_ ?_
           |refine cq2 hsym qj qj ?_
           |apply qX rfl (GP.mono (Nat.le_refl _) (fun id h1 h2=>by(try simp only[wM]);(repeat rw[if_neg o_])));(focus(first|exact qc.sl|exact qc.asl));(focus(simp only[wZ]<;>omega));(focus(unfold maxLen;simp only[wZ]<;>omega))
           |simp -implicitDefEqProofs (disch:=omega) only[w64,if_neg]
         all_goals
          refine⟨by(try simp only[wN])<;>omega,j+1,o_,trivial,trivial,trivial,trivial,trivial,trivial,trivial,trivial,rfl,o_,o_,?_⟩
          apply AltAt.mk1
          · simp only[wM];(repeat first|rw[if_pos trivial]|rw[if_pos rfl]|rw[if_neg o_]);(try exact rfl)
          · exact Gr.tok wc_ wg_
          · rw[hps];(repeat rw[List.map_append]);refine eP.snoc ?_<;>exact qj
          · intro q hq;cases hq;omega
          · (simp -implicitDefEqProofs only[wL,seval]);rw[hpp];exact rfl
          · intro t ht;simp only[wL];(repeat first|rw[if_pos rfl]|rw[if_neg o_]);exact hfl t ht
          · intro q h1 h2;simp only[wM];(repeat first|rw[if_pos trivial]|rw[if_pos rfl]|rw[if_neg o_]|rw[qb (fun e=>by have:=hfr _ e;omega)]);(try simp only[wM]);(repeat first|rw[if_pos trivial]|rw[if_pos rfl]|rw[if_neg o_]);exact hhp q h1 h2
          · ((try simp only[wN])<;>omega)
     · have hgi:x.inner[i]?=none:=List.getElem?_eq_none o_
       clear hmid hnm
       cases pl<;>cases ylt
       all_goals
        repeat' with_reducible first
         |refine s_ ?_
         |simp -implicitDefEqProofs only[wZZ,seval,g1,g2,g3,g4,g5,g7,g8,g9,g11,f1,f3,f7,f9,hpl2,hx1,o1,hzj,qb hPa,qb hPx]
         |(first|apply qa|apply qJ|apply qK)<;>intro h h_<;>(try simp only[wD,reduceCtorEq]at h_)<;>(try exact wb_)<;>(try simp only[h])
         |refine t_ ?_
         |refine cq2 hsym qj qj ?_
         |apply qX rfl (GP.mono (Nat.le_refl _) (fun id h1 h2=>by(try simp only[wM]);(repeat rw[if_neg o_])));(focus(first|exact qc.sl|exact qc.asl));(focus(simp only[wZ]<;>omega));(focus(unfold maxLen;simp only[wZ]<;>omega))
         |simp -implicitDefEqProofs (disch:=omega) only[w64,if_neg]
       all_goals
        refine⟨by(try simp only[wN])<;>omega,j+1,o_,trivial,trivial,trivial,trivial,trivial,trivial,trivial,trivial,rfl,o_,o_,?_⟩
        apply AltAt.mk1
        · simp only[wM];(repeat first|rw[if_pos trivial]|rw[if_pos rfl]|rw[if_neg o_]);(try exact rfl)
        · exact Gr.tok wc_ wg_
        · rw[hps];(repeat rw[List.map_append]);refine eP.snoc ?_<;>exact qj
        · intro q hq;cases hq;omega
        · (simp -implicitDefEqProofs only[wL,seval]);rw[hpp];exact rfl
        · intro t ht;simp only[wL];(repeat first|rw[if_pos rfl]|rw[if_neg o_]);exact hfl t ht
        · intro q h1 h2;simp only[wM];(repeat first|rw[if_pos trivial]|rw[if_pos rfl]|rw[if_neg o_]|rw[qb (fun e=>by have:=hfr _ e;omega)]);(try simp only[wM]);(repeat first|rw[if_pos trivial]|rw[if_pos rfl]|rw[if_neg o_]);exact hhp q h1 h2
        · ((try simp only[wN])<;>omega)
 · have hjm:j=min 4 (l.length - 1):=o_
   have hpl2:=hpl
   have hps:(qbi l n x.inner i).parts=jP l n (qbD x.inner i) j++(if qDt x.inner i=true then[{code:=Jp}]else[]):=by unfold qbi;rw[hjm]
   have hpp:Vl l n=Jk l n j:=by unfold Vl;rw[hjm]
   rw[hpp]at hQ
   by_cases hend:qDt x.inner i=true
   · have h2:=hend
     unfold qDt at h2
     rw[Bool.and_eq_true,decide_eq_true_eq,Bool.not_eq_true',decide_eq_false_iff_not]at h2
     have hin:=h2.1
     have htm:=h2.2
     have hgi:=getD_some (d:=(0:Int)) hin
     rw[if_pos hend]at hps
     repeat' with_reducible first
      |refine s_ ?_
      |simp -implicitDefEqProofs only[wZZ,seval,g1,g2,g3,g4,g5,g7,g8,g9,g11,f1,f3,f7,f9,hpl2,hx1,o1,hzj,qb hPa,qb hPx]
      |(first|apply qa|apply qJ|apply qK)<;>intro h h_<;>(try simp only[wD,reduceCtorEq]at h_)<;>(try exact wb_)<;>(try simp only[h])
      |refine t_ ?_
      |apply qX rfl (GP.mono (Nat.le_refl _) (fun id h1 h2=>by(try simp only[wM]);(repeat rw[if_neg o_])));(focus(first|exact qc.sl|exact qc.asl));(focus(simp only[wZ]<;>omega));(focus(unfold maxLen;simp only[wZ]<;>omega))
      |simp -implicitDefEqProofs (disch:=omega) only[w64,if_neg]
     all_goals
      refine hQ _ ?_
      apply AltAt.mk1
      · simp only[wM];(repeat first|rw[if_pos trivial]|rw[if_pos rfl]|rw[if_neg o_]);(try exact rfl)
      · exact Gr.tok wc_ wg_
      · rw[hps];(repeat rw[List.map_append]);refine eP.snoc ?_<;>exact qj
      · intro q hq;cases hq;omega
      · (simp -implicitDefEqProofs only[wL,seval,hpl])
      · intro t ht;simp only[wL];(repeat first|rw[if_pos rfl]|rw[if_neg o_]);exact hfl t ht
      · intro q h1 h2;simp only[wM];(repeat first|rw[if_pos trivial]|rw[if_pos rfl]|rw[if_neg o_]|rw[qb (fun e=>by have:=hfr _ e;omega)]);(try simp only[wM]);(repeat first|rw[if_pos trivial]|rw[if_pos rfl]|rw[if_neg o_]);exact hhp q h1 h2
      · ((try simp only[wN])<;>omega)
   · have h2:=hend
     rw[if_neg hend,List.append_nil]at hps
     by_cases hin:i<x.inner.length
     · have hgi:=getD_some (d:=(0:Int)) hin
       have htm:(x.inner.getD i 0).tmod 2=0:=by
        refine Classical.byContradiction fun h=>hend ?_
        unfold qDt
        rw[Bool.and_eq_true,decide_eq_true_eq,Bool.not_eq_true',decide_eq_false_iff_not]
        exact⟨hin,h⟩
       repeat' with_reducible first
        |refine s_ ?_
        |simp -implicitDefEqProofs only[wZZ,seval,g1,g2,g3,g4,g5,g7,g8,g9,g11,f1,f3,f7,f9,hpl2,hx1,o1,hzj,qb hPa,qb hPx]
        |(first|apply qa|apply qJ|apply qK)<;>intro h h_<;>(try simp only[wD,reduceCtorEq]at h_)<;>(try exact wb_)<;>(try simp only[h])
        |refine t_ ?_
       all_goals
        refine hQ _ ?_
        apply AltAt.mk1
        · simp only[wM];exact o1
        · exact GP.mono wg_ (fun q _ _=>by simp only[wM])
        · rw[hps];exact eP
        · exact hfr
        · (simp -implicitDefEqProofs only[wL,seval,hpl])
        · intro t ht;simp only[wL];(repeat first|rw[if_pos rfl]|rw[if_neg o_]);exact hfl t ht
        · intro q h1 h2;simp only[wM];exact hhp q h1 h2
        · ((try simp only[wN])<;>omega)
     · repeat' with_reducible first
        |refine s_ ?_
        |simp -implicitDefEqProofs only[wZZ,seval,g1,g2,g3,g4,g5,g7,g8,g9,g11,f1,f3,f7,f9,hpl2,hx1,o1,hzj,qb hPa,qb hPx]
        |(first|apply qa|apply qJ|apply qK)<;>intro h h_<;>(try simp only[wD,reduceCtorEq]at h_)<;>(try exact wb_)<;>(try simp only[h])
        |refine t_ ?_
       all_goals
        refine hQ _ ?_
        apply AltAt.mk1
        · simp only[wM];exact o1
        · exact GP.mono wg_ (fun q _ _=>by simp only[wM])
        · rw[hps];exact eP
        · exact hfr
        · (simp -implicitDefEqProofs only[wL,seval,hpl])
        · intro t ht;simp only[wL];(repeat first|rw[if_pos rfl]|rw[if_neg o_]);exact hfl t ht
        · intro q h1 h2;simp only[wM];exact hhp q h1 h2
        · ((try simp only[wN])<;>omega)

@[reducible] def qQW (vA:Nat→V) (k:Nat):V:= .agg [.str (VR k),vA k,vi 0]
def qaD (n:Nat) (vA:Nat→V):List V:=(List.range n).map (qQW vA)
theorem kU (n:Nat) (vA:Nat→V):(qaD n vA).length=n:=by simp[qaD]
theorem xN {n k:Nat} {vA:Nat→V} (h:k<n):(qaD n vA)[k]?=some (.agg [.str (VR k),vA k,vi 0]):=by simp[qaD,h]
theorem qaf {n k:Nat} {vA:Nat→V} {v:V} (h:k<n):(qaD n vA).set k (.agg [.str (VR k),v,vi 0])=qaD n (zb vA k v):=by
 refine List.ext_getElem? fun i=>?_
 rw[List.getElem?_set]
 by_cases hi:i<n
 · rw[xN hi,kU,xN hi]
   by_cases e:k=i
   · subst e;simp[hi,zb]
   · simp[e,zb,Ne.symm e]
 · rw[List.getElem?_eq_none (by rw[kU];omega),List.getElem?_eq_none (by rw[kU];omega)]
   rw[kU];simp;omega
theorem qce (n:Nat) (vA:Nat→V):qaD (n+1) vA=qaD n vA++[qQW vA n]:=by unfold qaD;rw[List.range_succ,List.map_append];rfl
def QM (n:Nat) (h:Nat→Bool):List V:=(List.range n).map fun k=>V.bool (h k)
theorem yD (n:Nat) (h:Nat→Bool):(QM n h).length=n:=by simp[QM]
theorem kJ {n k:Nat} {h:Nat→Bool} (hk:k<n):(QM n h)[k]?=some (.bool (h k)):=by simp[QM,hk]
theorem qfc {n k:Nat} {h:Nat→Bool} {v:Bool} (hk:k<n):(QM n h).set k (.bool v)=QM n (zb h k v):=by
 refine List.ext_getElem? fun i=>?_
 rw[List.getElem?_set]
 by_cases hi:i<n
 · rw[kJ hi,yD,kJ hi]
   by_cases e:k=i
   · subst e;simp[hi,zb]
   · simp[e,zb,Ne.symm e]
 · rw[List.getElem?_eq_none (by rw[yD];omega),List.getElem?_eq_none (by rw[yD];omega)]
   rw[yD];simp;omega
theorem qgB (n:Nat):List.replicate n (V.bool false)=QM n (fun _=>false):=by
 refine List.ext_getElem? fun i=>?_
 by_cases h:i<n
 · rw[kJ h];simp[h]
 · rw[List.getElem?_eq_none (by simp;omega),List.getElem?_eq_none (by rw[yD];omega)]
theorem ldB {K:V→Prop} {nn k:Nat} {S:Nat→Bool} {ro:Bool} (h:k<nn) (hk:K (.bool (S k))):onS (ldQ (some (.own 1 (QM nn S) ro)) false 1 k 0) K:=by
 have e:ldQ (some (.own 1 (QM nn S) ro)) false 1 k 0=some (.bool (S k)):=by simp[ldQ,kJ h,jZ,V.isAgg]
 rw[e];exact hk
theorem stB {K:St→Prop} {s:St} {nn k id:Nat} {x:Bool} {S:Nat→Bool} (h:k<nn) (hk:K (s.setO id (some (.own 1 (QM nn (zb S k x)) false)))):onS (stQ s (some (.own 1 (QM nn S) false)) 1 id k 0 (.bool x)) K:=by
 have e:stQ s (some (.own 1 (QM nn S) false)) 1 id k 0 (.bool x)=some (s.setO id (some (.own 1 (QM nn (zb S k x)) false))):=by
  rw[← qfc h]
  simp[stQ,kJ h,V.cells,V.okCell,jV,V.isAgg]
 rw[e];exact hk
structure RW (H:Nat→Option MObj) (next rid n:Nat) (vA:Nat→V) (als:Nat→List V) (alts:Nat→List Alt):Prop where
 ho:H rid=some (.own 3 (qaD n vA) false)
 lr:rid<next
 gr: ∀k,k<n→Gr H next 6 (als k) (vA k)
 ep: ∀k,k<n→Ze (als k) ((alts k).map Alt.V)
 sep: ∀j k,j<n→k<n→j≠k→Sep (vA j) (vA k)
 len: ∀k,k<n→(als k).length≤100
theorem RW.mono {H H':Nat→Option MObj} {next next' rid n:Nat} {vA:Nat→V} {als:Nat→List V} {alts:Nat→List Alt} (h:RW H next rid n vA als alts) (hn:next≤next') (hr:H' rid=H rid) (hH: ∀k,k<n→ ∀j,gid (vA k)=some j→j<next→H' j=H j):RW H' next' rid n vA als alts:=
 ⟨by rw[hr];exact h.ho,by have:=h.lr;omega,fun k hk=>(h.gr k hk).mono hn (hH k hk),h.ep,h.sep,h.len⟩
theorem RW.ne {H:Nat→Option MObj} {next rid n:Nat} {vA:Nat→V} {als:Nat→List V} {alts:Nat→List Alt} (h:RW H next rid n vA als alts) {j:Nat} (hj: ∀f,H j≠some (.tok f)) {k:Nat} (hk:k<n):gid (vA k)≠some j:=(h.gr k hk).ne hj
theorem RW.put {H H':Nat→Option MObj} {next next' rid n k id:Nat} {vA:Nat→V} {als:Nat→List V} {alts:Nat→List Alt} {v:V} {a:Alt} (h:RW H next rid n vA als alts) (hk:k<n) (hv:ErP v a.V)
 (hl:(als k).length<100) (hid:next≤id) (hid2:id<next') (hr:H' rid=some (.own 3 (qaD n (zb vA k (.asl id ((als k).length+1) 6 (als k++[v])))) false)) (ht:H' id=some (.tok ((als k).length+1)))
 (hH: ∀q,q<n→q≠k→ ∀j,gid (vA q)=some j→j<next→H' j=H j):
 RW H' next' rid n (zb vA k (.asl id ((als k).length+1) 6 (als k++[v]))) (zb als k (als k++[v])) (zb alts k (alts k++[a])):=by
 refine⟨hr,by have:=h.lr;omega,fun q hq=>?_,fun q hq=>?_,fun j q hj hq hjq=>?_,fun q hq=>?_⟩
 · unfold zb
   by_cases e:q=k
   · subst e;simp only[if_true];exact Gr.tok ht hid2
   · simp only[if_neg e];exact(h.gr q hq).mono o_ (hH q hq e)
 · unfold zb
   by_cases e:q=k
   · subst e;simp only[if_true];rw[List.map_append];exact(h.ep q hq).snoc hv
   · simp only[if_neg e];exact h.ep q hq
 · unfold zb
   by_cases e:j=k
   · subst e;simp only[if_true,if_neg (Ne.symm hjq)];exact Sep.newL (h.gr q hq) hid
   · by_cases e2:q=k
     · subst e2;simp only[if_true,if_neg hjq];exact Sep.newR (h.gr j hj) hid
     · simp only[if_neg e,if_neg e2];exact h.sep j q hj hq hjq
 · unfold zb
   by_cases e:q=k
   · subst e;simp only[if_true,List.length_append,List.length_cons,List.length_nil];omega
   · simp only[if_neg e];exact h.len q hq
def kE (x:GrI) (n:Nat) (i:Nat) (q:(Nat→List Alt)×(Nat→Bool)):(Nat→List Alt)×(Nat→Bool):=
 let l:=x.rules.getD i []
 if l=[]then q else
  let k:=(l.getD 0 0 % n).toNat
  (zb q.1 k (q.1 k++[qbi l n x.inner i]),zb q.2 k (q.2 k || Vl l n))
def zT (x:GrI) (n:Nat):Nat→(Nat→List Alt)×(Nat→Bool)
 |0=>(fun _=>[],fun _=>false)
 |i+1=>kE x n i (zT x n i)
def Jb (bare:Bool) (q:(Nat→List Alt)×(Nat→Bool)) (k:Nat):List Alt:=if q.1 k=[]∨(q.2 k=false∧bare=false)then q.1 k++[{parts:=[{sym:=vz k}]}]else q.1 k
def vv (x:GrI):Nat:=(1+x.nons % 4).toNat
def jf (x:GrI):Source:=
 {decls:=yZ x.levels,rules:=(List.range (vv x)).map fun(k:Nat)=>{left:=VR k,alts:=Jb x.bare (zT x (vv x) (min 9 x.rules.length)) k}}
end Go.Proofs
