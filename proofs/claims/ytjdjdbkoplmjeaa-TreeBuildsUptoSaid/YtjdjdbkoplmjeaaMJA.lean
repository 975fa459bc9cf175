/- Part of a proof that a law of the given program answers true. -/
import Derived.Test.YtjdjdbkoplmjeaaMGC
set_option linter.unusedSimpArgs false
set_option linter.unusedVariables false
set_option maxHeartbeats 4000000
namespace Go.Proofs
open Go.E
theorem YF {H:Nat→Option MObj} {id z n:Nat} {es es':List V} {ro:Bool} (hH:H id=some (.own z es ro)) (he:ErL true H es es') (hn:es.length=n):Er true H (.msl id z 0 n) (.sl z false es'):=by
 obtain ⟨h1,h2⟩:=he.get
 refine .msl id z 0 n es ro es' rfl hH o_ o_ fun i c c' h3 h4=>?_
 rw[Nat.zero_add]at h3
 exact h2 i c c' h3 h4
theorem qaA {K:V→Prop} {k z off:Nat} {es cs:List V} {ro:Bool} {c:V} (hx:es[k]?=some (.agg cs)) (hc:cs[off]?=some c) (hk:K c):onS (ldQ (some (.own z es ro)) false 1 k off) K:=by
 have e:ldQ (some (.own z es ro)) false 1 k off=some c:=by
  simp only[ldQ,hx,jH]
  rw[if_neg (by simp[V.isAgg])]
  simp[Ql,V.cells,hc]
 rw[e];exact hk
theorem qaE {K:St→Prop} {s:St} {id k z off:Nat} {es cs:List V} {v:V} (hx:es[k]?=some (.agg cs)) (hv:v.cells=[v]) (hc:v.okCell=true) (ha:v.isAgg=false) (ho:off<cs.length)
 (hk:K (s.setO id (some (.own z (es.set k (.agg (cs.set off v))) false)))):onS (stQ s (some (.own z es false)) 1 id k off v) K:=by
 have e0:jC 1 z (.agg cs) v off=some (.agg (cs.set off v)):=by
  unfold jC
  rw[if_neg (by rw[ha];simp[V.isAgg])]
  cases v<;>simp_all [V.isAgg]
 have e:stQ s (some (.own z es false)) 1 id k off v=some (s.setO id (some (.own z (es.set k (.agg (cs.set off v))) false))):=by
  simp only[stQ,hx,e0,hv,hc,List.length_singleton,and_self,if_true,Option.map_some]
 rw[e];exact hk
theorem Gr.ok {H:Nat→Option MObj} {next z:Nat} {es:List V} {v:V} (h:Gr H next z es v):v.cells=[v]∧v.okCell=true∧v.isAgg=false:=by
 rcases h with rfl|⟨id,f,rfl,_⟩<;>exact⟨rfl,rfl,rfl⟩
theorem VE {cls:Cls} {id:Nat} {s:St} {K:V→St→Prop} {z bytes:Nat} {vy:V} {ys:List V} (hcl:(cls == .t)=false) (hs:qZ s.H z ys vy)
 (hb:ys.length *bytes≤140737488355328) (hl:ys.length≤maxLen)
 (hk:K (.msl id z 0 ys.length) (s.setO id (some (.own z ys false)))):Vb cls id s K true z bytes (.sl z true []) vy:=by
 unfold Vb
 rw[hs.1 s rfl]
 refine⟨fun e=>(by subst e;cases hcl),?_⟩
 have e:qY id s true z (.sl z true []) ys=some (.msl id z 0 ys.length,s.setO id (some (.own z ys false)),ys.length):=by simp[qY]
 rw[e]
 exact⟨hb,hl,hk⟩
def YP (s:Sym):List Decl→List Decl
 |[]=>[]
 |[d]=>[{d with syms:=d.syms++[s]}]
 |d::e::r=>d::YP s (e::r)
theorem kF (s:Sym) (o:List Decl) (d:Decl):YP s (o++[d])=o++[{d with syms:=d.syms++[s]}]:=by
 induction o with
 |nil=>rfl
 | cons a o ih=>
   cases o with
   |nil=>rfl
   |cons b o=>show a::YP s (b::o++[d])=_;rw[ih];rfl
def xA (i:Nat) (x:Int) (out:List Decl):List Decl:=
 if x % 8 % 4=0 then out else if 4<x % 8∧out≠[]then YP (jl i) out else out++[{kind:=1+x % 8 % 4,syms:=[jl i]}]
def zS (l:List Int):Nat→List Decl
 |0=>[]
 |i+1=>xA i (l.getD i 0) (zS l i)
def xw (l:List Int):List Decl:=zS l (min 4 l.length)
def DI (H:Nat→Option MObj) (next:Nat) (v:V) (out:List Decl):Prop:=
 (out=[]∧v=.sl 4 true [])∨ ∃id es k vS ss,∃(o:List Decl) (sy:List Sym),v=.msl id 4 0 (es.length+1)∧H id=some (.own 4 (es++[.agg [vi k,.str [],vS,vi 0]]) false)∧id<next∧Gr H next 4 ss vS∧JE es (o.map Decl.V)∧JE ss (sy.map Sym.V)∧out=o++[{kind:=k,syms:=sy}]∧es.length≤4∧ss.length≤4
theorem DI.mono {H H':Nat→Option MObj} {next next':Nat} {v:V} {out:List Decl} (h:DI H next v out) (hn:next≤next') (hH: ∀j,j<next→H' j=H j):DI H' next' v out:=by
 rcases h with h|⟨id,es,k,vS,ss,o,sy,h1,h2,h3,h4,h5⟩
 · exact Or.inl h
 · exact Or.inr ⟨id,es,k,vS,ss,o,sy,h1,by rw[hH id h3];exact h2,o_,h4.mono hn (fun j _ hj=>hH j hj),h5⟩
theorem kI {l :List Int} (hl:l.length≤1099511627776):Pure Try.prog 29 [.sl 1 false (l.map (V.int .i64))] (.sl 4 false ((xw l).map Decl.V)):=by
 refine pure_intro Try.func29 nm_ qnp (by show 1≤59;decide) ?_
 show ewp _ qfG _ _
 repeat' with_reducible first
  |refine s_ ?_
  |simp -implicitDefEqProofs only[wZZ,seval]
 refine qg ?nx1 (fun(i:Nat) s=>s.f 0=?v1_0∧s.f 4=vi i∧(i≤l.length)∧(i≤4)∧((∃v,s.f 3=v∧DI s.H s.next v (zS l i)∧(zS l i).length≤i∧ ∀d∈zS l i,d.syms.length≤i))) (fun i=>l.length - i) (0) wj_ (by refine⟨?_,?_,wo_,wo_,(by exact⟨_,by simp -implicitDefEqProofs only[wL,seval],Or.inl ⟨rfl,rfl⟩,Nat.le_refl _,fun d h=>by cases h⟩)⟩<;>first|(simp -implicitDefEqProofs only[wL,wM,wN,wX,seval,Option.some.injEq]<;>exact wt_)|rfl|exact⟨_,rfl⟩) ?_
 intro i s hnx ⟨g0,g4,k1_0,k1_1,k1_2⟩
 obtain ⟨v3,g3,hD,hln,hsy⟩:=k1_2
 have hzi:=w1_ i
 by_cases hi:i<l.length∧i<4
 · obtain ⟨hi1,hi4⟩:=hi
   obtain ⟨q,hq⟩: ∃q:Nat,l[i] % 8=q:=⟨(l[i] % 8).toNat,o_⟩
   have hq8:q<8:=o_
   have hm:(q:Int).tmod 4=((q % 4:Nat):Int):=by rw[Int.tmod_eq_emod_of_nonneg o_];omega
   have hst:zS l (i+1)=xA i l[i] (zS l i):=by show xA i (l.getD i 0) _=_;rw[List.getD_eq_getElem?_getD,ge_ hi1];rfl
   unfold xA at hst
   rw[hq]at hst
   by_cases h0:q % 4=0
   · rw[if_pos o_]at hst
     repeat' with_reducible first
      |refine s_ ?_
      |simp -implicitDefEqProofs only[wZZ,seval,g0,g4,g3,hq,hm,hzi]
      |(first|apply qa|apply qh|apply qi)<;>intro h h_<;>(try simp only[wD,reduceCtorEq]at h_)<;>(try exact wb_)<;>(try simp only[h])
      |refine t_ ?_
      |refine zT we_ we_ (qE wf_ wf_) ?_
     refine⟨wk_,i+1,o_,?_⟩
     refine⟨?_,?_,?_,?_,?_⟩
     iterate 2 (focus(first|(simp -implicitDefEqProofs only[wL,wM,wN,wX,seval,Option.some.injEq,g0,g4]<;>exact wt_)|rfl|exact⟨_,rfl⟩))
     all_goals try omega
     exact⟨v3,rfl,by rw[hst];exact hD.mono o_ (fun _ _=>rfl),by rw[hst];omega,fun d hd=>by rw[hst]at hd;have:=hsy d hd;omega⟩
   · rw [if_neg o_]at hst
     have hqm:0<q % 4:=o_
     have hz1:IntKind.i64.wrap (1+((q % 4:Nat):Int))=1+((q % 4:Nat):Int):=wrap64 o_ o_
     rcases hD with ⟨h1,rfl⟩|⟨id,es,k,vS,ss,o,sy,rfl,h2,h3,h4,h5,h6,h7,h8,h9⟩
     · rw[h1,if_neg (by simp)]at hst
       repeat' with_reducible first
        |refine s_ ?_
        |simp -implicitDefEqProofs only[wZZ,seval,g0,g4,g3,hq,hm,hzi,hz1]
        |(first|apply qa|apply qh|apply qi)<;>intro h h_<;>(try simp only[wD,reduceCtorEq]at h_)<;>(try exact wb_)<;>(try simp only[h])
        |(refine VE rfl qZ.sl (by simp only[wZ]<;>omega) (by unfold maxLen;simp only[wZ]<;>omega) ?_)
        |refine t_ ?_
        |refine zT we_ we_ (qE wf_ wf_) ?_
        |refine j5 we_ (jv wf_ wf_) ?_
       all_goals
        refine⟨by(try simp only[wN])<;>omega,i+1,o_,trivial,rfl,o_,o_,_,rfl,?_,by rw[hst];simp,fun d hd=>by rw[hst]at hd;simp at hd;subst hd;simp⟩
        rw[hst]
        refine Or.inr ⟨_,[],1+((q % 4:Nat):Int),.sl 4 true [(jl i).V],[(jl i).V],[],[jl i],rfl,?_,by(try simp only[wN])<;>omega,Gr.clip,.nil,.cons qc .nil,by simp,by simp,by simp⟩
        simp only[wM]
        repeat(first|rw[if_pos trivial]|rw[if_pos rfl]|rw[if_neg o_])
        rfl
     · have hol:o.length=es.length:=by have:=h5.len;simpa using this
       have hdl:(zS l i).length=o.length+1:=by rw[h7];simp
       have hzl:IntKind.i64.wrap (((es.length+1:Nat):Int) - 1)=(es.length:Int):=by rw[wrap64 o_ o_];omega
       by_cases hq4:4<q
       · rw [if_pos ⟨o_,by rw[h7];simp⟩,h7,kF]at hst
         have hg1:(es++[V.agg [vi k,.str [],vS,vi 0]])[es.length]?=some (V.agg [vi k,.str [],vS,vi 0]):=by simp
         have hne:gid vS≠some id:=h4.ne (fun f e=>by rw[h2]at e;cases e)
         repeat' with_reducible first
          |refine s_ ?_
          |simp -implicitDefEqProofs only[wZZ,seval,g0,g4,g3,hq,hm,hzi,hz1,hzl,h2,qb hne]
          |(first|apply qa|apply qh|apply qi)<;>intro h h_<;>(try simp only[wD,reduceCtorEq]at h_)<;>(try exact wb_)<;>(try simp only[h])
          |apply zh rfl (h4.mono (Nat.le_refl _) (fun id h1 h2=>by(try simp only[wM]);(repeat rw[if_neg o_])));(focus(first|exact qZ.sl|exact qZ.asl));(focus(simp only[wZ]<;>omega));(focus(unfold maxLen;simp only[wZ]<;>omega))
          |(refine qaA hg1 rfl ?_)
          |apply qaE hg1;exact wu_;exact wu_;exact wu_;(focus(simp only[wZ]<;>omega))
          |refine t_ ?_
          |refine zT we_ we_ (qE wf_ wf_) ?_
          |refine j5 we_ (jv wf_ wf_) ?_
          |simp -implicitDefEqProofs (disch:=omega) only[w64,if_neg]
         have hsl:(es++[V.agg [vi k,.str [],vS,vi 0]]).length=es.length+1:=by simp
         all_goals
          refine⟨by(try simp only[wN])<;>omega,i+1,o_,trivial,rfl,o_,o_,_,rfl,?_,?_,fun d hd=>?_⟩
          · rw[hst]
            refine Or.inr ⟨id,es,k,.asl (s.next+8+6+3+3+6+12) (ss.length+1) 4 (ss++[(jl i).V]),ss++[(jl i).V],o,sy++[jl i],rfl,?_,by(try simp only[wN])<;>omega,Gr.tok (fin:=ss.length+1) ?_ ?_,h5,?_,rfl,h8,?_⟩
            · simp only[wM]
              repeat(first|rw[if_pos trivial]|rw[if_pos rfl]|rw[if_neg o_])
              simp
            · simp only[wM]
              repeat(first|rw[if_pos trivial]|rw[if_pos rfl]|rw[if_neg o_])
            · (try simp only[wN])<;>omega
            · rw[List.map_append];exact h6.snoc qc
            · have:=hsy _ (show ({kind:=k,syms:=sy}:Decl)∈zS l i by rw[h7];simp)
              have:=h6.len
              simp at *;omega
          · rw[hst];simp;omega
          · rw[hst]at hd
            rcases List.mem_append.1 hd with hd|hd
            · have:=hsy d (by rw[h7];exact List.mem_append_left _ hd);omega
            · rw[List.mem_singleton]at hd
              have:=hsy _ (show ({kind:=k,syms:=sy}:Decl)∈zS l i by rw[h7];simp)
              subst hd;simp at this ⊢;omega
       · rw [if_neg o_,h7]at hst
         repeat' with_reducible first
          |refine s_ ?_
          |simp -implicitDefEqProofs only[wZZ,seval,g0,g4,g3,hq,hm,hzi,hz1,hzl,h2]
          |(first|apply qa|apply qh|apply qi)<;>intro h h_<;>(try simp only[wD,reduceCtorEq]at h_)<;>(try exact wb_)<;>(try simp only[h])
          |(refine QG (es:=es++[V.agg [vi k,.str [],vS,vi 0]]) rfl (by simp only[wM];exact h2) (by simp) qZ.sl (by simp only[wZ]<;>omega) (by unfold maxLen;simp only[wZ]<;>omega) ?_)
          |refine t_ ?_
          |refine zT we_ we_ (qE wf_ wf_) ?_
          |refine j5 we_ (jv wf_ wf_) ?_
         all_goals
          refine⟨by(try simp only[wN])<;>omega,i+1,o_,trivial,rfl,o_,o_,_,rfl,?_,?_,fun d hd=>?_⟩
          · rw[hst]
            refine Or.inr ⟨_,es++[V.agg [vi k,.str [],vS,vi 0]],1+((q % 4:Nat):Int),.sl 4 true [(jl i).V],[(jl i).V],o++[{kind:=k,syms:=sy}],[jl i],rfl,?_,by(try simp only[wN])<;>omega,Gr.clip,?_,.cons qc .nil,by simp,?_,by simp⟩
            · simp only[wM]
              repeat(first|rw[if_pos trivial]|rw[if_pos rfl]|rw[if_neg o_])
            · rw[List.map_append];exact h5.snoc (ErL.agg (.cons (.int _ _) (.cons (.str _) (.cons (h4.erL h6.up) (.cons (.int _ _) .nil)))))
            · simp;omega
          · rw[hst];simp;omega
          · rw[hst]at hd
            rcases List.mem_append.1 hd with hd|hd
            · have:=hsy d (by rw[h7];exact hd);omega
            · rw[List.mem_singleton]at hd
              subst hd;simp
 · have e:zS l i=xw l:=by unfold xw;rw[show i=min 4 l.length by omega]
   rcases hD with ⟨h1,rfl⟩|⟨id,es,k,vS,ss,o,sy,rfl,h2,h3,h4,h5,h6,h7,h8,h9⟩
   · repeat' with_reducible first
      |refine s_ ?_
      |simp -implicitDefEqProofs only[wZZ,seval,g0,g4,g3]
      |(first|apply qa|apply qh|apply qi)<;>intro h h_<;>(try simp only[wD,reduceCtorEq]at h_)<;>(try exact wb_)<;>(try simp only[h])
     rw[← e,h1]
     all_goals refine qA rfl (Or.inr rfl) ?_
     all_goals(try simp -implicitDefEqProofs only[wL,seval,g0,g4])
     all_goals refine er_ ?_
     all_goals(try(with_reducible rfl))
     all_goals first|rfl|(rw[← e,h1];rfl)
   · repeat' with_reducible first
      |refine s_ ?_
      |simp -implicitDefEqProofs only[wZZ,seval,g0,g4,g3]
      |(first|apply qa|apply qh|apply qi)<;>intro h h_<;>(try simp only[wD,reduceCtorEq]at h_)<;>(try exact wb_)<;>(try simp only[h])
     all_goals(rw[← e,h7,List.map_append])
     all_goals(refine qA (t:=2) rfl (Or.inr rfl) ?_)
     all_goals(simp -implicitDefEqProofs only[wL,wM,seval])
     all_goals(refine YF h2 (ErL.snoc h5.up (ErL.agg ?_)) (by simp))
     all_goals exact .cons (.int _ _) (.cons (.str _) (.cons (h4.erL h6.up) (.cons (.int _ _) .nil)))

structure GrI where
 nons:Int:=0
 rules:List (List Int):=[]
 levels:List Int:=[]
 inner:List Int:=[]
 bare:Bool:=false
 deriving DecidableEq,Inhabited
abbrev qbQ (l:List Int):V:= .sl 1 false (l.map (V.int .i64))
@[reducible] def GrI.V (x:GrI):V:= .agg [vi x.nons,.sl 1 false (x.rules.map qbQ),qbQ x.levels,qbQ x.inner,.bool x.bare]
def Qe:List UInt8:=[123,36,36,32,61,32,36,49,125]
def Jj:List UInt8:=[123,102,40,36,36,41,125]
def qkm:List UInt8:=[101,114,114,111,114]
abbrev qeV (l:List Int) (n:Nat) (j:Nat):Sym:=XY (l.getD j 0) n
def qbV (inner:List Int) (i:Nat):Bool:=decide (i<inner.length) && decide ((inner.getD i 0).tmod 3=1)
def qoS (inner:List Int) (i:Nat):Bool:=decide (i<inner.length) && !decide ((inner.getD i 0).tmod 2=0)
def jM (l:List Int) (n:Nat) (mid:Bool):Nat→List Part
 |0=>[]
 |j+1=>jM l n mid j++[{sym:=qeV l n (j+1)}]++(if j=0∧mid=true then[{code:=Qe}]else[])
def JC (l:List Int) (n:Nat):Nat→Bool
 |0=>true
 |j+1=>JC l n j && ((qeV l n (j+1)).lit || decide ((qeV l n (j+1)).name=qkm))
def KN (l:List Int) (n:Nat) (inner:List Int) (i:Nat):Alt:=
 {parts:=jM l n (qbV inner i) (min 4 (l.length - 1))++(if qoS inner i=true then[{code:=Jj}]else[])}
def Vw (l:List Int) (n:Nat):Bool:=JC l n (min 4 (l.length - 1))
theorem qbT (l:List Int) (n:Nat) (mid:Bool) (j:Nat):(jM l n mid j).length≤2 *j:=by
 induction j with
 |zero=>simp[jM]
 |succ j ih=>unfold jM;simp only[List.length_append,List.length_cons,List.length_nil];split<;>simp<;>omega
theorem getD_some {α:Type} {l:List α} {i:Nat} {d:α} (h:i<l.length):l[i]?=some (l.getD i d):=by rw[List.getD_eq_getElem?_getD,ge_ h];rfl
structure AltAt (s:St) (s0:St) (a:Nat) (ps:List Part) (pl:Bool):Prop where
 ex: ∃vP es,s.H a=some (.own 6 [.agg [vP,.str [],.bool false,vi 0,vi 0,vi 0]] false)∧Gr s.H s.next 6 es vP∧JE es (ps.map Part.V)∧ ∀j,gid vP=some j→s0.next≤j
 pl:s.f 10=.bool pl
 fr: ∀t,t<10→s.f t=s0.f t
 hp: ∀j,j<s0.next→j≠a→s.H j=s0.H j
 nx:s0.next≤s.next
theorem AltAt.mk1 {s s0:St} {a:Nat} {ps:List Part} {pl:Bool} {vP:V} {es:List V} (h1:s.H a=some (.own 6 [.agg [vP,.str [],.bool false,vi 0,vi 0,vi 0]] false)) (h2:Gr s.H s.next 6 es vP) (h3:JE es (ps.map Part.V)) (h4: ∀j,gid vP=some j→s0.next≤j)
 (h5:s.f 10=.bool pl) (h6: ∀t,t<10→s.f t=s0.f t) (h7: ∀j,j<s0.next→j≠a→s.H j=s0.H j) (h8:s0.next≤s.next):AltAt s s0 a ps pl:=⟨⟨vP,es,h1,h2,h3,h4⟩,h5,h6,h7,h8⟩
theorem qHS {s0:St} {x:GrI} {n i a xb:Nat} {E:EC} {Q:Exit→St→Prop} (hn:0<n) (hn4:n≤4) (hi:i<x.rules.length) (hi9:i<9) (hne:(x.rules.getD i [])≠[]) (hb:(x.rules.getD i []).length≤1099511627776) (hib:x.inner.length≤1099511627776)
 (f1:s0.f 1=.ptr xb 0 0) (f3:s0.f 3=vi n) (f7:s0.f 7=vi i) (f9:s0.f 9=.ptr a 0 0) (f10:s0.f 10=.bool true) (hx:s0.H xb=some (.own 5 [x.V] false)) (ha:s0.H a=some (.own 6 [.agg [.sl 6 true [],.str [],.bool false,vi 0,vi 0,vi 0]] false))
 (lx:xb<s0.next) (la:a<s0.next) (hax:a≠xb)
 (hQ: ∀s',AltAt s' s0 a (KN (x.rules.getD i []) n x.inner i).parts (Vw (x.rules.getD i []) n)→ewp Try.prog E Q s'):ewp Try.prog (.seq qe9 (.seq qe4 E)) Q s0:=by
 have hg:=getD_some (d:=[]) hi
 generalize x.rules.getD i []=l at *
 have hll:0<l.length:=List.length_pos_iff.2 hne
 repeat' with_reducible first
  |refine s_ ?_
  |simp -implicitDefEqProofs only[wZZ,seval,f1,f3,f7,f9,f10]
 refine qg ?nx3 (fun(j:Nat) s=>s.f 1=?v3_1∧s.f 2=?v3_2∧s.f 3=?v3_3∧s.f 4=?v3_4∧s.f 5=?v3_5∧s.f 7=?v3_7∧s.f 8=?v3_8∧s.f 9=?v3_9∧s.f 11=vi ((j+1:Nat):Int)∧(j+1≤l.length)∧(j≤4)∧(AltAt s s0 a (jM l n (qbV x.inner i) j) (JC l n j))) (fun j=>l.length - j) (0) wj_ (by refine⟨?_,?_,?_,?_,?_,?_,?_,?_,?_,wo_,wo_,(by exact⟨⟨.sl 6 true [],[],by(simp only[wM];(repeat first|rw[if_pos trivial]|rw[if_pos rfl]|rw[if_neg o_]));exact ha,Gr.nil,.nil,fun j h=>by cases h⟩,by(simp -implicitDefEqProofs only[wL,seval]);exact f10,fun t ht=>by simp only[wL];repeat(first|rw[if_pos rfl]|rw[if_neg o_]),fun j h1 h2=>by simp only[wM],wg_⟩)⟩<;>first|(simp -implicitDefEqProofs only[wL,wM,wN,wX,seval,Option.some.injEq]<;>exact wt_)|rfl|exact⟨_,rfl⟩) ?_
 intro j s hnx ⟨g1,g2,g3,g4,g5,g7,g8,g9,g11,k3_0,k3_1,k3_2⟩
 obtain ⟨⟨vP,es,o1,GP,eP,hfr⟩,hpl,hfl,hhp,hnx2⟩:=k3_2
 have hx1:s.H xb=some (.own 5 [x.V] false):=by rw[hhp xb lx o_];exact hx
 have q1:=hfl 1 o_;have q3:=hfl 3 o_;have q7:=hfl 7 o_;have q9:=hfl 9 o_
 rw[f1]at q1;rw[f3]at q3;rw[f7]at q7;rw[f9]at q9
 have hzj:IntKind.i64.wrap ((j+1+1:Nat):Int)=((j+1+1:Nat):Int):=wrap64 o_ o_
 have hPa:gid vP≠some a:=GP.ne (fun f e=>by rw[o1]at e;cases e)
 have hPx:gid vP≠some xb:=GP.ne (fun f e=>by rw[hx1]at e;cases e)
 have hle:=eP.len
 have hle2:=qbT l n (qbV x.inner i) j
 rw[List.length_map]at hle
 by_cases hj:j+1<l.length∧j<4
 · have hgj:=getD_some (d:=(0:Int)) hj.1
   have hsym:=YK (x:=l.getD (j+1) 0) (nons:=n) o_ o_
   have hps:jM l n (qbV x.inner i) (j+1)=jM l n (qbV x.inner i) j++[{sym:=qeV l n (j+1)}]++(if j=0∧qbV x.inner i=true then[{code:=Qe}]else[]):=rfl
   have hpp:JC l n (j+1)=(JC l n j && ((qeV l n (j+1)).lit || decide ((qeV l n (j+1)).name=qkm))):=rfl
   have hpl2:=hpl
   have hy:XY (l.getD (j+1) 0) n=qeV l n (j+1):=rfl
   rw[hy]at hsym
   generalize qeV l n (j+1)=y at *
   generalize JC l n j=pl at *
   obtain ⟨ynm,ylt,ynu,yat⟩:=y
   by_cases hmid:i<x.inner.length∧j=0∧(x.inner.getD i 0).tmod 3=1
   · have hgi:=getD_some (d:=(0:Int)) hmid.1
     have hmb:qbV x.inner i=true:=by unfold qbV;rw[Bool.and_eq_true,decide_eq_true_eq,decide_eq_true_eq];exact⟨hmid.1,hmid.2.2⟩
     rw[if_pos ⟨hmid.2.1,hmb⟩]at hps
     cases pl<;>cases ylt
     all_goals
      repeat' with_reducible first
       |refine s_ ?_
       |simp -implicitDefEqProofs only[wZZ,seval,g1,g2,g3,g4,g5,g7,g8,g9,g11,f1,f3,f7,f9,hpl2,hx1,o1,hzj,qb hPa,qb hPx]
       |(first|apply qa|apply qh|apply qi)<;>intro h h_<;>(try simp only[wD,reduceCtorEq]at h_)<;>(try exact wb_)<;>(try simp only[h])
       |refine t_ ?_
       |refine cq2 hsym qc qc ?_
       |apply zh rfl (GP.mono (Nat.le_refl _) (fun id h1 h2=>by(try simp only[wM]);(repeat rw[if_neg o_])));(focus(first|exact qZ.sl|exact qZ.asl));(focus(simp only[wZ]<;>omega));(focus(unfold maxLen;simp only[wZ]<;>omega))
       |apply qgb;(focus((try simp only[wM]);(repeat first|rw[if_pos trivial]|rw[if_pos rfl]|rw[if_neg o_]);(try rfl)));exact qZ.sl;(focus(simp only[wZ]<;>omega));(focus(unfold maxLen;simp only[wZ]<;>omega))
       |simp -implicitDefEqProofs (disch:=omega) only[w64,if_neg]
     all_goals
      refine⟨by(try simp only[wN])<;>omega,j+1,o_,trivial,trivial,trivial,trivial,trivial,trivial,trivial,trivial,rfl,o_,o_,?_⟩
      apply AltAt.mk1
      · simp only[wM];(repeat first|rw[if_pos trivial]|rw[if_pos rfl]|rw[if_neg o_]);(try exact rfl)
      · exact Gr.tok wc_ wg_
      · rw[hps];(repeat rw[List.map_append]);refine(eP.snoc ?_).snoc ?_<;>exact qc
      · intro q hq;cases hq;omega
      · (simp -implicitDefEqProofs only[wL,seval]);rw[hpp];exact rfl
      · intro t ht;simp only[wL];(repeat first|rw[if_pos rfl]|rw[if_neg o_]);exact hfl t ht
      · intro q h1 h2;simp only[wM];(repeat first|rw[if_pos trivial]|rw[if_pos rfl]|rw[if_neg o_]|rw[qb (fun e=>by have:=hfr _ e;omega)]);(try simp only[wM]);(repeat first|rw[if_pos trivial]|rw[if_pos rfl]|rw[if_neg o_]);exact hhp q h1 h2
      · ((try simp only[wN])<;>omega)
   · have hnm: ¬ (j=0∧qbV x.inner i=true):=fun e=>hmid (by
      have:=e.2
      unfold qbV at this
      rw[Bool.and_eq_true,decide_eq_true_eq,decide_eq_true_eq]at this
      exact⟨this.1,e.1,this.2⟩)
     rw[if_neg hnm,List.append_nil]at hps
     by_cases hin:i<x.inner.length
     · have hgi:=getD_some (d:=(0:Int)) hin
       by_cases hj0:j=0
       · have htm: ¬ (x.inner.getD i 0).tmod 3=1:=fun e=>hmid ⟨hin,hj0,e⟩
         clear hmid hnm
         cases pl<;>cases ylt
         all_goals
          repeat' with_reducible first
           |refine s_ ?_
           |simp -implicitDefEqProofs only[wZZ,seval,g1,g2,g3,g4,g5,g7,g8,g9,g11,f1,f3,f7,f9,hpl2,hx1,o1,hzj,qb hPa,qb hPx]
           |(first|apply qa|apply qh|apply qi)<;>intro h h_<;>(try simp only[wD,reduceCtorEq]at h_)<;>(try exact wb_)<;>(try simp only[h])
           |refine t_ ?_
           |refine cq2 hsym qc qc ?_
           |apply zh rfl (GP.mono (Nat.le_refl _) (fun id h1 h2=>by(try simp only[wM]);(repeat rw[if_neg o_])));(focus(first|exact qZ.sl|exact qZ.asl));(focus(simp only[wZ]<;>omega));(focus(unfold maxLen;simp only[wZ]<;>omega))
           |simp -implicitDefEqProofs (disch:=omega) only[w64,if_neg]
         all_goals
          refine⟨by(try simp only[wN])<;>omega,j+1,o_,trivial,trivial,trivial,trivial,trivial,trivial,trivial,trivial,rfl,o_,o_,?_⟩
          apply AltAt.mk1
          · simp only[wM];(repeat first|rw[if_pos trivial]|rw[if_pos rfl]|rw[if_neg o_]);(try exact rfl)
          · exact Gr.tok wc_ wg_
          · rw[hps];(repeat rw[List.map_append]);refine eP.snoc ?_<;>exact qc
          · intro q hq;cases hq;omega
          · (simp -implicitDefEqProofs only[wL,seval]);rw[hpp];exact rfl
          · intro t ht;simp only[wL];(repeat first|rw[if_pos rfl]|rw[if_neg o_]);exact hfl t ht
          · intro q h1 h2;simp only[wM];(repeat first|rw[if_pos trivial]|rw[if_pos rfl]|rw[if_neg o_]|rw[qb (fun e=>by have:=hfr _ e;omega)]);(try simp only[wM]);(repeat first|rw[if_pos trivial]|rw[if_pos rfl]|rw[if_neg o_]);exact hhp q h1 h2
          · ((try simp only[wN])<;>omega)
       · clear hmid hnm
         cases pl<;>cases ylt
         all_goals
          repeat' with_reducible first
           |refine s_ ?_
           |simp -implicitDefEqProofs only[wZZ,seval,g1,g2,g3,g4,g5,g7,g8,g9,g11,f1,f3,f7,f9,hpl2,hx1,o1,hzj,qb hPa,qb hPx]
           |(first|apply qa|apply qh|apply qi)<;>intro h h_<;>(try simp only[wD,reduceCtorEq]at h_)<;>(try exact wb_)<;>(try simp only[h])
           |refine t_ ?_
           |refine cq2 hsym qc qc ?_
           |apply zh rfl (GP.mono (Nat.le_refl _) (fun id h1 h2=>by(try simp only[wM]);(repeat rw[if_neg o_])));(focus(first|exact qZ.sl|exact qZ.asl));(focus(simp only[wZ]<;>omega));(focus(unfold maxLen;simp only[wZ]<;>omega))
           |simp -implicitDefEqProofs (disch:=omega) only[w64,if_neg]
         all_goals
          refine⟨by(try simp only[wN])<;>omega,j+1,o_,trivial,trivial,trivial,trivial,trivial,trivial,trivial,trivial,rfl,o_,o_,?_⟩
          apply AltAt.mk1
          · simp only[wM];(repeat first|rw[if_pos trivial]|rw[if_pos rfl]|rw[if_neg o_]);(try exact rfl)
          · exact Gr.tok wc_ wg_
          · rw[hps];(repeat rw[List.map_append]);refine eP.snoc ?_<;>exact qc
          · intro q hq;cases hq;omega
          · (simp -implicitDefEqProofs only[wL,seval]);rw[hpp];exact rfl
          · intro t ht;simp only[wL];(repeat first|rw[if_pos rfl]|rw[if_neg o_]);exact hfl t ht
          · intro q h1 h2;simp only[wM];(repeat first|rw[if_pos trivial]|rw[if_pos rfl]|rw[if_neg o_]|rw[qb (fun e=>by have:=hfr _ e;omega)]);(try simp only[wM]);(repeat first|rw[if_pos trivial]|rw[if_pos rfl]|rw[if_neg o_]);exact hhp q h1 h2
          · ((try simp only[wN])<;>omega)
     · have hgi:x.inner[i]?=none:=List.getElem?_eq_none o_
       clear hmid hnm
       cases pl<;>cases ylt
       all_goals
        repeat' with_reducible first
         |refine s_ ?_
         |simp -implicitDefEqProofs only[wZZ,seval,g1,g2,g3,g4,g5,g7,g8,g9,g11,f1,f3,f7,f9,hpl2,hx1,o1,hzj,qb hPa,qb hPx]
         |(first|apply qa|apply qh|apply qi)<;>intro h h_<;>(try simp only[wD,reduceCtorEq]at h_)<;>(try exact wb_)<;>(try simp only[h])
         |refine t_ ?_
         |refine cq2 hsym qc qc ?_
         |apply zh rfl (GP.mono (Nat.le_refl _) (fun id h1 h2=>by(try simp only[wM]);(repeat rw[if_neg o_])));(focus(first|exact qZ.sl|exact qZ.asl));(focus(simp only[wZ]<;>omega));(focus(unfold maxLen;simp only[wZ]<;>omega))
         |simp -implicitDefEqProofs (disch:=omega) only[w64,if_neg]
       all_goals
        refine⟨by(try simp only[wN])<;>omega,j+1,o_,trivial,trivial,trivial,trivial,trivial,trivial,trivial,trivial,rfl,o_,o_,?_⟩
        apply AltAt.mk1
        · simp only[wM];(repeat first|rw[if_pos trivial]|rw[if_pos rfl]|rw[if_neg o_]);(try exact rfl)
        · exact Gr.tok wc_ wg_
        · rw[hps];(repeat rw[List.map_append]);refine eP.snoc ?_<;>exact qc
        · intro q hq;cases hq;omega
        · (simp -implicitDefEqProofs only[wL,seval]);rw[hpp];exact rfl
        · intro t ht;simp only[wL];(repeat first|rw[if_pos rfl]|rw[if_neg o_]);exact hfl t ht
        · intro q h1 h2;simp only[wM];(repeat first|rw[if_pos trivial]|rw[if_pos rfl]|rw[if_neg o_]|rw[qb (fun e=>by have:=hfr _ e;omega)]);(try simp only[wM]);(repeat first|rw[if_pos trivial]|rw[if_pos rfl]|rw[if_neg o_]);exact hhp q h1 h2
        · ((try simp only[wN])<;>omega)
 · have hjm:j=min 4 (l.length - 1):=o_
   have hpl2:=hpl
   have hps:(KN l n x.inner i).parts=jM l n (qbV x.inner i) j++(if qoS x.inner i=true then[{code:=Jj}]else[]):=by unfold KN;rw[hjm]
   have hpp:Vw l n=JC l n j:=by unfold Vw;rw[hjm]
   rw[hpp]at hQ
   by_cases hend:qoS x.inner i=true
   · have h2:=hend
     unfold qoS at h2
     rw[Bool.and_eq_true,decide_eq_true_eq,Bool.not_eq_true',decide_eq_false_iff_not]at h2
     have hin:=h2.1
     have htm:=h2.2
     have hgi:=getD_some (d:=(0:Int)) hin
     rw[if_pos hend]at hps
     repeat' with_reducible first
      |refine s_ ?_
      |simp -implicitDefEqProofs only[wZZ,seval,g1,g2,g3,g4,g5,g7,g8,g9,g11,f1,f3,f7,f9,hpl2,hx1,o1,hzj,qb hPa,qb hPx]
      |(first|apply qa|apply qh|apply qi)<;>intro h h_<;>(try simp only[wD,reduceCtorEq]at h_)<;>(try exact wb_)<;>(try simp only[h])
      |refine t_ ?_
      |apply zh rfl (GP.mono (Nat.le_refl _) (fun id h1 h2=>by(try simp only[wM]);(repeat rw[if_neg o_])));(focus(first|exact qZ.sl|exact qZ.asl));(focus(simp only[wZ]<;>omega));(focus(unfold maxLen;simp only[wZ]<;>omega))
      |simp -implicitDefEqProofs (disch:=omega) only[w64,if_neg]
     all_goals
      refine hQ _ ?_
      apply AltAt.mk1
      · simp only[wM];(repeat first|rw[if_pos trivial]|rw[if_pos rfl]|rw[if_neg o_]);(try exact rfl)
      · exact Gr.tok wc_ wg_
      · rw[hps];(repeat rw[List.map_append]);refine eP.snoc ?_<;>exact qc
      · intro q hq;cases hq;omega
      · (simp -implicitDefEqProofs only[wL,seval,hpl])
      · intro t ht;simp only[wL];(repeat first|rw[if_pos rfl]|rw[if_neg o_]);exact hfl t ht
      · intro q h1 h2;simp only[wM];(repeat first|rw[if_pos trivial]|rw[if_pos rfl]|rw[if_neg o_]|rw[qb (fun e=>by have:=hfr _ e;omega)]);(try simp only[wM]);(repeat first|rw[if_pos trivial]|rw[if_pos rfl]|rw[if_neg o_]);exact hhp q h1 h2
      · ((try simp only[wN])<;>omega)
   · have h2:=hend
     rw[if_neg hend,List.append_nil]at hps
     by_cases hin:i<x.inner.length
     · have hgi:=getD_some (d:=(0:Int)) hin
       have htm:(x.inner.getD i 0).tmod 2=0:=by
        refine Classical.byContradiction fun h=>hend ?_
        unfold qoS
        rw[Bool.and_eq_true,decide_eq_true_eq,Bool.not_eq_true',decide_eq_false_iff_not]
        exact⟨hin,h⟩
       repeat' with_reducible first
        |refine s_ ?_
        |simp -implicitDefEqProofs only[wZZ,seval,g1,g2,g3,g4,g5,g7,g8,g9,g11,f1,f3,f7,f9,hpl2,hx1,o1,hzj,qb hPa,qb hPx]
        |(first|apply qa|apply qh|apply qi)<;>intro h h_<;>(try simp only[wD,reduceCtorEq]at h_)<;>(try exact wb_)<;>(try simp only[h])
        |refine t_ ?_
       all_goals
        refine hQ _ ?_
        apply AltAt.mk1
        · simp only[wM];exact o1
        · exact GP.mono wg_ (fun q _ _=>by simp only[wM])
        · rw[hps];exact eP
        · exact hfr
        · (simp -implicitDefEqProofs only[wL,seval,hpl])
        · intro t ht;simp only[wL];(repeat first|rw[if_pos rfl]|rw[if_neg o_]);exact hfl t ht
        · intro q h1 h2;simp only[wM];exact hhp q h1 h2
        · ((try simp only[wN])<;>omega)
     · repeat' with_reducible first
        |refine s_ ?_
        |simp -implicitDefEqProofs only[wZZ,seval,g1,g2,g3,g4,g5,g7,g8,g9,g11,f1,f3,f7,f9,hpl2,hx1,o1,hzj,qb hPa,qb hPx]
        |(first|apply qa|apply qh|apply qi)<;>intro h h_<;>(try simp only[wD,reduceCtorEq]at h_)<;>(try exact wb_)<;>(try simp only[h])
        |refine t_ ?_
       all_goals
        refine hQ _ ?_
        apply AltAt.mk1
        · simp only[wM];exact o1
        · exact GP.mono wg_ (fun q _ _=>by simp only[wM])
        · rw[hps];exact eP
        · exact hfr
        · (simp -implicitDefEqProofs only[wL,seval,hpl])
        · intro t ht;simp only[wL];(repeat first|rw[if_pos rfl]|rw[if_neg o_]);exact hfl t ht
        · intro q h1 h2;simp only[wM];exact hhp q h1 h2
        · ((try simp only[wN])<;>omega)

@[reducible] def qHF (vA:Nat→V) (k:Nat):V:= .agg [.str (Xq k),vA k,vi 0]
def qaN (n:Nat) (vA:Nat→V):List V:=(List.range n).map (qHF vA)
theorem kR (n:Nat) (vA:Nat→V):(qaN n vA).length=n:=by simp[qaN]
theorem xG {n k:Nat} {vA:Nat→V} (h:k<n):(qaN n vA)[k]?=some (.agg [.str (Xq k),vA k,vi 0]):=by simp[qaN,h]
theorem qaV {n k:Nat} {vA:Nat→V} {v:V} (h:k<n):(qaN n vA).set k (.agg [.str (Xq k),v,vi 0])=qaN n (qR vA k v):=by
 refine List.ext_getElem? fun i=>?_
 rw[List.getElem?_set]
 by_cases hi:i<n
 · rw[xG hi,kR,xG hi]
   by_cases e:k=i
   · subst e;simp[hi,qR]
   · simp[e,qR,Ne.symm e]
 · rw[List.getElem?_eq_none (by rw[kR];omega),List.getElem?_eq_none (by rw[kR];omega)]
   rw[kR];simp;omega
theorem qd1 (n:Nat) (vA:Nat→V):qaN (n+1) vA=qaN n vA++[qHF vA n]:=by unfold qaN;rw[List.range_succ,List.map_append];rfl
def X9 (n:Nat) (h:Nat→Bool):List V:=(List.range n).map fun k=>V.bool (h k)
theorem QK (n:Nat) (h:Nat→Bool):(X9 n h).length=n:=by simp[X9]
theorem QZ {n k:Nat} {h:Nat→Bool} (hk:k<n):(X9 n h)[k]?=some (.bool (h k)):=by simp[X9,hk]
theorem qe2 {n k:Nat} {h:Nat→Bool} {v:Bool} (hk:k<n):(X9 n h).set k (.bool v)=X9 n (qR h k v):=by
 refine List.ext_getElem? fun i=>?_
 rw[List.getElem?_set]
 by_cases hi:i<n
 · rw[QZ hi,QK,QZ hi]
   by_cases e:k=i
   · subst e;simp[hi,qR]
   · simp[e,qR,Ne.symm e]
 · rw[List.getElem?_eq_none (by rw[QK];omega),List.getElem?_eq_none (by rw[QK];omega)]
   rw[QK];simp;omega
theorem qfp (n:Nat):List.replicate n (V.bool false)=X9 n (fun _=>false):=by
 refine List.ext_getElem? fun i=>?_
 by_cases h:i<n
 · rw[QZ h];simp[h]
 · rw[List.getElem?_eq_none (by simp;omega),List.getElem?_eq_none (by rw[QK];omega)]
theorem ldB {K:V→Prop} {nn k:Nat} {S:Nat→Bool} {ro:Bool} (h:k<nn) (hk:K (.bool (S k))):onS (ldQ (some (.own 1 (X9 nn S) ro)) false 1 k 0) K:=by
 have e:ldQ (some (.own 1 (X9 nn S) ro)) false 1 k 0=some (.bool (S k)):=by simp[ldQ,QZ h,jH,V.isAgg]
 rw[e];exact hk
theorem stB {K:St→Prop} {s:St} {nn k id:Nat} {x:Bool} {S:Nat→Bool} (h:k<nn) (hk:K (s.setO id (some (.own 1 (X9 nn (qR S k x)) false)))):onS (stQ s (some (.own 1 (X9 nn S) false)) 1 id k 0 (.bool x)) K:=by
 have e:stQ s (some (.own 1 (X9 nn S) false)) 1 id k 0 (.bool x)=some (s.setO id (some (.own 1 (X9 nn (qR S k x)) false))):=by
  rw[← qe2 h]
  simp[stQ,QZ h,V.cells,V.okCell,jC,V.isAgg]
 rw[e];exact hk
structure RW (H:Nat→Option MObj) (next rid n:Nat) (vA:Nat→V) (als:Nat→List V) (alts:Nat→List Alt):Prop where
 ho:H rid=some (.own 3 (qaN n vA) false)
 lr:rid<next
 gr: ∀k,k<n→Gr H next 6 (als k) (vA k)
 ep: ∀k,k<n→JE (als k) ((alts k).map Alt.V)
 sep: ∀j k,j<n→k<n→j≠k→Sep (vA j) (vA k)
 len: ∀k,k<n→(als k).length≤100
theorem RW.mono {H H':Nat→Option MObj} {next next' rid n:Nat} {vA:Nat→V} {als:Nat→List V} {alts:Nat→List Alt} (h:RW H next rid n vA als alts) (hn:next≤next') (hr:H' rid=H rid) (hH: ∀k,k<n→ ∀j,gid (vA k)=some j→j<next→H' j=H j):RW H' next' rid n vA als alts:=
 ⟨by rw[hr];exact h.ho,by have:=h.lr;omega,fun k hk=>(h.gr k hk).mono hn (hH k hk),h.ep,h.sep,h.len⟩
theorem RW.ne {H:Nat→Option MObj} {next rid n:Nat} {vA:Nat→V} {als:Nat→List V} {alts:Nat→List Alt} (h:RW H next rid n vA als alts) {j:Nat} (hj: ∀f,H j≠some (.tok f)) {k:Nat} (hk:k<n):gid (vA k)≠some j:=(h.gr k hk).ne hj
theorem RW.put {H H':Nat→Option MObj} {next next' rid n k id:Nat} {vA:Nat→V} {als:Nat→List V} {alts:Nat→List Alt} {v:V} {a:Alt} (h:RW H next rid n vA als alts) (hk:k<n) (hv:ErP v a.V)
 (hl:(als k).length<100) (hid:next≤id) (hid2:id<next') (hr:H' rid=some (.own 3 (qaN n (qR vA k (.asl id ((als k).length+1) 6 (als k++[v])))) false)) (ht:H' id=some (.tok ((als k).length+1)))
 (hH: ∀q,q<n→q≠k→ ∀j,gid (vA q)=some j→j<next→H' j=H j):
 RW H' next' rid n (qR vA k (.asl id ((als k).length+1) 6 (als k++[v]))) (qR als k (als k++[v])) (qR alts k (alts k++[a])):=by
 refine⟨hr,by have:=h.lr;omega,fun q hq=>?_,fun q hq=>?_,fun j q hj hq hjq=>?_,fun q hq=>?_⟩
 · unfold qR
   by_cases e:q=k
   · subst e;simp only[if_true];exact Gr.tok ht hid2
   · simp only[if_neg e];exact(h.gr q hq).mono o_ (hH q hq e)
 · unfold qR
   by_cases e:q=k
   · subst e;simp only[if_true];rw[List.map_append];exact(h.ep q hq).snoc hv
   · simp only[if_neg e];exact h.ep q hq
 · unfold qR
   by_cases e:j=k
   · subst e;simp only[if_true,if_neg (Ne.symm hjq)];exact Sep.newL (h.gr q hq) hid
   · by_cases e2:q=k
     · subst e2;simp only[if_true,if_neg hjq];exact Sep.newR (h.gr j hj) hid
     · simp only[if_neg e,if_neg e2];exact h.sep j q hj hq hjq
 · unfold qR
   by_cases e:q=k
   · subst e;simp only[if_true,List.length_append,List.length_cons,List.length_nil];omega
   · simp only[if_neg e];exact h.len q hq
def yu (x:GrI) (n:Nat) (i:Nat) (q:(Nat→List Alt)×(Nat→Bool)):(Nat→List Alt)×(Nat→Bool):=
 let l:=x.rules.getD i []
 if l=[]then q else
  let k:=(l.getD 0 0 % n).toNat
  (qR q.1 k (q.1 k++[KN l n x.inner i]),qR q.2 k (q.2 k || Vw l n))
def zf (x:GrI) (n:Nat):Nat→(Nat→List Alt)×(Nat→Bool)
 |0=>(fun _=>[],fun _=>false)
 |i+1=>yu x n i (zf x n i)
def Qw (bare:Bool) (q:(Nat→List Alt)×(Nat→Bool)) (k:Nat):List Alt:=if q.1 k=[]∨(q.2 k=false∧bare=false)then q.1 k++[{parts:=[{sym:=jl k}]}]else q.1 k
def jO (x:GrI):Nat:=(1+x.nons % 4).toNat
def za (x:GrI):Source:=
 {decls:=xw x.levels,rules:=(List.range (jO x)).map fun(k:Nat)=>{left:=Xq k,alts:=Qw x.bare (zf x (jO x) (min 9 x.rules.length)) k}}

theorem qeJ {α:Type} {f:Nat→List α} {k q:Nat} {l:List α} {b:Nat} (h: ∀k,(f k).length≤b) (hl:l.length≤b+1):(qR f k l q).length≤b+1:=by
 unfold qR;split
 · exact hl
 · have:=h q;omega
theorem kJ (x:GrI) (n:Nat) (i:Nat): ∀k,((zf x n i).1 k).length≤i:=by
 induction i with
 |zero=>intro k;simp[zf]
 | succ i ih=>
   intro k
   unfold zf yu
   dsimp only
   split
   · have:=ih k;omega
   · refine qeJ ih ?_
     rw[List.length_append];have:=ih ((x.rules.getD i []).getD 0 0 % (n:Int)).toNat
     simp only[List.length_cons,List.length_nil];omega
abbrev qHC:V:= .agg [.str [],.sl 4 true [],.sl 3 true [],.str []]
structure SrcAt (s:St) (x:GrI) (n xb rb sb hb rid:Nat) (dV:V) (vA:Nat→V) (als:Nat→List V) (q:(Nat→List Alt)×(Nat→Bool)):Prop where
 f1:s.f 1=.ptr xb 0 0
 f2:s.f 2=.ptr rb 0 0
 f3:s.f 3=vi n
 f4:s.f 4=.ptr sb 0 0
 f5:s.f 5=.msl hb 1 0 n
 hx:s.H xb=some (.own 5 [x.V] false)
 hr:s.H rb=some (.own 4 [qHC] false)
 hs:s.H sb=some (.own 4 [.agg [.str [],dV,.msl rid 3 0 n,.str []]] false)
 hh:s.H hb=some (.own 1 (X9 n q.2) false)
 rw:RW s.H s.next rid n vA als q.1
 o1:xb<rb
 o2:rb<sb
 o3:sb<hb
 o4:hb<rid
theorem SrcAt.mono {s s':St} {x:GrI} {n xb rb sb hb rid:Nat} {dV:V} {vA:Nat→V} {als:Nat→List V} {q:(Nat→List Alt)×(Nat→Bool)} (h:SrcAt s x n xb rb sb hb rid dV vA als q)
 (hf: ∀t,1≤t→t≤5→s'.f t=s.f t) (hn:s.next≤s'.next) (hH: ∀j,j<s.next→s'.H j=s.H j):SrcAt s' x n xb rb sb hb rid dV vA als q:=by
 have:=h.rw.lr;have o1:=h.o1;have o2:=h.o2;have o3:=h.o3;have o4:=h.o4
 exact⟨by rw[hf 1 o_ o_];exact h.f1,by rw[hf 2 o_ o_];exact h.f2,by rw[hf 3 o_ o_];exact h.f3,by rw[hf 4 o_ o_];exact h.f4,by rw[hf 5 o_ o_];exact h.f5,
  by rw[hH _ o_];exact h.hx,by rw[hH _ o_];exact h.hr,by rw[hH _ o_];exact h.hs,by rw[hH _ o_];exact h.hh,h.rw.mono hn (hH _ o_) (fun k _ j _ hj=>hH j hj),o1,o2,o3,o4⟩
theorem qmD {s0:St} {x:GrI} {n xb rb sb hb rid:Nat} {dV:V} {vA:Nat→V} {als:Nat→List V} {Q:Exit→St→Prop} {E:EC} (hn:0<n) (hn4:n≤4) (hb1:x.rules.length≤1099511627776) (hb2: ∀l∈x.rules,l.length≤1099511627776) (hib:x.inner.length≤1099511627776)
 (h:SrcAt s0 x n xb rb sb hb rid dV vA als (zf x n 0))
 (hQ: ∀s' vA' als',SrcAt s' x n xb rb sb hb rid dV vA' als' (zf x n (min 9 x.rules.length))→ewp Try.prog E Q s'):ewp Try.prog (.seq qdH E) Q s0:=by
 have f1:=h.f1;have f2:=h.f2;have f3:=h.f3;have f4:=h.f4;have f5:=h.f5
 repeat' with_reducible first
  |refine s_ ?_
  |simp -implicitDefEqProofs only[wZZ,seval,f1,f2,f3,f4,f5]
 refine qg ?nx2 (fun(p:Nat×(Nat→V)×(Nat→List V)) s=>s.f 1=?v2_1∧s.f 2=?v2_2∧s.f 3=?v2_3∧s.f 4=?v2_4∧s.f 5=?v2_5∧s.f 7=vi p.1∧(p.1≤x.rules.length)∧(p.1≤9)∧(SrcAt s x n xb rb sb hb rid dV p.2.1 p.2.2 (zf x n p.1))) (fun p=>x.rules.length - p.1) ((0,vA,als)) wj_ (by refine⟨?_,?_,?_,?_,?_,?_,wo_,wo_,(by exact h.mono (fun t h1 h2=>by simp only[wL];rw[if_neg o_]) wg_ (fun j hj=>by simp only[wM]))⟩<;>first|(simp -implicitDefEqProofs only[wL,wM,wN,wX,seval,Option.some.injEq]<;>exact wt_)|rfl|exact⟨_,rfl⟩) ?_
 intro p s hnx ⟨g1,g2,g3,g4,g5,g7,k2_0,k2_1,k2_2⟩
 obtain ⟨i,vB,bls⟩:=p
 dsimp only at *
 have hS:=k2_2
 obtain ⟨q1,q2,q3,q4,q5,hx,hr,hs,hh,hW,o1,o2,o3,o4⟩:=hS
 have lr:=hW.lr
 have hzi:=w1_ i
 have hrl:=kJ x n i
 have hst:zf x n (i+1)=yu x n i (zf x n i):=rfl
 unfold yu at hst
 by_cases hi:i<x.rules.length∧i<9
 · have hg:=getD_some (d:=[]) hi.1
   have hmem:(x.rules.getD i [])∈x.rules:=List.mem_of_getElem? hg
   have hlb:=hb2 _ hmem
   by_cases hl0:x.rules.getD i []=[]
   · rw[hl0]at hg
     simp only[if_pos hl0]at hst
     repeat' with_reducible first
      |refine s_ ?_
      |simp -implicitDefEqProofs only[wZZ,seval,g1,g2,g3,g4,g5,g7,f1,f2,f3,f4,f5,hx,hzi]
      |(first|apply qa|apply qh|apply qi)<;>intro h h_<;>(try simp only[wD,reduceCtorEq]at h_)<;>(try exact wb_)<;>(try simp only[h])
      |refine t_ ?_
     refine⟨wk_,(i+1,vB,bls),o_,?_⟩
     refine⟨?_,?_,?_,?_,?_,?_,?_,?_,?_⟩
     iterate 6 (focus(first|(simp -implicitDefEqProofs only[wL,wM,wN,wX,seval,Option.some.injEq,g1,g2,g3,g4,g5,g7]<;>exact wt_)|rfl|exact⟨_,rfl⟩))
     all_goals try omega
     rw[hst]
     exact k2_2.mono (fun t h1 h2=>by simp only[wL];(repeat first|rw[if_pos rfl]|rw[if_neg o_])) wg_ (fun j hj=>by simp only[wM])
   · simp only[if_neg hl0]at hst
     have tail:=fun s0 x n i a xb Q=> @qHS s0 x n i a xb qex Q
     show ewp _ (.seq quv (.seq (.block 3 (.seq qrQ (.seq (.reg qmz) (.seq (.reg qA9) (.seq (.reg qtX) (.seq qe9 (.seq qe4 qex))))))) (.reg qkN))) _ _
     generalize (EC.seq qe9 (.seq qe4 qex))=F at tail
     have hl1:0<(x.rules.getD i []).length:=List.length_pos_iff.2 hl0
     have hg0:=getD_some (d:=(0:Int)) hl1
     obtain ⟨k,hk⟩: ∃k:Nat,(x.rules.getD i []).getD 0 0 % (n:Int)=k:=⟨((x.rules.getD i []).getD 0 0 % (n:Int)).toNat,by have:=Int.emod_nonneg ((x.rules.getD i []).getD 0 0) (show (n:Int)≠0 by omega);omega⟩
     have hkn:k<n:=by have:=Int.emod_lt_of_pos ((x.rules.getD i []).getD 0 0) (show (0:Int)<n by omega);omega
     rw[hk,Int.toNat_natCast]at hst
     repeat' with_reducible first
      |refine s_ ?_
      |simp -implicitDefEqProofs only[wZZ,seval,g1,g2,g3,g4,g5,g7,f1,f2,f3,f4,f5,hx,hzi,hk]
      |(first|apply qa|apply qh|apply qi)<;>intro h h_<;>(try simp only[wD,reduceCtorEq]at h_)<;>(try exact wb_)<;>(try simp only[h])
      |refine t_ ?_
      |refine zT we_ we_ (qE wf_ wf_) ?_
     have hne6: ∀j,j<s.next→j≠s.next+26:=fun j hj=>by omega
     refine tail _ x n i (s.next+26) xb _ hn hn4 hi.1 hi.2 hl0 hlb hib (by(simp -implicitDefEqProofs only[wL,seval,q1])) (by(simp -implicitDefEqProofs only[wL,seval,q3])) (by(simp -implicitDefEqProofs only[wL,seval,g7])) (by(simp -implicitDefEqProofs only[wL,seval])) (by(simp -implicitDefEqProofs only[wL,seval])) (by(simp only[wM];(repeat first|rw[if_pos trivial]|rw[if_pos rfl]|rw[if_neg o_]));exact hx) wc_ wg_ wg_ o_ (fun s2 hA=>?_)
     obtain ⟨⟨vP,es,oA,GP,eP,hfr⟩,hpl,hfl,hhp,hnx2⟩:=hA
     simp only[wN]at hnx2 hfr
     have hhp2: ∀j,j<s.next→s2.H j=s.H j:=fun j hj=>by
      rw[hhp j wh_ o_]
      (simp only[wM];(repeat first|rw[if_pos trivial]|rw[if_pos rfl]|rw[if_neg o_]))
     have r1:s2.f 1=.ptr xb 0 0:=by rw[hfl 1 o_];(simp -implicitDefEqProofs only[wL,seval,q1])
     have r2:s2.f 2=.ptr rb 0 0:=by rw[hfl 2 o_];(simp -implicitDefEqProofs only[wL,seval,q2])
     have r3:s2.f 3=vi n:=by rw[hfl 3 o_];(simp -implicitDefEqProofs only[wL,seval,q3])
     have r4:s2.f 4=.ptr sb 0 0:=by rw[hfl 4 o_];(simp -implicitDefEqProofs only[wL,seval,q4])
     have r5:s2.f 5=.msl hb 1 0 n:=by rw[hfl 5 o_];(simp -implicitDefEqProofs only[wL,seval,q5])
     have r7:s2.f 7=vi i:=by rw[hfl 7 o_];(simp -implicitDefEqProofs only[wL,seval,g7])
     have r8:s2.f 8=vi k:=by rw[hfl 8 o_];(simp -implicitDefEqProofs only[wL,seval])
     have r9:s2.f 9=.ptr (s.next+26) 0 0:=by rw[hfl 9 o_];(simp -implicitDefEqProofs only[wL,seval])
     have hx2:=hx;rw[← hhp2 xb o_]at hx2
     have hr2:=hr;rw[← hhp2 rb o_]at hr2
     have hs2:=hs;rw[← hhp2 sb o_]at hs2
     have hh2:=hh;rw[← hhp2 hb o_]at hh2
     have hW2:RW s2.H s2.next rid n vB bls (zf x n i).1:=hW.mono o_ (hhp2 _ lr) (fun q _ j _ hj=>hhp2 j hj)
     have hR2:=hW2.ho
     have hG2:=hW2.gr k hkn
     have n1:=hW2.ne (fun f e=>by rw[hR2]at e;cases e) hkn (j:=rid)
     have n2:=hW2.ne (fun f e=>by rw[hs2]at e;cases e) hkn (j:=sb)
     have n3:=hW2.ne (fun f e=>by rw[hh2]at e;cases e) hkn (j:=hb)
     have n4:=hW2.ne (fun f e=>by rw[oA]at e;cases e) hkn (j:=s.next+26)
     have n5:=hW2.ne (fun f e=>by rw[hx2]at e;cases e) hkn (j:=xb)
     have n6:=hW2.ne (fun f e=>by rw[hr2]at e;cases e) hkn (j:=rb)
     have hll:=(hW.ep k hkn).len
     rw[List.length_map]at hll
     have hrk:=hrl k
     generalize Vw (x.rules.getD i []) n=pl at *
     repeat' with_reducible first
      |refine s_ ?_
      |simp -implicitDefEqProofs only[wZZ,seval,g1,g2,g3,g4,g5,g7,r1,r2,r3,r4,r5,r7,r8,r9,hpl,hx2,hs2,hh2,hR2,oA,hzi,qb n1,qb n2,qb n3,qb n4]
      |(first|apply qh|apply qi)<;>intro h h_<;>(try simp only[wD,reduceCtorEq]at h_)<;>(try exact wb_)<;>(try simp only[h])
      |(refine ldB hkn ?_)
      |(refine stB hkn ?_)
      |apply zh rfl (hG2.mono (Nat.le_refl _) (fun id h1 h2=>by(try simp only[wM]);rw[if_neg (fun e=>absurd h1 (by rw[e];exact n3))]));exact qZ.sl;(focus(simp only[wZ]<;>omega));(focus(unfold maxLen;simp only[wZ]<;>omega))
      |(refine qaA (xG hkn) rfl ?_)
      |apply qaE (xG hkn);exact wu_;exact wu_;exact wu_;(focus(simp only[wZ]<;>omega))
      |refine t_ ?_
      |simp -implicitDefEqProofs (disch:=omega) only[w64,if_neg]
     all_goals
      refine⟨wg_,(i+1,qR vB k (.asl (s2.next+11+11) ((bls k).length+1) 6 (bls k++[.agg [vP,.str [],.bool false,vi 0,vi 0,vi 0]])),qR bls k (bls k++[.agg [vP,.str [],.bool false,vi 0,vi 0,vi 0]])),by dsimp only;omega,?_⟩
      dsimp only
      have e2:zf x n (i+1)=(qR (zf x n i).1 k ((zf x n i).1 k++[KN (x.rules.getD i []) n x.inner i]),qR (zf x n i).2 k ((zf x n i).2 k || pl)):=hst
      rw[e2]
      refine⟨trivial,trivial,trivial,trivial,trivial,rfl,o_,o_,⟨by(simp -implicitDefEqProofs only[wL,seval,r1]),by(simp -implicitDefEqProofs only[wL,seval,r2]),by(simp -implicitDefEqProofs only[wL,seval,r3]),by(simp -implicitDefEqProofs only[wL,seval,r4]),by(simp -implicitDefEqProofs only[wL,seval,r5]),?_,?_,?_,?_,?_,o1,o2,o3,o4⟩⟩
      · ((try simp only[wM]);(repeat first|rw[if_pos trivial]|rw[if_pos rfl]|rw[if_neg o_]|rw[qb n1]|rw[qb n2]|rw[qb n3]|rw[qb n4]|rw[qb n5]|rw[qb n6]|simp only[wM]));exact hx2
      · ((try simp only[wM]);(repeat first|rw[if_pos trivial]|rw[if_pos rfl]|rw[if_neg o_]|rw[qb n1]|rw[qb n2]|rw[qb n3]|rw[qb n4]|rw[qb n5]|rw[qb n6]|simp only[wM]));exact hr2
      · ((try simp only[wM]);(repeat first|rw[if_pos trivial]|rw[if_pos rfl]|rw[if_neg o_]|rw[qb n1]|rw[qb n2]|rw[qb n3]|rw[qb n4]|rw[qb n5]|rw[qb n6]|simp only[wM]));exact hs2
      · ((try simp only[wM]);(repeat first|rw[if_pos trivial]|rw[if_pos rfl]|rw[if_neg o_]|rw[qb n1]|rw[qb n2]|rw[qb n3]|rw[qb n4]|rw[qb n5]|rw[qb n6]|simp only[wM]))
        refine congrArg some (congrArg (fun c=>MObj.own 1 (X9 n (qR (zf x n i).2 k c)) false) ?_)
        simp[*]
      · refine hW2.put hkn (ErL.agg (.cons (GP.erL eP.up) (.cons (.str _) (.cons (.bool _) (.cons (.int _ _) (.cons (.int _ _) (.cons (.int _ _) .nil))))))) o_ o_ wg_ ?_ ?_ (fun q hq hqk j h1 h2=>?_)
        · ((try simp only[wM]);(repeat first|rw[if_pos trivial]|rw[if_pos rfl]|rw[if_neg o_]|rw[qb n1]|rw[qb n2]|rw[qb n3]|rw[qb n4]|rw[qb n5]|rw[qb n6]|simp only[wM]))
          rw[qaV hkn]
        · ((try simp only[wM]);(repeat first|rw[if_pos trivial]|rw[if_pos rfl]|rw[if_neg o_]|rw[qb n1]|rw[qb n2]|rw[qb n3]|rw[qb n4]|rw[qb n5]|rw[qb n6]|simp only[wM]))
        · have p1:j≠rid:=fun e=>by subst e;exact hW2.ne (fun f e=>by rw[hR2]at e;cases e) hq h1
          have p2:j≠hb:=fun e=>by subst e;exact hW2.ne (fun f e=>by rw[hh2]at e;cases e) hq h1
          have p3:gid (vB k)≠some j:=fun e=>hW2.sep q k hq hkn hqk j h1 e
          (try simp only[wM])
          repeat first|rw[if_pos trivial]|rw[if_pos rfl]|rw[if_neg o_]|rw[qb p3]|simp only[wM]
 · have e:i=min 9 x.rules.length:=o_
   rw[e]at k2_2
   repeat' with_reducible first
    |refine s_ ?_
    |simp -implicitDefEqProofs only[wZZ,seval,g1,g2,g3,g4,g5,g7,f1,f2,f3,f4,f5,hx]
    |(first|apply qa|apply qh|apply qi)<;>intro h h_<;>(try simp only[wD,reduceCtorEq]at h_)<;>(try exact wb_)<;>(try simp only[h])
    |refine t_ ?_
   all_goals exact hQ _ vB bls (k2_2.mono (fun t h1 h2=>by simp only[wL];(repeat first|rw[if_pos rfl]|rw[if_neg o_])) wg_ (fun j hj=>by simp only[wM]))

theorem _root_.Go.E.ErL.map {α:Type} {b:Bool} {H:Nat→Option MObj} {f g:α→V} {l:List α} (h: ∀x∈l,Er b H (f x) (g x)):ErL b H (l.map f) (l.map g):=by
 induction l with
 |nil=>exact .nil
 |cons a l ih=>exact .cons (h a (by simp)) (ih fun x hx=>h x (List.mem_cons_of_mem _ hx))
theorem qHZ {s0:St} {x:GrI} {n xb rb sb hb rid:Nat} {dV:V} {vA:Nat→V} {als:Nat→List V} {q:(Nat→List Alt)×(Nat→Bool)} {Q:Exit→St→Prop} {E:EC} (hn:0<n) (hn4:n≤4) (hq: ∀k,(q.1 k).length≤50)
 (h:SrcAt s0 x n xb rb sb hb rid dV vA als q)
 (hQ: ∀s' vA' als',SrcAt s' x n xb rb sb hb rid dV vA' als' (Qw x.bare q,q.2)→ewp Try.prog E Q s'):ewp Try.prog (.seq qdJ E) Q s0:=by
 have f1:=h.f1;have f2:=h.f2;have f3:=h.f3;have f4:=h.f4;have f5:=h.f5
 have h0:(fun k=>if k<0 then Qw x.bare q k else q.1 k)=q.1:=by funext k;rw[if_neg o_]
 repeat' with_reducible first
  |refine s_ ?_
  |simp -implicitDefEqProofs only[wZZ,seval,f1,f2,f3,f4,f5]
 refine qg ?nx4 (fun(p:Nat×(Nat→V)×(Nat→List V)) s=>s.f 1=?v4_1∧s.f 2=?v4_2∧s.f 3=?v4_3∧s.f 4=?v4_4∧s.f 5=?v4_5∧s.f 13=vi p.1∧(p.1≤n)∧(SrcAt s x n xb rb sb hb rid dV p.2.1 p.2.2 (fun k=>if k<p.1 then Qw x.bare q k else q.1 k,q.2))) (fun p=>n - p.1) ((0,vA,als)) wj_ (by refine⟨?_,?_,?_,?_,?_,?_,wo_,(by rw[h0];exact h.mono (fun t h1 h2=>by simp only[wL];rw[if_neg o_]) wg_ (fun j hj=>by simp only[wM]))⟩<;>first|(simp -implicitDefEqProofs only[wL,wM,wN,wX,seval,Option.some.injEq]<;>exact wt_)|rfl|exact⟨_,rfl⟩) ?_
 intro p s hnx ⟨g1,g2,g3,g4,g5,g13,k4_0,k4_1⟩
 obtain ⟨i,vB,bls⟩:=p
 dsimp only at *
 have hS4:=k4_1
 obtain ⟨r1,r2,r3,r4,r5,hx2,hr2,hs2,hh2,hW2,o1,o2,o3,o4⟩:=k4_1
 have lr:=hW2.lr
 have hR2:=hW2.ho
 have hzi:=w1_ i
 by_cases hi:i<n
 · have hG2:=hW2.gr i hi
   have hep:=hW2.ep i hi
   have hll:=hep.len
   simp only[if_neg (Nat.lt_irrefl i),List.length_map]at hll hep
   have hq1:=hq i
   have n1:=hW2.ne (fun f e=>by rw[hR2]at e;cases e) hi (j:=rid)
   have n2:=hW2.ne (fun f e=>by rw[hs2]at e;cases e) hi (j:=sb)
   have n3:=hW2.ne (fun f e=>by rw[hh2]at e;cases e) hi (j:=hb)
   have n5:=hW2.ne (fun f e=>by rw[hx2]at e;cases e) hi (j:=xb)
   have n6:=hW2.ne (fun f e=>by rw[hr2]at e;cases e) hi (j:=rb)
   have hlen:=hG2.len
   have hlit:=jv (k:=i) o_ o_
   by_cases hc:q.1 i=[]∨(q.2 i=false∧x.bare=false)
   · have hfi:Qw x.bare q i=q.1 i++[{parts:=[{sym:=jl i}]}]:=by unfold Qw;rw[if_pos hc]
     have hfn:(fun k=>if k<i+1 then Qw x.bare q k else q.1 k)=qR (fun k=>if k<i then Qw x.bare q k else q.1 k) i ((fun k=>if k<i then Qw x.bare q k else q.1 k) i++[{parts:=[{sym:=jl i}]}]):=by
      funext k
      unfold qR
      by_cases e:k=i
      · subst e;simp only[if_true,if_pos (Nat.lt_succ_self k),if_neg (Nat.lt_irrefl k)];exact hfi
      · rw[if_neg e]
        show _=if k<i then Qw x.bare q k else q.1 k
        by_cases e2:k<i
        · rw[if_pos e2,if_pos o_]
        · rw[if_neg e2,if_neg o_]
     repeat' with_reducible first
      |refine s_ ?_
      |simp -implicitDefEqProofs only[wZZ,seval,g1,g2,g3,g4,g5,g13,f1,f2,f3,f4,f5,hx2,hs2,hh2,hR2,hlen,hzi,qb n1,qb n2,qb n3,qb n5,qb n6]
      |(first|apply qa|apply qh|apply qi)<;>intro h h_<;>(try simp only[wD,reduceCtorEq]at h_)<;>(try exact wb_)<;>(try simp only[h])
      |(refine ldB hi ?_)
      |apply zh rfl (hG2.mono (Nat.le_refl _) (fun id h1 h2=>by(try simp only[wM]);(repeat rw[if_neg o_])));(focus(first|exact qZ.sl|exact qZ.asl));(focus(simp only[wZ]<;>omega));(focus(unfold maxLen;simp only[wZ]<;>omega))
      |(refine qaA (xG hi) rfl ?_)
      |apply qaE (xG hi);exact wu_;exact wu_;exact wu_;(focus(simp only[wZ]<;>omega))
      |refine cq1 hlit qc ?_
      |refine t_ ?_
      |simp -implicitDefEqProofs (disch:=omega) only[w64,if_neg]
     all_goals first|(exfalso;rcases hc with hc|⟨hc1,hc2⟩;(first|(rw[hc]at hll;simp only[List.length_nil]at hll;omega));(simp_all;done))|skip
     all_goals
      refine⟨wg_,(i+1,qR vB i (.asl (s.next+3+20+15) ((bls i).length+1) 6 (bls i++[(.agg [.sl 6 true [({sym:=jl i}:Part).V],.str [],.bool false,vi 0,vi 0,vi 0])])),qR bls i (bls i++[(.agg [.sl 6 true [({sym:=jl i}:Part).V],.str [],.bool false,vi 0,vi 0,vi 0])])),by dsimp only;omega,?_⟩
      dsimp only
      rw[hfn]
      refine⟨trivial,trivial,trivial,trivial,trivial,rfl,o_,⟨by(simp -implicitDefEqProofs only[wL,seval,r1]),by(simp -implicitDefEqProofs only[wL,seval,r2]),by(simp -implicitDefEqProofs only[wL,seval,r3]),by(simp -implicitDefEqProofs only[wL,seval,r4]),by(simp -implicitDefEqProofs only[wL,seval,r5]),?_,?_,?_,?_,?_,o1,o2,o3,o4⟩⟩
      · ((try simp only[wM]);(repeat first|rw[if_pos trivial]|rw[if_pos rfl]|rw[if_neg o_]|rw[qb n1]|rw[qb n2]|rw[qb n3]|rw[qb n5]|rw[qb n6]|simp only[wM]));exact hx2
      · ((try simp only[wM]);(repeat first|rw[if_pos trivial]|rw[if_pos rfl]|rw[if_neg o_]|rw[qb n1]|rw[qb n2]|rw[qb n3]|rw[qb n5]|rw[qb n6]|simp only[wM]));exact hr2
      · ((try simp only[wM]);(repeat first|rw[if_pos trivial]|rw[if_pos rfl]|rw[if_neg o_]|rw[qb n1]|rw[qb n2]|rw[qb n3]|rw[qb n5]|rw[qb n6]|simp only[wM]));exact hs2
      · ((try simp only[wM]);(repeat first|rw[if_pos trivial]|rw[if_pos rfl]|rw[if_neg o_]|rw[qb n1]|rw[qb n2]|rw[qb n3]|rw[qb n5]|rw[qb n6]|simp only[wM]));exact hh2
      · refine hW2.put (a:={parts:=[{sym:=jl i}]}) hi (ErL.agg (.cons (ErL.sl (.cons qc .nil)) (.cons (.str _) (.cons (.bool _) (.cons (.int _ _) (.cons (.int _ _) (.cons (.int _ _) .nil))))))) o_ o_ wg_ ?_ ?_ (fun w hw hwk j h1 h2=>?_)
        · ((try simp only[wM]);(repeat first|rw[if_pos trivial]|rw[if_pos rfl]|rw[if_neg o_]|rw[qb n1]|rw[qb n2]|rw[qb n3]|rw[qb n5]|rw[qb n6]|simp only[wM]))
          rw[qaV hi]
        · ((try simp only[wM]);(repeat first|rw[if_pos trivial]|rw[if_pos rfl]|rw[if_neg o_]|rw[qb n1]|rw[qb n2]|rw[qb n3]|rw[qb n5]|rw[qb n6]|simp only[wM]))
        · have p1:j≠rid:=fun e=>by subst e;exact hW2.ne (fun f e=>by rw[hR2]at e;cases e) hw h1
          have p3:gid (vB i)≠some j:=fun e=>hW2.sep w i hw hi hwk j h1 e
          (try simp only[wM])
          repeat first|rw[if_pos trivial]|rw[if_pos rfl]|rw[if_neg o_]|rw[qb p3]|simp only[wM]
   · have hfn:(fun k=>if k<i+1 then Qw x.bare q k else q.1 k)=(fun k=>if k<i then Qw x.bare q k else q.1 k):=by
      funext k
      by_cases e2:k<i
      · rw[if_pos e2,if_pos o_]
      · rw[if_neg e2]
        by_cases e:k=i
        · subst e;rw[if_pos o_];unfold Qw;rw[if_neg hc]
        · rw[if_neg o_]
     repeat' with_reducible first
      |refine s_ ?_
      |simp -implicitDefEqProofs only[wZZ,seval,g1,g2,g3,g4,g5,g13,f1,f2,f3,f4,f5,hx2,hs2,hh2,hR2,hlen,hzi,qb n1,qb n2,qb n3,qb n5,qb n6]
      |(first|apply qa|apply qh|apply qi)<;>intro h h_<;>(try simp only[wD,reduceCtorEq]at h_)<;>(try exact wb_)<;>(try simp only[h])
      |(refine ldB hi ?_)
      |apply zh rfl (hG2.mono (Nat.le_refl _) (fun id h1 h2=>by(try simp only[wM]);(repeat rw[if_neg o_])));(focus(first|exact qZ.sl|exact qZ.asl));(focus(simp only[wZ]<;>omega));(focus(unfold maxLen;simp only[wZ]<;>omega))
      |(refine qaA (xG hi) rfl ?_)
      |apply qaE (xG hi);exact wu_;exact wu_;exact wu_;(focus(simp only[wZ]<;>omega))
      |refine cq1 hlit qc ?_
      |refine t_ ?_
      |simp -implicitDefEqProofs (disch:=omega) only[w64,if_neg]
     all_goals first
      |exact absurd (Or.inr ⟨by assumption,by assumption⟩) hc
      |exact absurd (Or.inl (List.length_eq_zero_iff.1 o_)) hc
      |skip
     all_goals
      refine⟨wg_,(i+1,vB,bls),by dsimp only;omega,?_⟩
      dsimp only
      rw[hfn]
      exact⟨trivial,trivial,trivial,trivial,trivial,rfl,o_,hS4.mono (fun t h1 h2=>by simp only[wL];(repeat first|rw[if_pos rfl]|rw[if_neg o_])) wg_ (fun j hj=>by simp only[wM])⟩
 · have e:i=n:=o_
   subst e
   have h9:SrcAt s x i xb rb sb hb rid dV vB bls (Qw x.bare q,q.2):=by
    refine⟨r1,r2,r3,r4,r5,hx2,hr2,hs2,hh2,⟨hW2.ho,hW2.lr,hW2.gr,fun k hk=>?_,hW2.sep,hW2.len⟩,o1,o2,o3,o4⟩
    have:=hW2.ep k hk
    simp only[if_pos hk]at this
    exact this
   repeat' with_reducible first
    |refine s_ ?_
    |simp -implicitDefEqProofs only[wZZ,seval,g1,g2,g3,g4,g5,g13,f1,f2,f3,f4,f5,hx2]
   exact hQ _ vB bls (h9.mono (fun t h1 h2=>by simp only[wL];(repeat first|rw[if_pos rfl]|rw[if_neg o_])) wg_ (fun j hj=>by simp only[wM]))

instance grI_cl (x:GrI):Cl x.V:=⟨fun b H=>ErL.agg (.cons (.int _ _) (.cons qc (.cons qc (.cons qc (.cons (.bool _) .nil)))))⟩
def RuI (H:Nat→Option MObj) (hb next i:Nat) (v:V):Prop:=(i=0∧v=.sl 3 true [])∨ ∃rid,v=.msl rid 3 0 i∧0<i∧H rid=some (.own 3 (qaN i (fun _=>.sl 6 true [])) false)∧hb<rid∧rid<next
theorem ZQ {x:GrI} (hb1:x.rules.length≤1099511627776) (hb2: ∀l∈x.rules,l.length≤1099511627776) (hib:x.inner.length≤1099511627776) (hlb:x.levels.length≤1099511627776):Pure Try.prog 9 [x.V] ((za x).V):=by
 refine pure_intro Try.func9 nm_ qEJ (by show 1≤217;decide) ?_
 show ewp _ qvi _ _
 have hdec:=kI hlb
 obtain ⟨n,hn⟩: ∃n:Nat,1+x.nons % 4=n:=⟨(1+x.nons % 4).toNat,o_⟩
 have hnN:jO x=n:=by unfold jO;rw[hn];rfl
 have hn0:0<n:=o_
 have hn4:n≤4:=o_
 have hz1:IntKind.i64.wrap (1+x.nons % 4)=(n:Int):=by rw[wrap64 o_ o_];exact hn
 have hbol:=qfp n
 have hsrc:za x={decls:=xw x.levels,rules:=(List.range n).map fun(k:Nat)=>{left:=Xq k,alts:=Qw x.bare (zf x n (min 9 x.rules.length)) k}}:=by unfold za;rw[hnN]
 show ewp _ (.seq (.reg qHB) (.seq (.reg qHu) (.seq (.reg qHz) (.seq (.reg qHE) (.seq qpW (.seq qdH (.seq qdJ (.seq (.reg qeN) .ret)))))))) _ _
 have tail: ∀s rid,SrcAt s x n 0 1 11 14 rid (.sl 4 false ((xw x.levels).map Decl.V)) (fun _=>.sl 6 true []) (fun _=>[]) (zf x n 0)→ewp Try.prog (.seq qdH (.seq qdJ (.seq (.reg qeN) .ret))) (zH e9 (za x).V) s:=by
  intro s rid hS
  refine qmD hn0 hn4 hb1 hb2 hib hS fun s1 vB bls h1=>?_
  refine qHZ hn0 hn4 (fun k=>Nat.le_trans (kJ x n _ k) o_) h1 fun s2 vC cls h2=>?_
  obtain ⟨r1,r2,r3,r4,r5,hx2,hr2,hs2,hh2,hW2,o1,o2,o3,o4⟩:=h2
  have lr:=hW2.lr
  repeat' with_reducible first
   |refine s_ ?_
   |simp -implicitDefEqProofs only[wZZ,seval,r1,r2,r3,r4,r5,hx2,hs2,hh2,hr2]
   |refine t_ ?_
  refine vw (t:=2) (n:=4) (id:=1) (v:= .agg [.str [],.sl 4 false ((xw x.levels).map Decl.V),.msl rid 3 0 n,.str []]) (ro:=false) rfl (Or.inr rfl) (by(simp -implicitDefEqProofs only[wL,seval,r2])) wc_ rfl ?_
  rw[hsrc]
  refine ErL.agg (.cons (.str _) (.cons qc (.cons ?_ (.cons (.str _) .nil))))
  have hm:((List.range n).map fun(k:Nat)=>({left:=Xq k,alts:=Qw x.bare (zf x n (min 9 x.rules.length)) k}:Rule)).map Rule.V=(List.range n).map fun(k:Nat)=>({left:=Xq k,alts:=Qw x.bare (zf x n (min 9 x.rules.length)) k}:Rule).V:=List.map_map
  show Er true _ (.msl rid 3 0 n) (.sl 3 false (((List.range n).map fun(k:Nat)=>({left:=Xq k,alts:=Qw x.bare (zf x n (min 9 x.rules.length)) k}:Rule)).map Rule.V))
  rw[hm]
  refine YF (es:=qaN n vC) (ro:=false) (by(simp only[wM];(repeat first|rw[if_pos trivial]|rw[if_pos rfl]|rw[if_neg o_]));exact hW2.ho) ?_ (kR n vC)
  exact ErL.map fun k hk=>ErL.agg (.cons (.str _) (.cons ((hW2.gr k (List.mem_range.1 hk)).erL (hW2.ep k (List.mem_range.1 hk)).up) (.cons (.int _ _) .nil)))
 generalize EC.seq qdH (.seq qdJ (.seq (.reg qeN) .ret))=F at tail
 repeat' with_reducible first
  |refine s_ ?_
  |simp -implicitDefEqProofs only[wZZ,seval,hz1]
  |refine t_ ?_
  |apply qdo;exact wf_;exact wf_;(focus(unfold maxLen;first|omega|(simp only[wZ]<;>omega)))
  |refine zT we_ we_ (qE wf_ wf_) ?_
  |refine j5 we_ (kI wf_) ?_
 rw[hbol]
 refine qg ?nx1 (fun(i:Nat) s=>s.f 1=?v1_1∧s.f 2=?v1_2∧s.f 3=?v1_3∧s.f 4=?v1_4∧s.f 5=?v1_5∧s.H 0=some (MObj.own 5 [x.V] false)∧s.H 1=some (MObj.own 4 [qHC] false)∧s.H 14=some (MObj.own 1 (X9 n (fun _=>false)) false)∧s.f 6=vi i∧(i≤n)∧((∃v,s.H 11=some (MObj.own 4 [.agg [.str [],.sl 4 false ((xw x.levels).map Decl.V),v,.str []]] false)∧RuI s.H 14 s.next i v))) (fun i=>n - i) (0) wj_ (by refine⟨?_,?_,?_,?_,?_,?_,?_,?_,?_,wo_,(by exact⟨.sl 3 true [],by(simp only[wM];(repeat first|rw[if_pos trivial]|rw[if_pos rfl]|rw[if_neg o_])),Or.inl ⟨rfl,rfl⟩⟩)⟩<;>first|(simp -implicitDefEqProofs only[wL,wM,wN,wX,seval,Option.some.injEq]<;>exact wt_)|rfl|exact⟨_,rfl⟩) ?_
 intro i s hnx ⟨g1,g2,g3,g4,g5,o0,o1,o2,g6,k1_0,k1_1⟩
 obtain ⟨v,h11,hR⟩:=k1_1
 have hzi:=w1_ i
 by_cases hi:i<n
 · have hnon:=yF (k:=i) o_ o_
   rcases hR with ⟨rfl,rfl⟩|⟨rid,rfl,hi0,hr,l1,l2⟩
   · repeat' with_reducible first
      |refine s_ ?_
      |simp -implicitDefEqProofs only[wZZ,seval,g1,g2,g3,g4,g5,g6,o0,o1,o2,h11,hzi]
      |apply qa<;>intro h h_<;>(try simp only[wD,reduceCtorEq]at h_)<;>(try exact wb_)<;>(try simp only[h])
      |(refine VE rfl qZ.sl (by simp only[wZ]<;>omega) (by unfold maxLen;simp only[wZ]<;>omega) ?_)
      |refine t_ ?_
      |refine j5 we_ (yF wf_ wf_) ?_
      |simp -implicitDefEqProofs (disch:=omega) only[w64,if_neg]
     refine⟨wg_,1,o_,trivial,trivial,trivial,trivial,trivial,trivial,trivial,trivial,rfl,o_,_,rfl,Or.inr ⟨s.next+3+6,rfl,o_,?_,o_,wg_⟩⟩
     (simp only[wM];(repeat first|rw[if_pos trivial]|rw[if_pos rfl]|rw[if_neg o_]))
     rfl
   · have hrl:=kR i (fun _=>.sl 6 true [])
     repeat' with_reducible first
      |refine s_ ?_
      |simp -implicitDefEqProofs only[wZZ,seval,g1,g2,g3,g4,g5,g6,o0,o1,o2,h11,hzi]
      |apply qa<;>intro h h_<;>(try simp only[wD,reduceCtorEq]at h_)<;>(try exact wb_)<;>(try simp only[h])
      |refine cq1 hnon qc ?_
      |(refine QG (es:=qaN i (fun _=>.sl 6 true [])) rfl (by simp only[wM];exact hr) hrl.symm qZ.sl (by simp only[wZ]<;>omega) (by unfold maxLen;simp only[wZ]<;>omega) ?_)
      |refine t_ ?_
      |simp -implicitDefEqProofs (disch:=omega) only[w64,if_neg]
     rw[hrl,← qd1 i (fun _=>.sl 6 true [])]
     refine⟨wg_,i+1,o_,trivial,trivial,trivial,trivial,trivial,trivial,trivial,trivial,rfl,o_,_,rfl,Or.inr ⟨s.next+3+6,rfl,o_,?_,o_,wg_⟩⟩
     (simp only[wM];(repeat first|rw[if_pos trivial]|rw[if_pos rfl]|rw[if_neg o_]))
 · have e:i=n:=o_
   subst e
   rcases hR with ⟨h0,_⟩|⟨rid,rfl,hi0,hr,l1,l2⟩
   · omega
   repeat' with_reducible first
    |refine s_ ?_
    |simp -implicitDefEqProofs only[wZZ,seval,g1,g2,g3,g4,g5,g6,o0,o1,o2,h11,hzi]
   refine tail _ rid ⟨by(simp -implicitDefEqProofs only[wL,seval,g1]),by(simp -implicitDefEqProofs only[wL,seval,g2]),by(simp -implicitDefEqProofs only[wL,seval,g3]),by(simp -implicitDefEqProofs only[wL,seval,g4]),by(simp -implicitDefEqProofs only[wL,seval,g5]),by(simp only[wM];(repeat first|rw[if_pos trivial]|rw[if_pos rfl]|rw[if_neg o_]));exact o0,by(simp only[wM];(repeat first|rw[if_pos trivial]|rw[if_pos rfl]|rw[if_neg o_]));exact o1,by(simp only[wM];(repeat first|rw[if_pos trivial]|rw[if_pos rfl]|rw[if_neg o_]));exact h11,by(simp only[wM];(repeat first|rw[if_pos trivial]|rw[if_pos rfl]|rw[if_neg o_]));exact o2,⟨by(simp only[wM];(repeat first|rw[if_pos trivial]|rw[if_pos rfl]|rw[if_neg o_]));exact hr,wg_,fun k hk=>Gr.nil,fun k hk=>.nil,fun j k _ _ _=>Sep.slL,fun k _=>by simp⟩,o_,o_,o_,o_⟩
end Go.Proofs
