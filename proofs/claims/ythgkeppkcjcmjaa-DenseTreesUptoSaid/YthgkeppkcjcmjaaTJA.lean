/- Part of a proof that a law of the given program answers true. -/
import Derived.Test.YthgkeppkcjcmjaaTPF
set_option linter.unusedSimpArgs false
set_option linter.unusedVariables false
set_option maxHeartbeats 4000000
namespace Go.Proofs
open Go.E
theorem VA {H:Nat→Option MObj} {id z n:Nat} {es es':List V} {ro:Bool} (hH:H id=some (.own z es ro)) (he:ErL true H es es') (hn:es.length=n):Er true H (.msl id z 0 n) (.sl z false es'):=by
 obtain ⟨h1,h2⟩:=he.get
 refine .msl id z 0 n es ro es' rfl hH o_ o_ fun i c c' h3 h4=>?_
 rw[Nat.zero_add]at h3
 exact h2 i c c' h3 h4
theorem qKZ {K:V→Prop} {k z off:Nat} {es cs:List V} {ro:Bool} {c:V} (hx:es[k]?=some (.agg cs)) (hc:cs[off]?=some c) (hk:K c):onS (ldQ (some (.own z es ro)) false 1 k off) K:=by
 have e:ldQ (some (.own z es ro)) false 1 k off=some c:=by
  simp only[ldQ,hx,zX]
  rw[if_neg (by simp[V.isAgg])]
  simp[Qr,V.cells,hc]
 rw[e];exact hk
theorem qtM {K:St→Prop} {s:St} {id k z off:Nat} {es cs:List V} {v:V} (hx:es[k]?=some (.agg cs)) (hv:v.cells=[v]) (hc:v.okCell=true) (ha:v.isAgg=false) (ho:off<cs.length)
 (hk:K (s.setO id (some (.own z (es.set k (.agg (cs.set off v))) false)))):onS (stQ s (some (.own z es false)) 1 id k off v) K:=by
 have e0:zZ 1 z (.agg cs) v off=some (.agg (cs.set off v)):=by
  unfold zZ
  rw[if_neg (by rw[ha];simp[V.isAgg])]
  cases v<;>simp_all [V.isAgg]
 have e:stQ s (some (.own z es false)) 1 id k off v=some (s.setO id (some (.own z (es.set k (.agg (cs.set off v))) false))):=by
  simp only[stQ,hx,e0,hv,hc,List.length_singleton,and_self,if_true,Option.map_some]
 rw[e];exact hk
theorem VG {K:St→Prop} {s:St} {id k z off:Nat} {es cs:List V} {v:V} {o:Option MObj} (hO:o=some (.own z es false)) (hx:es[k]?=some (.agg cs)) (hv:v.cells=[v]) (hc:v.okCell=true) (ha:v.isAgg=false) (ho:off<cs.length)
 (hk:K (s.setO id (some (.own z (es.set k (.agg (cs.set off v))) false)))):onS (stQ s o 1 id k off v) K:=by subst hO;exact qtM hx hv hc ha ho hk
theorem X3 {K:V→Prop} {k z off:Nat} {es cs:List V} {ro:Bool} {c:V} {o:Option MObj} (hO:o=some (.own z es ro)) (hx:es[k]?=some (.agg cs)) (hc:cs[off]?=some c) (hk:K c):onS (ldQ o false 1 k off) K:=by subst hO;exact qKZ hx hc hk
theorem Gr.ok {H:Nat→Option MObj} {next z:Nat} {es:List V} {v:V} (h:Gr H next z es v):v.cells=[v]∧v.okCell=true∧v.isAgg=false:=by
 rcases h with rfl|⟨id,f,rfl,_⟩<;>exact⟨rfl,rfl,rfl⟩
def DI (H:Nat→Option MObj) (next:Nat) (v:V) (out:List Decl):Prop:=
 (out=[]∧v=.sl 4 true [])∨ ∃id es k vS ss,∃(o:List Decl) (sy:List Sym),v=.msl id 4 0 (es.length+1)∧H id=some (.own 4 (es++[.agg [vi k,.str [],vS,vi 0]]) false)∧id<next∧Gr H next 4 ss vS∧QM es (o.map Decl.V)∧QM ss (sy.map Sym.V)∧out=o++[{kind:=k,syms:=sy}]∧es.length≤4∧ss.length≤4
theorem DI.mono {H H':Nat→Option MObj} {next next':Nat} {v:V} {out:List Decl} (h:DI H next v out) (hn:next≤next') (hH: ∀j,j<next→H' j=H j):DI H' next' v out:=by
 rcases h with h|⟨id,es,k,vS,ss,o,sy,h1,h2,h3,h4,h5⟩
 · exact Or.inl h
 · exact Or.inr ⟨id,es,k,vS,ss,o,sy,h1,by rw[hH id h3];exact h2,o_,h4.mono hn (fun j _ hj=>hH j hj),h5⟩

structure GrI where
 nons:Int:=0
 rules:List (List Int):=[]
 levels:List Int:=[]
 inner:List Int:=[]
 bare:Bool:=false
 deriving DecidableEq,Inhabited
abbrev Jp (l:List Int):V:= .sl 1 false (l.map (V.int .i64))
@[reducible] def GrI.V (x:GrI):V:= .agg [vi x.nons,.sl 1 false (x.rules.map Jp),Jp x.levels,Jp x.inner,.bool x.bare]
theorem getD_some {α:Type} {l:List α} {i:Nat} {d:α} (h:i<l.length):l[i]?=some (l.getD i d):=by rw[List.getD_eq_getElem?_getD,ge_ h];rfl
structure AltAt (s:St) (s0:St) (a:Nat) (ps:List Part) (pl:Bool):Prop where
 ex: ∃vP es,s.H a=some (.own 6 [.agg [vP,.str [],.bool false,vi 0,vi 0,vi 0]] false)∧Gr s.H s.next 6 es vP∧QM es (ps.map Part.V)∧ ∀j,gid vP=some j→s0.next≤j
 pl:s.f 10=.bool pl
 fr: ∀t,t<10→s.f t=s0.f t
 hp: ∀j,j<s0.next→j≠a→s.H j=s0.H j
 nx:s0.next≤s.next

def ZO (n:Nat) (h:Nat→Bool):List V:=(List.range n).map fun k=>V.bool (h k)
theorem ve (n:Nat) (h:Nat→Bool):(ZO n h).length=n:=by simp[ZO]
theorem Zn {n k:Nat} {h:Nat→Bool} (hk:k<n):(ZO n h)[k]?=some (.bool (h k)):=by simp[ZO,hk]
theorem qhG {n k:Nat} {h:Nat→Bool} {v:Bool} (hk:k<n):(ZO n h).set k (.bool v)=ZO n (zi h k v):=by
 refine List.ext_getElem? fun i=>?_
 rw[List.getElem?_set]
 by_cases hi:i<n
 · rw[Zn hi,ve,Zn hi]
   by_cases e:k=i
   · subst e;simp[hi,zi]
   · simp[e,zi,Ne.symm e]
 · rw[List.getElem?_eq_none (by rw[ve];omega),List.getElem?_eq_none (by rw[ve];omega)]
   rw[ve];simp;omega
theorem qjE (n:Nat):List.replicate n (V.bool false)=ZO n (fun _=>false):=by
 refine List.ext_getElem? fun i=>?_
 by_cases h:i<n
 · rw[Zn h];simp[h]
 · rw[List.getElem?_eq_none (by simp;omega),List.getElem?_eq_none (by rw[ve];omega)]
theorem ldB {K:V→Prop} {nn k:Nat} {S:Nat→Bool} {ro:Bool} (h:k<nn) (hk:K (.bool (S k))):onS (ldQ (some (.own 1 (ZO nn S) ro)) false 1 k 0) K:=by
 have e:ldQ (some (.own 1 (ZO nn S) ro)) false 1 k 0=some (.bool (S k)):=by simp[ldQ,Zn h,zX,V.isAgg]
 rw[e];exact hk
theorem stB {K:St→Prop} {s:St} {nn k id:Nat} {x:Bool} {S:Nat→Bool} (h:k<nn) (hk:K (s.setO id (some (.own 1 (ZO nn (zi S k x)) false)))):onS (stQ s (some (.own 1 (ZO nn S) false)) 1 id k 0 (.bool x)) K:=by
 have e:stQ s (some (.own 1 (ZO nn S) false)) 1 id k 0 (.bool x)=some (s.setO id (some (.own 1 (ZO nn (zi S k x)) false))):=by
  rw[← qhG h]
  simp[stQ,Zn h,V.cells,V.okCell,zZ,V.isAgg]
 rw[e];exact hk


theorem _root_.Go.E.ErL.map {α:Type} {b:Bool} {H:Nat→Option MObj} {f g:α→V} {l:List α} (h: ∀x∈l,Er b H (f x) (g x)):ErL b H (l.map f) (l.map g):=by
 induction l with
 |nil=>exact .nil
 |cons a l ih=>exact .cons (h a (by simp)) (ih fun x hx=>h x (List.mem_cons_of_mem _ hx))

end Go.Proofs
