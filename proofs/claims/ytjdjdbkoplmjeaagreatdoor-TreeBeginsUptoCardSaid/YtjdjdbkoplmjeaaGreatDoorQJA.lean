/- Part of a proof that a law of the given program answers true. -/
import Derived.Test.YtjdjdbkoplmjeaaGreatDoorQGC
set_option linter.unusedSimpArgs false
set_option linter.unusedVariables false
set_option maxHeartbeats 4000000
namespace Go.Proofs
open Go.E
theorem qe6 {H:Nat→Option MObj} {id z n:Nat} {es es':List V} {ro:Bool} (hH:H id=some (.own z es ro)) (he:ErL true H es es') (hn:es.length=n):Er true H (.msl id z 0 n) (.sl z false es'):=by
 obtain ⟨h1,h2⟩:=he.get
 refine .msl id z 0 n es ro es' rfl hH o_ o_ fun i c c' h3 h4=>?_
 rw[Nat.zero_add]at h3
 exact h2 i c c' h3 h4
theorem Gr.ok {H:Nat→Option MObj} {next z:Nat} {es:List V} {v:V} (h:Gr H next z es v):v.cells=[v]∧v.okCell=true∧v.isAgg=false:=by
 rcases h with rfl|⟨id,f,rfl,_⟩<;>exact⟨rfl,rfl,rfl⟩
def DI (H:Nat→Option MObj) (next:Nat) (v:V) (out:List Decl):Prop:=
 (out=[]∧v=.sl 4 true [])∨ ∃id es k vS ss,∃(o:List Decl) (sy:List Sym),v=.msl id 4 0 (es.length+1)∧H id=some (.own 4 (es++[.agg [vi k,.str [],vS,vi 0]]) false)∧id<next∧Gr H next 4 ss vS∧Xu es (o.map Decl.V)∧Xu ss (sy.map Sym.V)∧out=o++[{kind:=k,syms:=sy}]∧es.length≤4∧ss.length≤4
theorem DI.mono {H H':Nat→Option MObj} {next next':Nat} {v:V} {out:List Decl} (h:DI H next v out) (hn:next≤next') (hH: ∀j,j<next→H' j=H j):DI H' next' v out:=by
 rcases h with h|⟨id,es,k,vS,ss,o,sy,h1,h2,h3,h4,h5⟩
 · exact Or.inl h
 · exact Or.inr ⟨id,es,k,vS,ss,o,sy,h1,by rw[hH id h3];exact h2,o_,h4.mono hn (fun j _ hj=>hH j hj),h5⟩

structure GrI where
 nons:Int:=0
 rules:List (List Int):=[]
 levels:List Int:=[]
 inner:List Int:=[]
 bare:Bool:=false
 deriving DecidableEq,Inhabited
abbrev Xm (l:List Int):V:= .sl 1 false (l.map (V.int .i64))
@[reducible] def GrI.V (x:GrI):V:= .agg [vi x.nons,.sl 1 false (x.rules.map Xm),Xm x.levels,Xm x.inner,.bool x.bare]
def qKh:List UInt8:=[101,114,114,111,114]
theorem getD_some {α:Type} {l:List α} {i:Nat} {d:α} (h:i<l.length):l[i]?=some (l.getD i d):=by rw[List.getD_eq_getElem?_getD,ge_ h];rfl
structure AltAt (s:St) (s0:St) (a:Nat) (ps:List Part) (pl:Bool):Prop where
 ex: ∃vP es,s.H a=some (.own 6 [.agg [vP,.str [],.bool false,vi 0,vi 0,vi 0]] false)∧Gr s.H s.next 6 es vP∧Xu es (ps.map Part.V)∧ ∀j,gid vP=some j→s0.next≤j
 pl:s.f 10=.bool pl
 fr: ∀t,t<10→s.f t=s0.f t
 hp: ∀j,j<s0.next→j≠a→s.H j=s0.H j
 nx:s0.next≤s.next

@[reducible] def qKp (vA:Nat→V) (k:Nat):V:= .agg [.str (qJ7 k),vA k,vi 0]
def qKg (n:Nat) (vA:Nat→V):List V:=(List.range n).map (qKp vA)
def yB (n:Nat) (h:Nat→Bool):List V:=(List.range n).map fun k=>V.bool (h k)
theorem vE (n:Nat) (h:Nat→Bool):(yB n h).length=n:=by simp[yB]
theorem jR {n k:Nat} {h:Nat→Bool} (hk:k<n):(yB n h)[k]?=some (.bool (h k)):=by simp[yB,hk]
theorem qf8 {n k:Nat} {h:Nat→Bool} {v:Bool} (hk:k<n):(yB n h).set k (.bool v)=yB n (qM h k v):=by
 refine List.ext_getElem? fun i=>?_
 rw[List.getElem?_set]
 by_cases hi:i<n
 · rw[jR hi,vE,jR hi]
   by_cases e:k=i
   · subst e;simp[hi,qM]
   · simp[e,qM,Ne.symm e]
 · rw[List.getElem?_eq_none (by rw[vE];omega),List.getElem?_eq_none (by rw[vE];omega)]
   rw[vE];simp;omega
theorem qex (n:Nat):List.replicate n (V.bool false)=yB n (fun _=>false):=by
 refine List.ext_getElem? fun i=>?_
 by_cases h:i<n
 · rw[jR h];simp[h]
 · rw[List.getElem?_eq_none (by simp;omega),List.getElem?_eq_none (by rw[vE];omega)]
theorem ldB {K:V→Prop} {nn k:Nat} {S:Nat→Bool} {ro:Bool} (h:k<nn) (hk:K (.bool (S k))):onS (ldQ (some (.own 1 (yB nn S) ro)) false 1 k 0) K:=by
 have e:ldQ (some (.own 1 (yB nn S) ro)) false 1 k 0=some (.bool (S k)):=by simp[ldQ,jR h,jv,V.isAgg]
 rw[e];exact hk
theorem stB {K:St→Prop} {s:St} {nn k id:Nat} {x:Bool} {S:Nat→Bool} (h:k<nn) (hk:K (s.setO id (some (.own 1 (yB nn (qM S k x)) false)))):onS (stQ s (some (.own 1 (yB nn S) false)) 1 id k 0 (.bool x)) K:=by
 have e:stQ s (some (.own 1 (yB nn S) false)) 1 id k 0 (.bool x)=some (s.setO id (some (.own 1 (yB nn (qM S k x)) false))):=by
  rw[← qf8 h]
  simp[stQ,jR h,V.cells,V.okCell,zV,V.isAgg]
 rw[e];exact hk
structure RW (H:Nat→Option MObj) (next rid n:Nat) (vA:Nat→V) (als:Nat→List V) (alts:Nat→List Alt):Prop where
 ho:H rid=some (.own 3 (qKg n vA) false)
 lr:rid<next
 gr: ∀k,k<n→Gr H next 6 (als k) (vA k)
 ep: ∀k,k<n→Xu (als k) ((alts k).map Alt.V)
 sep: ∀j k,j<n→k<n→j≠k→Sep (vA j) (vA k)
 len: ∀k,k<n→(als k).length≤100
theorem RW.mono {H H':Nat→Option MObj} {next next' rid n:Nat} {vA:Nat→V} {als:Nat→List V} {alts:Nat→List Alt} (h:RW H next rid n vA als alts) (hn:next≤next') (hr:H' rid=H rid) (hH: ∀k,k<n→ ∀j,gid (vA k)=some j→j<next→H' j=H j):RW H' next' rid n vA als alts:=
 ⟨by rw[hr];exact h.ho,by have:=h.lr;omega,fun k hk=>(h.gr k hk).mono hn (hH k hk),h.ep,h.sep,h.len⟩
theorem RW.ne {H:Nat→Option MObj} {next rid n:Nat} {vA:Nat→V} {als:Nat→List V} {alts:Nat→List Alt} (h:RW H next rid n vA als alts) {j:Nat} (hj: ∀f,H j≠some (.tok f)) {k:Nat} (hk:k<n):gid (vA k)≠some j:=(h.gr k hk).ne hj
theorem RW.put {H H':Nat→Option MObj} {next next' rid n k id:Nat} {vA:Nat→V} {als:Nat→List V} {alts:Nat→List Alt} {v:V} {a:Alt} (h:RW H next rid n vA als alts) (hk:k<n) (hv:ErP v a.V)
 (hl:(als k).length<100) (hid:next≤id) (hid2:id<next') (hr:H' rid=some (.own 3 (qKg n (qM vA k (.asl id ((als k).length+1) 6 (als k++[v])))) false)) (ht:H' id=some (.tok ((als k).length+1)))
 (hH: ∀q,q<n→q≠k→ ∀j,gid (vA q)=some j→j<next→H' j=H j):
 RW H' next' rid n (qM vA k (.asl id ((als k).length+1) 6 (als k++[v]))) (qM als k (als k++[v])) (qM alts k (alts k++[a])):=by
 refine⟨hr,by have:=h.lr;omega,fun q hq=>?_,fun q hq=>?_,fun j q hj hq hjq=>?_,fun q hq=>?_⟩
 · unfold qM
   by_cases e:q=k
   · subst e;simp only[if_true];exact Gr.tok ht hid2
   · simp only[if_neg e];exact(h.gr q hq).mono o_ (hH q hq e)
 · unfold qM
   by_cases e:q=k
   · subst e;simp only[if_true];rw[List.map_append];exact(h.ep q hq).snoc hv
   · simp only[if_neg e];exact h.ep q hq
 · unfold qM
   by_cases e:j=k
   · subst e;simp only[if_true,if_neg (Ne.symm hjq)];exact Sep.newL (h.gr q hq) hid
   · by_cases e2:q=k
     · subst e2;simp only[if_true,if_neg hjq];exact Sep.newR (h.gr j hj) hid
     · simp only[if_neg e,if_neg e2];exact h.sep j q hj hq hjq
 · unfold qM
   by_cases e:q=k
   · subst e;simp only[if_true,List.length_append,List.length_cons,List.length_nil];omega
   · simp only[if_neg e];exact h.len q hq

abbrev qKz:V:= .agg [.str [],.sl 4 true [],.sl 3 true [],.str []]
structure SrcAt (s:St) (x:GrI) (n xb rb sb hb rid:Nat) (dV:V) (vA:Nat→V) (als:Nat→List V) (q:(Nat→List Alt)×(Nat→Bool)):Prop where
 f1:s.f 1=.ptr xb 0 0
 f2:s.f 2=.ptr rb 0 0
 f3:s.f 3=vi n
 f4:s.f 4=.ptr sb 0 0
 f5:s.f 5=.msl hb 1 0 n
 hx:s.H xb=some (.own 5 [x.V] false)
 hr:s.H rb=some (.own 4 [qKz] false)
 hs:s.H sb=some (.own 4 [.agg [.str [],dV,.msl rid 3 0 n,.str []]] false)
 hh:s.H hb=some (.own 1 (yB n q.2) false)
 rw:RW s.H s.next rid n vA als q.1
 o1:xb<rb
 o2:rb<sb
 o3:sb<hb
 o4:hb<rid
theorem SrcAt.mono {s s':St} {x:GrI} {n xb rb sb hb rid:Nat} {dV:V} {vA:Nat→V} {als:Nat→List V} {q:(Nat→List Alt)×(Nat→Bool)} (h:SrcAt s x n xb rb sb hb rid dV vA als q)
 (hf: ∀t,1≤t→t≤5→s'.f t=s.f t) (hn:s.next≤s'.next) (hH: ∀j,j<s.next→s'.H j=s.H j):SrcAt s' x n xb rb sb hb rid dV vA als q:=by
 have:=h.rw.lr;have o1:=h.o1;have o2:=h.o2;have o3:=h.o3;have o4:=h.o4
 exact⟨by rw[hf 1 o_ o_];exact h.f1,by rw[hf 2 o_ o_];exact h.f2,by rw[hf 3 o_ o_];exact h.f3,by rw[hf 4 o_ o_];exact h.f4,by rw[hf 5 o_ o_];exact h.f5,
  by rw[hH _ o_];exact h.hx,by rw[hH _ o_];exact h.hr,by rw[hH _ o_];exact h.hs,by rw[hH _ o_];exact h.hh,h.rw.mono hn (hH _ o_) (fun k _ j _ hj=>hH j hj),o1,o2,o3,o4⟩

theorem _root_.Go.E.ErL.map {α:Type} {b:Bool} {H:Nat→Option MObj} {f g:α→V} {l:List α} (h: ∀x∈l,Er b H (f x) (g x)):ErL b H (l.map f) (l.map g):=by
 induction l with
 |nil=>exact .nil
 |cons a l ih=>exact .cons (h a (by simp)) (ih fun x hx=>h x (List.mem_cons_of_mem _ hx))

instance grI_cl (x:GrI):Cl x.V:=⟨fun b H=>ErL.agg (.cons (.int _ _) (.cons qg (.cons qg (.cons qg (.cons (.bool _) .nil)))))⟩
end Go.Proofs
