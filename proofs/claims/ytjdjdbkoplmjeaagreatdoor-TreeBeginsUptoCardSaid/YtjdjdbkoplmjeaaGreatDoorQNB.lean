/- Part of a proof that a law of the given program answers true. -/
import Derived.Test.YtjdjdbkoplmjeaaGreatDoorQNA
import Derived.Test.YtjdjdbkoplmjeaaGreatDoorQWA
set_option maxRecDepth 20000
set_option linter.unusedSimpArgs false
set_option linter.unusedVariables false
set_option maxHeartbeats 4000000
namespace Go.Proofs
open Go.E
theorem qqJ {P:Program} [Glob P] {cls:Cls} {id:Nat} {s:St} {K:V→St→Prop} {n:Nat} {os:List Opd} {f:FuncId} {caps vs:List V} (h:s.f n=.fn f caps) (hc:cls=.any) (hv:os.map (ev s)=vs)
 (hE:qJ P f (vs++caps) s.H s.next fun v H' next'=>K v {s with H:=H',next:=next'}):qc P cls id s K (.call (.t n) os):=by
 subst hc hv
 show (match s.f n with|.fn fid caps=>_ | _=>False)
 rw[h]
 exact Or.inr ⟨rfl,hE.mono fun _ _ _ hk=>⟨trivial,hk⟩⟩
mutual
def Nd.walkF {σ:Type} (step:σ→Nd→σ) (x:σ):Nd→σ
 |.mk s p a ks=>step (if p= -1 then x else Nd.walkFs step x ks) (.mk s p a ks)
def Nd.walkFs {σ:Type} (step:σ→Nd→σ) (x:σ):List Nd→σ
 |[]=>x
 |k::r=>Nd.walkFs step (Nd.walkF step x k) r
end
theorem Nd.walkFs_snoc {σ:Type} (step:σ→Nd→σ): ∀(l:List Nd) (x:σ) (k:Nd),Nd.walkFs step x (l++[k])=Nd.walkF step (Nd.walkFs step x l) k
 |[],x,k=>by rw[List.nil_append,Nd.walkFs,Nd.walkFs,Nd.walkFs]
 |a::r,x,k=>by rw[List.cons_append,Nd.walkFs,Nd.walkFs,Nd.walkFs_snoc step r]
def YZ (H:Nat→Option MObj) (j:Nat):Prop:= ∃sz l ro,H j=some (.own sz l ro)
structure Over {σ:Type} (f:FuncId) (caps:List V) (lo:Nat) (I:σ→(Nat→Option MObj)→Nat→Prop) (step:σ→Nd→σ) (m:σ→Nat):Prop where
 call: ∀(x:σ) (t:Nd) (H:Nat→Option MObj) (next:Nat),I x H next→m x≤1000000000000→qJ Tryz.prog f ([t.V]++caps) H next (fun v H' n'=>next≤n'∧I (step x t) H' n'∧ ∀j,j<next→j≠lo→YZ H j→H' j=H j)
 mono: ∀(x:σ) (H H':Nat→Option MObj) (next next':Nat),I x H next→next≤next'→(∀j,j<next→H' j=H j)→I x H' next'
 m1: ∀x t,m (step x t)≤m x+1
 lo: ∀x H next,I x H next→lo<next
mutual
theorem Over.bd {σ:Type} {step:σ→Nd→σ} {m:σ→Nat} (h: ∀x t,m (step x t)≤m x+1): ∀(t:Nd) (x:σ),m (Nd.walkF step x t)≤m x+t.size
 | .mk s p a ks,x=>by
   have h1:=Over.bds h ks x
   rw[Nd.walkF,Nd.size]
   have h2:=h (if p= -1 then x else Nd.walkFs step x ks) (.mk s p a ks)
   split at h2<;>rename_i hp
   · rw[if_pos hp];omega
   · rw[if_neg hp];omega
theorem Over.bds {σ:Type} {step:σ→Nd→σ} {m:σ→Nat} (h: ∀x t,m (step x t)≤m x+1): ∀(l:List Nd) (x:σ),m (Nd.walkFs step x l)≤m x+Nd.sizes l
 |[],x=>by rw[Nd.walkFs,Nd.sizes];exact Nat.le_refl _
 | k::r,x=>by
   have h1:=Over.bd h k x
   have h2:=Over.bds h r (Nd.walkF step x k)
   rw[Nd.walkFs,Nd.sizes];omega
end
theorem qd4 {σ:Type} {f:FuncId} {caps:List V} {lo:Nat} {I:σ→(Nat→Option MObj)→Nat→Prop} {step:σ→Nd→σ} {m:σ→Nat} {H:Nat→Option MObj} {next:Nat} {y p a:Int} {ks:List Nd} {x:σ} (hO:Over f caps lo I step m) (ih: ∀k∈ks,∀x H next,I x H next→m x+k.size≤1000000000000→qJ Tryz.prog 59 [k.V,.fn f caps] H next (fun v H' n'=>next≤n'∧I (Nd.walkF step x k) H' n'∧ ∀j,j<next→j≠lo→YZ H j→H' j=H j)) (hI:I x H next) (hm:m x+(Nd.mk y p a ks).size≤1000000000000):qJ Tryz.prog 59 [(Nd.mk y p a ks).V,.fn f caps] H next (fun v H' n'=>next≤n'∧I (Nd.walkF step x (.mk y p a ks)) H' n'∧ ∀j,j<next→j≠lo→YZ H j→H' j=H j):=by
 refine qF Tryz.func59 nm_ qvs (by show 2≤23;decide) ?_
 show ewp _ qii _ _
 have hsz:m x+Nd.sizes ks≤1000000000000:=by rw[Nd.size]at hm;omega
 have hkl:=Nd.sizes_len ks
 have hlo:=hO.lo _ _ _ hI
 rw[Nd.V_mk]
 by_cases hp:p= -1
 · subst hp
   have e:Nd.walkF step x (.mk y (-1) a ks)=step x (.mk y (-1) a ks):=by rw[Nd.walkF,if_pos rfl]
   rw[e]
   repeat' with_reducible first
    |refine s_ ?_
    |simp -implicitDefEqProofs only[wZZ,seval]
    |(refine qqJ (f:=f) (caps:=caps) (vs:=[(Nd.mk y (-1) a ks).V]) (by(simp -implicitDefEqProofs only[wL,seval])) rfl (by rw[Nd.V_mk];simp only[List.map_cons,List.map_nil,Kt];(simp -implicitDefEqProofs only[wL,seval])) ((hO.call x _ _ _ (hO.mono _ _ _ _ _ hI wg_ (fun j hj=>hh_)) o_).mono ?_);rintro v1 H1 n1' ⟨q1,q2,q3⟩)
    |refine t_ ?_
   (try simp only[wN]at q1)
   refine yJ rfl (Or.inl rfl) ⟨wg_,q2,fun j hj hne hown=>?_⟩
   have:=q3 j wg_ hne (by obtain ⟨a1,a2,a3,a4⟩:=hown;exact⟨a1,a2,a3,by((try simp only[wM]);(repeat first|rw[if_pos trivial]|rw[if_pos rfl]|rw[if_neg o_]));exact a4⟩)
   ((try simp only[wM]);(repeat first|rw[if_pos trivial]|rw[if_pos rfl]|rw[if_neg o_]))
   rw[this]
   ((try simp only[wM]);(repeat first|rw[if_pos trivial]|rw[if_pos rfl]|rw[if_neg o_]))
 · have e:Nd.walkF step x (.mk y p a ks)=step (Nd.walkFs step x ks) (.mk y p a ks):=by rw[Nd.walkF,if_neg hp]
   have hmx:=Over.bds hO.m1 ks x
   rw[e]
   repeat' with_reducible first
    |refine s_ ?_
    |simp -implicitDefEqProofs only[wZZ,seval]
    |apply qa<;>intro h h_<;>(try simp only[wD,reduceCtorEq]at h_)<;>(try exact wb_)<;>(try simp only[h])
    |refine t_ ?_
   refine qb ?nx1 (fun(i:Nat) s=>s.f 1=?v1_1∧s.f 2=?v1_2∧s.f 10=?v1_10∧s.f 11=?v1_11∧s.f 12=vi i∧(i≤ks.length)∧(I (Nd.walkFs step x (ks.take i)) s.H s.next)∧((s.H next=some (MObj.own 4 [.agg [vi y,vi p,vi a,.sl 4 false (ks.map Nd.V)]] false)))∧((∀j,j<next→j≠lo→YZ H j→s.H j=H j))) (fun i=>ks.length - i) (0) wj_ (by refine⟨?_,?_,?_,?_,?_,wo_,(by exact hO.mono _ _ _ _ _ (by rw[List.take_zero,Nd.walkFs];exact hI) wg_ (fun j hj=>hh_)),hh_,(by intro j h1 h2 h3;((try simp only[wM]);(repeat first|rw[if_pos trivial]|rw[if_pos rfl]|rw[if_neg o_])))⟩<;>first|(simp -implicitDefEqProofs only[wL,wM,wN,wX,seval,Option.some.injEq]<;>exact wt_)|rfl|exact⟨_,rfl⟩) ?_
   intro i s hnx ⟨g1,g2,g10,g11,g12,k1_0,k1_1,k1_2,k1_3⟩
   have hz:=w1_ i
   by_cases hi:i<ks.length
   · have hgi:ks[i]?=some ks[i]:=ge_ hi
     have htk:ks.take (i+1)=ks.take i++[ks[i]]:=by rw[List.take_add_one,hgi];rfl
     have hih:=ih _ (List.getElem_mem hi)
     have hle2:Nd.sizes (ks.take (i+1))≤Nd.sizes ks:=Nd.sizes_take ks (i+1)
     have hb:=Over.bds hO.m1 (ks.take i) x
     rw[htk,Nd.sizes_snoc]at hle2
     have hst:=Nd.walkFs_snoc step (ks.take i) x ks[i]
     rw[← htk]at hst
     generalize ks[i]=k at *
     have hkV:k.V=.agg [vi k.sym,vi k.prod,vi k.at_,.sl 4 false (k.kids.map Nd.V)]:=by obtain ⟨k1,k2,k3,k4⟩:=k;rw[Nd.V_mk]
     simp only[hkV]at hih
     repeat' with_reducible first
      |refine s_ ?_
      |simp -implicitDefEqProofs only[wZZ,seval,g1,g2,g10,g11,g12,hz,hkV,k1_2]
      |apply qa<;>intro h h_<;>(try simp only[wD,reduceCtorEq]at h_)<;>(try exact wb_)<;>(try simp only[h])
      |refine t_ ?_
      |(refine qI rfl rfl rfl ((hih _ _ _ (hO.mono _ _ _ _ _ k1_1 wg_ (fun j hj=>hh_)) o_).mono ?_);rintro v1 H1 n1' ⟨q1,q2,q3⟩;(try simp only[wN]at q1))
     have q3': ∀j,j<s.next→j≠lo→YZ s.H j→H1 j=s.H j:=fun j h1 h2 h3=>by
      rw[q3 j wg_ h2 (by obtain ⟨a1,a2,a3,a4⟩:=h3;exact⟨a1,a2,a3,by((try simp only[wM]);(repeat first|rw[if_pos trivial]|rw[if_pos rfl]|rw[if_neg o_]));exact a4⟩)]
      ((try simp only[wM]);(repeat first|rw[if_pos trivial]|rw[if_pos rfl]|rw[if_neg o_]))
     refine⟨wg_,i+1,o_,?_⟩;(repeat refine⟨True.intro,?_⟩);refine⟨rfl,o_,?_,?_,fun j h1 h2 h3=>?_⟩
     · rw[hst];exact hO.mono _ _ _ _ _ q2 wg_ (fun j hj=>hh_)
     · ((try simp only[wM]);(repeat first|rw[if_pos trivial]|rw[if_pos rfl]|rw[if_neg o_]));rw[q3' next o_ o_ ⟨_,_,_,k1_2⟩];exact k1_2
     · ((try simp only[wM]);(repeat first|rw[if_pos trivial]|rw[if_pos rfl]|rw[if_neg o_]))
       have:=k1_3 j h1 h2 h3
       rw[q3' j o_ h2 (by obtain ⟨a1,a2,a3,a4⟩:=h3;exact⟨a1,a2,a3,this.trans a4⟩)];exact this
   · have et:ks.take i=ks:=List.take_of_length_le o_
     rw[et]at k1_1
     repeat' with_reducible first
      |refine s_ ?_
      |simp -implicitDefEqProofs only[wZZ,seval,g1,g2,g10,g11,g12,k1_2]
      |apply qa<;>intro h h_<;>(try simp only[wD,reduceCtorEq]at h_)<;>(try exact wb_)<;>(try simp only[h])
      |(refine qqJ (f:=f) (caps:=caps) (vs:=[(Nd.mk y p a ks).V]) (by(simp -implicitDefEqProofs only[wL,seval])) rfl (by rw[Nd.V_mk];simp only[List.map_cons,List.map_nil,Kt];(simp -implicitDefEqProofs only[wL,seval])) ((hO.call _ _ _ _ (hO.mono _ _ _ _ _ k1_1 wg_ (fun j hj=>hh_)) o_).mono ?_);rintro v1 H1 n1' ⟨q1,q2,q3⟩)
      |refine t_ ?_
     (try simp only[wN]at q1)
     refine yJ rfl (Or.inl rfl) ⟨wg_,q2,fun j h1 h2 h3=>?_⟩
     have h4:=k1_3 j h1 h2 h3
     have:=q3 j wg_ h2 (by obtain ⟨a1,a2,a3,a4⟩:=h3;exact⟨a1,a2,a3,by((try simp only[wM]);(repeat first|rw[if_pos trivial]|rw[if_pos rfl]|rw[if_neg o_]));exact h4.trans a4⟩)
     ((try simp only[wM]);(repeat first|rw[if_pos trivial]|rw[if_pos rfl]|rw[if_neg o_]))
     rw[this]
     ((try simp only[wM]);(repeat first|rw[if_pos trivial]|rw[if_pos rfl]|rw[if_neg o_]))
     exact h4
theorem Zn {σ:Type} {f:FuncId} {caps:List V} {lo:Nat} {I:σ→(Nat→Option MObj)→Nat→Prop} {step:σ→Nd→σ} {m:σ→Nat} (hO:Over f caps lo I step m): ∀(n:Nat) (t:Nd) (x:σ) (H:Nat→Option MObj) (next:Nat),t.size≤n→I x H next→m x+t.size≤1000000000000→qJ Tryz.prog 59 [t.V,.fn f caps] H next (fun v H' n'=>next≤n'∧I (Nd.walkF step x t) H' n'∧ ∀j,j<next→j≠lo→YZ H j→H' j=H j)
 |0,t,_,_,_,h,_,_=>by have:=t.size_pos;omega
 |n+1,.mk s p a ks,x,H,next,h,hI,hm=>qd4 hO (fun k hk x H next hI hm=>Zn hO n k x H next (by have:=Nd.size_kid (s:=s) (p:=p) (a:=a) hk;omega) hI hm) hI hm

mutual
def xk (H:Nat→Option MObj) (S:Nat→Prop):Nd→V→Prop
 |.mk s p a ks,v=> ∃kv,v=.agg [vi s,vi p,vi a,kv]∧((ks=[]∧kv=.sl 4 true [])∨ ∃id es,kv=.msl id 4 0 es.length∧S id∧H id=some (.own 4 es false)∧qX H S ks es)
def qX (H:Nat→Option MObj) (S:Nat→Prop):List Nd→List V→Prop
 |[],es=>es=[]
 |k::r,es=> ∃e es',es=e::es'∧xk H S k e∧qX H S r es'
end
mutual
theorem xk.mono {H H':Nat→Option MObj} {S S':Nat→Prop} (hh: ∀j,S j→S' j∧H' j=H j): ∀(t:Nd) (v:V),xk H S t v→xk H' S' t v
 | .mk s p a ks,v,h=>by
   rw[xk]at h ⊢
   obtain ⟨kv,e,h|⟨id,es,h1,h2,h3,h4⟩⟩:=h
   · exact⟨kv,e,Or.inl h⟩
   · exact⟨kv,e,Or.inr ⟨id,es,h1,(hh id h2).1,(hh id h2).2.trans h3,qX.mono hh ks es h4⟩⟩
theorem qX.mono {H H':Nat→Option MObj} {S S':Nat→Prop} (hh: ∀j,S j→S' j∧H' j=H j): ∀(l:List Nd) (es:List V),qX H S l es→qX H' S' l es
 |[],es,h=>by rw[qX]at h ⊢;exact h
 | k::r,es,h=>by
   rw[qX]at h ⊢
   obtain ⟨e,es',h1,h2,h3⟩:=h
   exact⟨e,es',h1,xk.mono hh k e h2,qX.mono hh r es' h3⟩
end
mutual
theorem xk.er {H:Nat→Option MObj} {S:Nat→Prop}: ∀(t:Nd) (v:V),xk H S t v→Er true H v t.V
 | .mk s p a ks,v,h=>by
   rw[xk]at h
   rw[Nd.V]
   obtain ⟨kv,rfl,⟨rfl,rfl⟩|⟨id,es,rfl,h2,h3,h4⟩⟩:=h
   · exact ErL.agg (.cons (.int _ _) (.cons (.int _ _) (.cons (.int _ _) (.cons (ErL.sl .nil) .nil))))
   · exact ErL.agg (.cons (.int _ _) (.cons (.int _ _) (.cons (.int _ _) (.cons (qe6 h3 (qX.er ks es h4) rfl) .nil))))
theorem qX.er {H:Nat→Option MObj} {S:Nat→Prop}: ∀(l:List Nd) (es:List V),qX H S l es→ErL true H es (Nd.Vs l)
 |[],es,h=>by rw[qX]at h;subst h;exact .nil
 | k::r,es,h=>by
   rw[qX]at h
   obtain ⟨e,es',rfl,h2,h3⟩:=h
   rw[Nd.Vs]
   exact .cons (xk.er k e h2) (qX.er r es' h3)
end
theorem qX.len {H:Nat→Option MObj} {S:Nat→Prop}: ∀{l:List Nd} {es:List V},qX H S l es→es.length=l.length
 |[],es,h=>by rw[qX]at h;subst h;rfl
 | k::r,es,h=>by
   rw[qX]at h
   obtain ⟨e,es',rfl,h2,h3⟩:=h
   rw[List.length_cons,List.length_cons,h3.len]
theorem qX.snoc {H:Nat→Option MObj} {S:Nat→Prop} {k:Nd} {e:V} (hk:xk H S k e): ∀{l:List Nd} {es:List V},qX H S l es→qX H S (l++[k]) (es++[e])
 | [],es,h=>by
   rw[qX]at h;subst h
   rw[List.nil_append,qX]
   exact⟨e,[],rfl,hk,by rw[qX]⟩
 | x::r,es,h=>by
   rw[qX]at h
   obtain ⟨e',es',rfl,h2,h3⟩:=h
   rw[List.cons_append,qX]
   exact⟨e',es'++[e],rfl,h2,qX.snoc hk h3⟩
theorem qX.rev {H:Nat→Option MObj} {S:Nat→Prop}: ∀{l:List Nd} {es:List V},qX H S l es→qX H S l.reverse es.reverse
 |[],es,h=>by rw[qX]at h;subst h;rw[List.reverse_nil,qX];rfl
 | k::r,es,h=>by
   rw[qX]at h
   obtain ⟨e,es',rfl,h2,h3⟩:=h
   rw[List.reverse_cons,List.reverse_cons]
   exact(qX.rev h3).snoc h2
theorem xk.shape {H:Nat→Option MObj} {S:Nat→Prop} {t:Nd} {v:V} (h:xk H S t v): ∃kv,v=.agg [vi t.sym,vi t.prod,vi t.at_,kv]∧kv.cells=[kv]∧kv.okCell=true∧kv.isAgg=false:=by
 obtain ⟨s,p,a,ks⟩:=t
 rw[xk]at h
 obtain ⟨kv,rfl,⟨rfl,rfl⟩|⟨id,es,rfl,h2,h3,h4⟩⟩:=h
 · exact⟨_,rfl,rfl,rfl,rfl⟩
 · exact⟨_,rfl,rfl,rfl,rfl⟩
def Is4 (v:V):Prop:=v.cells.length=4∧v.okCell=true∧v.isAgg=true
theorem xk.is4 {H:Nat→Option MObj} {S:Nat→Prop} {t:Nd} {v:V} (h:xk H S t v):Is4 v:=by
 obtain ⟨kv,rfl,h1,h2,h3⟩:=h.shape
 exact⟨rfl,by simp[V.okCell,h2],rfl⟩
theorem qX.is4 {H:Nat→Option MObj} {S:Nat→Prop}: ∀{l:List Nd} {es:List V},qX H S l es→ ∀e∈es,Is4 e
 |[],es,h=>by rw[qX]at h;subst h;intro e he;cases he
 | k::r,es,h=>by
   rw[qX]at h
   obtain ⟨e,es',rfl,h2,h3⟩:=h
   intro x hx
   rcases List.mem_cons.1 hx with rfl|hx
   · exact h2.is4
   · exact qX.is4 h3 x hx
theorem qgX {K:St→Prop} {s:St} {id k:Nat} {es:List V} {v:V} {o:Option MObj} (hO:o=some (.own 4 es false)) (hk:k<es.length) (hv:Is4 v) (ha: ∀e∈es,Is4 e)
 (hK:K (s.setO id (some (.own 4 (es.set k v) false)))):onS (stQ s o 4 id k 0 v) K:=by
 subst hO
 have e:es[k]?=some es[k]:=ge_ hk
 have e2:stQ s (some (.own 4 es false)) 4 id k 0 v=some (s.setO id (some (.own 4 (es.set k v) false))):=by
  simp[stQ,e,hv.1,hv.2.1,zV,hv.2.2,(ha _ (List.getElem_mem hk)).2.2]
 rw[e2];exact hK
theorem qhY {K:V→Prop} {k:Nat} {es:List V} {v:V} {o:Option MObj} (hO:o=some (.own 4 es false)) (hx:es[k]?=some v) (ha:Is4 v) (hk:K v):onS (ldQ o true 4 k 0) K:=by
 subst hO
 have e:ldQ (some (.own 4 es false)) true 4 k 0=some v:=by simp[ldQ,hx,jv,ha.2.2]
 rw[e];exact hk
theorem Is4.set {es:List V} {k:Nat} {v:V} (h: ∀e∈es,Is4 e) (hv:Is4 v): ∀e∈es.set k v,Is4 e:=fun e he=>by
 rcases List.mem_or_eq_of_mem_set he with he|rfl
 · exact h e he
 · exact hv
def qKC (es:List V) (i:Nat) (o:Option MObj):Prop:= ∃es':List V,o=some (.own 4 es' false)∧es'.length=es.length∧(∀e∈es',Is4 e)∧ ∀k,k<es.length→es'[k]?=if k<i∨es.length≤k+i then es[es.length - 1 - k]? else es[k]?
theorem qjU {H:Nat→Option MObj} {next:Nat}:qJ Tryz.prog 95 [.sl 4 true []] H next (fun v H' n'=>next≤n'∧ ∀j,j<next→H' j=H j):=by
 refine qF Tryz.func95 nm_ qh0 (by show 1≤28;decide) ?_
 show ewp _ qdV _ _
 repeat' with_reducible first
  |refine s_ ?_
  |refine s_ ?_
  |simp -implicitDefEqProofs only[wS,wT,wU,wV,wW,wX,wY,wC,wF,wG,wL,wM,wN,seval,Int.cast_ofNat_Int,Int.reduceLT,Int.reduceLE,Int.reduceEq,Int.reduceToNat,decide_true,decide_false,Bool.false_eq_true]
  |(refine qa (fun h h_=>?_) (fun h h_=>?_)<;>(try simp only[wD,reduceCtorEq]at h_)<;>(try(exfalso;first|omega|exact absurd (Eq.trans (Eq.symm h_) (by assumption):false=true) (by decide)|exact absurd (Eq.trans (Eq.symm h_) (by assumption):true=false) (by decide)|(refine absurd ?_ h_;focus assumption)|(refine absurd h_ ?_;focus assumption)))<;>(try simp only[h]))
  |refine t_ ?_
  |apply JS;omega;exact wd_
  |apply ZK;(focus(first|omega|(simp only[wZ]<;>omega)))
  |apply jZ;exact wu_;exact wu_;(focus((try simp -implicitDefEqProofs only[wE,Nat.reduceAdd]);rfl))
  |apply j4;exact wd_;exact wu_
  |apply zC;exact wu_
  |apply Qx;exact wf_;exact wu_;exact wu_;(focus(intro _;with_unfolding_all rfl))
  |apply zD;exact wu_;exact wu_;exact wu_
  |simp -implicitDefEqProofs (disch:=omega) only[w64,if_neg]
 refine qb ?nx1 (fun(i:Nat) s=>s.f 0=?v1_0∧s.f 2=vi 0∧s.f 3=vi (-1)∧((∀j,j<next→s.H j=H j))) (fun i=>0) (0) wj_ (by refine⟨?_,?_,?_,(by intro j hj;rfl)⟩<;>first|(simp -implicitDefEqProofs only[wL,wM,wN,wX,seval,Option.some.injEq]<;>exact wt_)|rfl|exact⟨_,rfl⟩) ?_
 intro i s hnx ⟨g0,g2,g3,k1_0⟩
 repeat' with_reducible first
  |refine s_ ?_
  |refine s_ ?_
  |simp -implicitDefEqProofs only[wS,wT,wU,wV,wW,wX,wY,wC,wF,wG,wL,wM,wN,seval,Int.cast_ofNat_Int,Int.reduceLT,Int.reduceLE,Int.reduceEq,Int.reduceToNat,decide_true,decide_false,Bool.false_eq_true,g0,g2,g3]
  |(refine qa (fun h h_=>?_) (fun h h_=>?_)<;>(try simp only[wD,reduceCtorEq]at h_)<;>(try(exfalso;first|omega|exact absurd (Eq.trans (Eq.symm h_) (by assumption):false=true) (by decide)|exact absurd (Eq.trans (Eq.symm h_) (by assumption):true=false) (by decide)|(refine absurd ?_ h_;focus assumption)|(refine absurd h_ ?_;focus assumption)))<;>(try simp only[h]))
  |refine t_ ?_
  |apply JS;omega;exact wd_
  |apply ZK;(focus(first|omega|(simp only[wZ]<;>omega)))
  |apply jZ;exact wu_;exact wu_;(focus((try simp -implicitDefEqProofs only[wE,Nat.reduceAdd]);rfl))
  |apply j4;exact wd_;exact wu_
  |apply zC;exact wu_
  |apply Qx;exact wf_;exact wu_;exact wu_;(focus(intro _;with_unfolding_all rfl))
  |apply zD;exact wu_;exact wu_;exact wu_
  |simp -implicitDefEqProofs (disch:=omega) only[w64,if_neg]
 exact yJ rfl (Or.inl rfl) ⟨wg_,fun j hj=>by((try simp only[wM]);(repeat first|rw[if_pos trivial]|rw[if_pos rfl]|rw[if_neg o_]));exact k1_0 j hj⟩
theorem qlf {H:Nat→Option MObj} {next id:Nat} {es:List V} (hH:H id=some (.own 4 es false)) (hl:es.length≤1000000000) (h4: ∀e∈es,Is4 e) (hid:id<next):qJ Tryz.prog 95 [.msl id 4 0 es.length] H next (fun v H' n'=>next≤n'∧H' id=some (.own 4 es.reverse false)∧ ∀j,j<next→j≠id→H' j=H j):=by
 refine qF Tryz.func95 nm_ qh0 (by show 1≤28;decide) ?_
 show ewp _ qdV _ _
 have hz0:IntKind.i64.wrap ((es.length:Int) - 1)=(es.length:Int) - 1:=wrap64 o_ o_
 repeat' with_reducible first
  |refine s_ ?_
  |refine s_ ?_
  |simp -implicitDefEqProofs only[wS,wT,wU,wV,wW,wX,wY,wC,wF,wG,wL,wM,wN,seval,Int.cast_ofNat_Int,Int.reduceLT,Int.reduceLE,Int.reduceEq,Int.reduceToNat,decide_true,decide_false,Bool.false_eq_true,hz0]
  |(refine qa (fun h h_=>?_) (fun h h_=>?_)<;>(try simp only[wD,reduceCtorEq]at h_)<;>(try(exfalso;first|omega|exact absurd (Eq.trans (Eq.symm h_) (by assumption):false=true) (by decide)|exact absurd (Eq.trans (Eq.symm h_) (by assumption):true=false) (by decide)|(refine absurd ?_ h_;focus assumption)|(refine absurd h_ ?_;focus assumption)))<;>(try simp only[h]))
  |refine t_ ?_
  |apply JS;omega;exact wd_
  |apply ZK;(focus(first|omega|(simp only[wZ]<;>omega)))
  |apply jZ;exact wu_;exact wu_;(focus((try simp -implicitDefEqProofs only[wE,Nat.reduceAdd]);rfl))
  |apply j4;exact wd_;exact wu_
  |apply zC;exact wu_
  |apply Qx;exact wf_;exact wu_;exact wu_;(focus(intro _;with_unfolding_all rfl))
  |apply zD;exact wu_;exact wu_;exact wu_
  |simp -implicitDefEqProofs (disch:=omega) only[w64,if_neg]
 refine qb ?nx1 (fun(i:Nat) s=>s.f 0=?v1_0∧s.f 2=vi i∧s.f 3=vi ((es.length:Int) - ((i+1:Nat):Int))∧(2 *i≤es.length)∧(qKC es i (s.H id))∧((∀j,j<next→j≠id→s.H j=H j))) (fun i=>es.length - i) (0) wj_ (by refine⟨?_,?_,?_,wo_,(by exact⟨es,hH,rfl,h4,fun k hk=>by rw[if_neg o_]⟩),(by intro j h1 h2;rfl)⟩<;>first|(simp -implicitDefEqProofs only[wL,wM,wN,wX,seval,Option.some.injEq]<;>exact wt_)|rfl|exact⟨_,rfl⟩) ?_
 intro i s hnx ⟨g0,g2,g3,k1_0,k1_1,k1_2⟩
 obtain ⟨es',k1,k2,k3,k4⟩:=k1_1
 have hz:=w1_ i
 have hz2:IntKind.i64.wrap ((es.length:Int) - ((i+1:Nat):Int) - 1)=(es.length:Int) - ((i+1+1:Nat):Int):=by rw[wrap64 o_ o_];omega
 by_cases hi:2 *i+1<es.length
 · have hj:((es.length:Int) - ((i+1:Nat):Int)).toNat=es.length - 1 - i:=o_
   have h1:es'[i]?=some es'[i]:=ge_ o_
   have h2:es'[es.length - 1 - i]?=some es'[es.length - 1 - i]:=ge_ o_
   have i1:=k3 _ (List.getElem_mem (show i<es'.length by omega))
   have i2:=k3 _ (List.getElem_mem (show es.length - 1 - i<es'.length by omega))
   have e1:es[i]?=some es'[i]:=by rw[← h1,k4 i o_,if_neg o_]
   have e2:es[es.length - 1 - i]?=some es'[es.length - 1 - i]:=by rw[← h2,k4 _ o_,if_neg o_]
   generalize es'[i]=x1 at *
   generalize es'[es.length - 1 - i]=x2 at *
   repeat' with_reducible first
    |refine s_ ?_
    |refine s_ ?_
    |simp -implicitDefEqProofs only[wS,wT,wU,wV,wW,wX,wY,wC,wF,wG,wL,wM,wN,seval,Int.cast_ofNat_Int,Int.reduceLT,Int.reduceLE,Int.reduceEq,Int.reduceToNat,decide_true,decide_false,Bool.false_eq_true,g0,g2,g3,hz,hz2,hj]
    |(refine qa (fun h h_=>?_) (fun h h_=>?_)<;>(try simp only[wD,reduceCtorEq]at h_)<;>(try(exfalso;first|omega|exact absurd (Eq.trans (Eq.symm h_) (by assumption):false=true) (by decide)|exact absurd (Eq.trans (Eq.symm h_) (by assumption):true=false) (by decide)|(refine absurd ?_ h_;focus assumption)|(refine absurd h_ ?_;focus assumption)))<;>(try simp only[h]))
    |apply zm;omega;omega
    |(refine qhY (v:=x2) k1 h2 i2 ?_)
    |(refine qhY (v:=x1) k1 h1 i1 ?_)
    |(refine qgX k1 o_ i2 k3 ?_)
    |(refine qgX (es:=es'.set i x2) rfl (by rw[List.length_set];omega) i1 (Is4.set k3 i2) ?_)
    |refine t_ ?_
    |apply JS;omega;exact wd_
    |apply ZK;(focus(first|omega|(simp only[wZ]<;>omega)))
    |apply jZ;exact wu_;exact wu_;(focus((try simp -implicitDefEqProofs only[wE,Nat.reduceAdd]);rfl))
    |apply j4;exact wd_;exact wu_
    |apply zC;exact wu_
    |apply Qx;exact wf_;exact wu_;exact wu_;(focus(intro _;with_unfolding_all rfl))
    |apply zD;exact wu_;exact wu_;exact wu_
    |simp -implicitDefEqProofs (disch:=omega) only[w64,if_neg]
   refine⟨wg_,i+1,o_,?_⟩;(repeat refine⟨True.intro,?_⟩)
   refine⟨rfl,rfl,o_,⟨_,rfl,by rw[List.length_set,List.length_set,k2],Is4.set (Is4.set k3 i2) i1,fun k hk=>?_⟩,fun j h1 h2=>by rw[if_neg h2];exact k1_2 j h1 h2⟩
   rw[List.getElem?_set,List.getElem?_set]
   by_cases hk1:k=es.length - 1 - i
   · subst hk1
     rw[if_pos rfl,if_pos (by rw[List.length_set];omega),if_pos o_,show es.length - 1 - (es.length - 1 - i)=i by omega,e1]
   · rw[if_neg (Ne.symm hk1)]
     by_cases hk2:k=i
     · subst hk2
       rw[if_pos rfl,if_pos o_,if_pos o_,e2]
     · rw[if_neg (Ne.symm hk2),k4 k hk]
       by_cases c:k<i∨es.length≤k+i
       · rw[if_pos c,if_pos o_]
       · rw[if_neg c,if_neg o_]
 · have e:es'=es.reverse:=List.ext_getElem? fun k=>by
    by_cases hk:k<es.length
    · rw[k4 k hk,List.getElem?_reverse hk]
      split
      · rfl
      · have:es.length - 1 - k=k:=o_
        rw[this]
    · rw[List.getElem?_eq_none o_,List.getElem?_eq_none (by rw[List.length_reverse];omega)]
   subst e
   repeat' with_reducible first
    |refine s_ ?_
    |refine s_ ?_
    |simp -implicitDefEqProofs only[wS,wT,wU,wV,wW,wX,wY,wC,wF,wG,wL,wM,wN,seval,Int.cast_ofNat_Int,Int.reduceLT,Int.reduceLE,Int.reduceEq,Int.reduceToNat,decide_true,decide_false,Bool.false_eq_true,g0,g2,g3]
    |(refine qa (fun h h_=>?_) (fun h h_=>?_)<;>(try simp only[wD,reduceCtorEq]at h_)<;>(try(exfalso;first|omega|exact absurd (Eq.trans (Eq.symm h_) (by assumption):false=true) (by decide)|exact absurd (Eq.trans (Eq.symm h_) (by assumption):true=false) (by decide)|(refine absurd ?_ h_;focus assumption)|(refine absurd h_ ?_;focus assumption)))<;>(try simp only[h]))
    |refine t_ ?_
    |apply JS;omega;exact wd_
    |apply ZK;(focus(first|omega|(simp only[wZ]<;>omega)))
    |apply jZ;exact wu_;exact wu_;(focus((try simp -implicitDefEqProofs only[wE,Nat.reduceAdd]);rfl))
    |apply j4;exact wd_;exact wu_
    |apply zC;exact wu_
    |apply Qx;exact wf_;exact wu_;exact wu_;(focus(intro _;with_unfolding_all rfl))
    |apply zD;exact wu_;exact wu_;exact wu_
    |simp -implicitDefEqProofs (disch:=omega) only[w64,if_neg]
   exact yJ rfl (Or.inl rfl) ⟨wg_,by((try simp only[wM]);(repeat first|rw[if_pos trivial]|rw[if_pos rfl]|rw[if_neg o_]));exact k1,fun j h1 h2=>by((try simp only[wM]);(repeat first|rw[if_pos trivial]|rw[if_pos rfl]|rw[if_neg o_]));exact k1_2 j h1 h2⟩

theorem kV {ef:EF} {Q:V→(Nat→Option MObj)→Nat→Prop} {t u n id:Nat} {ag ro:Bool} {v w:V} {e:Exit} {s:St} (he:ef.res=[.inr (t,ag,n),.inl u]) (hx:e=.normal∨e=.ret) (hp:s.f t=.ptr id 0 0) (hH:s.H id=some (.own n [v] ro)) (ha:v.isAgg=ag) (hu:s.f u=w)
 (h:Q (.tup [v,w]) s.H s.next):jQ ef Q e s:=by
 have hv:zh s ag n (s.f t)=some v:=by
  rw[hp]
  simp only[zh,hH,List.getElem?_cons_zero,jv,ha,and_self,if_true]
 exact⟨hx,_,by rw[he];simp[qai,Ko,hv,Go.E.one,hu],h⟩
abbrev bdV (g:Grammar) (P T:List Int) (n:Int):V:= .agg [.sl 6 false (g.toks.map Tok.V),.sl 2 false (g.nons.map Non.V),.sl 6 false (g.prods.map GPr.V),.str g.pro,.str g.tail,.sl 1 false (P.map (V.int .i64)),.sl 1 false (T.map (V.int .i64)),vi n]
abbrev ndZ:V:= .agg [.int .i64 0,.int .i64 0,.int .i64 0,.sl 4 true []]
def qGe (g:Grammar) (H:Nat→Option MObj) (next bi:Nat) (r:qsJ):V→(Nat→Option MObj)→Nat→Prop:=fun v H' n'=>next≤n'∧(∀j,j<next→j≠bi→H' j=H j)∧match r with
 |none=>v=.tup [ndZ,.bool false]∧ ∃x,H' bi=some (.own 8 [x] false)
 |some (t,P',T',m)=> ∃tv,v=.tup [tv,.bool true]∧xk H' (fun j=>next≤j∧j<n') t tv∧H' bi=some (.own 8 [bdV g P' T' m] false)
structure BIn (g:Grammar) (H:Nat→Option MObj) (next bi:Nat) (P T:List Int) (n:Nat):Prop where
 hb:H bi=some (.own 8 [bdV g P T n] false)
 lb:bi<next
 hP:P.length≤1000000000
 hT:T.length≤1000000000
 hn:n≤1000000000
theorem qaz {f:Int→List Int→List Int→Nat→qsJ} (hf: ∀s P T n t P' T' m,f s P T n=some (t,P',T',m)→P'.length≤P.length∧T'.length≤T.length∧m<n): ∀(l P T:List Int) (n:Nat) ks P' T' m,X6 f l P T n=some (ks,P',T',m)→P'.length≤P.length∧T'.length≤T.length∧m≤n
 |[],P,T,n,ks,P',T',m,h=>by rw[X6]at h;cases h;exact⟨Nat.le_refl _,Nat.le_refl _,Nat.le_refl _⟩
 | s ::l,P,T,n,ks,P',T',m,h=>by
   rw[X6]at h
   cases h1:f s P T n with
   |none=>rw[h1]at h;cases h
   | some q=>
     obtain ⟨k,P1,T1,n1⟩:=q
     rw[h1]at h
     dsimp only at h
     cases h2:X6 f l P1 T1 n1 with
     |none=>rw[h2]at h;cases h
     | some q=>
       obtain ⟨ks2,P2,T2,n2⟩:=q
       rw[h2]at h
       cases h
       have a:=hf _ _ _ _ _ _ _ _ h1
       have b:=qaz hf l P1 T1 n1 _ _ _ _ h2
       omega
theorem qhp {g : Grammar}: ∀(d:Nat) s P T n t P' T' m,bld g d s P T n=some (t,P',T',m)→P'.length≤P.length∧T'.length≤T.length∧m<n
 |0,s,P,T,n,t,P',T',m,h=>by rw[bld]at h;cases h
 | d + 1, s, P,T,n,t,P',T',m,h=>by
   rw[bld]at h
   split at h
   · cases h
   · split at h
     · split at h
       · cases h
       · split at h
         · cases h
           rw[List.length_dropLast];omega
         · cases h
     · split at h
       · cases h
       · split at h
         · cases h
         · split at h
           · cases h
           · split at h
             · split at h
               · cases h
               · rename_i h5
                 cases h
                 have:=qaz (qhp d) _ _ _ _ _ _ _ _ h5
                 rw[List.length_dropLast]at this
                 omega
             · cases h
structure KidB (s:St) (g:Grammar) (d bi r8 lo:Nat) (right P0 T0:List Int) (n0 i:Nat) (y p:Int) (P T:List Int) (n:Nat) (ks:List Nd) (kv:V) (es:List V):Prop where
 hb:s.H bi=some (.own 8 [bdV g P T n] false)
 o8:s.H r8=some (.own 4 [.agg [vi y,vi p,vi (-1),kv]] false)
 bl:X6 (bld g d) (right.reverse.take i) P0 T0 n0=some (ks,P,T,n)
 gr:GrM s.H lo s.next 4 es kv
 nd:qX s.H (fun j=>lo≤j∧j<s.next∧mid kv≠some j) ks es
 ln:ks.length=i
theorem X5 {H :Nat→Option MObj} {next bi d n:Nat} {g:Grammar} {P T:List Int} {y:Int} (hg:GOk g) (IH: ∀(H:Nat→Option MObj) (next n1:Nat) (P T:List Int) (s:Int),n1<n→BIn g H next bi P T n1→qJ Tryz.prog 77 [.ptr bi 0 0,vi s] H next (qGe g H next bi (bld g d s P T n1))) (hI:BIn g H next bi P T n):qJ Tryz.prog 77 [.ptr bi 0 0,vi y] H next (qGe g H next bi (bld g (d+1) y P T n)):=by
 refine qF Tryz.func77 nm_ qxo (by show 2≤172;decide) ?_
 show ewp _ qhk _ _
 obtain ⟨hb,hlb,hP,hT,hn⟩:=hI
 have hz:IntKind.i64.wrap ((n:Int) - 1)=(n:Int) - 1:=wrap64 o_ o_
 have hzT:IntKind.i64.wrap ((T.length:Int) - 1)=(T.length:Int) - 1:=wrap64 o_ o_
 have hzP:IntKind.i64.wrap ((P.length:Int) - 1)=(P.length:Int) - 1:=wrap64 o_ o_
 rw[bld]
 by_cases h0:n=0
 · rw[if_pos h0]
   repeat' with_reducible first
    |refine s_ ?_
    |simp -implicitDefEqProofs only[wZZ,seval,hb,hz]
    |apply qa<;>intro h h_<;>(try simp only[wD,reduceCtorEq]at h_)<;>(try exact wb_)<;>(try simp only[h])
    |refine t_ ?_
    |simp -implicitDefEqProofs (disch:=omega) only[w64,if_neg]
   exact kV (t:=4) (u:=5) (id:=next) (ro:=false) rfl (Or.inr rfl) (by(simp -implicitDefEqProofs only[wL,seval])) hh_ rfl (by(simp -implicitDefEqProofs only[wL,seval])) ⟨wg_,fun j h1 h2=>hh_,rfl,_,hh_⟩
 · rw [if_neg h0]
   replace hz:IntKind.i64.wrap ((n:Int) - 1)=((n - 1:Nat):Int):=by rw[hz];omega
   by_cases hy:y<1000
   · rw [if_pos hy,List.getLast?_eq_getElem?,List.dropLast_eq_take]
     cases hx:T[T.length - 1]? with
     | none=>
       have hT0:T.length=0:=by have:=List.getElem?_eq_none_iff.1 hx;omega
       repeat' with_reducible first
        |refine s_ ?_
        |simp -implicitDefEqProofs only[wZZ,seval,hb,hz,hzT]
        |(first|apply qa|apply qj|apply qx)<;>intro h h_<;>(try simp only[wD,reduceCtorEq]at h_)<;>(try exact wb_)<;>(try simp only[h])
        |refine t_ ?_
        |simp -implicitDefEqProofs (disch:=omega) only[w64,if_neg]
       all_goals first|(exfalso;omega)|(exact kV (t:=4) (u:=5) (id:=next) (ro:=false) rfl (Or.inr rfl) (by(simp -implicitDefEqProofs only[wL,seval])) hh_ rfl (by(simp -implicitDefEqProofs only[wL,seval])) ⟨wg_,fun j h1 h2=>hh_,rfl,_,hh_⟩)
     | some x=>
       have hx':T[((T.length:Int) - 1).toNat]?=some x:=by rw[← hx];congr 1;omega
       have hTl:=(List.getElem?_eq_some_iff.1 hx).1
       dsimp only
       by_cases hxy:x=y
       · rw[if_pos hxy]
         repeat' with_reducible first
          |refine s_ ?_
          |simp -implicitDefEqProofs only[wZZ,seval,hb,hz,hzT]
          |(first|apply qa|apply qj|apply qx)<;>intro h h_<;>(try simp only[wD,reduceCtorEq]at h_)<;>(try exact wb_)<;>(try simp only[h])
          |refine t_ ?_
          |apply qaS;omega;exact wf_
          |simp -implicitDefEqProofs (disch:=omega) only[w64,if_neg]
         all_goals first|(exfalso;omega)|(exact kV (t:=4) (u:=5) (id:=next) (ro:=false) rfl (Or.inr rfl) (by(simp -implicitDefEqProofs only[wL,seval])) hh_ rfl (by(simp -implicitDefEqProofs only[wL,seval])) ⟨wg_,fun j h1 h2=>hh_,_,rfl,by rw[xk];exact⟨_,rfl,Or.inl ⟨rfl,rfl⟩⟩,by((try simp only[wM]);(repeat first|rw[if_pos trivial]|rw[if_pos rfl]|rw[if_neg o_]));rw[show ((T.length:Int) - 1).toNat=T.length - 1 by omega]⟩)
       · rw[if_neg hxy]
         repeat' with_reducible first
          |refine s_ ?_
          |simp -implicitDefEqProofs only[wZZ,seval,hb,hz,hzT]
          |(first|apply qa|apply qj|apply qx)<;>intro h h_<;>(try simp only[wD,reduceCtorEq]at h_)<;>(try exact wb_)<;>(try simp only[h])
          |refine t_ ?_
          |simp -implicitDefEqProofs (disch:=omega) only[w64,if_neg]
         all_goals first|(exfalso;omega)|(exact kV (t:=4) (u:=5) (id:=next) (ro:=false) rfl (Or.inr rfl) (by(simp -implicitDefEqProofs only[wL,seval])) hh_ rfl (by(simp -implicitDefEqProofs only[wL,seval])) ⟨wg_,fun j h1 h2=>hh_,rfl,_,hh_⟩)
   · rw [if_neg hy,List.getLast?_eq_getElem?,List.dropLast_eq_take]
     cases hx:P[P.length - 1]? with
     | none=>
       have hP0:P.length=0:=by have:=List.getElem?_eq_none_iff.1 hx;omega
       repeat' with_reducible first
        |refine s_ ?_
        |simp -implicitDefEqProofs only[wZZ,seval,hb,hz,hzT,hzP]
        |(first|apply qa|apply qj|apply qx)<;>intro h h_<;>(try simp only[wD,reduceCtorEq]at h_)<;>(try exact wb_)<;>(try simp only[h])
        |refine t_ ?_
        |simp -implicitDefEqProofs (disch:=omega) only[w64,if_neg]
       all_goals first|(exfalso;omega)|(exact kV (t:=4) (u:=5) (id:=next) (ro:=false) rfl (Or.inr rfl) (by(simp -implicitDefEqProofs only[wL,seval])) hh_ rfl (by(simp -implicitDefEqProofs only[wL,seval])) ⟨wg_,fun j h1 h2=>hh_,rfl,_,hh_⟩)
     | some p =>
       have hx':P[((P.length:Int) - 1).toNat]?=some p:=by rw[← hx];congr 1;omega
       have hPl:=(List.getElem?_eq_some_iff.1 hx).1
       dsimp only
       by_cases hp0:p<0
       · rw[if_pos hp0]
         repeat' with_reducible first
          |refine s_ ?_
          |simp -implicitDefEqProofs only[wZZ,seval,hb,hz,hzT,hzP]
          |(first|apply qa|apply qj|apply qx)<;>intro h h_<;>(try simp only[wD,reduceCtorEq]at h_)<;>(try exact wb_)<;>(try simp only[h])
          |refine t_ ?_
          |simp -implicitDefEqProofs (disch:=omega) only[w64,if_neg]
         all_goals first|(exfalso;omega)|(exact kV (t:=4) (u:=5) (id:=next) (ro:=false) rfl (Or.inr rfl) (by(simp -implicitDefEqProofs only[wL,seval])) hh_ rfl (by(simp -implicitDefEqProofs only[wL,seval])) ⟨wg_,fun j h1 h2=>hh_,rfl,_,hh_⟩)
       · rw [if_neg hp0]
         obtain ⟨m,rfl⟩: ∃m:Nat,p=m:=⟨p.toNat,o_⟩
         rw[Int.toNat_natCast]
         cases hpr:g.prods[m]? with
         | none=>
           have hml:=List.getElem?_eq_none_iff.1 hpr
           repeat' with_reducible first
            |refine s_ ?_
            |simp -implicitDefEqProofs only[wZZ,seval,hb,hz,hzT,hzP]
            |(first|apply qa|apply qj|apply qx)<;>intro h h_<;>(try simp only[wD,reduceCtorEq]at h_)<;>(try exact wb_)<;>(try simp only[h])
            |refine t_ ?_
            |simp -implicitDefEqProofs (disch:=omega) only[w64,if_neg]
           all_goals first|(exfalso;omega)|(exact kV (t:=4) (u:=5) (id:=next) (ro:=false) rfl (Or.inr rfl) (by(simp -implicitDefEqProofs only[wL,seval])) hh_ rfl (by(simp -implicitDefEqProofs only[wL,seval])) ⟨wg_,fun j h1 h2=>hh_,rfl,_,hh_⟩)
         | some pr=>
           have hml:=(List.getElem?_eq_some_iff.1 hpr).1
           have hmem:=List.mem_of_getElem? hpr
           obtain ⟨lf,hlf,hln⟩:=hg.left pr hmem
           have hrl:=hg.rlen pr hmem
           have hnl:=hg.nn2
           obtain ⟨pl,prr,pc,pco,pa,pat⟩:=pr
           dsimp only at hlf hrl ⊢
           subst hlf
           have hzl:IntKind.i64.wrap (1000+(lf:Int))=1000+(lf:Int):=wrap64 o_ o_
           by_cases hy2:1000+(lf:Int)≠y
           · rw[if_neg hy2]
             repeat' with_reducible first
              |refine s_ ?_
              |simp -implicitDefEqProofs only[wZZ,seval,hb,hz,hzT,hzP,hzl]
              |(first|apply qa|apply qj|apply qx)<;>intro h h_<;>(try simp only[wD,reduceCtorEq]at h_)<;>(try exact wb_)<;>(try simp only[h])
              |refine t_ ?_
              |simp -implicitDefEqProofs (disch:=omega) only[w64,if_neg]
             all_goals first|(exfalso;omega)|(exact kV (t:=4) (u:=5) (id:=next) (ro:=false) rfl (Or.inr rfl) (by(simp -implicitDefEqProofs only[wL,seval])) hh_ rfl (by(simp -implicitDefEqProofs only[wL,seval])) ⟨wg_,fun j h1 h2=>hh_,rfl,_,hh_⟩)
           · replace hy2:=Classical.not_not.1 hy2
             rw[if_pos hy2]
             repeat' with_reducible first
              |refine s_ ?_
              |simp -implicitDefEqProofs only[wZZ,seval,hb,hz,hzT,hzP,hzl]
              |(first|apply qa|apply qj|apply qx)<;>intro h h_<;>(try simp only[wD,reduceCtorEq]at h_)<;>(try exact wb_)<;>(try simp only[h])
              |refine t_ ?_
              |apply qaS;omega;exact wf_
              |simp -implicitDefEqProofs (disch:=omega) only[w64,if_neg]
             have hzr:IntKind.i64.wrap ((prr.length:Int) - 1)=(prr.length:Int) - 1:=wrap64 o_ o_
             skip
             refine qb ?nx1 (fun(i:Nat) s=>s.f 0=?v1_0∧s.f 4=?v1_4∧s.f 8=?v1_8∧s.f 9=?v1_9∧s.f 10=vi ((prr.length:Int) - ((i+1:Nat):Int))∧(i≤prr.length)∧((∃P1 T1 n1 ks kv es,KidB s g d bi (next+81) (next+82) prr (P.take (P.length - 1)) T (n - 1) i y m P1 T1 n1 ks kv es))∧((∀j,j<next→j≠bi→s.H j=H j))∧((s.H next=some (.own 4 [ndZ] false)))) (fun i=>prr.length - i) (0) wj_ (by refine⟨?_,?_,?_,?_,?_,wo_,(by exact⟨P.take (P.length - 1),T,n - 1,[],_,[],⟨by(simp only[wM];(repeat first|rw[if_pos trivial]|rw[if_pos rfl]|rw[if_neg o_]));rw[show ((P.length:Int) - 1).toNat=P.length - 1 by omega],by(simp only[wM];(repeat first|rw[if_pos trivial]|rw[if_pos rfl]|rw[if_neg o_])),rfl,Or.inl ⟨rfl,rfl⟩,by rw[qX],rfl⟩⟩),(by intro j h1 h2;(simp only[wM];(repeat first|rw[if_pos trivial]|rw[if_pos rfl]|rw[if_neg o_]))),wc_⟩<;>first|(simp -implicitDefEqProofs only[wL,wM,wN,wX,seval,Option.some.injEq]<;>exact wt_)|rfl|exact⟨_,rfl⟩) ?_
             intro i s hnx ⟨g0,g4,g8,g9,g10,k1_0,k1_1,k1_2,k1_3⟩
             obtain ⟨P1,T1,n1,ks,kv,es,kb,k8,kbl,kgr,knd,kln⟩:=k1_1
             have hel:es.length=i:=by rw[knd.len,kln]
             have hbd:=qaz (qhp d) _ _ _ _ _ _ _ _ kbl
             rw[List.length_take]at hbd
             by_cases hi:i<prr.length
             · have hgi:prr[prr.length - 1 - i]?=some prr[prr.length - 1 - i]:=ge_ o_
               generalize prr[prr.length - 1 - i]=sy at *
               have hgi':prr[((prr.length:Int) - ((i+1:Nat):Int)).toNat]?=some sy:=by rw[← hgi];congr 1;omega
               have htk:prr.reverse.take (i+1)=prr.reverse.take i++[sy]:=by rw[List.take_add_one,List.getElem?_reverse hi,hgi];rfl
               have hzi:IntKind.i64.wrap ((prr.length:Int) - ((i+1:Nat):Int) - 1)=(prr.length:Int) - ((i+1+1:Nat):Int):=by rw[wrap64 o_ o_];omega
               have hsr:prr.reverse=(prr.reverse.take i++[sy])++prr.reverse.drop (i+1):=by rw[← htk,List.take_append_drop]
               cases hr:bld g d sy P1 T1 n1 with
               | none=>
                 have IH2: ∀(H:Nat→Option MObj) (next:Nat),BIn g H next bi P1 T1 n1→qJ Tryz.prog 77 [.ptr bi 0 0,vi sy] H next (fun v H' n'=>next≤n'∧(∀j,j<next→j≠bi→H' j=H j)∧v=.tup [ndZ,.bool false]∧ ∃x,H' bi=some (.own 8 [x] false)):=fun H next h=>by
                  have:=IH H next n1 P1 T1 sy o_ h
                  rw[hr]at this;exact this
                 have hall:X6 (bld g d) prr.reverse (P.take (P.length - 1)) T (n - 1)=none:=by
                  rw[hsr,Jm,Jm,kbl]
                  dsimp only
                  rw[X6,hr]
                 rw[hall]
                 dsimp only
                 repeat' with_reducible first
                  |refine s_ ?_
                  |simp -implicitDefEqProofs only[wZZ,seval,g0,g4,g8,g9,g10,hzi,kb,k8]
                  |apply qa<;>intro h h_<;>(try simp only[wD,reduceCtorEq]at h_)<;>(try exact wb_)<;>(try simp only[h])
                  |refine t_ ?_
                  |(refine qI rfl rfl rfl ((IH2 _ _ ⟨(by first|exact kb|(((try simp only[wM]);(repeat first|rw[if_pos trivial]|rw[if_pos rfl]|rw[if_neg o_]));exact kb)),wg_,o_,o_,o_⟩).mono ?_);rintro v1 H1 n1' ⟨q1,q2,rfl,xv,q3⟩;(try simp only[wN]at q1))
                  |simp -implicitDefEqProofs (disch:=omega) only[w64,if_neg]
                 have q2': ∀j,j<s.next→j≠bi→H1 j=s.H j:=fun j h1 h2=>(q2 j wg_ h2).trans (by first|rfl|((try simp only[wM]);(repeat first|rw[if_pos trivial]|rw[if_pos rfl]|rw[if_neg o_])))
                 have o4:H1 next=some (.own 4 [ndZ] false):=(q2' next o_ o_).trans k1_3
                 repeat' with_reducible first
                  |refine s_ ?_
                  |simp -implicitDefEqProofs only[wZZ,seval,g0,g4,g8,g9,g10,o4]
                  |refine t_ ?_
                 exact kV (t:=4) (u:=5) (id:=next) (ro:=false) rfl (Or.inr rfl) (by(simp -implicitDefEqProofs only[wL,seval,g4])) hh_ rfl (by(simp -implicitDefEqProofs only[wL,seval])) ⟨wg_,fun j h1 h2=>by((try simp only[wM]);(repeat first|rw[if_pos trivial]|rw[if_pos rfl]|rw[if_neg o_]));rw[q2' j o_ h2];exact k1_2 j h1 h2,rfl,xv,by((try simp only[wM]);(repeat first|rw[if_pos trivial]|rw[if_pos rfl]|rw[if_neg o_]));exact q3⟩
               | some q=>
                 obtain ⟨t,P2,T2,n2⟩:=q
                 have IH2: ∀(H:Nat→Option MObj) (next:Nat),BIn g H next bi P1 T1 n1→qJ Tryz.prog 77 [.ptr bi 0 0,vi sy] H next (fun v H' n'=>next≤n'∧(∀j,j<next→j≠bi→H' j=H j)∧ ∃tv,v=.tup [tv,.bool true]∧xk H' (fun j=>next≤j∧j<n') t tv∧H' bi=some (.own 8 [bdV g P2 T2 n2] false)):=fun H next h=>by
                  have:=IH H next n1 P1 T1 sy o_ h
                  rw[hr]at this;exact this
                 repeat' with_reducible first
                  |refine s_ ?_
                  |simp -implicitDefEqProofs only[wZZ,seval,g0,g4,g8,g9,g10,hzi,kb,k8]
                  |apply qa<;>intro h h_<;>(try simp only[wD,reduceCtorEq]at h_)<;>(try exact wb_)<;>(try simp only[h])
                  |refine t_ ?_
                  |(refine qI rfl rfl rfl ((IH2 _ _ ⟨(by first|exact kb|(((try simp only[wM]);(repeat first|rw[if_pos trivial]|rw[if_pos rfl]|rw[if_neg o_]));exact kb)),wg_,o_,o_,o_⟩).mono ?_);rintro v1 H1 n1' ⟨q1,q2,tv,rfl,q3,q4⟩;(try simp only[wN]at q1);obtain ⟨kv2,rfl,w1,w2,w3⟩:=q3.shape)
                  |simp -implicitDefEqProofs (disch:=omega) only[w64,if_neg]
                 have q2': ∀j,j<s.next→j≠bi→H1 j=s.H j:=fun j h1 h2=>(q2 j wg_ h2).trans (by first|rfl|((try simp only[wM]);(repeat first|rw[if_pos trivial]|rw[if_pos rfl]|rw[if_neg o_])))
                 have o8:H1 (next+2+8+5+2+7+48+9)=some (.own 4 [.agg [vi y,vi m,vi (-1),kv]] false):=(q2' _ o_ o_).trans k8
                 repeat' with_reducible first
                  |simp -implicitDefEqProofs only[wZZ,seval,g0,g4,g8,g9,g10,o8]
                  |refine t_ ?_
                 refine qhy rfl (GrM.mono kgr (Nat.le_refl _) (fun j _ h1 h2=>by first|(((try simp only[wM]);(repeat first|rw[if_pos trivial]|rw[if_pos rfl]|rw[if_neg o_]));done)|(((try simp only[wM]);(repeat first|rw[if_pos trivial]|rw[if_pos rfl]|rw[if_neg o_]));exact q2' j h2 o_))) rfl jk.sl (by simp only[wZ,hel];omega) (by unfold maxLen;simp only[wZ,hel];omega) (fun H2 u1 u2=>?_)
                 have hs2:H2 (next+2+8+5+2+7+48+9)=some (.own 4 [.agg [vi y,vi m,vi (-1),kv]] false):=(u2 _ wg_ (GrM.mid kgr _ (Or.inl o_))).trans (by((try simp only[wM]);(repeat first|rw[if_pos trivial]|rw[if_pos rfl]|rw[if_neg o_]));exact o8)
                 have u2': ∀j,j<n1'→j≠s.next+2+9→mid kv≠some j→H2 j=H1 j:=fun j h1 h2 h3=>(u2 j wg_ h3).trans hh_
                 (try simp only[wN]at q3)
                 repeat' with_reducible first
                  |refine s_ ?_
                  |simp -implicitDefEqProofs only[wZZ,seval,g0,g4,g8,g9,g10,hs2,hzi]
                  |refine t_ ?_
                  |simp -implicitDefEqProofs (disch:=omega) only[w64,if_neg]
                 refine⟨o_,i+1,o_,trivial,trivial,trivial,trivial,rfl,o_,⟨P2,T2,n2,ks++[t],V.msl (n1'+2+4) 4 0 (es++[V.agg [vi t.sym,vi t.prod,vi t.at_,kv2]]).length,es++[.agg [vi t.sym,vi t.prod,vi t.at_,kv2]],⟨?_,?_,?_,Or.inr ⟨_,rfl,?_,o_,wg_⟩,qX.snoc (xk.mono (fun j ⟨a,b⟩=>⟨⟨o_,wg_,fun e=>by cases e;omega⟩,?_⟩) _ _ q3) (qX.mono (fun j ⟨a,b,c⟩=>⟨⟨a,wg_,fun e=>by cases e;omega⟩,?_⟩) _ _ knd),by simp;omega⟩⟩,fun j h1 h2=>?_,?_⟩
                 · ((try simp only[wM]);(repeat first|rw[if_pos trivial]|rw[if_pos rfl]|rw[if_neg o_]));rw[u2' bi o_ o_ (GrM.mid kgr _ (Or.inl o_))];exact q4
                 · ((try simp only[wM]);(repeat first|rw[if_pos trivial]|rw[if_pos rfl]|rw[if_neg o_]))
                 · rw[htk,Jm,kbl];dsimp only;rw[X6,hr];dsimp only;rw[X6]
                 · ((try simp only[wM]);(repeat first|rw[if_pos trivial]|rw[if_pos rfl]|rw[if_neg o_]));exact u1
                 · ((try simp only[wM]);(repeat first|rw[if_pos trivial]|rw[if_pos rfl]|rw[if_neg o_]));rw[u2' j o_ o_ (GrM.mid kgr _ (Or.inl o_)),q2' j o_ h2];exact k1_2 j h1 h2
                 · ((try simp only[wM]);(repeat first|rw[if_pos trivial]|rw[if_pos rfl]|rw[if_neg o_]));rw[u2' next o_ o_ (GrM.mid kgr _ (Or.inl o_))];exact(q2' next o_ o_).trans k1_3
                 · ((try simp only[wM]);(repeat first|rw[if_pos trivial]|rw[if_pos rfl]|rw[if_neg o_]));exact u2' j b o_ (GrM.mid kgr _ (Or.inr o_))
                 · ((try simp only[wM]);(repeat first|rw[if_pos trivial]|rw[if_pos rfl]|rw[if_neg o_]));rw[u2' j o_ o_ c,q2' j b o_]
             · have et:prr.reverse.take i=prr.reverse:=List.take_of_length_le (by rw[List.length_reverse];omega)
               rw[et]at kbl
               rw[kbl]
               dsimp only
               rcases kgr with ⟨rfl,rfl⟩|⟨id,rfl,ka,kb1,kb2⟩
               · have hks:ks=[]:=List.length_eq_zero_iff.1 knd.len.symm
                 subst hks
                 repeat' with_reducible first
                  |refine s_ ?_
                  |simp -implicitDefEqProofs only[wZZ,seval,g0,g4,g8,g9,g10,kb,k8]
                  |apply qa<;>intro h h_<;>(try simp only[wD,reduceCtorEq]at h_)<;>(try exact wb_)<;>(try simp only[h])
                  |(refine qI rfl rfl rfl (qjU.mono ?_);rintro v1 H1 n1' ⟨q1,q2⟩;(try simp only[wN]at q1))
                  |refine t_ ?_
                 have q2': ∀j,j<s.next→H1 j=s.H j:=fun j h1=>(q2 j wg_).trans (by first|rfl|((try simp only[wM]);(repeat first|rw[if_pos trivial]|rw[if_pos rfl]|rw[if_neg o_])))
                 have o8:H1 (next+2+8+5+2+7+48+9)=some (.own 4 [.agg [vi y,vi m,vi (-1),.sl 4 true []]] false):=(q2' _ o_).trans k8
                 have o4:H1 next=some (.own 4 [ndZ] false):=(q2' next o_).trans k1_3
                 repeat' with_reducible first
                  |refine yu ?_
                  |simp -implicitDefEqProofs only[wZZ,seval,g0,g4,g8,g9,g10,o8,o4]
                  |refine t_ ?_
                 exact kV (t:=4) (u:=5) (id:=next) (ro:=false) rfl (Or.inr rfl) (by(simp -implicitDefEqProofs only[wL,seval,g4])) hh_ rfl (by(simp -implicitDefEqProofs only[wL,seval])) ⟨wg_,fun j h1 h2=>by((try simp only[wM]);(repeat first|rw[if_pos trivial]|rw[if_pos rfl]|rw[if_neg o_]));rw[q2' j o_];exact k1_2 j h1 h2,_,rfl,by rw[xk];exact⟨_,rfl,Or.inl ⟨rfl,rfl⟩⟩,by((try simp only[wM]);(repeat first|rw[if_pos trivial]|rw[if_pos rfl]|rw[if_neg o_]));rw[q2' bi o_];exact kb⟩
               · repeat' with_reducible first
                  |refine s_ ?_
                  |simp -implicitDefEqProofs only[wZZ,seval,g0,g4,g8,g9,g10,kb,k8]
                  |apply qa<;>intro h h_<;>(try simp only[wD,reduceCtorEq]at h_)<;>(try exact wb_)<;>(try simp only[h])
                  |(refine qI rfl rfl rfl ((qlf (es:=es) (by((try simp only[wM]);(repeat first|rw[if_pos trivial]|rw[if_pos rfl]|rw[if_neg o_]));exact ka) o_ knd.is4 wg_).mono ?_);rintro v1 H1 n1' ⟨q1,q2,q3⟩;(try simp only[wN]at q1))
                  |refine t_ ?_
                 have q3': ∀j,j<s.next→j≠id→H1 j=s.H j:=fun j h1 h2=>(q3 j wg_ h2).trans (by first|rfl|((try simp only[wM]);(repeat first|rw[if_pos trivial]|rw[if_pos rfl]|rw[if_neg o_])))
                 have o8:H1 (next+2+8+5+2+7+48+9)=some (.own 4 [.agg [vi y,vi m,vi (-1),.msl id 4 0 es.length]] false):=(q3' _ o_ o_).trans k8
                 have o4:H1 next=some (.own 4 [ndZ] false):=(q3' next o_ o_).trans k1_3
                 repeat' with_reducible first
                  |refine yu ?_
                  |simp -implicitDefEqProofs only[wZZ,seval,g0,g4,g8,g9,g10,o8,o4]
                  |refine t_ ?_
                 exact kV (t:=4) (u:=5) (id:=next) (ro:=false) rfl (Or.inr rfl) (by(simp -implicitDefEqProofs only[wL,seval,g4])) hh_ rfl (by(simp -implicitDefEqProofs only[wL,seval])) ⟨wg_,fun j h1 h2=>by((try simp only[wM]);(repeat first|rw[if_pos trivial]|rw[if_pos rfl]|rw[if_neg o_]));rw[q3' j o_ o_];exact k1_2 j h1 h2,_,rfl,by rw[xk];exact⟨_,rfl,Or.inr ⟨id,es.reverse,by rw[List.length_reverse],⟨o_,wg_⟩,by((try simp only[wM]);(repeat first|rw[if_pos trivial]|rw[if_pos rfl]|rw[if_neg o_]));exact q2,qX.mono (fun j ⟨a,b,c⟩=>⟨⟨o_,wg_⟩,by((try simp only[wM]);(repeat first|rw[if_pos trivial]|rw[if_pos rfl]|rw[if_neg o_]));exact q3' j b (fun e=>c (by rw[e];rfl))⟩) _ _ knd.rev⟩⟩,by((try simp only[wM]);(repeat first|rw[if_pos trivial]|rw[if_pos rfl]|rw[if_neg o_]));rw[q3' bi o_ o_];exact kb⟩
end Go.Proofs
