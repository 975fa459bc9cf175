/- Part of a proof that a law of the given program answers true. -/
import Derived.Test.YtkcegflhobejmaaGreatDoorBCA
import Derived.Test.YtkcegflhobejmaaGreatDoorXEC
set_option maxRecDepth 20000
set_option linter.unusedSimpArgs false
set_option linter.unusedVariables false
namespace Go.Proofs
open Go.E
theorem Yq {a:List Int} {x:Int} (ha:a.length≤4611686018427387903):Pure Tryz.prog 38 [ints a,vi x] (.bool (decide (x∈a))):=by
 refine pure_intro Tryz.func38 nm_ qhJ (by show 2≤18;decide) ?_
 show ewp _ qhI _ _
 repeat' with_reducible first
  |refine s_ ?_
  |simp -implicitDefEqProofs only[wZZ,seval]
 refine qi ?nx1 (fun(k:Nat) s=>s.f 0=?v1_0∧s.f 1=?v1_1∧s.f 5=vi k∧(k≤a.length)∧(x ∉ a.take k)) (fun k=>a.length - k) (0) wj_ (by refine⟨?_,?_,?_,wo_,wo_⟩<;>first|(simp -implicitDefEqProofs only[wL,wM,wN,wX,seval,Option.some.injEq]<;>exact wt_)|rfl|exact⟨_,rfl⟩) ?_
 intro k s hnx ⟨g0,g1,g5,k1_0,k1_1⟩
 repeat' with_reducible first
  |refine s_ ?_
  |simp -implicitDefEqProofs only[wZZ,seval,g0,g1,g5]
  |apply qa<;>intro h h_<;>(try simp only[wD,reduceCtorEq]at h_)<;>(try exact wb_)<;>(try simp only[h])
  |refine t_ ?_
  |simp -implicitDefEqProofs (disch:=omega) only[w64,if_neg]
 · refine qF rfl (Or.inr rfl) ?_
   simp -implicitDefEqProofs only[wL,seval,g0,g1,g5]
   refine er_ ?_
   try(with_reducible rfl)
   rw[eq_comm,decide_eq_true_eq,← h_];exact List.getElem_mem _
 · refine⟨wk_,k+1,o_,?_⟩
   refine⟨?_,?_,?_,?_,?_⟩
   iterate 3 (focus(first|(simp -implicitDefEqProofs only[wL,wM,wN,wX,seval,Option.some.injEq,g0,g1,g5]<;>exact wt_)|rfl|exact⟨_,rfl⟩))
   all_goals try omega
   rw[List.take_add_one,ge_ o_]
   simp only[Option.toList_some,List.mem_append,List.mem_singleton,not_or]
   exact⟨k1_1,fun e=>h_ e.symm⟩
 · refine qF rfl (Or.inr rfl) ?_
   simp -implicitDefEqProofs only[wL,seval,g0,g1,g5]
   refine er_ ?_
   try(with_reducible rfl)
   rw[eq_comm,decide_eq_false_iff_not]
   rwa [List.take_of_length_le o_]at k1_1
theorem qes {α:Type} {a b:List α} {k:Nat} (hk: ∀i,i<k→a[i]?=b[i]?) (h1:a.length≤k) (h2:b.length≤k):a=b:=by
 refine List.ext_getElem? fun i=>?_
 by_cases hi:i<k
 · exact hk i hi
 · rw[List.getElem?_eq_none o_,List.getElem?_eq_none o_]
theorem qr1 {α:Type} {a b:List α} {k:Nat} (hk: ∀i,i<k→a[i]?=b[i]?) (h1:k<a.length) (h2:k<b.length) (e:a[k]=b[k]): ∀i,i<k+1→a[i]?=b[i]?:=by
 intro i hi
 by_cases he:i=k
 · subst he;rw[ge_ h1,ge_ h2,e]
 · exact hk i o_
theorem ZJ {a b:List Int} (ha:a.length≤4611686018427387903) (hb:b.length≤4611686018427387903):Pure Tryz.prog 25 [ints a,ints b] (.bool (decide (a=b))):=by
 refine pure_intro Tryz.func25 nm_ qg7 (by show 2≤26;decide) ?_
 show ewp _ qgW _ _
 repeat' with_reducible first
  |refine s_ ?_
  |simp -implicitDefEqProofs only[wZZ,seval]
  |apply qa<;>intro h h_<;>(try simp only[wD,reduceCtorEq]at h_)<;>(try exact wb_)<;>(try simp only[h])
 · refine qF rfl (Or.inr rfl) ?_
   simp -implicitDefEqProofs only[wL,seval]
   refine er_ ?_
   try(with_reducible rfl)
   rw[eq_comm,decide_eq_false_iff_not]
   intro e;subst e;exact h_ rfl
 refine qi ?nx1 (fun(k:Nat) s=>s.f 0=?v1_0∧s.f 1=?v1_1∧s.f 5=vi k∧(k≤a.length)∧(∀i,i<k→a[i]?=b[i]?)) (fun k=>a.length - k) (0) wj_ (by refine⟨?_,?_,?_,wo_,wo_⟩<;>first|(simp -implicitDefEqProofs only[wL,wM,wN,wX,seval,Option.some.injEq]<;>exact wt_)|rfl|exact⟨_,rfl⟩) ?_
 intro k s hnx ⟨g0,g1,g5,k1_0,k1_1⟩
 repeat' with_reducible first
  |refine s_ ?_
  |simp -implicitDefEqProofs only[wZZ,seval,g0,g1,g5]
  |apply qa<;>intro h h_<;>(try simp only[wD,reduceCtorEq]at h_)<;>(try exact wb_)<;>(try simp only[h])
  |refine t_ ?_
  |simp -implicitDefEqProofs (disch:=omega) only[w64,if_neg]
 · refine qF rfl (Or.inr rfl) ?_
   simp -implicitDefEqProofs only[wL,seval,g0,g1,g5]
   refine er_ ?_
   try(with_reducible rfl)
   rw[eq_comm,decide_eq_false_iff_not]
   intro e;subst e;exact h_ rfl
 · refine⟨wk_,k+1,o_,?_⟩
   refine⟨?_,?_,?_,?_,?_⟩
   iterate 3 (focus(first|(simp -implicitDefEqProofs only[wL,wM,wN,wX,seval,Option.some.injEq,g0,g1,g5]<;>exact wt_)|rfl|exact⟨_,rfl⟩))
   all_goals try omega
   exact qr1 k1_1 o_ o_ (by simpa using h_)
 · refine qF rfl (Or.inr rfl) ?_
   simp -implicitDefEqProofs only[wL,seval,g0,g1,g5]
   refine er_ ?_
   try(with_reducible rfl)
   rw[eq_comm,decide_eq_true_eq]
   exact qes k1_1 o_ o_
def Jq (l:List Int) (x:Int):Nat→Nat
 |0=>0
 |k+1=>if x<l.getD k 0 then Jq l x k else k+1
theorem QH (l:List Int) (x:Int) (k:Nat):Jq l x (k+1)=if x<l.getD k 0 then Jq l x k else k+1:=rfl
theorem Kw (l:List Int) (x:Int) (k:Nat):Jq l x k≤k:=by
 induction k with
 |zero=>exact Nat.le_refl _
 |succ k ih=>unfold Jq;split<;>omega
def vF (l:List Int) (x:Int):List Int:=
 if 0<Jq l x l.length∧l.getD (Jq l x l.length - 1) 0=x then l else l.take (Jq l x l.length)++[x]++l.drop (Jq l x l.length)
theorem qaP (l:List Int) (x:Int):(vF l x).length≤l.length+1:=by
 unfold vF;split
 · omega
 · simp;have:=Kw l x l.length;omega
theorem getD_eq {l:List Int} {k:Nat} (h:k<l.length):l.getD k 0=l[k]:=by simp[List.getD,h]
theorem Yu {l:List Int} {x:Int} (hl:l.length≤1099511627776):Pure Tryz.prog 37 [ints l,vi x] (ints (vF l x)):=by
 refine pure_intro Tryz.func37 nm_ qhB (by show 2≤47;decide) ?_
 show ewp _ qhL _ _
 repeat' with_reducible first
  |refine s_ ?_
  |simp -implicitDefEqProofs only[wZZ,seval]
 refine qi ?nx1 (fun(k:Nat) s=>s.f 0=?v1_0∧s.f 1=?v1_1∧s.f 5=vi k∧(k≤l.length)∧(Jq l x k=Jq l x l.length)) (fun k=>k) (l.length) wj_ (by refine⟨?_,?_,?_,wo_,wo_⟩<;>first|(simp -implicitDefEqProofs only[wL,wM,wN,wX,seval,Option.some.injEq]<;>exact wt_)|rfl|exact⟨_,rfl⟩) ?_
 intro k s hnx ⟨g0,g1,g5,k1_0,k1_1⟩
 by_cases hk:k=0
 · subst hk
   have hc:Jq l x l.length=0:=k1_1.symm
   have hp:vF l x=[]++[x]++l:=by unfold vF;rw[hc];simp
   rw[hp]
   repeat' with_reducible first
    |refine s_ ?_
    |simp -implicitDefEqProofs only[wZZ,seval,g0,g1,g5]
    |apply qW;(focus(first|exact qc.sl|exact qc.asl|exact qc.str));exact wf_;(focus(unfold maxLen;first|omega|(simp only[wZ]<;>omega)))
    |(refine qI ?_;simp -implicitDefEqProofs only[wM,wN,seval,g0,g1,g5];apply za;(focus(first|exact qc.sl|exact qc.asl|exact qc.str));(exact wf_);(focus(unfold maxLen;first|omega|(simp only[wZ]<;>omega))))
    |apply Qn;omega;exact wf_
    |apply Qo;omega;exact wf_
   refine qF rfl (Or.inr rfl) ?_
   simp -implicitDefEqProofs only[wL,seval,g0,g1,g5]
   refine er_ ?_
   try(with_reducible rfl)
   simp
 · obtain ⟨m,rfl⟩: ∃m,k=m+1:=⟨k - 1,o_⟩
   have hm:m<l.length:=o_
   rw[QH,getD_eq hm]at k1_1
   by_cases hgt:x<l[m]
   · rw[if_pos hgt]at k1_1
     repeat' with_reducible first
      |refine s_ ?_
      |simp -implicitDefEqProofs only[wZZ,seval,g0,g1,g5]
      |(first|apply qa|apply qJ|apply qK)<;>intro h h_<;>(try simp only[wD,reduceCtorEq]at h_)<;>(try exact wb_)<;>(try simp only[h])
      |refine t_ ?_
      |simp -implicitDefEqProofs (disch:=omega) only[w64,if_neg]
     refine⟨wk_,m,o_,?_⟩
     refine⟨?_,?_,?_,?_,?_⟩
     iterate 3 (focus(first|(simp -implicitDefEqProofs only[wL,wM,wN,wX,seval,Option.some.injEq,g0,g1,g5]<;>exact wt_)|rfl|exact⟨_,rfl⟩))
     all_goals try omega
   · rw [if_neg hgt]at k1_1
     have hp:vF l x=if l[m]=x then l else l.take (m+1)++[x]++l.drop (m+1):=by
      unfold vF;rw[← k1_1];simp[ge_ hm]
     by_cases hx:l[m]=x
     · rw[hp,if_pos hx]
       repeat' with_reducible first
        |refine s_ ?_
        |simp -implicitDefEqProofs only[wZZ,seval,g0,g1,g5]
        |(first|apply qa|apply qJ|apply qK)<;>intro h h_<;>(try simp only[wD,reduceCtorEq]at h_)<;>(try exact wb_)<;>(try simp only[h])
        |refine t_ ?_
        |simp -implicitDefEqProofs (disch:=omega) only[w64,if_neg]
       refine qF rfl (Or.inr rfl) ?_
       simp -implicitDefEqProofs only[wL,seval,g0,g1,g5]
       refine er_ ?_
       try(with_reducible rfl)
     · rw[hp,if_neg hx]
       repeat' with_reducible first
        |refine s_ ?_
        |simp -implicitDefEqProofs only[wZZ,seval,g0,g1,g5]
        |(first|apply qa|apply qJ|apply qK)<;>intro h h_<;>(try simp only[wD,reduceCtorEq]at h_)<;>(try exact wb_)<;>(try simp only[h])
        |refine t_ ?_
        |apply qW;(focus(first|exact qc.sl|exact qc.asl|exact qc.str));exact wf_;(focus(unfold maxLen;first|omega|(simp only[wZ]<;>omega)))
        |(refine qI ?_;simp -implicitDefEqProofs only[wM,wN,seval,g0,g1,g5];apply za;(focus(first|exact qc.sl|exact qc.asl|exact qc.str));(exact wf_);(focus(unfold maxLen;first|omega|(simp only[wZ]<;>omega))))
        |apply Qn;omega;exact wf_
        |apply Qo;omega;exact wf_
        |simp -implicitDefEqProofs (disch:=omega) only[w64,if_neg]
       refine qF rfl (Or.inr rfl) ?_
       simp -implicitDefEqProofs only[wL,seval,g0,g1,g5]
       refine er_ ?_
       try(with_reducible rfl)

abbrev kK (l:List Int):Prop:=l.Pairwise (· < ·)
theorem YE: ∀{a b:List Int},kK a→kK b→(∀x,x∈a↔x∈b)→a=b
 |[],[],_,_,_=>rfl
 |[],y::b,_,_,h=>absurd ((h y).2 (List.mem_cons_self ..)) (by simp)
 |x::a,[],_,_,h=>absurd ((h x).1 (List.mem_cons_self ..)) (by simp)
 | x ::a,y::b,ha,hb,h=>by
   have ha':=List.pairwise_cons.1 ha
   have hb':=List.pairwise_cons.1 hb
   have hxy:x=y:=by
    have h1:=(h x).1 (List.mem_cons_self ..)
    have h2:=(h y).2 (List.mem_cons_self ..)
    rcases List.mem_cons.1 h1 with e|e
    · exact e
    · rcases List.mem_cons.1 h2 with e2|e2
      · exact e2.symm
      · have:=hb'.1 x e;have:=ha'.1 y e2;omega
   subst hxy
   congr 1
   refine YE ha'.2 hb'.2 fun z=>?_
   have hz:=h z
   simp only[List.mem_cons]at hz
   constructor
   · intro hm
     rcases hz.1 (Or.inr hm)with e|e
     · subst e;have:=ha'.1 z hm;omega
     · exact e
   · intro hm
     rcases hz.2 (Or.inr hm)with e|e
     · subst e;have:=hb'.1 z hm;omega
     · exact e
theorem qrx (l:List Int) (x:Int) (n:Nat): ∀i,Jq l x n≤i→i<n→x<l.getD i 0:=by
 induction n with
 |zero=>intro i _ h;omega
 | succ n ih=>
   intro i h1 h2
   rw[QH]at h1
   split at h1
   · rename_i hlt
     by_cases hi:i=n
     · subst hi;exact hlt
     · exact ih i h1 o_
   · omega
theorem qst (l:List Int) (x:Int) (n:Nat):0<Jq l x n→l.getD (Jq l x n - 1) 0≤x:=by
 induction n with
 |zero=>intro h;simp[Jq]at h
 | succ n ih=>
   rw[QH]
   split
   · exact ih
   · rename_i h;intro _;simpa using h
theorem jO {l:List Int} {x y:Int}:y∈vF l x↔y∈l∨y=x:=by
 have hk:=Kw l x l.length
 unfold vF
 split
 · rename_i h
   constructor
   · exact Or.inl
   · rintro (h1|h1)
     · exact h1
     · subst h1
       rw[← h.2,getD_eq o_]
       exact List.getElem_mem _
 · have e: ∀y,y∈l↔y∈l.take (Jq l x l.length)∨y∈l.drop (Jq l x l.length):=by
    intro y
    conv=>lhs;rw[← List.take_append_drop (Jq l x l.length) l]
    rw[List.mem_append]
   simp only[List.mem_append,List.mem_singleton,e y]
   constructor
   · rintro ((h|h)|h)
     · exact Or.inl (Or.inl h)
     · exact Or.inr h
     · exact Or.inl (Or.inr h)
   · rintro ((h|h)|h)
     · exact Or.inl (Or.inl h)
     · exact Or.inr h
     · exact Or.inl (Or.inr h)
theorem qe9 {l:List Int} (h:kK l) {i j:Nat} (hij:i<j) (hj:j<l.length):l.getD i 0<l.getD j 0:=by
 rw[getD_eq o_,getD_eq hj]
 exact(List.pairwise_iff_getElem.1 h) i j o_ hj hij
theorem kg {l:List Int} {x:Int} (h:kK l):kK (vF l x):=by
 have hk:=Kw l x l.length
 have hhi:=qrx l x l.length
 have hlo:=qst l x l.length
 unfold vF
 split
 · exact h
 · rename_i hn
   generalize Jq l x l.length=k at *
   have h1: ∀y∈l.take k,y<x:=by
    intro y hy
    obtain ⟨i,hi,rfl⟩:=List.getElem_of_mem hy
    simp only[List.length_take]at hi
    rw[List.getElem_take,← getD_eq o_]
    have h0:=hlo o_
    have hne:l.getD (k - 1) 0≠x:=fun e=>hn ⟨o_,e⟩
    by_cases hik:i=k - 1
    · subst hik;omega
    · have:=qe9 h (show i<k - 1 by omega) o_;omega
   have h2: ∀y∈l.drop k,x<y:=by
    intro y hy
    obtain ⟨i,hi,rfl⟩:=List.getElem_of_mem hy
    simp only[List.length_drop]at hi
    rw[List.getElem_drop,← getD_eq o_]
    exact hhi (k+i) o_ o_
   rw[kK,List.append_assoc,List.pairwise_append]
   refine⟨h.sublist (List.take_sublist _ _),?_,?_⟩
   · rw[List.singleton_append,List.pairwise_cons]
     exact⟨h2,h.sublist (List.drop_sublist _ _)⟩
   · intro a ha b hb
     have h3:=h1 a ha
     rw[List.singleton_append]at hb
     rcases List.mem_cons.1 hb with e|e
     · subst e;exact h3
     · have:=h2 b e;omega
end Go.Proofs
