/- Part of a proof that a law of the given program answers true. -/
import Derived.Test.YthgkeppkcjcmjaaTZC
set_option linter.unusedSimpArgs false
set_option linter.unusedVariables false
set_option maxHeartbeats 4000000
namespace Go.Proofs
open Go.E
abbrev jS (l:List Int):Prop:=jO l∧ ∀x∈l,0≤x∧x<40
abbrev yJ (L:List (List Int)):Prop:= ∀l∈L,jS l
abbrev qlI (n:Nat) (rel:List (List Int)):Prop:=rel.length=n∧ ∀l∈rel,l.length≤1000000∧ ∀x∈l,∃k:Nat,x=k∧k<n
theorem qhn {l:List Int} {x:Int} (h:jO l) (hx:x∈l):jm l x=l:=
 Xc (jN h) h fun y=>by
  rw[zD]
  exact⟨fun h=>h.elim id fun e=>e ▸ hx,Or.inl⟩
theorem XM {s:List Int}: ∀{l:List Int},jO l→(∀x∈s,x∈l)→s.foldl jm l=l:=by
 induction s with
 |nil=>intros;rfl
 | cons a s ih=>
   intro l h hs
   rw[List.foldl_cons,qhn h (hs a List.mem_cons_self)]
   exact ih h fun x hx=>hs x (List.mem_cons_of_mem _ hx)
theorem Zj {s:List Int}: ∀{l:List Int} {x:Int},x∈s.foldl jm l↔x∈l∨x∈s:=by
 induction s with
 |nil=>intro l x;simp
 | cons a s ih=>
   intro l x
   rw[List.foldl_cons,ih,zD,List.mem_cons]
   constructor
   · rintro ((h|h)|h)
     · exact Or.inl h
     · exact Or.inr (Or.inl h)
     · exact Or.inr (Or.inr h)
   · rintro (h|h|h)
     · exact Or.inl (Or.inl h)
     · exact Or.inl (Or.inr h)
     · exact Or.inr h
theorem qdl {s:List Int}: ∀{l:List Int},jO l→jO (s.foldl jm l):=by
 induction s with
 |nil=>intro l h;exact h
 |cons a s ih=>intro l h;exact ih (jN h)
theorem jS.join {l s:List Int} (h:jS l) (hs:jS s):jS (s.foldl jm l):=
 ⟨qdl h.1,fun x hx=>(Zj.1 hx).elim (h.2 x) (hs.2 x)⟩
theorem jS.take {s:List Int} (hs:jS s) (k:Nat):jS (s.take k):=
 ⟨hs.1.sublist (List.take_sublist _ _),fun x hx=>hs.2 x (List.mem_of_mem_take hx)⟩
theorem jS.len {l:List Int} (h:jS l):l.length≤40:=xR (a:=0) h.1 fun x hx=>by have:=h.2 x hx;omega
theorem QO:jS []:=⟨List.Pairwise.nil,fun x h=>by cases h⟩
theorem yJ.getD {L:List (List Int)} (h:yJ L) (i:Nat):jS (L.getD i []):=by
 unfold List.getD
 cases hg:L[i]? with
 |none=>exact QO
 |some l=>exact h l (List.mem_of_getElem? hg)
def J9 (o:List (List Int)) (r:List Int) (l:List Int):List Int:=r.foldl (fun l j=>joinL l (o.getD j.toNat [])) l
theorem xh {o:List (List Int)} (ho:yJ o): ∀{r l:List Int},jS l→jS (J9 o r l)∧ ∀x∈l,x∈J9 o r l
 |[],l,h=>⟨h,fun _ h=>h⟩
 | a::r,l,h=>by
   have h1:jS (joinL l (o.getD a.toNat [])):=h.join (ho.getD _)
   have:=xh ho (r:=r) h1
   exact⟨this.1,fun x hx=>this.2 x (Zj.2 (Or.inl hx))⟩
theorem qaQ {o:List (List Int)} {r l:List Int} {k:Nat} {x:Int} (h:r[k]?=some x):J9 o (r.take (k+1)) l=joinL (J9 o (r.take k) l) (o.getD x.toNat []):=by
 unfold J9
 rw[List.take_add_one,h,List.foldl_append];rfl
def qfG (rel:List (List Int)) (o:List (List Int)) (i:Nat):List (List Int):=o.modify i fun l=>J9 o (rel.getD i []) l
def Zg (rel out:List (List Int)) (i:Nat):List (List Int):=(List.range i).foldl (qfG rel) out
theorem Ka (out rel:List (List Int)):qdd out rel=Zg rel out out.length:=rfl
theorem Zr (rel out:List (List Int)) (i:Nat):Zg rel out (i+1)=qfG rel (Zg rel out i) i:=by
 unfold Zg;rw[List.range_succ,List.foldl_append];rfl
theorem qac {rel o:List (List Int)} {i:Nat} {l:List Int} (h:o[i]?=some l):qfG rel o i=o.set i (J9 o (rel.getD i []) l):=by
 unfold qfG
 refine List.ext_getElem? fun j=>?_
 rw[List.getElem?_modify,List.getElem?_set]
 have hi:=(List.getElem?_eq_some_iff.1 h).1
 by_cases e:i=j
 · subst e;rw[if_pos rfl,if_pos hi,h];simp
 · rw[if_neg e];simp[e]
theorem kY (rel out:List (List Int)): ∀i,(Zg rel out i).length=out.length
 |0=>rfl
 |i+1=>by rw[Zr];unfold qfG;rw[List.length_modify];exact kY rel out i
theorem yJ.set {L:List (List Int)} (h:yJ L) {l:List Int} (hl:jS l) (i:Nat):yJ (L.set i l):=fun x hx=>
 (List.mem_or_eq_of_mem_set hx).elim (h x) fun e=>e ▸ hl
theorem Xe {rel out:List (List Int)} (h:yJ out): ∀i,i≤out.length→yJ (Zg rel out i)
 |0,_=>h
 | i+1,hi=>by
   rw[Zr]
   have h1:=Xe (rel:=rel) h i o_
   have hlt:i<(Zg rel out i).length:=by rw[kY];omega
   have hg:(Zg rel out i)[i]?=some (Zg rel out i)[i]:=ge_ hlt
   rw[qac hg]
   exact h1.set (xh h1 (h1 _ (List.getElem_mem _))).1 i
def szL (L:List (List Int)):Nat:=(L.map List.length).sum
theorem qi0 {L:List (List Int)} (h:yJ L):szL L≤40 *L.length:=by
 induction L with
 |nil=>exact Nat.le_refl _
 | cons a L ih=>
   have h1:=(h a List.mem_cons_self).len
   have h2:=ih fun l hl=>h l (List.mem_cons_of_mem _ hl)
   unfold szL at h2 ⊢
   rw[List.map_cons,List.sum_cons,List.length_cons];omega
theorem qfE {l l0:List Int}: ∀{L:List (List Int)} {i:Nat},L[i]?=some l0→szL (L.set i l)+l0.length=szL L+l.length
 |[],i,h=>by simp at h
 | a::L,0,h=>by
   simp at h;subst h
   simp[szL];omega
 | a::L,i+1,h=>by
   have:=qfE (l:=l) (L:=L) (i:=i) (by simpa using h)
   simp[szL]at this ⊢;omega
theorem qbY {α:Type} {L:List α} {i:Nat} {l:α} (h:L[i]?=some l):L.set i l=L:=by
 refine List.ext_getElem? fun j=>?_
 rw[List.getElem?_set]
 have hi:=(List.getElem?_eq_some_iff.1 h).1
 by_cases e:i=j
 · subst e;rw[if_pos rfl,if_pos hi,h]
 · rw[if_neg e]
theorem qhg {o:List (List Int)} (ho:yJ o) {r l:List Int} (h:jS l) (hl:(J9 o r l).length=l.length):J9 o r l=l:=
 (Q8 h.1 (xh ho h).1.1 (xh ho h).2 o_).symm
theorem qny {o:List (List Int)} (ho:yJ o) {r l:List Int} (h:jS l):l.length≤(J9 o r l).length:=by
 by_cases e:(J9 o r l).length≤l.length
 · rw[← Q8 h.1 (xh ho h).1.1 (xh ho h).2 e];exact Nat.le_refl _
 · omega
theorem J7 {rel:List (List Int)}: ∀(n:Nat) {out:List (List Int)},yJ out→yJ (JY n out rel)∧(JY n out rel).length=out.length
 |0,out,h=>⟨h,rfl⟩
 | n +1,out,h=>by
   unfold JY
   split
   · exact⟨h,rfl⟩
   · have:=J7 (rel:=rel) n (out:=qdd out rel) (by rw[Ka];exact Xe h _ (Nat.le_refl _))
     exact⟨this.1,by rw[this.2,Ka,kY]⟩
theorem qqZ {o:List (List Int)} (ho:yJ o) {r l:List Int} (h:jS l):joinL (J9 o r l) l=J9 o r l:=XM (xh ho h).1.1 (xh ho h).2
theorem qhB {l:List Int} (h:jS l) (j:Nat):(l.take j).foldl jm l=l:=XM h.1 fun x hx=>List.mem_of_mem_take hx
theorem qkw {O:List (List Int)} (hO:yJ O) {r l0:List Int} {i k fk:Nat} (hi:O[i]?=some l0) (hk:r[k]?=some (fk:Int)) (hf:fk<O.length):
 ∃S,jS S∧S.foldl jm (J9 O (r.take k) l0)=J9 O (r.take (k+1)) l0∧ ∀j,(O.set i ((S.take j).foldl jm (J9 O (r.take k) l0)))[fk]?=some S:=by
 have hl0:jS l0:=hO l0 (List.mem_of_getElem? hi)
 have hC:=(xh hO (r:=r.take k) hl0).1
 have hlt:=(List.getElem?_eq_some_iff.1 hi).1
 have hg:O[fk]?=some O[fk]:=ge_ hf
 have hgD:O.getD ((fk:Int)).toNat []=O[fk]:=by rw[show ((fk:Int)).toNat=fk from rfl,List.getD,hg];rfl
 by_cases e:i=fk
 · subst e
   refine⟨J9 O (r.take k) l0,hC,?_,fun j=>?_⟩
   · rw[qaQ hk,hgD]
     have e0:O[i]=l0:=by rw[hi]at hg;exact(Option.some.inj hg).symm
     rw[e0,qqZ hO hl0]
     exact XM hC.1 fun x hx=>hx
   · rw[qhB hC,List.getElem?_set,if_pos rfl,if_pos hlt]
 · refine⟨O[fk],hO _ (List.getElem_mem _),?_,fun j=>?_⟩
   · rw[qaQ hk,hgD];rfl
   · rw[List.getElem?_set,if_neg e,hg]

set_option maxHeartbeats 8000000
theorem qvb {H:Nat→Option MObj} {next id n:Nat} {es:List V} {L rel:List (List Int)} (hn:n≤9600) (hid:id<next) (hH:H id=some (.own 1 es false)) (hT:Qh es L) (hO:yJ L) (hL:L.length=n) (hR:qlI n rel):qZ Try.prog 78 [.msl id 1 0 n,.sl 1 false (rel.map Jp)] H next (fun v H' n'=>next≤n'∧v=.msl id 1 0 n∧(∃es',H' id=some (.own 1 es' false)∧Qh es' (JY 400000 L rel))∧ ∀j,j<next→j≠id→H' j=H j):=by
 refine qO Try.func78 nm_ qtu (by show 2≤74;decide) ?_
 show ewp _ qi4 _ _
 obtain ⟨R,hRR⟩: ∃R,R=JY 400000 L rel:=⟨_,rfl⟩
 rw[← hRR]
 have hRl:=hR.1
 repeat' with_reducible first
  |refine s_ ?_
  |simp only[wZZ,seval]
 refine qb ?nx1 (fun(q:List (List Int)×Bool) s=>s.f 0=?v1_0∧s.f 1=?v1_1∧s.f 5=.bool q.2∧(yJ q.1)∧((q.1.length=n))∧((q.2=true→ ∃f,JY f q.1 rel=R∧400000≤f+szL q.1))∧((q.2=false→q.1=R))∧((∃es,s.H id=some (.own 1 es false)∧Qh es q.1))∧((∀j,j<next→j≠id→s.H j=H j))) (fun q=>2 *(400000 - szL q.1)+(if q.2=true then 1 else 0)) ((L,true)) wj_ (by refine⟨?_,?_,?_,(by exact hO),(by exact hL),(by exact fun _=>⟨400000,hRR.symm,Nat.le_add_right _ _⟩),(by exact fun e=>(by cases e)),(by exact⟨es,by first|exact hH|(((try simp only[wM]);(repeat first|rw[if_pos trivial]|rw[if_pos rfl]|rw[if_neg o_]));exact hH),hT⟩),(by intro j hj hne;((try simp only[wM]);(repeat first|rw[if_pos trivial]|rw[if_pos rfl]|rw[if_neg o_])))⟩<;>first|(simp only[wL,wM,wN,wX,seval,Option.some.injEq]<;>exact wt_)|rfl|exact⟨_,rfl⟩) ?_
 intro q s hnx ⟨g0,g1,g5,k1_0,k1_1,k1_2,k1_3,k1_4,k1_5⟩
 obtain ⟨o,b⟩:=q
 dsimp only at *
 obtain ⟨es1,oo1,hT1⟩:=k1_4
 have hsz:=qi0 k1_0
 cases b with
 | false=>
   have e:=k1_3 rfl
   subst e
   repeat' with_reducible first
    |refine s_ ?_
    |simp only[wZZ,seval,g0,g1,g5]
   exact kQ rfl (Or.inr rfl) ⟨wg_,l_,⟨es1,oo1,hT1⟩,k1_5⟩
 | true =>
   obtain ⟨f,hf1,hf2⟩:=k1_2 rfl
   obtain ⟨f,rfl⟩: ∃f',f=f'+1:=⟨f - 1,o_⟩
   unfold JY at hf1
   rw[Ka,k1_1]at hf1
   repeat' with_reducible first
    |refine s_ ?_
    |simp only[wZZ,seval,g0,g1,g5]
   refine qb ?nx2 (fun(p:Nat×Bool) s=>s.f 0=?v2_0∧s.f 1=?v2_1∧s.f 5=.bool p.2∧s.f 6=vi p.1∧(p.1≤n)∧((∃es,s.H id=some (.own 1 es false)∧Qh es (Zg rel o p.1)))∧((∀j,j<next→j≠id→s.H j=H j))∧((p.2=false→Zg rel o p.1=o))∧((p.2=true→szL o<szL (Zg rel o p.1)))) (fun p=>n - p.1) ((0,false)) wj_ (by refine⟨?_,?_,?_,?_,wo_,(by exact⟨es1,by((try simp only[wM]);(repeat first|rw[if_pos trivial]|rw[if_pos rfl]|rw[if_neg o_]));exact oo1,hT1⟩),(by intro j hj hne;((try simp only[wM]);(repeat first|rw[if_pos trivial]|rw[if_pos rfl]|rw[if_neg o_]));exact k1_5 j hj hne),(by exact fun _=>rfl),(by exact fun e=>(by cases e))⟩<;>first|(simp only[wL,wM,wN,wX,seval,Option.some.injEq,g0,g1,g5]<;>exact wt_)|rfl|exact⟨_,rfl⟩) ?_
   intro p s hnx ⟨g0,g1,g5,g6,k2_0,k2_1,k2_2,k2_3,k2_4⟩
   obtain ⟨i,b⟩:=p
   dsimp only at *
   obtain ⟨es2,oo2,hT2⟩:=k2_1
   have hz:=w1_ i
   by_cases hi:i<n
   · have hPl:=kY rel o i
     have hPo:=Xe (rel:=rel) k1_0 i o_
     obtain ⟨O,hOe⟩: ∃O,O=Zg rel o i:=⟨_,rfl⟩
     have hsu:=Zr rel o i
     rw[← hOe]at hPl hPo hsu hT2 k2_3 k2_4
     have hgO:O[i]?=some O[i]:=ge_ o_
     have hgr:rel[i]?=some rel[i]:=ge_ o_
     obtain ⟨hrl,hrm⟩:=hR.2 _ (List.getElem_mem (show i<rel.length by omega))
     have hrD:rel.getD i []=rel[i]:=by rw[List.getD,hgr];rfl
     rw[qac hgO,hrD]at hsu
     have hl0:=hPo _ (List.getElem_mem (show i<O.length by omega))
     generalize rel[i]=r at *
     generalize O[i]=l0 at *
     obtain ⟨w0,hw0,hw1⟩:=hT2.2 i l0 hgO
     have hwl:=hw1.1;have hwa:=hw1.2.2.2.2.2
     have hset:O.set i (J9 O (r.take 0) l0)=O:=qbY hgO
     have hl0l:=hl0.len
     repeat' with_reducible first
      |refine s_ ?_
      |simp only[wZZ,seval,g0,g1,g5,g6,hwl]
      |apply qa<;>intro h h_<;>(try simp only[wD,reduceCtorEq]at h_)<;>(try exact wb_)<;>(try simp only[h])
      |refine t_ ?_
      |apply zm;omega;(focus(rw[Int.toNat_natCast];exact hi))
      |(rw[oo2];refine ldV rfl hw0 hwa ?_)
     refine qb ?nx3 (fun(k:Nat) s=>s.f 0=?v3_0∧s.f 1=?v3_1∧s.f 5=?v3_5∧s.f 6=?v3_6∧s.f 7=?v3_7∧s.f 8=?v3_8∧s.f 9=vi k∧(k≤r.length)∧((∃es,s.H id=some (.own 1 es false)∧Qh es (O.set i (J9 O (r.take k) l0))))∧((∀j,j<next→j≠id→s.H j=H j))) (fun k=>r.length - k) (0) wj_ (by refine⟨?_,?_,?_,?_,?_,?_,?_,wo_,(by exact⟨es2,by((try simp only[wM]);(repeat first|rw[if_pos trivial]|rw[if_pos rfl]|rw[if_neg o_]));exact oo2,by rw[hset];exact hT2⟩),(by intro j hj hne;((try simp only[wM]);(repeat first|rw[if_pos trivial]|rw[if_pos rfl]|rw[if_neg o_]));exact k2_2 j hj hne)⟩<;>first|(simp only[wL,wM,wN,wX,seval,Option.some.injEq,g0,g1,g5,g6]<;>exact wt_)|rfl|exact⟨_,rfl⟩) ?_
     intro k s hnx ⟨g0,g1,g5,g6,g7,g8,g9,k3_0,k3_1,k3_2⟩
     obtain ⟨es3,oo3,hT3⟩:=k3_1
     have hzk:=w1_ k
     by_cases hk:k<r.length
     · have hgk:r[k]?=some r[k]:=ge_ hk
       obtain ⟨fk,hfk,hfn⟩:=hrm _ (List.getElem_mem hk)
       rw[hfk]at hgk
       obtain ⟨S,hS1,hS2,hS3⟩:=qkw hPo (r:=r) hgO hgk o_
       have hC:=(xh hPo (r:=r.take k) hl0).1
       have hSl:=hS1.len
       generalize J9 O (r.take k) l0=C at *
       repeat' with_reducible first
        |refine s_ ?_
        |simp only[wZZ,seval,g0,g1,g5,g6,g7,g8,g9]
        |apply qa<;>intro h h_<;>(try simp only[wD,reduceCtorEq]at h_)<;>(try exact wb_)<;>(try simp only[h])
       refine qb ?nx4 (fun(j:Nat) s=>s.f 0=?v4_0∧s.f 1=?v4_1∧s.f 5=?v4_5∧s.f 6=?v4_6∧s.f 7=?v4_7∧s.f 8=?v4_8∧s.f 9=?v4_9∧s.f 10=vi j∧(j≤S.length)∧((∃es,s.H id=some (.own 1 es false)∧Qh es (O.set i ((S.take j).foldl jm C))))∧((∀j,j<next→j≠id→s.H j=H j))) (fun j=>S.length - j) (0) wj_ (by refine⟨?_,?_,?_,?_,?_,?_,?_,?_,wo_,(by exact⟨es3,by((try simp only[wM]);(repeat first|rw[if_pos trivial]|rw[if_pos rfl]|rw[if_neg o_]));exact oo3,hT3⟩),(by intro j hj hne;((try simp only[wM]);(repeat first|rw[if_pos trivial]|rw[if_pos rfl]|rw[if_neg o_]));exact k3_2 j hj hne)⟩<;>first|(simp only[wL,wM,wN,wX,seval,Option.some.injEq,g0,g1,g5,g6,g7,g8,g9]<;>exact wt_)|rfl|exact⟨_,rfl⟩) ?_
       intro j s hnx ⟨g0,g1,g5,g6,g7,g8,g9,g10,k4_0,k4_1,k4_2⟩
       obtain ⟨es4,oo4,hT4⟩:=k4_1
       have hzj:=w1_ j
       obtain ⟨wf,hf0,hf1'⟩:=hT4.2 fk S (hS3 j)
       have hfl:=hf1'.1;have hfa:=hf1'.2.2.2.2.2;have hfi:=hf1'.2.1
       by_cases hj:j<S.length
       · have hgj:S[j]?=some S[j]:=ge_ hj
         have hU:=(hC.join (hS1.take j))
         have hUl:=hU.len
         have hst:=zY jm C hgj
         obtain ⟨wi,hi0,hi1⟩:=hT4.2 i ((S.take j).foldl jm C) (by rw[List.getElem?_set,if_pos rfl,if_pos o_])
         have hia:=hi1.2.2.2.2.2
         generalize (S.take j).foldl jm C=U at *
         generalize S[j]=y at *
         have hput:=zM (l:=U) (x:=y) o_
         have hT5:=hT4.set (Zt false (jm U y)) i
         rw[List.set_set]at hT5
         repeat' with_reducible first
          |refine s_ ?_
          |simp only[wZZ,seval,g0,g1,g5,g6,g7,g8,g9,g10,hzj,hfl]
          |apply qa<;>intro h h_<;>(try simp only[wD,reduceCtorEq]at h_)<;>(try exact wb_)<;>(try simp only[h])
          |refine t_ ?_
          |apply zm;omega;(focus(rw[Int.toNat_natCast];first|exact hi|exact hfn))
          |(rw[oo4];refine ldV rfl hf0 hfa ?_)
          |(rw[oo4];refine ldV rfl hi0 hia ?_)
          |(refine JL (hfi _ _ _ o_ (by with_unfolding_all exact hgj)) ?_)
          |refine cq2 hput hi1.2.2.1.er qc ?_
          |(refine stV oo4 hi0 hia rfl rfl rfl ?_)
         exact⟨wg_,j+1,o_,trivial,trivial,trivial,trivial,trivial,trivial,trivial,rfl,o_,⟨_,rfl,by rw[hst];exact hT5⟩,fun x hx hne=>by((try simp only[wM]);(repeat first|rw[if_pos trivial]|rw[if_pos rfl]|rw[if_neg o_]));exact k4_2 x hx hne⟩
       · have e:S.take j=S:=List.take_of_length_le o_
         rw[e,hS2]at hT4
         repeat' with_reducible first
          |refine s_ ?_
          |simp only[wZZ,seval,g0,g1,g5,g6,g7,g8,g9,g10,hzk,hfl]
          |apply qa<;>intro h h_<;>(try simp only[wD,reduceCtorEq]at h_)<;>(try exact wb_)<;>(try simp only[h])
          |refine t_ ?_
          |apply zm;omega;(focus(rw[Int.toNat_natCast];exact hfn))
          |(rw[oo4];refine ldV rfl hf0 hfa ?_)
         exact⟨wg_,k+1,o_,trivial,trivial,trivial,trivial,trivial,trivial,rfl,o_,⟨es4,oo4,hT4⟩,k4_2⟩
     · have e:r.take k=r:=List.take_of_length_le o_
       rw[e]at hT3
       have hrow:=qhg hPo (r:=r) hl0
       have hrle:=qny hPo (r:=r) hl0
       have hrok:=(xh hPo (r:=r) hl0).1.len
       have hsz2:=qfE (l:=J9 O r l0) hgO
       obtain ⟨wi,hi0,hi1⟩:=hT3.2 i (J9 O r l0) (by rw[List.getElem?_set,if_pos rfl,if_pos o_])
       have hil:=hi1.1;have hia:=hi1.2.2.2.2.2
       generalize J9 O r l0=l1 at *
       skip
       cases b with
       | true=>
         repeat' with_reducible first
          |refine s_ ?_
          |simp only[wZZ,seval,g0,g1,g5,g6,g7,g8,g9,hil]
          |apply qa<;>intro h h_<;>(try simp only[wD,reduceCtorEq]at h_)<;>(try exact wb_)<;>(try simp only[h])
          |simp(disch:=omega) only[w64,if_neg]
         exact⟨wg_,(i+1,true),by dsimp only;omega,trivial,trivial,rfl,rfl,by dsimp only;omega,⟨es3,oo3,by dsimp only;rw[hsu];exact hT3⟩,k3_2,fun e=>(by cases e),fun _=>(by dsimp only;rw[hsu];have:=k2_4 rfl;omega)⟩
       | false=>
         by_cases he:l1.length=l0.length
         · repeat' with_reducible first
            |refine s_ ?_
            |simp only[wZZ,seval,g0,g1,g5,g6,g7,g8,g9,hil]
            |apply qa<;>intro h h_<;>(try simp only[wD,reduceCtorEq]at h_)<;>(try exact wb_)<;>(try simp only[h])
            |apply zm;omega;(focus(rw[Int.toNat_natCast];exact hi))
            |(rw[oo3];refine ldV rfl hi0 hia ?_)
            |simp(disch:=omega) only[w64,if_neg]
           exact⟨wg_,(i+1,false),by dsimp only;omega,trivial,trivial,congrArg V.bool (by rw[he];simp),rfl,by dsimp only;omega,⟨es3,oo3,by dsimp only;rw[hsu];exact hT3⟩,k3_2,fun _=>(by dsimp only;rw[hsu,hrow he,qbY hgO];exact k2_3 rfl),fun e=>(by cases e)⟩
         · repeat' with_reducible first
            |refine s_ ?_
            |simp only[wZZ,seval,g0,g1,g5,g6,g7,g8,g9,hil]
            |apply qa<;>intro h h_<;>(try simp only[wD,reduceCtorEq]at h_)<;>(try exact wb_)<;>(try simp only[h])
            |apply zm;omega;(focus(rw[Int.toNat_natCast];exact hi))
            |(rw[oo3];refine ldV rfl hi0 hia ?_)
            |simp(disch:=omega) only[w64,if_neg]
           exact⟨wg_,(i+1,true),by dsimp only;omega,trivial,trivial,congrArg V.bool (by simp;omega),rfl,by dsimp only;omega,⟨es3,oo3,by dsimp only;rw[hsu];exact hT3⟩,k3_2,fun e=>(by cases e),fun _=>(by dsimp only;rw[hsu];have h9:=k2_3 rfl;rw[h9]at hsz2;rw[h9];omega)⟩
   · have e:i=n:=o_
     subst e
     have hPl:=kY rel o i
     have hPo:=Xe (rel:=rel) k1_0 i o_
     have hPs:=qi0 hPo
     generalize Zg rel o i=O at *
     skip
     repeat' with_reducible first
      |refine s_ ?_
      |simp only[wZZ,seval,g0,g1,g5,g6]
     refine⟨wg_,(O,b),?_,trivial,trivial,rfl,hPo,by rw[hPl];exact k1_1,fun e=>?_,fun e=>?_,⟨es2,oo2,hT2⟩,k2_2⟩
     · dsimp only
       cases b with
       |false=>rw[k2_3 rfl,if_neg (by decide)];omega
       |true=>have:=k2_4 rfl;rw[if_pos rfl];omega
     · have h1:=k2_4 e
       rw[if_neg (fun h=>by rw[h]at h1;omega)]at hf1
       exact⟨f,hf1,by dsimp only;omega⟩
     · have h1:=k2_3 e
       rw[if_pos h1]at hf1
       dsimp only
       rw[h1];exact hf1

abbrev yZ (n:Nat) (O:List (List Int)):Prop:=O.length=n∧ ∀l∈O,jO l∧ ∀x∈l,∃k:Nat,x=(k:Int)∧k<n
theorem yZ.set {n:Nat} {O:List (List Int)} (h:yZ n O) {l:List Int} (hl:jO l∧ ∀x∈l,∃k:Nat,x=(k:Int)∧k<n) (i:Nat):yZ n (O.set i l):=
 ⟨by rw[List.length_set];exact h.1,fun x hx=>(List.mem_or_eq_of_mem_set hx).elim (h.2 x) fun e=>e ▸ hl⟩
theorem yZ.put {n i:Nat} {l:List Int} (hl:jO l∧ ∀x∈l,∃k:Nat,x=(k:Int)∧k<n) (hi:i<n):jO (jm l (i:Int))∧ ∀x∈jm l (i:Int),∃k:Nat,x=(k:Int)∧k<n:=
 ⟨jN hl.1,fun x hx=>(zD.1 hx).elim (hl.2 x) fun e=>⟨i,e,hi⟩⟩
theorem yZ.len {n:Nat} {l:List Int} (hl:jO l∧ ∀x∈l,∃k:Nat,x=(k:Int)∧k<n):l.length≤n:=
 xR (a:=0) hl.1 fun x hx=>by obtain ⟨k,rfl,hk⟩:=hl.2 x hx;omega
theorem Qd {α:Type} {L:List α} {i:Nat} {l:α} (f:α→α) (h:L[i]?=some l):L.modify i f=L.set i (f l):=by
 refine List.ext_getElem? fun j=>?_
 rw[List.getElem?_modify,List.getElem?_set]
 have hi:=(List.getElem?_eq_some_iff.1 h).1
 by_cases e:i=j
 · subst e;rw[if_pos rfl,if_pos hi,h];simp
 · rw[if_neg e];simp[e]
theorem YV {β:Type} (f:β→Nat→β) (b:β) (n:Nat):(List.range (n+1)).foldl f b=f ((List.range n).foldl f b) n:=by
 rw[List.range_succ,List.foldl_append];rfl
abbrev qsZ (g:Grammar) (E:Nat→Bool) (m:List Sta) (T:List (Int×Int)):List (List Int)→Nat→List (List Int):=fun out i=>g.prods.foldl (qan E m i (T.getD i (0,0))) out
theorem qaw (n:Nat):yZ n (List.replicate n []):=⟨List.length_replicate,fun l hl=>by rw[(List.mem_replicate.1 hl).2];exact⟨List.Pairwise.nil,fun x h=>by cases h⟩⟩
theorem qg0 {E:Nat→Bool} {m:List Sta} {i k:Nat} {q:Int} {r:List Int} {out:List (List Int)} (h: ¬ (1000≤r.getD k 0∧zo false E (r.drop (k+1))=true∧0≤xN m q (r.take k)∧0≤qaT (qB m) (xN m q (r.take k)) (r.getD k 0))):XB E m i q r out k=out:=by
 unfold XB
 rw[if_neg h]
theorem QA {g : Grammar} {m:List Sta} {E:Nat→Bool} (hM:MOk g m) (hg:GOk g) (hE:IsGrow g false E) (htl0:(qB m).length≤9600):Pure Try.prog 81 [g.V,.sl 2 false (m.map Sta.V)] (.sl 1 false ((xB g E m).map Jp)):=by
 refine pure_intro Try.func81 nm_ qvs (by show 2≤104;decide) ?_
 show ewp _ qh0 _ _
 have hml:=hM.len;have hmv:=hM.mvl
 have hpl:=hg.pl2;have htk:=hg.tk2;have hnn:=hg.nn2
 have htr:=jc (m:=m) o_ (fun q h=>by have:=hmv q h;omega)
 have hdef:xB g E m=(List.range (qB m).length).foldl (qsZ g E m (qB m)) (List.replicate (qB m).length []):=rfl
 obtain ⟨E',hE',hnull⟩:=yc hg
 obtain rfl:=hE'.uniq hE
 have hcb:=qew g.nons.length E'
 rw[hdef]
 have hno:=fun i k q r out=>qg0 (E:=E') (m:=m) (i:=i) (k:=k) (q:=q) (r:=r) (out:=out)
 have hIn: ∀i t out p,qan E' m i t out p=if 1000+p.left=t.2 then(List.range p.right.length).foldl (XB E' m i t.1 p.right) out else out:=fun _ _ _ _=>rfl
 have hKn: ∀i q r out k,XB E' m i q r out k=if 1000≤r.getD k 0∧zo false E' (r.drop (k+1))=true∧0≤xN m q (r.take k)∧0≤qaT (qB m) (xN m q (r.take k)) (r.getD k 0)then out.modify (qaT (qB m) (xN m q (r.take k)) (r.getD k 0)).toNat (fun l=>jm l (i:Int))else out:=fun _ _ _ _ _=>rfl
 generalize hT:qB m=T at *
 repeat' with_reducible first
  |refine s_ ?_
  |simp -implicitDefEqProofs only[wZZ,seval]
  |refine cq1 htr qc ?_
  |refine cq1 hnull qc ?_
  |refine t_ ?_
  |apply qbj;exact wf_;exact wf_;(focus(unfold maxLen;first|omega|(simp only[wZ]<;>omega)))
 refine qb ?nx1 (fun(i:Nat) s=>s.f 1=?v1_1∧s.f 2=?v1_2∧s.f 5=?v1_5∧s.f 6=?v1_6∧s.f 7=?v1_7∧s.H 0=some (.own 5 [g.V] false)∧s.f 8=vi i∧(i≤T.length)∧(yZ T.length ((List.range i).foldl (qsZ g E' m T) (List.replicate T.length [])))∧((∃es,s.H 10=some (.own 1 es false)∧Qh es ((List.range i).foldl (qsZ g E' m T) (List.replicate T.length []))))) (fun i=>T.length - i) (0) wj_ (by refine⟨?_,?_,?_,?_,?_,?_,?_,wo_,(by exact qaw _),(by exact⟨_,by(simp only[wM];(repeat first|rw[if_pos trivial]|rw[if_pos rfl]|rw[if_neg o_])),Qh.rep _⟩)⟩<;>first|(simp -implicitDefEqProofs only[wL,wM,wN,wX,seval,Option.some.injEq]<;>exact wt_)|rfl|exact⟨_,rfl⟩) ?_
 intro i s hnx ⟨g1,g2,g5,g6,g7,o0,g8,k1_0,k1_1,k1_2⟩
 obtain ⟨es1,oo1,hT1⟩:=k1_2
 have hz:=w1_ i
 by_cases hi:i<T.length
 · have hgi : T[i]?=some T[i]:=ge_ hi
   have hst:=YV (qsZ g E' m T) (List.replicate T.length []) i
   have htD:T.getD i (0,0)=T[i]:=by rw[List.getD,hgi];rfl
   simp only[qsZ,htD]at hst
   generalize T[i]=t at *
   obtain ⟨t1,t2⟩:=t
   generalize hO1:(List.range i).foldl (qsZ g E' m T) (List.replicate T.length [])=O1 at *
   repeat' with_reducible first
    |refine s_ ?_
    |simp -implicitDefEqProofs only[wZZ,seval,g1,g2,g5,g6,g7,g8,o0,hz]
    |apply qa<;>intro h h_<;>(try simp only[wD,reduceCtorEq]at h_)<;>(try exact wb_)<;>(try simp only[h])
   refine qb ?nx2 (fun(j:Nat) s=>s.f 1=?v2_1∧s.f 2=?v2_2∧s.f 5=?v2_5∧s.f 6=?v2_6∧s.f 7=?v2_7∧s.f 8=?v2_8∧s.H 0=some (.own 5 [g.V] false)∧s.f 9=vi j∧(j≤g.prods.length)∧(yZ T.length ((g.prods.take j).foldl (qan E' m i (t1,t2)) O1))∧((∃es,s.H 10=some (.own 1 es false)∧Qh es ((g.prods.take j).foldl (qan E' m i (t1,t2)) O1)))) (fun j=>g.prods.length - j) (0) wj_ (by refine⟨?_,?_,?_,?_,?_,?_,?_,?_,wo_,(by exact k1_1),(by exact⟨es1,by(simp only[wM];(repeat first|rw[if_pos trivial]|rw[if_pos rfl]|rw[if_neg o_]));exact oo1,hT1⟩)⟩<;>first|(simp -implicitDefEqProofs only[wL,wM,wN,wX,seval,Option.some.injEq,g1,g2,g5,g6,g7,g8,o0]<;>exact wt_)|rfl|exact⟨_,rfl⟩) ?_
   intro j s hnx ⟨g1,g2,g5,g6,g7,g8,o0,g9,k2_0,k2_1,k2_2⟩
   obtain ⟨es2,oo2,hT2⟩:=k2_2
   have hzj:=w1_ j
   by_cases hj:j<g.prods.length
   · have hgj : g.prods[j]?=some g.prods[j]:=ge_ hj
     have hst2:=zY (qan E' m i (t1,t2)) O1 hgj
     have hpm:=List.getElem_mem hj
     have hrl:=hg.rlen _ hpm
     obtain ⟨lf,hl1,hl2⟩:=hg.left _ hpm
     have hrt:=hg.right _ hpm
     have hrt2:=hg.rt hpm
     rw[hIn]at hst2
     generalize (g.prods.take j).foldl (qan E' m i (t1,t2)) O1=O2 at *
     generalize g.prods[j]=p at *
     obtain ⟨pl,pr,pc,pco,pa,pat⟩:=p
     dsimp only at hl1 hrl hrt hrt2 hst2
     subst hl1
     have hzl:IntKind.i64.wrap (1000+(lf:Int))=1000+(lf:Int):=wrap64 o_ o_
     by_cases hc:1000+(lf:Int)=t2
     · rw [if_pos hc]at hst2
       repeat' with_reducible first
        |refine s_ ?_
        |simp -implicitDefEqProofs only[wZZ,seval,g1,g2,g5,g6,g7,g8,g9,o0,hzj,hzl]
        |apply qa<;>intro h h_<;>(try simp only[wD,reduceCtorEq]at h_)<;>(try exact wb_)<;>(try simp only[h])
        |refine t_ ?_
       refine qb ?nx3 (fun(k:Nat) s=>s.f 1=?v3_1∧s.f 2=?v3_2∧s.f 5=?v3_5∧s.f 6=?v3_6∧s.f 7=?v3_7∧s.f 8=?v3_8∧s.f 9=?v3_9∧s.f 10=?v3_10∧s.H 0=some (.own 5 [g.V] false)∧s.f 11=vi k∧(k≤pr.length)∧(yZ T.length ((List.range k).foldl (XB E' m i t1 pr) O2))∧((∃es,s.H 10=some (.own 1 es false)∧Qh es ((List.range k).foldl (XB E' m i t1 pr) O2)))) (fun k=>pr.length - k) (0) wj_ (by refine⟨?_,?_,?_,?_,?_,?_,?_,?_,?_,?_,wo_,(by exact k2_1),(by exact⟨es2,by(simp only[wM];(repeat first|rw[if_pos trivial]|rw[if_pos rfl]|rw[if_neg o_]));exact oo2,hT2⟩)⟩<;>first|(simp -implicitDefEqProofs only[wL,wM,wN,wX,seval,Option.some.injEq,g1,g2,g5,g6,g7,g8,g9,o0]<;>exact wt_)|rfl|exact⟨_,rfl⟩) ?_
       intro k s hnx ⟨g1,g2,g5,g6,g7,g8,g9,g10,o0,g11,k3_0,k3_1,k3_2⟩
       obtain ⟨es3,oo3,hT3⟩:=k3_2
       have hzk:=w1_ k
       by_cases hk:k<pr.length
       · have hgk:pr[k]?=some pr[k]:=ge_ hk
         have hsy:=hrt _ (List.getElem_mem hk)
         have hst3:=YV (XB E' m i t1 pr) O2 k
         have hkD:pr.getD k 0=pr[k]:=by rw[List.getD,hgk];rfl
         rw[hKn,hkD]at hst3
         have hwk:=kI (m:=m) (q:=t1) (l:=pr.take k) o_ (fun q h=>by have:=hmv q h;omega) (by rw[List.length_take];omega)
         have hem:=yK (n:=g.nons.length) (F:=E') (l:=pr.drop (k+1)) o_ (by rw[List.length_drop];omega) (fun x hx=>hrt2 x (List.mem_of_mem_drop hx))
         generalize xN m t1 (pr.take k)=w at *
         have hnu:=yA (t:=T) (q:=w) (sy:=pr[k]) o_
         have hnc:=Y0 (q:=w) (s:=pr[k]) T 0
         have hnd:qaT T w pr[k]=qgd w pr[k] T 0:=rfl
         rw[← hnd]at hnc
         generalize qaT T w pr[k]=nu at *
         generalize (List.range k).foldl (XB E' m i t1 pr) O2=O3 at *
         generalize pr[k]=sy at *
         by_cases hs:1000≤sy
         · cases hf:zo false E' (pr.drop (k+1))with
           | false=>
             rw[if_neg (by rw[hf];simp)]at hst3
             rw[hf]at hem
             repeat' with_reducible first
              |refine s_ ?_
              |simp -implicitDefEqProofs only[wZZ,seval,g1,g2,g5,g6,g7,g8,g9,g10,g11,o0,hzk]
              |(first|apply qa|apply qg|apply qh)<;>intro h h_<;>(try simp only[wD,reduceCtorEq]at h_)<;>(try exact wb_)<;>(try simp only[h])
              |refine t_ ?_
              |refine cq2 hem qc jA ?_
              |apply kD;omega;exact wf_
             exact⟨wg_,k+1,o_,trivial,trivial,trivial,trivial,trivial,trivial,trivial,trivial,trivial,rfl,o_,(by rw[hst3];exact k3_1),es3,oo3,(by rw[hst3];exact hT3)⟩
           | true=>
             rw[hf]at hem
             by_cases hw:0≤w∧0≤nu
             · obtain ⟨hw1,hw2⟩:=hw
               rw[if_pos ⟨hs,hf,hw1,hw2⟩]at hst3
               obtain ⟨v,hv1,hv2⟩: ∃v:Nat,nu=v∧v<T.length:=by
                rcases hnc with h|⟨v,h1,h2⟩
                · omega
                · exact⟨v,o_,h2⟩
               subst hv1
               rw[show ((v:Int)).toNat=v from rfl]at hst3
               have hgv:O3[v]?=some O3[v]:=ge_ (by rw[k3_1.1];exact hv2)
               rw[Qd _ hgv]at hst3
               have hlv:=k3_1.2 _ (List.mem_of_getElem? hgv)
               have hll:=yZ.len hlv
               have hnew:=k3_1.set (yZ.put hlv hi) v
               obtain ⟨wv,hv0,hvi⟩:=hT3.2 v _ hgv
               generalize O3[v]=lv at *
               have hva:=hvi.2.2.2.2.2
               have hput:=zM (l:=lv) (x:=(i:Int)) o_
               have hT4:=hT3.set (Zt false (jm lv (i:Int))) v
               rw[← hst3]at hnew hT4
               repeat' with_reducible first
                |refine s_ ?_
                |simp -implicitDefEqProofs only[wZZ,seval,g1,g2,g5,g6,g7,g8,g9,g10,g11,o0,hzk]
                |(first|apply qa|apply qg|apply qh)<;>intro h h_<;>(try simp only[wD,reduceCtorEq]at h_)<;>(try exact wb_)<;>(try simp only[h])
                |refine t_ ?_
                |refine cq2 hem qc jA ?_
                |refine cq3 hwk qc qc jA ?_
                |refine cq3 hnu qc qc qc ?_
                |apply zm;omega;(focus(rw[Int.toNat_natCast];exact hv2))
                |(rw[oo3];refine ldV rfl hv0 hva ?_)
                |refine cq2 hput hvi.2.2.1.er qc ?_
                |(refine stV oo3 hv0 hva rfl rfl rfl ?_)
                |apply yX;omega;exact wf_
                |apply kD;omega;exact wf_
               exact⟨wg_,k+1,o_,trivial,trivial,trivial,trivial,trivial,trivial,trivial,trivial,trivial,rfl,o_,hnew,_,rfl,hT4⟩
             · rw[if_neg (fun h=>hw ⟨h.2.2.1,h.2.2.2⟩)]at hst3
               repeat' with_reducible first
                |refine s_ ?_
                |simp -implicitDefEqProofs only[wZZ,seval,g1,g2,g5,g6,g7,g8,g9,g10,g11,o0,hzk]
                |(first|apply qa|apply qg|apply qh)<;>intro h h_<;>(try simp only[wD,reduceCtorEq]at h_)<;>(try exact wb_)<;>(try simp only[h])
                |refine t_ ?_
                |refine cq2 hem qc jA ?_
                |refine cq3 hwk qc qc jA ?_
                |refine cq3 hnu qc qc qc ?_
                |apply yX;omega;exact wf_
                |apply kD;omega;exact wf_
               all_goals exact⟨wg_,k+1,o_,trivial,trivial,trivial,trivial,trivial,trivial,trivial,trivial,trivial,rfl,o_,(by rw[hst3];exact k3_1),es3,oo3,(by rw[hst3];exact hT3)⟩
         · rw[if_neg (fun h=>hs h.1)]at hst3
           repeat' with_reducible first
            |refine s_ ?_
            |simp -implicitDefEqProofs only[wZZ,seval,g1,g2,g5,g6,g7,g8,g9,g10,g11,o0,hzk]
            |(first|apply qa|apply qg|apply qh)<;>intro h h_<;>(try simp only[wD,reduceCtorEq]at h_)<;>(try exact wb_)<;>(try simp only[h])
            |refine t_ ?_
           exact⟨wg_,k+1,o_,trivial,trivial,trivial,trivial,trivial,trivial,trivial,trivial,trivial,rfl,o_,(by rw[hst3];exact k3_1),es3,oo3,(by rw[hst3];exact hT3)⟩
       · have e:k=pr.length:=o_
         subst e
         rw[← hst2]at hT3 k3_1
         repeat' with_reducible first
          |refine s_ ?_
          |simp -implicitDefEqProofs only[wZZ,seval,g1,g2,g5,g6,g7,g8,g9,g10,g11,o0,hzj]
         exact⟨wg_,j+1,o_,trivial,trivial,trivial,trivial,trivial,trivial,trivial,rfl,o_,k3_1,es3,oo3,hT3⟩
     · rw[if_neg hc]at hst2
       skip
       repeat' with_reducible first
        |refine s_ ?_
        |simp -implicitDefEqProofs only[wZZ,seval,g1,g2,g5,g6,g7,g8,g9,o0,hzj,hzl]
        |apply qa<;>intro h h_<;>(try simp only[wD,reduceCtorEq]at h_)<;>(try exact wb_)<;>(try simp only[h])
        |refine t_ ?_
       exact⟨wg_,j+1,o_,trivial,trivial,trivial,trivial,trivial,trivial,trivial,rfl,o_,(by rw[hst2];exact k2_1),es2,oo2,(by rw[hst2];exact hT2)⟩
   · have e:g.prods.take j=g.prods:=List.take_of_length_le o_
     rw[e,← hst]at hT2 k2_1
     repeat' with_reducible first
      |refine s_ ?_
      |simp -implicitDefEqProofs only[wZZ,seval,g1,g2,g5,g6,g7,g8,g9,o0,hz]
      |apply qa<;>intro h h_<;>(try simp only[wD,reduceCtorEq]at h_)<;>(try exact wb_)<;>(try simp only[h])
      |refine t_ ?_
     exact⟨wg_,i+1,o_,trivial,trivial,trivial,trivial,trivial,trivial,rfl,o_,k2_1,es2,oo2,hT2⟩
 · have e:i=T.length:=o_
   subst e
   skip
   repeat' with_reducible first
    |refine s_ ?_
    |simp -implicitDefEqProofs only[wZZ,seval,g1,g2,g5,g6,g7,g8,o0]
   refine qA rfl (Or.inr rfl) ?_
   (simp -implicitDefEqProofs only[wL,seval])
   exact Qh.er (ro:=false) (by(simp only[wM];(repeat first|rw[if_pos trivial]|rw[if_pos rfl]|rw[if_neg o_]));exact oo1) hT1 k1_1.1
end Go.Proofs
