/- Part of a proof that a law of the given program answers true. -/
import Derived.Test.YthgkeppkcjcmjaaDZC
set_option linter.unusedSimpArgs false
set_option linter.unusedVariables false
set_option maxHeartbeats 4000000
namespace Go.Proofs
open Go.E
abbrev j4 (l:List Int):Prop:=jU l∧ ∀x∈l,0≤x∧x<40
abbrev yX (L:List (List Int)):Prop:= ∀l∈L,j4 l
abbrev qk2 (n:Nat) (rel:List (List Int)):Prop:=rel.length=n∧ ∀l∈rel,l.length≤1000000∧ ∀x∈l,∃k:Nat,x=k∧k<n
theorem qhB {l:List Int} {x:Int} (h:jU l) (hx:x∈l):jw l x=l:=
 Xk (jS h) h fun y=>by
  rw[zo]
  exact⟨fun h=>h.elim id fun e=>e ▸ hx,Or.inl⟩
theorem YA {s:List Int}: ∀{l:List Int},jU l→(∀x∈s,x∈l)→s.foldl jw l=l:=by
 induction s with
 |nil=>intros;rfl
 | cons a s ih=>
   intro l h hs
   rw[List.foldl_cons,qhB h (hs a List.mem_cons_self)]
   exact ih h fun x hx=>hs x (List.mem_cons_of_mem _ hx)
theorem Zv {s:List Int}: ∀{l:List Int} {x:Int},x∈s.foldl jw l↔x∈l∨x∈s:=by
 induction s with
 |nil=>intro l x;simp
 | cons a s ih=>
   intro l x
   rw[List.foldl_cons,ih,zo,List.mem_cons]
   constructor
   · rintro ((h|h)|h)
     · exact Or.inl h
     · exact Or.inr (Or.inl h)
     · exact Or.inr (Or.inr h)
   · rintro (h|h|h)
     · exact Or.inl (Or.inl h)
     · exact Or.inl (Or.inr h)
     · exact Or.inr h
theorem qdn {s:List Int}: ∀{l:List Int},jU l→jU (s.foldl jw l):=by
 induction s with
 |nil=>intro l h;exact h
 |cons a s ih=>intro l h;exact ih (jS h)
theorem j4.join {l s:List Int} (h:j4 l) (hs:j4 s):j4 (s.foldl jw l):=
 ⟨qdn h.1,fun x hx=>(Zv.1 hx).elim (h.2 x) (hs.2 x)⟩
theorem j4.take {s:List Int} (hs:j4 s) (k:Nat):j4 (s.take k):=
 ⟨hs.1.sublist (List.take_sublist _ _),fun x hx=>hs.2 x (List.mem_of_mem_take hx)⟩
theorem j4.len {l:List Int} (h:j4 l):l.length≤40:=xZ (a:=0) h.1 fun x hx=>by have:=h.2 x hx;omega
theorem Jd:j4 []:=⟨List.Pairwise.nil,fun x h=>by cases h⟩
theorem yX.getD {L:List (List Int)} (h:yX L) (i:Nat):j4 (L.getD i []):=by
 unfold List.getD
 cases hg:L[i]? with
 |none=>exact Jd
 |some l=>exact h l (List.mem_of_getElem? hg)
def Xu (o:List (List Int)) (r:List Int) (l:List Int):List Int:=r.foldl (fun l j=>joinL l (o.getD j.toNat [])) l
theorem xL {o:List (List Int)} (ho:yX o): ∀{r l:List Int},j4 l→j4 (Xu o r l)∧ ∀x∈l,x∈Xu o r l
 |[],l,h=>⟨h,fun _ h=>h⟩
 | a::r,l,h=>by
   have h1:j4 (joinL l (o.getD a.toNat [])):=h.join (ho.getD _)
   have:=xL ho (r:=r) h1
   exact⟨this.1,fun x hx=>this.2 x (Zv.2 (Or.inl hx))⟩
theorem qao {o:List (List Int)} {r l:List Int} {k:Nat} {x:Int} (h:r[k]?=some x):Xu o (r.take (k+1)) l=joinL (Xu o (r.take k) l) (o.getD x.toNat []):=by
 unfold Xu
 rw[List.take_add_one,h,List.foldl_append];rfl
def qeF (rel:List (List Int)) (o:List (List Int)) (i:Nat):List (List Int):=o.modify i fun l=>Xu o (rel.getD i []) l
def Zr (rel out:List (List Int)) (i:Nat):List (List Int):=(List.range i).foldl (qeF rel) out
theorem Kn (out rel:List (List Int)):qda out rel=Zr rel out out.length:=rfl
theorem Jr (rel out:List (List Int)) (i:Nat):Zr rel out (i+1)=qeF rel (Zr rel out i) i:=by
 unfold Zr;rw[List.range_succ,List.foldl_append];rfl
theorem qat {rel o:List (List Int)} {i:Nat} {l:List Int} (h:o[i]?=some l):qeF rel o i=o.set i (Xu o (rel.getD i []) l):=by
 unfold qeF
 refine List.ext_getElem? fun j=>?_
 rw[List.getElem?_modify,List.getElem?_set]
 have hi:=(List.getElem?_eq_some_iff.1 h).1
 by_cases e:i=j
 · subst e;rw[if_pos rfl,if_pos hi,h];simp
 · rw[if_neg e];simp[e]
theorem kW (rel out:List (List Int)): ∀i,(Zr rel out i).length=out.length
 |0=>rfl
 |i+1=>by rw[Jr];unfold qeF;rw[List.length_modify];exact kW rel out i
theorem yX.set {L:List (List Int)} (h:yX L) {l:List Int} (hl:j4 l) (i:Nat):yX (L.set i l):=fun x hx=>
 (List.mem_or_eq_of_mem_set hx).elim (h x) fun e=>e ▸ hl
theorem Xy {rel out:List (List Int)} (h:yX out): ∀i,i≤out.length→yX (Zr rel out i)
 |0,_=>h
 | i+1,hi=>by
   rw[Jr]
   have h1:=Xy (rel:=rel) h i (by omega)
   have hlt:i<(Zr rel out i).length:=by rw[kW];omega
   have hg:(Zr rel out i)[i]?=some (Zr rel out i)[i]:=ge_ hlt
   rw[qat hg]
   exact h1.set (xL h1 (h1 _ (List.getElem_mem _))).1 i
def szL (L:List (List Int)):Nat:=(L.map List.length).sum
theorem qhG {L:List (List Int)} (h:yX L):szL L≤40 *L.length:=by
 induction L with
 |nil=>exact Nat.le_refl _
 | cons a L ih=>
   have h1:=(h a List.mem_cons_self).len
   have h2:=ih fun l hl=>h l (List.mem_cons_of_mem _ hl)
   unfold szL at h2 ⊢
   rw[List.map_cons,List.sum_cons,List.length_cons];omega
theorem qeT {l l0:List Int}: ∀{L:List (List Int)} {i:Nat},L[i]?=some l0→szL (L.set i l)+l0.length=szL L+l.length
 |[],i,h=>by simp at h
 | a::L,0,h=>by
   simp at h;subst h
   simp[szL];omega
 | a::L,i+1,h=>by
   have:=qeT (l:=l) (L:=L) (i:=i) (by simpa using h)
   simp[szL]at this ⊢;omega
theorem qcx {α:Type} {L:List α} {i:Nat} {l:α} (h:L[i]?=some l):L.set i l=L:=by
 refine List.ext_getElem? fun j=>?_
 rw[List.getElem?_set]
 have hi:=(List.getElem?_eq_some_iff.1 h).1
 by_cases e:i=j
 · subst e;rw[if_pos rfl,if_pos hi,h]
 · rw[if_neg e]
theorem qgq {o:List (List Int)} (ho:yX o) {r l:List Int} (h:j4 l) (hl:(Xu o r l).length=l.length):Xu o r l=l:=
 (Zt h.1 (xL ho h).1.1 (xL ho h).2 (by omega)).symm
theorem qok {o:List (List Int)} (ho:yX o) {r l:List Int} (h:j4 l):l.length≤(Xu o r l).length:=by
 by_cases e:(Xu o r l).length≤l.length
 · rw[← Zt h.1 (xL ho h).1.1 (xL ho h).2 e];exact Nat.le_refl _
 · omega
theorem Xm {rel:List (List Int)}: ∀(n:Nat) {out:List (List Int)},yX out→yX (J7 n out rel)∧(J7 n out rel).length=out.length
 |0,out,h=>⟨h,rfl⟩
 | n +1,out,h=>by
   unfold J7
   split
   · exact⟨h,rfl⟩
   · have:=Xm (rel:=rel) n (out:=qda out rel) (by rw[Kn];exact Xy h _ (Nat.le_refl _))
     exact⟨this.1,by rw[this.2,Kn,kW]⟩
theorem qkS {o:List (List Int)} (ho:yX o) {r l:List Int} (h:j4 l):joinL (Xu o r l) l=Xu o r l:=YA (xL ho h).1.1 (xL ho h).2
theorem qgX {l:List Int} (h:j4 l) (j:Nat):(l.take j).foldl jw l=l:=YA h.1 fun x hx=>List.mem_of_mem_take hx
theorem ql2 {O:List (List Int)} (hO:yX O) {r l0:List Int} {i k fk:Nat} (hi:O[i]?=some l0) (hk:r[k]?=some (fk:Int)) (hf:fk<O.length):
 ∃S,j4 S∧S.foldl jw (Xu O (r.take k) l0)=Xu O (r.take (k+1)) l0∧ ∀j,(O.set i ((S.take j).foldl jw (Xu O (r.take k) l0)))[fk]?=some S:=by
 have hl0:j4 l0:=hO l0 (List.mem_of_getElem? hi)
 have hC:=(xL hO (r:=r.take k) hl0).1
 have hlt:=(List.getElem?_eq_some_iff.1 hi).1
 have hg:O[fk]?=some O[fk]:=ge_ hf
 have hgD:O.getD ((fk:Int)).toNat []=O[fk]:=by rw[show ((fk:Int)).toNat=fk from rfl,List.getD,hg];rfl
 by_cases e:i=fk
 · subst e
   refine⟨Xu O (r.take k) l0,hC,?_,fun j=>?_⟩
   · rw[qao hk,hgD]
     have e0:O[i]=l0:=by rw[hi]at hg;exact(Option.some.inj hg).symm
     rw[e0,qkS hO hl0]
     exact YA hC.1 fun x hx=>hx
   · rw[qgX hC,List.getElem?_set,if_pos rfl,if_pos hlt]
 · refine⟨O[fk],hO _ (List.getElem_mem _),?_,fun j=>?_⟩
   · rw[qao hk,hgD];rfl
   · rw[List.getElem?_set,if_neg e,hg]

set_option maxHeartbeats 8000000
theorem qwQ {H:Nat→Option MObj} {next id n:Nat} {es:List V} {L rel:List (List Int)} (hn:n≤9600) (hid:id<next) (hH:H id=some (.own 1 es false)) (hT:Qv es L) (hO:yX L) (hL:L.length=n) (hR:qk2 n rel):xh Try.prog 78 [.msl id 1 0 n,.sl 1 false (rel.map YZ)] H next (fun v H' n'=>next≤n'∧v=.msl id 1 0 n∧(∃es',H' id=some (.own 1 es' false)∧Qv es' (J7 400000 L rel))∧ ∀j,j<next→j≠id→H' j=H j):=by
 refine zV Try.func78 qyb quA (by show 2≤74;decide) ?_
 show ewp _ qhK _ _
 obtain ⟨R,hRR⟩: ∃R,R=J7 400000 L rel:=⟨_,rfl⟩
 rw[← hRR]
 have hRl:=hR.1
 repeat' with_reducible first
  |refine s_ ?_
  |simp only[wZZ,seval]
 refine qd ?nx1 (fun(q:List (List Int)×Bool) s=>s.f 0=?v1_0∧s.f 1=?v1_1∧s.f 5=.bool q.2∧(yX q.1)∧((q.1.length=n))∧((q.2=true→ ∃f,J7 f q.1 rel=R∧400000≤f+szL q.1))∧((q.2=false→q.1=R))∧((∃es,s.H id=some (.own 1 es false)∧Qv es q.1))∧((∀j,j<next→j≠id→s.H j=H j))) (fun q=>2 *(400000 - szL q.1)+(if q.2=true then 1 else 0)) ((L,true)) wj_ (by refine⟨?_,?_,?_,(by exact hO),(by exact hL),(by exact fun _=>⟨400000,hRR.symm,Nat.le_add_right _ _⟩),(by exact fun e=>(by cases e)),(by exact⟨es,by first|exact hH|(((try simp only[wM]);(repeat first|rw[if_pos trivial]|rw[if_pos rfl]|rw[if_neg (by omega)]));exact hH),hT⟩),(by intro j hj hne;((try simp only[wM]);(repeat first|rw[if_pos trivial]|rw[if_pos rfl]|rw[if_neg (by omega)])))⟩<;>first|(simp only[wL,wM,wN,wX,seval,Option.some.injEq]<;>exact wt_)|rfl|exact⟨_,rfl⟩) ?_
 intro q s hnx ⟨g0,g1,g5,k1_0,k1_1,k1_2,k1_3,k1_4,k1_5⟩
 obtain ⟨o,b⟩:=q
 dsimp only at *
 obtain ⟨es1,oo1,hT1⟩:=k1_4
 have hsz:=qhG k1_0
 cases b with
 | false=>
   have e:=k1_3 rfl
   subst e
   repeat' with_reducible first
    |refine s_ ?_
    |simp only[wZZ,seval,g0,g1,g5]
   exact qax rfl (Or.inr rfl) ⟨by((try simp only[wN])<;>omega),by(simp only[wL,seval]),⟨es1,oo1,hT1⟩,k1_5⟩
 | true =>
   obtain ⟨f,hf1,hf2⟩:=k1_2 rfl
   obtain ⟨f,rfl⟩: ∃f',f=f'+1:=⟨f - 1,by omega⟩
   unfold J7 at hf1
   rw[Kn,k1_1]at hf1
   repeat' with_reducible first
    |refine s_ ?_
    |simp only[wZZ,seval,g0,g1,g5]
   refine qd ?nx2 (fun(p:Nat×Bool) s=>s.f 0=?v2_0∧s.f 1=?v2_1∧s.f 5=.bool p.2∧s.f 6=vi p.1∧(p.1≤n)∧((∃es,s.H id=some (.own 1 es false)∧Qv es (Zr rel o p.1)))∧((∀j,j<next→j≠id→s.H j=H j))∧((p.2=false→Zr rel o p.1=o))∧((p.2=true→szL o<szL (Zr rel o p.1)))) (fun p=>n - p.1) ((0,false)) wj_ (by refine⟨?_,?_,?_,?_,wo_,(by exact⟨es1,by((try simp only[wM]);(repeat first|rw[if_pos trivial]|rw[if_pos rfl]|rw[if_neg (by omega)]));exact oo1,hT1⟩),(by intro j hj hne;((try simp only[wM]);(repeat first|rw[if_pos trivial]|rw[if_pos rfl]|rw[if_neg (by omega)]));exact k1_5 j hj hne),(by exact fun _=>rfl),(by exact fun e=>(by cases e))⟩<;>first|(simp only[wL,wM,wN,wX,seval,Option.some.injEq,g0,g1,g5]<;>exact wt_)|rfl|exact⟨_,rfl⟩) ?_
   intro p s hnx ⟨g0,g1,g5,g6,k2_0,k2_1,k2_2,k2_3,k2_4⟩
   obtain ⟨i,b⟩:=p
   dsimp only at *
   obtain ⟨es2,oo2,hT2⟩:=k2_1
   have hz:=w1_ i
   by_cases hi:i<n
   · have hPl:=kW rel o i
     have hPo:=Xy (rel:=rel) k1_0 i (by omega)
     obtain ⟨O,hOe⟩: ∃O,O=Zr rel o i:=⟨_,rfl⟩
     have hsu:=Jr rel o i
     rw[← hOe]at hPl hPo hsu hT2 k2_3 k2_4
     have hgO:O[i]?=some O[i]:=ge_ (by omega)
     have hgr:rel[i]?=some rel[i]:=ge_ (by omega)
     obtain ⟨hrl,hrm⟩:=hR.2 _ (List.getElem_mem (show i<rel.length by omega))
     have hrD:rel.getD i []=rel[i]:=by rw[List.getD,hgr];rfl
     rw[qat hgO,hrD]at hsu
     have hl0:=hPo _ (List.getElem_mem (show i<O.length by omega))
     generalize rel[i]=r at *
     generalize O[i]=l0 at *
     obtain ⟨w0,hw0,hw1⟩:=hT2.2 i l0 hgO
     have hwl:=hw1.1;have hwa:=hw1.2.2.2.2.2
     have hset:O.set i (Xu O (r.take 0) l0)=O:=qcx hgO
     have hl0l:=hl0.len
     repeat' with_reducible first
      |refine s_ ?_
      |simp only[wZZ,seval,g0,g1,g5,g6,hwl]
      |apply qa<;>intro h h_<;>(try simp only[wD,reduceCtorEq]at h_)<;>(try exact wb_)<;>(try simp only[h])
      |refine t_ ?_
      |apply zb;omega;(focus(rw[Int.toNat_natCast];exact hi))
      |(rw[oo2];refine ldV rfl hw0 hwa ?_)
     refine qd ?nx3 (fun(k:Nat) s=>s.f 0=?v3_0∧s.f 1=?v3_1∧s.f 5=?v3_5∧s.f 6=?v3_6∧s.f 7=?v3_7∧s.f 8=?v3_8∧s.f 9=vi k∧(k≤r.length)∧((∃es,s.H id=some (.own 1 es false)∧Qv es (O.set i (Xu O (r.take k) l0))))∧((∀j,j<next→j≠id→s.H j=H j))) (fun k=>r.length - k) (0) wj_ (by refine⟨?_,?_,?_,?_,?_,?_,?_,wo_,(by exact⟨es2,by((try simp only[wM]);(repeat first|rw[if_pos trivial]|rw[if_pos rfl]|rw[if_neg (by omega)]));exact oo2,by rw[hset];exact hT2⟩),(by intro j hj hne;((try simp only[wM]);(repeat first|rw[if_pos trivial]|rw[if_pos rfl]|rw[if_neg (by omega)]));exact k2_2 j hj hne)⟩<;>first|(simp only[wL,wM,wN,wX,seval,Option.some.injEq,g0,g1,g5,g6]<;>exact wt_)|rfl|exact⟨_,rfl⟩) ?_
     intro k s hnx ⟨g0,g1,g5,g6,g7,g8,g9,k3_0,k3_1,k3_2⟩
     obtain ⟨es3,oo3,hT3⟩:=k3_1
     have hzk:=w1_ k
     by_cases hk:k<r.length
     · have hgk:r[k]?=some r[k]:=ge_ hk
       obtain ⟨fk,hfk,hfn⟩:=hrm _ (List.getElem_mem hk)
       rw[hfk]at hgk
       obtain ⟨S,hS1,hS2,hS3⟩:=ql2 hPo (r:=r) hgO hgk (by omega)
       have hC:=(xL hPo (r:=r.take k) hl0).1
       have hSl:=hS1.len
       generalize Xu O (r.take k) l0=C at *
       repeat' with_reducible first
        |refine s_ ?_
        |simp only[wZZ,seval,g0,g1,g5,g6,g7,g8,g9]
        |apply qa<;>intro h h_<;>(try simp only[wD,reduceCtorEq]at h_)<;>(try exact wb_)<;>(try simp only[h])
       refine qd ?nx4 (fun(j:Nat) s=>s.f 0=?v4_0∧s.f 1=?v4_1∧s.f 5=?v4_5∧s.f 6=?v4_6∧s.f 7=?v4_7∧s.f 8=?v4_8∧s.f 9=?v4_9∧s.f 10=vi j∧(j≤S.length)∧((∃es,s.H id=some (.own 1 es false)∧Qv es (O.set i ((S.take j).foldl jw C))))∧((∀j,j<next→j≠id→s.H j=H j))) (fun j=>S.length - j) (0) wj_ (by refine⟨?_,?_,?_,?_,?_,?_,?_,?_,wo_,(by exact⟨es3,by((try simp only[wM]);(repeat first|rw[if_pos trivial]|rw[if_pos rfl]|rw[if_neg (by omega)]));exact oo3,hT3⟩),(by intro j hj hne;((try simp only[wM]);(repeat first|rw[if_pos trivial]|rw[if_pos rfl]|rw[if_neg (by omega)]));exact k3_2 j hj hne)⟩<;>first|(simp only[wL,wM,wN,wX,seval,Option.some.injEq,g0,g1,g5,g6,g7,g8,g9]<;>exact wt_)|rfl|exact⟨_,rfl⟩) ?_
       intro j s hnx ⟨g0,g1,g5,g6,g7,g8,g9,g10,k4_0,k4_1,k4_2⟩
       obtain ⟨es4,oo4,hT4⟩:=k4_1
       have hzj:=w1_ j
       obtain ⟨wf,hf0,hf1'⟩:=hT4.2 fk S (hS3 j)
       have hfl:=hf1'.1;have hfa:=hf1'.2.2.2.2.2;have hfi:=hf1'.2.1
       by_cases hj:j<S.length
       · have hgj:S[j]?=some S[j]:=ge_ hj
         have hU:=(hC.join (hS1.take j))
         have hUl:=hU.len
         have hst:=zY jw C hgj
         obtain ⟨wi,hi0,hi1⟩:=hT4.2 i ((S.take j).foldl jw C) (by rw[List.getElem?_set,if_pos rfl,if_pos (by omega)])
         have hia:=hi1.2.2.2.2.2
         generalize (S.take j).foldl jw C=U at *
         generalize S[j]=y at *
         have hput:=zH (l:=U) (x:=y) (by omega)
         have hT5:=hT4.set (Jv false (jw U y)) i
         rw[List.set_set]at hT5
         repeat' with_reducible first
          |refine s_ ?_
          |simp only[wZZ,seval,g0,g1,g5,g6,g7,g8,g9,g10,hzj,hfl]
          |apply qa<;>intro h h_<;>(try simp only[wD,reduceCtorEq]at h_)<;>(try exact wb_)<;>(try simp only[h])
          |refine t_ ?_
          |apply zb;omega;(focus(rw[Int.toNat_natCast];first|exact hi|exact hfn))
          |(rw[oo4];refine ldV rfl hf0 hfa ?_)
          |(rw[oo4];refine ldV rfl hi0 hia ?_)
          |(refine JY (hfi _ _ _ (by omega) (by with_unfolding_all exact hgj)) ?_)
          |refine cq2 hput hi1.2.2.1.er qb ?_
          |(refine stV oo4 hi0 hia rfl rfl rfl ?_)
         exact⟨by((try simp only[wN])<;>omega),j+1,by omega,trivial,trivial,trivial,trivial,trivial,trivial,trivial,rfl,by omega,⟨_,rfl,by rw[hst];exact hT5⟩,fun x hx hne=>by((try simp only[wM]);(repeat first|rw[if_pos trivial]|rw[if_pos rfl]|rw[if_neg (by omega)]));exact k4_2 x hx hne⟩
       · have e:S.take j=S:=List.take_of_length_le (by omega)
         rw[e,hS2]at hT4
         repeat' with_reducible first
          |refine s_ ?_
          |simp only[wZZ,seval,g0,g1,g5,g6,g7,g8,g9,g10,hzk,hfl]
          |apply qa<;>intro h h_<;>(try simp only[wD,reduceCtorEq]at h_)<;>(try exact wb_)<;>(try simp only[h])
          |refine t_ ?_
          |apply zb;omega;(focus(rw[Int.toNat_natCast];exact hfn))
          |(rw[oo4];refine ldV rfl hf0 hfa ?_)
         exact⟨by((try simp only[wN])<;>omega),k+1,by omega,trivial,trivial,trivial,trivial,trivial,trivial,rfl,by omega,⟨es4,oo4,hT4⟩,k4_2⟩
     · have e:r.take k=r:=List.take_of_length_le (by omega)
       rw[e]at hT3
       have hrow:=qgq hPo (r:=r) hl0
       have hrle:=qok hPo (r:=r) hl0
       have hrok:=(xL hPo (r:=r) hl0).1.len
       have hsz2:=qeT (l:=Xu O r l0) hgO
       obtain ⟨wi,hi0,hi1⟩:=hT3.2 i (Xu O r l0) (by rw[List.getElem?_set,if_pos rfl,if_pos (by omega)])
       have hil:=hi1.1;have hia:=hi1.2.2.2.2.2
       generalize Xu O r l0=l1 at *
       skip
       cases b with
       | true=>
         repeat' with_reducible first
          |refine s_ ?_
          |simp only[wZZ,seval,g0,g1,g5,g6,g7,g8,g9,hil]
          |apply qa<;>intro h h_<;>(try simp only[wD,reduceCtorEq]at h_)<;>(try exact wb_)<;>(try simp only[h])
          |simp(disch:=omega) only[w64,if_neg]
         exact⟨by((try simp only[wN])<;>omega),(i+1,true),by dsimp only;omega,trivial,trivial,rfl,rfl,by dsimp only;omega,⟨es3,oo3,by dsimp only;rw[hsu];exact hT3⟩,k3_2,fun e=>(by cases e),fun _=>(by dsimp only;rw[hsu];have:=k2_4 rfl;omega)⟩
       | false=>
         by_cases he:l1.length=l0.length
         · repeat' with_reducible first
            |refine s_ ?_
            |simp only[wZZ,seval,g0,g1,g5,g6,g7,g8,g9,hil]
            |apply qa<;>intro h h_<;>(try simp only[wD,reduceCtorEq]at h_)<;>(try exact wb_)<;>(try simp only[h])
            |apply zb;omega;(focus(rw[Int.toNat_natCast];exact hi))
            |(rw[oo3];refine ldV rfl hi0 hia ?_)
            |simp(disch:=omega) only[w64,if_neg]
           exact⟨by((try simp only[wN])<;>omega),(i+1,false),by dsimp only;omega,trivial,trivial,congrArg V.bool (by rw[he];simp),rfl,by dsimp only;omega,⟨es3,oo3,by dsimp only;rw[hsu];exact hT3⟩,k3_2,fun _=>(by dsimp only;rw[hsu,hrow he,qcx hgO];exact k2_3 rfl),fun e=>(by cases e)⟩
         · repeat' with_reducible first
            |refine s_ ?_
            |simp only[wZZ,seval,g0,g1,g5,g6,g7,g8,g9,hil]
            |apply qa<;>intro h h_<;>(try simp only[wD,reduceCtorEq]at h_)<;>(try exact wb_)<;>(try simp only[h])
            |apply zb;omega;(focus(rw[Int.toNat_natCast];exact hi))
            |(rw[oo3];refine ldV rfl hi0 hia ?_)
            |simp(disch:=omega) only[w64,if_neg]
           exact⟨by((try simp only[wN])<;>omega),(i+1,true),by dsimp only;omega,trivial,trivial,congrArg V.bool (by simp;omega),rfl,by dsimp only;omega,⟨es3,oo3,by dsimp only;rw[hsu];exact hT3⟩,k3_2,fun e=>(by cases e),fun _=>(by dsimp only;rw[hsu];have h9:=k2_3 rfl;rw[h9]at hsz2;rw[h9];omega)⟩
   · have e:i=n:=by omega
     subst e
     have hPl:=kW rel o i
     have hPo:=Xy (rel:=rel) k1_0 i (by omega)
     have hPs:=qhG hPo
     generalize Zr rel o i=O at *
     skip
     repeat' with_reducible first
      |refine s_ ?_
      |simp only[wZZ,seval,g0,g1,g5,g6]
     refine⟨by((try simp only[wN])<;>omega),(O,b),?_,trivial,trivial,rfl,hPo,by rw[hPl];exact k1_1,fun e=>?_,fun e=>?_,⟨es2,oo2,hT2⟩,k2_2⟩
     · dsimp only
       cases b with
       |false=>rw[k2_3 rfl,if_neg (by decide)];omega
       |true=>have:=k2_4 rfl;rw[if_pos rfl];omega
     · have h1:=k2_4 e
       rw[if_neg (fun h=>by rw[h]at h1;omega)]at hf1
       exact⟨f,hf1,by dsimp only;omega⟩
     · have h1:=k2_3 e
       rw[if_pos h1]at hf1
       dsimp only
       rw[h1];exact hf1

abbrev vQ (n:Nat) (O:List (List Int)):Prop:=O.length=n∧ ∀l∈O,jU l∧ ∀x∈l,∃k:Nat,x=(k:Int)∧k<n
theorem vQ.set {n:Nat} {O:List (List Int)} (h:vQ n O) {l:List Int} (hl:jU l∧ ∀x∈l,∃k:Nat,x=(k:Int)∧k<n) (i:Nat):vQ n (O.set i l):=
 ⟨by rw[List.length_set];exact h.1,fun x hx=>(List.mem_or_eq_of_mem_set hx).elim (h.2 x) fun e=>e ▸ hl⟩
theorem vQ.put {n i:Nat} {l:List Int} (hl:jU l∧ ∀x∈l,∃k:Nat,x=(k:Int)∧k<n) (hi:i<n):jU (jw l (i:Int))∧ ∀x∈jw l (i:Int),∃k:Nat,x=(k:Int)∧k<n:=
 ⟨jS hl.1,fun x hx=>(zo.1 hx).elim (hl.2 x) fun e=>⟨i,e,hi⟩⟩
theorem vQ.len {n:Nat} {l:List Int} (hl:jU l∧ ∀x∈l,∃k:Nat,x=(k:Int)∧k<n):l.length≤n:=
 xZ (a:=0) hl.1 fun x hx=>by obtain ⟨k,rfl,hk⟩:=hl.2 x hx;omega
theorem Qk {α:Type} {L:List α} {i:Nat} {l:α} (f:α→α) (h:L[i]?=some l):L.modify i f=L.set i (f l):=by
 refine List.ext_getElem? fun j=>?_
 rw[List.getElem?_modify,List.getElem?_set]
 have hi:=(List.getElem?_eq_some_iff.1 h).1
 by_cases e:i=j
 · subst e;rw[if_pos rfl,if_pos hi,h];simp
 · rw[if_neg e];simp[e]
theorem VO {β:Type} (f:β→Nat→β) (b:β) (n:Nat):(List.range (n+1)).foldl f b=f ((List.range n).foldl f b) n:=by
 rw[List.range_succ,List.foldl_append];rfl
abbrev qrQ (g:Grammar) (E:Nat→Bool) (m:List Sta) (T:List (Int×Int)):List (List Int)→Nat→List (List Int):=fun out i=>g.prods.foldl (qa0 E m i (T.getD i (0,0))) out
theorem KU (n:Nat):vQ n (List.replicate n []):=⟨List.length_replicate,fun l hl=>by rw[(List.mem_replicate.1 hl).2];exact⟨List.Pairwise.nil,fun x h=>by cases h⟩⟩
theorem qgp {E:Nat→Bool} {m:List Sta} {i k:Nat} {q:Int} {r:List Int} {out:List (List Int)} (h: ¬ (1000≤r.getD k 0∧ve false E (r.drop (k+1))=true∧0≤xB m q (r.take k)∧0≤qa7 (qx m) (xB m q (r.take k)) (r.getD k 0))):Yx E m i q r out k=out:=by
 unfold Yx
 rw[if_neg h]
theorem QV {g : Grammar} {m:List Sta} {E:Nat→Bool} (hM:MOk g m) (hg:GOk g) (hE:IsGrow g false E) (htl0:(qx m).length≤9600):Pure Try.prog 81 [g.V,.sl 2 false (m.map Sta.V)] (.sl 1 false ((xK g E m).map YZ)):=by
 refine pure_intro Try.func81 qxT qyO (by show 2≤104;decide) ?_
 show ewp _ qiJ _ _
 have hml:=hM.len;have hmv:=hM.mvl
 have hpl:=hg.pl2;have htk:=hg.tk2;have hnn:=hg.nn2
 have htr:=jd (m:=m) (by omega) (fun q h=>by have:=hmv q h;omega)
 have hdef:xK g E m=(List.range (qx m).length).foldl (qrQ g E m (qx m)) (List.replicate (qx m).length []):=rfl
 obtain ⟨E',hE',hnull⟩:=jP hg
 obtain rfl:=hE'.uniq hE
 have hcb:=qgc g.nons.length E'
 rw[hdef]
 have hno:=fun i k q r out=>qgp (E:=E') (m:=m) (i:=i) (k:=k) (q:=q) (r:=r) (out:=out)
 have hIn: ∀i t out p,qa0 E' m i t out p=if 1000+p.left=t.2 then(List.range p.right.length).foldl (Yx E' m i t.1 p.right) out else out:=fun _ _ _ _=>rfl
 have hKn: ∀i q r out k,Yx E' m i q r out k=if 1000≤r.getD k 0∧ve false E' (r.drop (k+1))=true∧0≤xB m q (r.take k)∧0≤qa7 (qx m) (xB m q (r.take k)) (r.getD k 0)then out.modify (qa7 (qx m) (xB m q (r.take k)) (r.getD k 0)).toNat (fun l=>jw l (i:Int))else out:=fun _ _ _ _ _=>rfl
 generalize hT:qx m=T at *
 repeat' with_reducible first
  |refine s_ ?_
  |simp -implicitDefEqProofs only[wZZ,seval]
  |refine cq1 htr qb ?_
  |refine cq1 hnull qb ?_
  |refine t_ ?_
  |apply qdx;exact wf_;exact wf_;(focus(unfold maxLen;first|omega|(simp only[wZ]<;>omega)))
 refine qd ?nx1 (fun(i:Nat) s=>s.f 1=?v1_1∧s.f 2=?v1_2∧s.f 5=?v1_5∧s.f 6=?v1_6∧s.f 7=?v1_7∧s.H 0=some (.own 5 [g.V] false)∧s.f 8=vi i∧(i≤T.length)∧(vQ T.length ((List.range i).foldl (qrQ g E' m T) (List.replicate T.length [])))∧((∃es,s.H 10=some (.own 1 es false)∧Qv es ((List.range i).foldl (qrQ g E' m T) (List.replicate T.length []))))) (fun i=>T.length - i) (0) wj_ (by refine⟨?_,?_,?_,?_,?_,?_,?_,wo_,(by exact KU _),(by exact⟨_,by(simp only[wM];(repeat first|rw[if_pos trivial]|rw[if_pos rfl]|rw[if_neg (by omega)])),Qv.rep _⟩)⟩<;>first|(simp -implicitDefEqProofs only[wL,wM,wN,wX,seval,Option.some.injEq]<;>exact wt_)|rfl|exact⟨_,rfl⟩) ?_
 intro i s hnx ⟨g1,g2,g5,g6,g7,o0,g8,k1_0,k1_1,k1_2⟩
 obtain ⟨es1,oo1,hT1⟩:=k1_2
 have hz:=w1_ i
 by_cases hi:i<T.length
 · have hgi : T[i]?=some T[i]:=ge_ hi
   have hst:=VO (qrQ g E' m T) (List.replicate T.length []) i
   have htD:T.getD i (0,0)=T[i]:=by rw[List.getD,hgi];rfl
   simp only[qrQ,htD]at hst
   generalize T[i]=t at *
   obtain ⟨t1,t2⟩:=t
   generalize hO1:(List.range i).foldl (qrQ g E' m T) (List.replicate T.length [])=O1 at *
   repeat' with_reducible first
    |refine s_ ?_
    |simp -implicitDefEqProofs only[wZZ,seval,g1,g2,g5,g6,g7,g8,o0,hz]
    |apply qa<;>intro h h_<;>(try simp only[wD,reduceCtorEq]at h_)<;>(try exact wb_)<;>(try simp only[h])
   refine qd ?nx2 (fun(j:Nat) s=>s.f 1=?v2_1∧s.f 2=?v2_2∧s.f 5=?v2_5∧s.f 6=?v2_6∧s.f 7=?v2_7∧s.f 8=?v2_8∧s.H 0=some (.own 5 [g.V] false)∧s.f 9=vi j∧(j≤g.prods.length)∧(vQ T.length ((g.prods.take j).foldl (qa0 E' m i (t1,t2)) O1))∧((∃es,s.H 10=some (.own 1 es false)∧Qv es ((g.prods.take j).foldl (qa0 E' m i (t1,t2)) O1)))) (fun j=>g.prods.length - j) (0) wj_ (by refine⟨?_,?_,?_,?_,?_,?_,?_,?_,wo_,(by exact k1_1),(by exact⟨es1,by(simp only[wM];(repeat first|rw[if_pos trivial]|rw[if_pos rfl]|rw[if_neg (by omega)]));exact oo1,hT1⟩)⟩<;>first|(simp -implicitDefEqProofs only[wL,wM,wN,wX,seval,Option.some.injEq,g1,g2,g5,g6,g7,g8,o0]<;>exact wt_)|rfl|exact⟨_,rfl⟩) ?_
   intro j s hnx ⟨g1,g2,g5,g6,g7,g8,o0,g9,k2_0,k2_1,k2_2⟩
   obtain ⟨es2,oo2,hT2⟩:=k2_2
   have hzj:=w1_ j
   by_cases hj:j<g.prods.length
   · have hgj : g.prods[j]?=some g.prods[j]:=ge_ hj
     have hst2:=zY (qa0 E' m i (t1,t2)) O1 hgj
     have hpm:=List.getElem_mem hj
     have hrl:=hg.rlen _ hpm
     obtain ⟨lf,hl1,hl2⟩:=hg.left _ hpm
     have hrt:=hg.right _ hpm
     have hrt2:=hg.rt hpm
     rw[hIn]at hst2
     generalize (g.prods.take j).foldl (qa0 E' m i (t1,t2)) O1=O2 at *
     generalize g.prods[j]=p at *
     obtain ⟨pl,pr,pc,pco,pa,pat⟩:=p
     dsimp only at hl1 hrl hrt hrt2 hst2
     subst hl1
     have hzl:IntKind.i64.wrap (1000+(lf:Int))=1000+(lf:Int):=wrap64 (by omega) (by omega)
     by_cases hc:1000+(lf:Int)=t2
     · rw [if_pos hc]at hst2
       repeat' with_reducible first
        |refine s_ ?_
        |simp -implicitDefEqProofs only[wZZ,seval,g1,g2,g5,g6,g7,g8,g9,o0,hzj,hzl]
        |apply qa<;>intro h h_<;>(try simp only[wD,reduceCtorEq]at h_)<;>(try exact wb_)<;>(try simp only[h])
        |refine t_ ?_
       refine qd ?nx3 (fun(k:Nat) s=>s.f 1=?v3_1∧s.f 2=?v3_2∧s.f 5=?v3_5∧s.f 6=?v3_6∧s.f 7=?v3_7∧s.f 8=?v3_8∧s.f 9=?v3_9∧s.f 10=?v3_10∧s.H 0=some (.own 5 [g.V] false)∧s.f 11=vi k∧(k≤pr.length)∧(vQ T.length ((List.range k).foldl (Yx E' m i t1 pr) O2))∧((∃es,s.H 10=some (.own 1 es false)∧Qv es ((List.range k).foldl (Yx E' m i t1 pr) O2)))) (fun k=>pr.length - k) (0) wj_ (by refine⟨?_,?_,?_,?_,?_,?_,?_,?_,?_,?_,wo_,(by exact k2_1),(by exact⟨es2,by(simp only[wM];(repeat first|rw[if_pos trivial]|rw[if_pos rfl]|rw[if_neg (by omega)]));exact oo2,hT2⟩)⟩<;>first|(simp -implicitDefEqProofs only[wL,wM,wN,wX,seval,Option.some.injEq,g1,g2,g5,g6,g7,g8,g9,o0]<;>exact wt_)|rfl|exact⟨_,rfl⟩) ?_
       intro k s hnx ⟨g1,g2,g5,g6,g7,g8,g9,g10,o0,g11,k3_0,k3_1,k3_2⟩
       obtain ⟨es3,oo3,hT3⟩:=k3_2
       have hzk:=w1_ k
       by_cases hk:k<pr.length
       · have hgk:pr[k]?=some pr[k]:=ge_ hk
         have hsy:=hrt _ (List.getElem_mem hk)
         have hst3:=VO (Yx E' m i t1 pr) O2 k
         have hkD:pr.getD k 0=pr[k]:=by rw[List.getD,hgk];rfl
         rw[hKn,hkD]at hst3
         have hwk:=kM (m:=m) (q:=t1) (l:=pr.take k) (by omega) (fun q h=>by have:=hmv q h;omega) (by rw[List.length_take];omega)
         have hem:=yL (n:=g.nons.length) (F:=E') (l:=pr.drop (k+1)) (by omega) (by rw[List.length_drop];omega) (fun x hx=>hrt2 x (List.mem_of_mem_drop hx))
         generalize xB m t1 (pr.take k)=w at *
         have hnu:=yP (t:=T) (q:=w) (sy:=pr[k]) (by omega)
         have hnc:=Vr (q:=w) (s:=pr[k]) T 0
         have hnd:qa7 T w pr[k]=qeM w pr[k] T 0:=rfl
         rw[← hnd]at hnc
         generalize qa7 T w pr[k]=nu at *
         generalize (List.range k).foldl (Yx E' m i t1 pr) O2=O3 at *
         generalize pr[k]=sy at *
         by_cases hs:1000≤sy
         · cases hf:ve false E' (pr.drop (k+1))with
           | false=>
             rw[if_neg (by rw[hf];simp)]at hst3
             rw[hf]at hem
             repeat' with_reducible first
              |refine s_ ?_
              |simp -implicitDefEqProofs only[wZZ,seval,g1,g2,g5,g6,g7,g8,g9,g10,g11,o0,hzk]
              |(first|apply qa|apply qh|apply qg)<;>intro h h_<;>(try simp only[wD,reduceCtorEq]at h_)<;>(try exact wb_)<;>(try simp only[h])
              |refine t_ ?_
              |refine cq2 hem qb jy ?_
              |apply vH;omega;exact wf_
             exact⟨by((try simp only[wN])<;>omega),k+1,by omega,trivial,trivial,trivial,trivial,trivial,trivial,trivial,trivial,trivial,rfl,by omega,(by rw[hst3];exact k3_1),es3,oo3,(by rw[hst3];exact hT3)⟩
           | true=>
             rw[hf]at hem
             by_cases hw:0≤w∧0≤nu
             · obtain ⟨hw1,hw2⟩:=hw
               rw[if_pos ⟨hs,hf,hw1,hw2⟩]at hst3
               obtain ⟨v,hv1,hv2⟩: ∃v:Nat,nu=v∧v<T.length:=by
                rcases hnc with h|⟨v,h1,h2⟩
                · omega
                · exact⟨v,by omega,h2⟩
               subst hv1
               rw[show ((v:Int)).toNat=v from rfl]at hst3
               have hgv:O3[v]?=some O3[v]:=ge_ (by rw[k3_1.1];exact hv2)
               rw[Qk _ hgv]at hst3
               have hlv:=k3_1.2 _ (List.mem_of_getElem? hgv)
               have hll:=vQ.len hlv
               have hnew:=k3_1.set (vQ.put hlv hi) v
               obtain ⟨wv,hv0,hvi⟩:=hT3.2 v _ hgv
               generalize O3[v]=lv at *
               have hva:=hvi.2.2.2.2.2
               have hput:=zH (l:=lv) (x:=(i:Int)) (by omega)
               have hT4:=hT3.set (Jv false (jw lv (i:Int))) v
               rw[← hst3]at hnew hT4
               repeat' with_reducible first
                |refine s_ ?_
                |simp -implicitDefEqProofs only[wZZ,seval,g1,g2,g5,g6,g7,g8,g9,g10,g11,o0,hzk]
                |(first|apply qa|apply qh|apply qg)<;>intro h h_<;>(try simp only[wD,reduceCtorEq]at h_)<;>(try exact wb_)<;>(try simp only[h])
                |refine t_ ?_
                |refine cq2 hem qb jy ?_
                |refine cq3 hwk qb qb jy ?_
                |refine cq3 hnu qb qb qb ?_
                |apply zb;omega;(focus(rw[Int.toNat_natCast];exact hv2))
                |(rw[oo3];refine ldV rfl hv0 hva ?_)
                |refine cq2 hput hvi.2.2.1.er qb ?_
                |(refine stV oo3 hv0 hva rfl rfl rfl ?_)
                |apply xJ;omega;exact wf_
                |apply vH;omega;exact wf_
               exact⟨by((try simp only[wN])<;>omega),k+1,by omega,trivial,trivial,trivial,trivial,trivial,trivial,trivial,trivial,trivial,rfl,by omega,hnew,_,rfl,hT4⟩
             · rw[if_neg (fun h=>hw ⟨h.2.2.1,h.2.2.2⟩)]at hst3
               repeat' with_reducible first
                |refine s_ ?_
                |simp -implicitDefEqProofs only[wZZ,seval,g1,g2,g5,g6,g7,g8,g9,g10,g11,o0,hzk]
                |(first|apply qa|apply qh|apply qg)<;>intro h h_<;>(try simp only[wD,reduceCtorEq]at h_)<;>(try exact wb_)<;>(try simp only[h])
                |refine t_ ?_
                |refine cq2 hem qb jy ?_
                |refine cq3 hwk qb qb jy ?_
                |refine cq3 hnu qb qb qb ?_
                |apply xJ;omega;exact wf_
                |apply vH;omega;exact wf_
               all_goals exact⟨by((try simp only[wN])<;>omega),k+1,by omega,trivial,trivial,trivial,trivial,trivial,trivial,trivial,trivial,trivial,rfl,by omega,(by rw[hst3];exact k3_1),es3,oo3,(by rw[hst3];exact hT3)⟩
         · rw[if_neg (fun h=>hs h.1)]at hst3
           repeat' with_reducible first
            |refine s_ ?_
            |simp -implicitDefEqProofs only[wZZ,seval,g1,g2,g5,g6,g7,g8,g9,g10,g11,o0,hzk]
            |(first|apply qa|apply qh|apply qg)<;>intro h h_<;>(try simp only[wD,reduceCtorEq]at h_)<;>(try exact wb_)<;>(try simp only[h])
            |refine t_ ?_
           exact⟨by((try simp only[wN])<;>omega),k+1,by omega,trivial,trivial,trivial,trivial,trivial,trivial,trivial,trivial,trivial,rfl,by omega,(by rw[hst3];exact k3_1),es3,oo3,(by rw[hst3];exact hT3)⟩
       · have e:k=pr.length:=by omega
         subst e
         rw[← hst2]at hT3 k3_1
         repeat' with_reducible first
          |refine s_ ?_
          |simp -implicitDefEqProofs only[wZZ,seval,g1,g2,g5,g6,g7,g8,g9,g10,g11,o0,hzj]
         exact⟨by((try simp only[wN])<;>omega),j+1,by omega,trivial,trivial,trivial,trivial,trivial,trivial,trivial,rfl,by omega,k3_1,es3,oo3,hT3⟩
     · rw[if_neg hc]at hst2
       skip
       repeat' with_reducible first
        |refine s_ ?_
        |simp -implicitDefEqProofs only[wZZ,seval,g1,g2,g5,g6,g7,g8,g9,o0,hzj,hzl]
        |apply qa<;>intro h h_<;>(try simp only[wD,reduceCtorEq]at h_)<;>(try exact wb_)<;>(try simp only[h])
        |refine t_ ?_
       exact⟨by((try simp only[wN])<;>omega),j+1,by omega,trivial,trivial,trivial,trivial,trivial,trivial,trivial,rfl,by omega,(by rw[hst2];exact k2_1),es2,oo2,(by rw[hst2];exact hT2)⟩
   · have e:g.prods.take j=g.prods:=List.take_of_length_le (by omega)
     rw[e,← hst]at hT2 k2_1
     repeat' with_reducible first
      |refine s_ ?_
      |simp -implicitDefEqProofs only[wZZ,seval,g1,g2,g5,g6,g7,g8,g9,o0,hz]
      |apply qa<;>intro h h_<;>(try simp only[wD,reduceCtorEq]at h_)<;>(try exact wb_)<;>(try simp only[h])
      |refine t_ ?_
     exact⟨by((try simp only[wN])<;>omega),i+1,by omega,trivial,trivial,trivial,trivial,trivial,trivial,rfl,by omega,k2_1,es2,oo2,hT2⟩
 · have e:i=T.length:=by omega
   subst e
   skip
   repeat' with_reducible first
    |refine s_ ?_
    |simp -implicitDefEqProofs only[wZZ,seval,g1,g2,g5,g6,g7,g8,o0]
   refine qw rfl (Or.inr rfl) ?_
   (simp -implicitDefEqProofs only[wL,seval])
   exact Qv.er (ro:=false) (by(simp only[wM];(repeat first|rw[if_pos trivial]|rw[if_pos rfl]|rw[if_neg (by omega)]));exact oo1) hT1 k1_1.1
end Go.Proofs
