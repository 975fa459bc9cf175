import Derived.Test.YtkcegflhobejmaaGreatDoorBZB
set_option maxRecDepth 20000
set_option linter.all false
set_option maxHeartbeats 4000000
namespace Go.Proofs
open Go.E
theorem qAd{L:List (List Int)}(hl:L.length<=1000000)(hr:∀l∈L,l.length<=4611686018427387903):Pure Tryz.prog 17 [.sl 1 false (L.map zS),.sl 1 false (L.map zS)] (.bool true):=by
 refine pure_intro Tryz.func17 nm_ qwq (by show 2<=27;decide) ?_
 show ewp _ qqX _ _;repeat' with_reducible first|refine s_ ?_|simp -implicitDefEqProofs only[wZZ,seval]
 refine qb ?nx1 (λ(i:Nat) s=>s.f 0=?v1_0/\s.f 1=?v1_1/\s.f 5=vi i/\(i<=L.length)) (λi=>L.length - i) (0) wj_ (by refine⟨?_,?_,?_,wo_⟩<;>first|(simp -implicitDefEqProofs only[wL,wM,wN,wX,seval,Option.some.injEq]<;>exact wt_)|rfl|exact⟨_,rfl⟩) ?_;intro i s hnx ⟨g0,g1,g5,k1_0⟩;have hz:=w1_ i;by_cases hi:i<L.length
 . have hgi:L[i]?=some L[i]:=ge_ hi;have hri:=hr _ (List.getElem_mem hi);generalize L[i]=l at *;have heq:=xN (a:=l) (b:=l) hri hri;rw[decide_eq_true rfl]at heq;repeat' with_reducible first|refine s_ ?_|simp -implicitDefEqProofs only[wZZ,seval,g0,g1,g5,hz]|apply qa<;>intro h h_<;>(try simp only[wD,reduceCtorEq]at h_)<;>(try exact wb_)<;>(try simp only[h])|refine t_ ?_|refine cq2 heq qd qd ?_
   all_goals exact⟨wg_,i+1,o_,trivial,trivial,rfl,o_⟩
 . repeat' with_reducible first|refine s_ ?_|simp -implicitDefEqProofs only[wZZ,seval,g0,g1,g5,hz]|apply qa<;>intro h h_<;>(try simp only[wD,reduceCtorEq]at h_)<;>(try exact wb_)<;>(try simp only[h])
   all_goals refine qz rfl (Or.inr rfl) ?_
   all_goals(try simp -implicitDefEqProofs only[wL,seval,g0,g1,g5])
   all_goals refine er_ ?_
   all_goals(try(with_reducible rfl))


abbrev qqV(E:Nat->Bool)(T:List (Int×Int))(r:Int):List Int->Int×Int->List Int:=λl p=>if 1000<=p.1/\E (p.1 - 1000).toNat=true then xw l (XW T r p.1)else l
theorem qkU(E:Nat->Bool)(T:List (Int×Int))(r:Int)(l:List (Int×Int)):∀b:List Int,(l.foldl (qqV E T r) b).length<=b.length+l.length:=by
 induction l with
 |nil=>intro b;exact Nat.le_refl _
 | cons p l ih=>
   intro b;have h1:(qqV E T r b p).length<=b.length+1:=by
    unfold qqV;split
    . exact qaA _ _
    . omega
   have:=ih (qqV E T r b p);rw[List.foldl_cons,List.length_cons];omega
def qzW(E:Nat->Bool)(T:List (Int×Int))(m:List Sta)(t:Int×Int):List Int:=(jB m (goS m t.1 t.2)).foldl (qqV E T (goS m t.1 t.2)) []

set_option maxHeartbeats 8000000
abbrev JB(n:Nat)(O:List (List Int)):Prop:=O.length=n/\∀l∈O,jq l/\∀x∈l,∃k:Nat,x=(k:Int)/\k<n
variable {n:Nat} {l:List Int}
theorem JB.set{O:List (List Int)}(h:JB n O)(hl:jq l/\∀x∈l,∃k:Nat,x=(k:Int)/\k<n)(i:Nat):JB n (O.set i l):=
 ⟨by rw[List.length_set];exact h.1,λx hx=>(List.mem_or_eq_of_mem_set hx).elim (h.2 x) λe=>e ▸ hl⟩
theorem JB.put{i:Nat}(hl:jq l/\∀x∈l,∃k:Nat,x=(k:Int)/\k<n)(hi:i<n):jq (xw l (i:Int))/\∀x∈xw l (i:Int),∃k:Nat,x=(k:Int)/\k<n:=
 ⟨jU hl.1,λx hx=>(zL.1 hx).elim (hl.2 x) λe=>⟨i,e,hi⟩⟩
theorem JB.len(hl:jq l/\∀x∈l,∃k:Nat,x=(k:Int)/\k<n):l.length<=n:=
 xY (a:=0) hl.1 λx hx=>by obtain ⟨k,rfl,hk⟩:=hl.2 x hx;omega
theorem qh4(n:Nat):JB n (List.replicate n []):=⟨List.length_replicate,λl hl=>by rw[(List.mem_replicate.1 hl).2];exact⟨List.Pairwise.nil,λx h=>by cases h⟩⟩
end Go.Proofs
