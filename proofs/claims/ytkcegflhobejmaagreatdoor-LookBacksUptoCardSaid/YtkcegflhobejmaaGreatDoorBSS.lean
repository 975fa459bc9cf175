/- Part of a proof that a law of the given program answers true. -/
import Derived.Test.YtkcegflhobejmaaGreatDoorBBD
import Derived.Test.YtkcegflhobejmaaGreatDoorXEC
import Derived.Test.YtkcegflhobejmaaGreatDoorCards
import Derived.Test.YtkcegflhobejmaaGreatDoorTie
import Derived.WalkKit
import Derived.ProofKit
import Derived.OpenShut
import Derived.Deep.DeepHandedRow
import Derived.Lib.LaidTab
set_option linter.unusedSimpArgs false
set_option linter.unusedVariables false
namespace Go.Proofs.YtkcegflhobejmaaGreatDoor.law
open Go.E Go.ChangeShapes Go.WideShapes Go.ChangeAt Go.RowKit
def B (H:Type) (d:DataW H):Nat:=Rows.uptoBulk d
theorem KE {H:Type} (l:List (DataW H)):Rows.uptoBulkAll l=(l.map (B H)).sum:=by
 induction l with
 |nil=>simp[Rows.uptoBulkAll]
 |cons x l ih=>simp only[Rows.uptoBulkAll,ih,List.map_cons,List.sum_cons];rfl
theorem Y0:BulkOk B where
 one:=fun H d=>by
  cases d with
  |lit l=>cases l<;>simp[B,Rows.uptoBulk]
  | _=>simp[B,Rows.uptoBulk]
 str:=fun H s=>by simp[B,Rows.uptoBulk]
 slice:=fun H x y=>by
  show _≤Rows.uptoBulk (.slice x y)
  simp only[Rows.uptoBulk,KE];omega
 agg:=fun H x=>by
  show _≤Rows.uptoBulk (.agg x)
  simp only[Rows.uptoBulk,KE];omega
theorem small {H:Type} {l:List (DataW H)} (hk:Rows.uptoSmall H l=true):(l.map (B H)).sum≤1048576:=by
 have h:Rows.uptoBulkAll l≤1048576:=of_decide_eq_true hk
 rwa [KE]at h
theorem own:ownKnob Tryz.prog.godebug=none:=by kernel_rfl
theorem kids:Kids Tryz.prog (· <Tryz.prog.types.size):=kids_rows (by kernel_rfl) (by kernel_rfl)
theorem slices: ∀t e,t<Tryz.prog.types.size→Tryz.prog.underlying t=some (.slice e)→0<Tryz.prog.cellsOf e:=slices_full_of Tryz.prog (by kernel_rfl)
theorem cells3:Tryz.prog.cellsOf 3=1:=by kernel_rfl
theorem qMq (N:Nat):ReadsN N Tryz.prog B 3 (Img (fun n:Int=>.int .i64 n) (fun _=>1) (fun n=>(Lit.int .i64 n).wf=true)):=qcf Y0 Tryz.underlying3 cells3 N
theorem Qj:Tryz.prog.cellsOf 27=1:=by kernel_rfl
theorem YF:Tryz.prog.cellsOf 26=1:=by kernel_rfl
theorem qxe:Tryz.prog.cellsOf 4=1:=by kernel_rfl
theorem qOv (N:Nat):ReadsN N Tryz.prog B 4 (Img (fun n:Bool=>.bool n) (fun _=>1) (fun _=>True)):=qbd Y0 Tryz.underlying4 qxe N
def szI (l:List Int):Nat:=(l.map fun _=>1).sum+1
theorem qk9 (N:Nat):ReadsN N Tryz.prog B 27 (Img (fun l:List Int=>.sl 1 false (l.map (V.int .i64))) szI (fun l=> ∀n∈l,(Lit.int .i64 n).wf=true)):=by
 have h:=JD Y0 Tryz.underlying27 Qj (by rw[cells3];omega) (qMq N)
 rw[cells3]at h
 exact h.le o_
theorem qK8 (N:Nat):ReadsN N Tryz.prog B 26 (Img (fun l:List (List Int)=>.sl 1 false (l.map fun l=>.sl 1 false (l.map (V.int .i64)))) (fun l=>(l.map szI).sum+1) (fun l=> ∀a∈l,∀n∈a,(Lit.int .i64 n).wf=true)):=by
 have h:=JD Y0 Tryz.underlying26 (by kernel_rfl) (by rw[Qj];omega) (qk9 N)
 rw[Qj]at h
 exact h.le o_
def szG (x:GrI):Nat:=((x.rules.map szI).sum+1)+szI x.levels+szI x.inner
theorem rGr (N:Nat):ReadsN N Tryz.prog B 29 (Img (fun x:GrI=>x.V) szG (fun _=>True)):=by
 have h:=Vu (N:=N) (Qs:=[Img (fun n:Int=>.int .i64 n) (fun _=>1) (fun n=>(Lit.int .i64 n).wf=true),Img (fun l:List (List Int)=>.sl 1 false (l.map fun l=>.sl 1 false (l.map (V.int .i64)))) (fun l=>(l.map szI).sum+1) (fun l=> ∀a∈l,∀n∈a,(Lit.int .i64 n).wf=true),Img (fun l:List Int=>.sl 1 false (l.map (V.int .i64))) szI (fun l=> ∀n∈l,(Lit.int .i64 n).wf=true),Img (fun l:List Int=>.sl 1 false (l.map (V.int .i64))) szI (fun l=> ∀n∈l,(Lit.int .i64 n).wf=true),Img (fun n:Bool=>.bool n) (fun _=>1) (fun _=>True)]) Y0 Tryz.underlying29 (by kernel_rfl) (by
  intro j f hf
  match j,hf with
  |0,hf=>cases hf;rfl
  |1,hf=>cases hf;simp[cells3,YF,Qj]
  |2,hf=>cases hf;simp[cells3,YF,Qj]
  |3,hf=>cases hf;simp[cells3,YF,Qj]
  |4,hf=>cases hf;simp[cells3,YF,Qj]) rfl (by
  intro i f Q hf hQ
  match i,hf,hQ with
  |0,hf,hQ=>cases hf;cases hQ;exact qMq N
  |1,hf,hQ=>cases hf;cases hQ;exact qK8 N
  |2,hf,hQ=>cases hf;cases hQ;exact qk9 N
  |3,hf,hQ=>cases hf;cases hQ;exact qk9 N
  |4,hf,hQ=>cases hf;cases hQ;exact qOv N)
 have hc:Tryz.prog.cellsOf 29=5:=by kernel_rfl
 refine⟨?_,fun H enc w fuel cs x hf hx=>?_⟩
 · rintro v n ⟨x,_,rfl,rfl⟩
   refine⟨by rw[hc];rfl,?_,by simp[V.isAgg,qeu,Tryz.underlying29]⟩
   intro c hcm
   simp only[V.cells,List.mem_cons,List.not_mem_nil,or_false]at hcm
   rcases hcm with rfl|rfl|rfl|rfl|rfl<;>rfl
 · obtain ⟨v,n,⟨ps,hl,hq,rfl,rfl⟩,h2,h3⟩:=h.rd H enc w fuel cs x o_ hx
   match ps,hl with
   | [p0,p1,p2,p3,p4],_=>
     obtain ⟨a0,-,e0,s0⟩:=hq 0 _ _ rfl rfl
     obtain ⟨a1,-,e1,s1⟩:=hq 1 _ _ rfl rfl
     obtain ⟨a2,-,e2,s2⟩:=hq 2 _ _ rfl rfl
     obtain ⟨a3,-,e3,s3⟩:=hq 3 _ _ rfl rfl
     obtain ⟨a4,-,e4,s4⟩:=hq 4 _ _ rfl rfl
     refine⟨(GrI.mk a0 a1 a2 a3 a4).V,_,⟨GrI.mk a0 a1 a2 a3 a4,trivial,rfl,rfl⟩,?_,?_⟩
     · simp only[List.map_cons,List.map_nil,List.flatMap_cons,List.flatMap_nil,e0,e1,e2,e3,e4]at h2
       exact h2
     · simp only[List.map_cons,List.map_nil,List.sum_cons,List.sum_nil,s0,s1,s2,s3,s4]at h3
       simp only[szG]
       omega
theorem KU (l:List Int):szI l=l.length+1:=by
 unfold szI
 induction l with
 |nil=>rfl
 |cons a l ih=>simp only[List.map_cons,List.sum_cons,List.length_cons]at ih ⊢;omega
theorem Kc: ∀{L:List (List Int)} {l:List Int},l∈L→l.length+L.length≤(L.map szI).sum
 | a::L,l,h=>by
   have hs: ∀L:List (List Int),L.length≤(L.map szI).sum:=fun L=>by
    induction L with
    |nil=>simp
    |cons a L ih=>simp only[List.map_cons,List.sum_cons,List.length_cons,KU];omega
   simp only[List.map_cons,List.sum_cons,List.length_cons,KU]
   rcases List.mem_cons.1 h with rfl|h
   · have:=hs L;omega
   · have:=Kc h;omega
theorem qpb {x:GrI} (h:szG x≤1048576):x.rules.length≤1099511627776∧(∀l∈x.rules,l.length≤1099511627776)∧x.inner.length≤1099511627776∧x.levels.length≤1099511627776:=by
 simp only[szG,KU]at h
 refine⟨?_,fun l hl=>by have:=Kc hl;omega,o_,o_⟩
 cases hx:x.rules with
 |nil=>simp
 |cons a L=>have:=Kc (L:=x.rules) (l:=a) (by simp[hx]);rw[hx]at this h;simp only[List.length_cons]at this ⊢;omega
theorem qQ6:Tryz.prog.globalNamed "math/bits.deBruijn64tab"=some 0:=by kernel_rfl
theorem qeS:(Tryz.prog.globals[0]?).map (·.type)=some 194:=by kernel_rfl
theorem table {W:World} (h:laidMetH Tryz.prog [("math/bits.deBruijn64tab",Rows.laid_math_bits_deBruijn64tab)] W):Lib.TabIs Tryz.prog W "math/bits.deBruijn64tab" .u8 (Lib.deBruijn64tab.map fun(n:Nat)=>(n:Int)):=
 Lib.tabIs_of_head (rest:=[]) qQ6 qeS Tryz.underlying194 Tryz.underlying5 (by kernel_rfl) (by kernel_rfl) h
theorem qGp {W:World} (h:laidMetH Tryz.prog [("math/bits.deBruijn64tab",Rows.laid_math_bits_deBruijn64tab)] W):Go.E.GOk Tryz.prog W Jf:=by
 intro g
 show R noβ W Jf (if g=0 then _ else _) _
 have hl:Lib.deBruijn64tab.length=64:=by decide
 split
 · rename_i e
   subst e
   refine .iptr 64 _ 0 0 0 (fun j=>.int .u8 ((Lib.deBruijn64tab.map fun(n:Nat)=>(n:Int)).getD j 0)) (fun j hj=>⟨trivial,?_⟩) (by simp[V.cells,hl]) (by simp[V.cells,V.scalar]) (fun j c hc=>?_)
   · have:=(table h).cell qQ6 j (by simp[hl];exact hj)
     simpa using this
   · simp only[V.cells,List.getElem?_map,Option.map_eq_some_iff]at hc
     obtain ⟨n,hn,rfl⟩:=hc
     have:(Lib.deBruijn64tab.map fun(n:Nat)=>(n:Int)).getD j 0=(n:Int):=by simp[List.getD,hn]
     rw[this]
     exact .int _ _
 · exact .iptr 0 (.agg []) 0 g 0 (fun _=>Go.undef) (fun j hj=>absurd hj (Nat.not_lt_zero _)) rfl (by simp[V.cells]) (by simp[V.cells])
noncomputable def JC (os:Os):World:=
 {World.holding Tryz.prog os ⟨#[],#[],[]⟩with heap:=(World.holding Tryz.prog os ⟨#[],#[],[]⟩).heap.modify 0 fun
  |.cells _ t frozen=>.cells ((Lib.deBruijn64tab.map fun(n:Nat)=>Value.int .u8 (n:Int)).toArray) t frozen
  |o=>o}
end Go.Proofs.YtkcegflhobejmaaGreatDoor.law
