/- Part of a proof that a law of the given program answers true. -/
import Derived.Test.YtjdjdbkoplmjeaaDoorVJAR
import Derived.Test.YtjdjdbkoplmjeaaDoorXECR
import Derived.Test.YtjdjdbkoplmjeaaDoorCards
import Derived.Test.YtjdjdbkoplmjeaaDoorTie
import Derived.WalkKit
import Derived.ProofKit
import Derived.OpenShut
import Derived.Deep.DeepHandedRow
import Derived.Lib.LaidTab
set_option linter.unusedSimpArgs false
set_option linter.unusedVariables false
namespace Go.Proofs.YtjdjdbkoplmjeaaDoor.law
open Go.E Go.ChangeShapes Go.WideShapes Go.ChangeAt Go.RowKit
def B (H:Type) (d:DataW H):Nat:=Rows.uptoBulk d
theorem qaS {H:Type} (l:List (DataW H)):Rows.uptoBulkAll l=(l.map (B H)).sum:=by
 induction l with
 |nil=>simp[Rows.uptoBulkAll]
 |cons x l ih=>simp only[Rows.uptoBulkAll,ih,List.map_cons,List.sum_cons];rfl
theorem qaA:BulkOk B where
 one:=fun H d=>by
  cases d with
  |lit l=>cases l<;>simp[B,Rows.uptoBulk]
  | _=>simp[B,Rows.uptoBulk]
 str:=fun H s=>by simp[B,Rows.uptoBulk]
 slice:=fun H x y=>by
  show _≤Rows.uptoBulk (.slice x y)
  simp only[Rows.uptoBulk,qaS];omega
 agg:=fun H x=>by
  show _≤Rows.uptoBulk (.agg x)
  simp only[Rows.uptoBulk,qaS];omega
theorem small {H:Type} {l:List (DataW H)} (hk:Rows.uptoSmall H l=true):(l.map (B H)).sum≤1048576:=by
 have h:Rows.uptoBulkAll l≤1048576:=of_decide_eq_true hk
 rwa [qaS]at h
theorem own:ownKnob Tryd.prog.godebug=none:=by kernel_rfl
theorem kids:Kids Tryd.prog (· <Tryd.prog.types.size):=kids_rows (by kernel_rfl) (by kernel_rfl)
theorem slices: ∀t e,t<Tryd.prog.types.size→Tryd.prog.underlying t=some (.slice e)→0<Tryd.prog.cellsOf e:=slices_full_of Tryd.prog (by kernel_rfl)
theorem cells3:Tryd.prog.cellsOf 3=1:=by kernel_rfl
theorem qEX (N:Nat):ReadsN N Tryd.prog B 3 (Img (fun n:Int=>.int .i64 n) (fun _=>1) (fun n=>(Lit.int .i64 n).wf=true)):=qee qaA Tryd.underlying3 cells3 N
theorem QZ:Tryd.prog.cellsOf 23=1:=by kernel_rfl
theorem VX:Tryd.prog.cellsOf 22=1:=by kernel_rfl
theorem quX:Tryd.prog.cellsOf 4=1:=by kernel_rfl
theorem qCg (N:Nat):ReadsN N Tryd.prog B 4 (Img (fun n:Bool=>.bool n) (fun _=>1) (fun _=>True)):=qct qaA Tryd.underlying4 quX N
def szI (l:List Int):Nat:=(l.map fun _=>1).sum+1
theorem qic (N:Nat):ReadsN N Tryd.prog B 23 (Img (fun l:List Int=>.sl 1 false (l.map (V.int .i64))) szI (fun l=> ∀n∈l,(Lit.int .i64 n).wf=true)):=by
 have h:=XD qaA Tryd.underlying23 QZ (by rw[cells3];omega) (qEX N)
 rw[cells3]at h
 exact h.le o_
theorem quE (N:Nat):ReadsN N Tryd.prog B 22 (Img (fun l:List (List Int)=>.sl 1 false (l.map fun l=>.sl 1 false (l.map (V.int .i64)))) (fun l=>(l.map szI).sum+1) (fun l=> ∀a∈l,∀n∈a,(Lit.int .i64 n).wf=true)):=by
 have h:=XD qaA Tryd.underlying22 (by kernel_rfl) (by rw[QZ];omega) (qic N)
 rw[QZ]at h
 exact h.le o_
def szG (x:GrI):Nat:=((x.rules.map szI).sum+1)+szI x.levels+szI x.inner
theorem rGr (N:Nat):ReadsN N Tryd.prog B 25 (Img (fun x:GrI=>x.V) szG (fun _=>True)):=by
 have h:=Km (N:=N) (Qs:=[Img (fun n:Int=>.int .i64 n) (fun _=>1) (fun n=>(Lit.int .i64 n).wf=true),Img (fun l:List (List Int)=>.sl 1 false (l.map fun l=>.sl 1 false (l.map (V.int .i64)))) (fun l=>(l.map szI).sum+1) (fun l=> ∀a∈l,∀n∈a,(Lit.int .i64 n).wf=true),Img (fun l:List Int=>.sl 1 false (l.map (V.int .i64))) szI (fun l=> ∀n∈l,(Lit.int .i64 n).wf=true),Img (fun l:List Int=>.sl 1 false (l.map (V.int .i64))) szI (fun l=> ∀n∈l,(Lit.int .i64 n).wf=true),Img (fun n:Bool=>.bool n) (fun _=>1) (fun _=>True)]) qaA Tryd.underlying25 (by kernel_rfl) (by
  intro j f hf
  match j,hf with
  |0,hf=>cases hf;rfl
  |1,hf=>cases hf;simp[cells3,VX,QZ]
  |2,hf=>cases hf;simp[cells3,VX,QZ]
  |3,hf=>cases hf;simp[cells3,VX,QZ]
  |4,hf=>cases hf;simp[cells3,VX,QZ]) rfl (by
  intro i f Q hf hQ
  match i,hf,hQ with
  |0,hf,hQ=>cases hf;cases hQ;exact qEX N
  |1,hf,hQ=>cases hf;cases hQ;exact quE N
  |2,hf,hQ=>cases hf;cases hQ;exact qic N
  |3,hf,hQ=>cases hf;cases hQ;exact qic N
  |4,hf,hQ=>cases hf;cases hQ;exact qCg N)
 have hc:Tryd.prog.cellsOf 25=5:=by kernel_rfl
 refine⟨?_,fun H enc w fuel cs x hf hx=>?_⟩
 · rintro v n ⟨x,_,rfl,rfl⟩
   refine⟨by rw[hc];rfl,?_,by simp[V.isAgg,qeV,Tryd.underlying25]⟩
   intro c hcm
   simp only[V.cells,List.mem_cons,List.not_mem_nil,or_false]at hcm
   rcases hcm with rfl|rfl|rfl|rfl|rfl<;>rfl
 · obtain ⟨v,n,⟨ps,hl,hq,rfl,rfl⟩,h2,h3⟩:=h.rd H enc w fuel cs x o_ hx
   match ps,hl with
   | [p0,p1,p2,p3,p4],_=>
     obtain ⟨a0,-,e0,s0⟩:=hq 0 _ _ rfl rfl
     obtain ⟨a1,-,e1,s1⟩:=hq 1 _ _ rfl rfl
     obtain ⟨a2,-,e2,s2⟩:=hq 2 _ _ rfl rfl
     obtain ⟨a3,-,e3,s3⟩:=hq 3 _ _ rfl rfl
     obtain ⟨a4,-,e4,s4⟩:=hq 4 _ _ rfl rfl
     refine⟨(GrI.mk a0 a1 a2 a3 a4).V,_,⟨GrI.mk a0 a1 a2 a3 a4,trivial,rfl,rfl⟩,?_,?_⟩
     · simp only[List.map_cons,List.map_nil,List.flatMap_cons,List.flatMap_nil,e0,e1,e2,e3,e4]at h2
       exact h2
     · simp only[List.map_cons,List.map_nil,List.sum_cons,List.sum_nil,s0,s1,s2,s3,s4]at h3
       simp only[szG]
       omega
theorem qbn (l:List Int):szI l=l.length+1:=by
 unfold szI
 induction l with
 |nil=>rfl
 |cons a l ih=>simp only[List.map_cons,List.sum_cons,List.length_cons]at ih ⊢;omega
theorem qbh: ∀{L:List (List Int)} {l:List Int},l∈L→l.length+L.length≤(L.map szI).sum
 | a::L,l,h=>by
   have hs: ∀L:List (List Int),L.length≤(L.map szI).sum:=fun L=>by
    induction L with
    |nil=>simp
    |cons a L ih=>simp only[List.map_cons,List.sum_cons,List.length_cons,qbn];omega
   simp only[List.map_cons,List.sum_cons,List.length_cons,qbn]
   rcases List.mem_cons.1 h with rfl|h
   · have:=hs L;omega
   · have:=qbh h;omega
theorem qib {x:GrI} (h:szG x≤1048576):x.rules.length≤1099511627776∧(∀l∈x.rules,l.length≤1099511627776)∧x.inner.length≤1099511627776∧x.levels.length≤1099511627776:=by
 simp only[szG,qbn]at h
 refine⟨?_,fun l hl=>by have:=qbh hl;omega,o_,o_⟩
 cases hx:x.rules with
 |nil=>simp
 |cons a L=>have:=qbh (L:=x.rules) (l:=a) (by simp[hx]);rw[hx]at this h;simp only[List.length_cons]at this ⊢;omega
theorem qEY:Tryd.prog.globalNamed "math/bits.deBruijn64tab"=some 0:=by kernel_rfl
theorem qfc:(Tryd.prog.globals[0]?).map (·.type)=some 123:=by kernel_rfl
theorem table {W:World} (h:laidMetH Tryd.prog [("math/bits.deBruijn64tab",Rows.laid_math_bits_deBruijn64tab)] W):Lib.TabIs Tryd.prog W "math/bits.deBruijn64tab" .u8 (Lib.deBruijn64tab.map fun(n:Nat)=>(n:Int)):=
 Lib.tabIs_of_head (rest:=[]) qEY qfc Tryd.underlying123 Tryd.underlying5 (by kernel_rfl) (by kernel_rfl) h
theorem qws {W:World} (h:laidMetH Tryd.prog [("math/bits.deBruijn64tab",Rows.laid_math_bits_deBruijn64tab)] W):Go.E.GOk Tryd.prog W Xg:=by
 intro g
 show R noβ W Xg (if g=0 then _ else _) _
 have hl:Lib.deBruijn64tab.length=64:=by decide
 split
 · rename_i e
   subst e
   refine .iptr 64 _ 0 0 0 (fun j=>.int .u8 ((Lib.deBruijn64tab.map fun(n:Nat)=>(n:Int)).getD j 0)) (fun j hj=>⟨trivial,?_⟩) (by simp[V.cells,hl]) (by simp[V.cells,V.scalar]) (fun j c hc=>?_)
   · have:=(table h).cell qEY j (by simp[hl];exact hj)
     simpa using this
   · simp only[V.cells,List.getElem?_map,Option.map_eq_some_iff]at hc
     obtain ⟨n,hn,rfl⟩:=hc
     have:(Lib.deBruijn64tab.map fun(n:Nat)=>(n:Int)).getD j 0=(n:Int):=by simp[List.getD,hn]
     rw[this]
     exact .int _ _
 · exact .iptr 0 (.agg []) 0 g 0 (fun _=>Go.undef) (fun j hj=>absurd hj (Nat.not_lt_zero _)) rfl (by simp[V.cells]) (by simp[V.cells])
noncomputable def XZ (os:Os):World:=
 {World.holding Tryd.prog os ⟨#[],#[],[]⟩with heap:=(World.holding Tryd.prog os ⟨#[],#[],[]⟩).heap.modify 0 fun
  |.cells _ t frozen=>.cells ((Lib.deBruijn64tab.map fun(n:Nat)=>Value.int .u8 (n:Int)).toArray) t frozen
  |o=>o}
end Go.Proofs.YtjdjdbkoplmjeaaDoor.law
