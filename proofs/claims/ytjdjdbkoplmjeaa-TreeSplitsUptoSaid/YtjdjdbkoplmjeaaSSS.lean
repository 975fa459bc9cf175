/- Part of a proof that a law of the given program answers true. -/
import Derived.Test.YtjdjdbkoplmjeaaSKA
import Derived.Test.YtjdjdbkoplmjeaaSNA
import Derived.Test.YtjdjdbkoplmjeaaSEC
import Derived.Test.YtjdjdbkoplmjeaaRows
import Derived.WalkKit
import Derived.ProofKit
import Derived.OpenShut
import Derived.JoinedCond
set_option linter.unusedSimpArgs false
set_option linter.unusedVariables false
namespace Go.Proofs.Ytjdjdbkoplmjeaa.law
open Go.E Go.ChangeShapes Go.WideShapes Go.ChangeAt Go.RowKit
def B (H:Type) (d:DataW H):Nat:=Rows.uptoBulk d
theorem Vh {H:Type} (l:List (DataW H)):Rows.uptoBulkAll l=(l.map (B H)).sum:=by
 induction l with
 |nil=>simp[Rows.uptoBulkAll]
 |cons x l ih=>simp only[Rows.uptoBulkAll,ih,List.map_cons,List.sum_cons];rfl
theorem Zz:BulkOk B where
 one:=fun H d=>by
  cases d with
  |lit l=>cases l<;>simp[B,Rows.uptoBulk]
  | _=>simp[B,Rows.uptoBulk]
 str:=fun H s=>by simp[B,Rows.uptoBulk]
 slice:=fun H x y=>by
  show _≤Rows.uptoBulk (.slice x y)
  simp only[Rows.uptoBulk,Vh];omega
 agg:=fun H x=>by
  show _≤Rows.uptoBulk (.agg x)
  simp only[Rows.uptoBulk,Vh];omega
theorem small {H:Type} {l:List (DataW H)} (hk:Rows.uptoSmall H l=true):(l.map (B H)).sum≤1048576:=by
 have h:Rows.uptoBulkAll l≤1048576:=of_decide_eq_true hk
 rwa [Vh]at h
theorem own:ownKnob Try.prog.godebug=none:=by kernel_rfl
theorem kids:Kids Try.prog (· <Try.prog.types.size):=kids_rows (by kernel_rfl) (by kernel_rfl)
theorem slices: ∀t e,t<Try.prog.types.size→Try.prog.underlying t=some (.slice e)→0<Try.prog.cellsOf e:=slices_full_of Try.prog (by kernel_rfl)
theorem cells3:Try.prog.cellsOf 3=1:=by kernel_rfl
theorem qoB:Try.prog.cellsOf 4=1:=by kernel_rfl
theorem qdx (N:Nat):ReadsN N Try.prog B 3 (Img (fun n:Int=>.int .i64 n) (fun _=>1) (fun n=>(Lit.int .i64 n).wf=true)):=qbg Zz Try.underlying3 cells3 N
theorem quH (N:Nat):ReadsN N Try.prog B 4 (Img (fun n:Bool=>.bool n) (fun _=>1) (fun _=>True)):=KV Zz Try.underlying4 qoB N
theorem kz:Try.prog.cellsOf 23=1:=by kernel_rfl
theorem Xz:Try.prog.cellsOf 22=1:=by kernel_rfl
def szI (l:List Int):Nat:=(l.map fun _=>1).sum+1
theorem qgs (N:Nat):ReadsN N Try.prog B 23 (Img (fun l:List Int=>.sl 1 false (l.map (V.int .i64))) szI (fun l=> ∀n∈l,(Lit.int .i64 n).wf=true)):=by
 have h:=vY Zz Try.underlying23 kz (by rw[cells3];omega) (qdx N)
 rw[cells3]at h
 exact h.le o_
theorem qsz (N:Nat):ReadsN N Try.prog B 22 (Img (fun l:List (List Int)=>.sl 1 false (l.map fun l=>.sl 1 false (l.map (V.int .i64)))) (fun l=>(l.map szI).sum+1) (fun l=> ∀a∈l,∀n∈a,(Lit.int .i64 n).wf=true)):=by
 have h:=vY Zz Try.underlying22 (by kernel_rfl) (by rw[kz];omega) (qgs N)
 rw[kz]at h
 exact h.le o_
def szG (x:GrI):Nat:=((x.rules.map szI).sum+1)+szI x.levels+szI x.inner
theorem rGr (N:Nat):ReadsN N Try.prog B 25 (Img (fun x:GrI=>x.V) szG (fun _=>True)):=by
 have h:=QW (N:=N) (Qs:=[Img (fun n:Int=>.int .i64 n) (fun _=>1) (fun n=>(Lit.int .i64 n).wf=true),Img (fun l:List (List Int)=>.sl 1 false (l.map fun l=>.sl 1 false (l.map (V.int .i64)))) (fun l=>(l.map szI).sum+1) (fun l=> ∀a∈l,∀n∈a,(Lit.int .i64 n).wf=true),Img (fun l:List Int=>.sl 1 false (l.map (V.int .i64))) szI (fun l=> ∀n∈l,(Lit.int .i64 n).wf=true),Img (fun l:List Int=>.sl 1 false (l.map (V.int .i64))) szI (fun l=> ∀n∈l,(Lit.int .i64 n).wf=true),Img (fun n:Bool=>.bool n) (fun _=>1) (fun _=>True)]) Zz Try.underlying25 (by kernel_rfl) (by
  intro j f hf
  match j,hf with
  |0,hf=>cases hf;rfl
  |1,hf=>cases hf;simp[cells3,Xz,kz]
  |2,hf=>cases hf;simp[cells3,Xz,kz]
  |3,hf=>cases hf;simp[cells3,Xz,kz]
  |4,hf=>cases hf;simp[cells3,Xz,kz]) rfl (by
  intro i f Q hf hQ
  match i,hf,hQ with
  |0,hf,hQ=>cases hf;cases hQ;exact qdx N
  |1,hf,hQ=>cases hf;cases hQ;exact qsz N
  |2,hf,hQ=>cases hf;cases hQ;exact qgs N
  |3,hf,hQ=>cases hf;cases hQ;exact qgs N
  |4,hf,hQ=>cases hf;cases hQ;exact quH N)
 have hc:Try.prog.cellsOf 25=5:=by kernel_rfl
 refine⟨?_,fun H enc w fuel cs x hf hx=>?_⟩
 · rintro v n ⟨x,_,rfl,rfl⟩
   refine⟨by rw[hc];rfl,?_,by simp[V.isAgg,K8,Try.underlying25]⟩
   intro c hcm
   simp only[V.cells,List.mem_cons,List.not_mem_nil,or_false]at hcm
   rcases hcm with rfl|rfl|rfl|rfl|rfl<;>rfl
 · obtain ⟨v,n,⟨ps,hl,hq,rfl,rfl⟩,h2,h3⟩:=h.rd H enc w fuel cs x o_ hx
   match ps,hl with
   | [p0,p1,p2,p3,p4],_=>
     obtain ⟨a0,-,e0,s0⟩:=hq 0 _ _ rfl rfl
     obtain ⟨a1,-,e1,s1⟩:=hq 1 _ _ rfl rfl
     obtain ⟨a2,-,e2,s2⟩:=hq 2 _ _ rfl rfl
     obtain ⟨a3,-,e3,s3⟩:=hq 3 _ _ rfl rfl
     obtain ⟨a4,-,e4,s4⟩:=hq 4 _ _ rfl rfl
     refine⟨(GrI.mk a0 a1 a2 a3 a4).V,_,⟨GrI.mk a0 a1 a2 a3 a4,trivial,rfl,rfl⟩,?_,?_⟩
     · simp only[List.map_cons,List.map_nil,List.flatMap_cons,List.flatMap_nil,e0,e1,e2,e3,e4]at h2
       exact h2
     · simp only[List.map_cons,List.map_nil,List.sum_cons,List.sum_nil,s0,s1,s2,s3,s4]at h3
       simp only[szG]
       omega
theorem Vg (l:List Int):szI l=l.length+1:=by
 unfold szI
 induction l with
 |nil=>rfl
 |cons a l ih=>simp only[List.map_cons,List.sum_cons,List.length_cons]at ih ⊢;omega
theorem YR: ∀{L:List (List Int)} {l:List Int},l∈L→l.length+L.length≤(L.map szI).sum
 | a::L,l,h=>by
   have hs: ∀L:List (List Int),L.length≤(L.map szI).sum:=fun L=>by
    induction L with
    |nil=>simp
    |cons a L ih=>simp only[List.map_cons,List.sum_cons,List.length_cons,Vg];omega
   simp only[List.map_cons,List.sum_cons,List.length_cons,Vg]
   rcases List.mem_cons.1 h with rfl|h
   · have:=hs L;omega
   · have:=YR h;omega
theorem qgj {x:GrI} (h:szG x≤1048576):x.rules.length≤1099511627776∧(∀l∈x.rules,l.length≤1099511627776)∧x.inner.length≤1099511627776∧x.levels.length≤1099511627776:=by
 simp only[szG,Vg]at h
 refine⟨?_,fun l hl=>by have:=YR hl;omega,o_,o_⟩
 cases hx:x.rules with
 |nil=>simp
 |cons a L=>have:=YR (L:=x.rules) (l:=a) (by simp[hx]);rw[hx]at this h;simp only[List.length_cons]at this ⊢;omega
theorem qdp (W:World):Go.E.GOk Try.prog W ZE:=fun g=>.iptr 0 (.agg []) 0 g 0 (fun _=>Go.undef) (fun j hj=>absurd hj (Nat.not_lt_zero _)) rfl (by simp[V.cells]) (by simp[V.cells])
theorem qba (ks:List Nd):Nd.sizes ks=(ks.map Nd.size).sum:=by
 induction ks with
 |nil=>rfl
 |cons a r ih=>rw[Nd.sizes,ih];simp
theorem VA:Try.prog.cellsOf 28=4:=by kernel_rfl
theorem ZV:Try.prog.cellsOf 26=1:=by kernel_rfl
theorem Ke (v:V) (n:Nat):Img Nd.V Nd.size (fun _=>True) v n→v.cells.length=Try.prog.cellsOf 28∧(∀c∈v.cells,c.scalar=true)∧v.isAgg=K8 Try.prog 28:=by
 rintro ⟨⟨s,p,a,ks⟩,_,rfl,rfl⟩
 refine⟨by rw[VA,Nd.V];rfl,?_,by rw[Nd.V];simp[V.isAgg,K8,Try.underlying28]⟩
 intro c hc
 rw[Nd.V]at hc
 simp only[V.cells,List.mem_cons,List.not_mem_nil,or_false]at hc
 rcases hc with rfl|rfl|rfl|rfl<;>rfl
theorem qmD {N:Nat} (h:ReadsN N Try.prog B 28 (Img Nd.V Nd.size (fun _=>True))):ReadsN (N+2) Try.prog B 28 (Img Nd.V Nd.size (fun _=>True)):=by
 have hl:=vY Zz Try.underlying26 ZV (by rw[VA];omega) h
 rw[VA]at hl
 have h:=QW (N:=N+1) (Qs:=[Img (fun n:Int=>.int .i64 n) (fun _=>1) (fun n=>(Lit.int .i64 n).wf=true),Img (fun n:Int=>.int .i64 n) (fun _=>1) (fun n=>(Lit.int .i64 n).wf=true),Img (fun n:Int=>.int .i64 n) (fun _=>1) (fun n=>(Lit.int .i64 n).wf=true),Img (fun l:List Nd=>.sl 4 false (l.map Nd.V)) (fun l=>(l.map Nd.size).sum+1) (fun l=> ∀a∈l,True)]) Zz Try.underlying28 (by rw[VA];simp[cells3,ZV]) (by
  intro j f hf
  match j,hf with
  |0,hf=>cases hf;rfl
  |1,hf=>cases hf;simp[cells3,ZV]
  |2,hf=>cases hf;simp[cells3,ZV]
  |3,hf=>cases hf;simp[cells3,ZV]) rfl (by
  intro i f Q hf hQ
  match i,hf,hQ with
  |0,hf,hQ=>cases hf;cases hQ;exact qdx _
  |1,hf,hQ=>cases hf;cases hQ;exact qdx _
  |2,hf,hQ=>cases hf;cases hQ;exact qdx _
  |3,hf,hQ=>cases hf;cases hQ;exact hl)
 refine⟨Ke,fun H enc w fuel cs x hf hx=>?_⟩
 obtain ⟨v,n,⟨ps,hl,hq,rfl,rfl⟩,h2,h3⟩:=h.rd H enc w fuel cs x o_ hx
 match ps,hl with
 | [p0,p1,p2,p3],_=>
   obtain ⟨a0,-,e0,s0⟩:=hq 0 _ _ rfl rfl
   obtain ⟨a1,-,e1,s1⟩:=hq 1 _ _ rfl rfl
   obtain ⟨a2,-,e2,s2⟩:=hq 2 _ _ rfl rfl
   obtain ⟨a3,-,e3,s3⟩:=hq 3 _ _ rfl rfl
   refine⟨(Nd.mk a0 a1 a2 a3).V,_,⟨Nd.mk a0 a1 a2 a3,trivial,rfl,rfl⟩,?_,?_⟩
   · simp only[List.map_cons,List.map_nil,List.flatMap_cons,List.flatMap_nil,e0,e1,e2,e3]at h2
     rw[Nd.V_mk]
     exact h2
   · simp only[List.map_cons,List.map_nil,List.sum_cons,List.sum_nil,s0,s1,s2,s3]at h3
     rw[Nd.size,qba]
     omega
theorem qfr: ∀N:Nat,ReadsN N Try.prog B 28 (Img Nd.V Nd.size (fun _=>True)):=by
 have h0:ReadsN 0 Try.prog B 28 (Img Nd.V Nd.size (fun _=>True)):=⟨Ke,fun H enc w fuel cs x hf hx=>by
  obtain rfl:fuel=0:=o_
  simp[DataW.trod]at hx⟩
 have h2: ∀k,ReadsN (2 *k) Try.prog B 28 (Img Nd.V Nd.size (fun _=>True)):=fun k=>by
  induction k with
  |zero=>exact h0
  |succ k ih=>exact qmD ih
 exact fun N=>(h2 N).le o_
end Go.Proofs.Ytjdjdbkoplmjeaa.law
