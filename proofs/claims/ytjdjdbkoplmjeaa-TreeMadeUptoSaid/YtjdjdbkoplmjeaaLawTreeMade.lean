/- Part of a proof that a law of the given program answers true. -/
import Derived.Test.YtjdjdbkoplmjeaaMPM
import Derived.Test.YtjdjdbkoplmjeaaMSS
set_option linter.unusedSimpArgs false
set_option linter.unusedVariables false
set_option maxRecDepth 100000
namespace Go.Proofs.Ytjdjdbkoplmjeaa.lawTreeMade
open Go.E Go.ChangeShapes Go.WideShapes Go.ChangeAt Go.RowKit Go.Proofs.Ytjdjdbkoplmjeaa.law
theorem pures (ps:List (V×Nat)) (hl:ps.length=5) (h: ∀(i:Nat) p Q,ps[i]?=some p→([Img Source.V QF YL,Img (fun l:List Int=>.sl 1 false (l.map (V.int .i64))) szI (fun l=> ∀n∈l,(Lit.int .i64 n).wf=true),Img (fun l:List Int=>.sl 1 false (l.map (V.int .i64))) szI (fun l=> ∀n∈l,(Lit.int .i64 n).wf=true),Img (fun n:Int=>.int .i64 n) (fun _=>1) (fun n=>(Lit.int .i64 n).wf=true),Img (fun n:Int=>.int .i64 n) (fun _=>1) (fun n=>(Lit.int .i64 n).wf=true)]:List (V→Nat→Prop))[i]?=some Q→Q p.1 p.2) (hs:(ps.map (·.2)).sum≤1048576):
 Pure Try.prog 4 (ps.map (·.1)) (.bool true):=by
 match ps,hl with
 | [p0,p1,p2,p3,p4],_=>
   obtain ⟨a0,w0,e0,s0⟩:=h 0 _ _ rfl rfl
   obtain ⟨a1,w1,e1,s1⟩:=h 1 _ _ rfl rfl
   obtain ⟨a2,w2,e2,s2⟩:=h 2 _ _ rfl rfl
   obtain ⟨a3,w3,e3,s3⟩:=h 3 _ _ rfl rfl
   obtain ⟨a4,w4,e4,s4⟩:=h 4 _ _ rfl rfl
   simp only[List.map_cons,List.map_nil,List.sum_cons,List.sum_nil]at hs ⊢
   rw[e0,e1,e2,e3,e4]
   simp only[Xg]at s1 s2
   exact Qt (qiW o_) o_ o_
theorem contract (H:Type) (enc:TypeId×Value→H) (W:World) (base:Nat) (args:Array Value) (ds gs:List (DataW H)) (before:List MemPlace)
 (hval: ∀(j:Nat) t v,Try.f4.params[j]?=some t→args[j]?=some v→Value.okWide Try.prog W .any base t v)
 (hW:DataW.Whole enc Try.prog Try.f4.params.toList Rows.treeMadeSpec.vars false W args.toList ds gs before) (hk:Rows.uptoSmall H (ds++gs)=true) (hG:Go.E.GOk Try.prog W Jl):
 Calls Try.prog 4 args W fun e W'=> ∃v,e=.returned v∧Rows.treeMadeSpec.post enc Try.prog Try.f4 false true false false W args v W':=by
 have hgs:gs=[]:=by
  obtain ⟨p,q,_,hV,_⟩:=hW
  cases gs with
  |nil=>rfl
  |cons g gs=>exact hV.elim
 have hk2:=small hk
 rw[hgs,List.append_nil]at hk2
 refine ZH (B:=B) (bound:=1048576) rfl (fun H ds h=>?_) (by kernel_rfl) Try.underlying4 kids slices (by rw[Try.params4];decide+kernel) [Img Source.V QF YL,Img (fun l:List Int=>.sl 1 false (l.map (V.int .i64))) szI (fun l=> ∀n∈l,(Lit.int .i64 n).wf=true),Img (fun l:List Int=>.sl 1 false (l.map (V.int .i64))) szI (fun l=> ∀n∈l,(Lit.int .i64 n).wf=true),Img (fun n:Int=>.int .i64 n) (fun _=>1) (fun n=>(Lit.int .i64 n).wf=true),Img (fun n:Int=>.int .i64 n) (fun _=>1) (fun n=>(Lit.int .i64 n).wf=true)] (by rw[Try.params4];rfl) ?_ (fun ps hl h hs=>pures ps hl h hs) H enc W base args ds gs before hval hW hk2 hG
 · rw[Try.params4]at h
   match ds,h with
   |[x0,x1,x2,x3,x4],_=>rfl
 · rw[Try.params4]
   intro i t Q ht hq
   match i,ht,hq with
   |0,ht,hq=>cases ht;cases hq;exact(fun N=>(qiP N).le o_)
   |1,ht,hq=>cases ht;cases hq;exact Ve
   |2,ht,hq=>cases ht;cases hq;exact Ve
   |3,ht,hq=>cases ht;cases hq;exact qdc
   |4,ht,hq=>cases ht;cases hq;exact qdc
theorem lifted (os:Os) (started:os.Started) (H:Type) (enc:TypeId×Value→H) (F:Stop.Interp):
 ReturnsInHanded {} Try.checked os 4 .any ((Rows.OpenSpec.upto Rows.treeMadeSpec).pre6 enc Try.prog Try.f4 Rows.treeMadeUptoRow.domain false) (((Rows.OpenSpec.upto Rows.treeMadeSpec).at F).post enc Try.prog Try.f4 false true false false):=by
 refine returnsInHanded_of_cond (C:=Try.checked) (s:=Rows.OpenSpec.upto Rows.treeMadeSpec) (k:=Rows.uptoSmall) rfl own started (by kernel_rfl) Try.func4
  (OpenSpec.witness (enc:=enc) (C:=Try.checked) (s:=Rows.OpenSpec.upto Rows.treeMadeSpec) (k:=Rows.uptoSmall) rfl false ⟨#[],#[.agg #[.string ⟨#[]⟩,.slice none 0 0,.slice none 0 0,.string ⟨#[]⟩],.slice none 0 0,.slice none 0 0,.int .i64 0,.int .i64 0],[]⟩ 8 (by kernel_rfl) (by kernel_rfl) (by kernel_rfl)
   (x:=([.agg [.lit (.string []),.nil,.nil,.lit (.string [])],.nil,.nil,.lit (.int .i64 0),.lit (.int .i64 0)],[],[])) (by kernel_rfl) rfl (by kernel_rfl)) ?_
 intro W base args ds gs before hval hW _ hk _
 exact contract H enc W base args ds gs before hval hW hk (qfT W)
theorem saidUpto:Rows.TreeMadeUptoSaid:=
 OpenClaim.holds_of_cond 4 Try.f4 rfl rfl rfl rfl rfl rfl rfl ⟨rfl,rfl,rfl,rfl,rfl⟩ rfl rfl rfl rfl rfl (by kernel_rfl) Try.func4 (by kernel_rfl)
  (of_decide_eq_true (by kernel_rfl)) (by unfold Func.isWrapper;first|(rw[if_pos (by decide+kernel)];kernel_rfl)|(rw[if_neg (by decide+kernel)];exact⟨rfl,rfl⟩))
  (fun os started H enc _ F=>by exact lifted os started H enc F)
end Go.Proofs.Ytjdjdbkoplmjeaa.lawTreeMade
