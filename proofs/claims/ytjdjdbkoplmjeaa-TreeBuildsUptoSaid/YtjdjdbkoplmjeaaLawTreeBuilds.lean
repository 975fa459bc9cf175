/- Part of a proof that a law of the given program answers true. -/
import Derived.Test.YtjdjdbkoplmjeaaMRC
import Derived.Test.YtjdjdbkoplmjeaaMSS
set_option linter.unusedSimpArgs false
set_option linter.unusedVariables false
set_option maxRecDepth 100000
namespace Go.Proofs.Ytjdjdbkoplmjeaa.lawTreeBuilds
open Go.E Go.ChangeShapes Go.WideShapes Go.ChangeAt Go.RowKit Go.Proofs.Ytjdjdbkoplmjeaa.law
theorem pures (ps:List (V×Nat)) (hl:ps.length=4) (h: ∀(i:Nat) p Q,ps[i]?=some p→([Img (fun x:GrI=>x.V) szG (fun _=>True),Img (fun l:List Int=>.sl 1 false (l.map (V.int .i64))) szI (fun l=> ∀n∈l,(Lit.int .i64 n).wf=true),Img (fun l:List Int=>.sl 1 false (l.map (V.int .i64))) szI (fun l=> ∀n∈l,(Lit.int .i64 n).wf=true),Img (fun l:List Int=>.sl 1 false (l.map (V.int .i64))) szI (fun l=> ∀n∈l,(Lit.int .i64 n).wf=true)]:List (V→Nat→Prop))[i]?=some Q→Q p.1 p.2) (hs:(ps.map (·.2)).sum≤1048576):
 Pure Try.prog 5 (ps.map (·.1)) (.bool true):=by
 match ps,hl with
 | [p0,p1,p2,p3],_=>
   obtain ⟨a0,w0,e0,s0⟩:=h 0 _ _ rfl rfl
   obtain ⟨a1,w1,e1,s1⟩:=h 1 _ _ rfl rfl
   obtain ⟨a2,w2,e2,s2⟩:=h 2 _ _ rfl rfl
   obtain ⟨a3,w3,e3,s3⟩:=h 3 _ _ rfl rfl
   simp only[List.map_cons,List.map_nil,List.sum_cons,List.sum_nil]at hs ⊢
   rw[e0,e1,e2,e3]
   have h0:=qjP (x:=a0) o_
   simp only[Xg]at s1 s2 s3
   exact vZ h0.1 h0.2.1 h0.2.2.1 h0.2.2.2 o_ o_ o_
theorem contract (H:Type) (enc:TypeId×Value→H) (W:World) (base:Nat) (args:Array Value) (ds gs:List (DataW H)) (before:List MemPlace)
 (hval: ∀(j:Nat) t v,Try.f5.params[j]?=some t→args[j]?=some v→Value.okWide Try.prog W .any base t v)
 (hW:DataW.Whole enc Try.prog Try.f5.params.toList Rows.treeBuildsSpec.vars false W args.toList ds gs before) (hk:Rows.uptoSmall H (ds++gs)=true) (hG:Go.E.GOk Try.prog W Jl):
 Calls Try.prog 5 args W fun e W'=> ∃v,e=.returned v∧Rows.treeBuildsSpec.post enc Try.prog Try.f5 false true false false W args v W':=by
 have hgs:gs=[]:=by
  obtain ⟨p,q,_,hV,_⟩:=hW
  cases gs with
  |nil=>rfl
  |cons g gs=>exact hV.elim
 have hk2:=small hk
 rw[hgs,List.append_nil]at hk2
 refine ZH (B:=B) (bound:=1048576) rfl (fun H ds h=>?_) (by kernel_rfl) Try.underlying4 kids slices (by rw[Try.params5];decide+kernel) [Img (fun x:GrI=>x.V) szG (fun _=>True),Img (fun l:List Int=>.sl 1 false (l.map (V.int .i64))) szI (fun l=> ∀n∈l,(Lit.int .i64 n).wf=true),Img (fun l:List Int=>.sl 1 false (l.map (V.int .i64))) szI (fun l=> ∀n∈l,(Lit.int .i64 n).wf=true),Img (fun l:List Int=>.sl 1 false (l.map (V.int .i64))) szI (fun l=> ∀n∈l,(Lit.int .i64 n).wf=true)] (by rw[Try.params5];rfl) ?_ (fun ps hl h hs=>pures ps hl h hs) H enc W base args ds gs before hval hW hk2 hG
 · rw[Try.params5]at h
   match ds,h with
   |[x0,x1,x2,x3],_=>rfl
 · rw[Try.params5]
   intro i t Q ht hq
   match i,ht,hq with
   |0,ht,hq=>cases ht;cases hq;exact rGr
   |1,ht,hq=>cases ht;cases hq;exact Ve
   |2,ht,hq=>cases ht;cases hq;exact Ve
   |3,ht,hq=>cases ht;cases hq;exact Ve
theorem lifted (os:Os) (started:os.Started) (H:Type) (enc:TypeId×Value→H) (F:Stop.Interp):
 ReturnsInHanded {} Try.checked os 5 .any ((Rows.OpenSpec.upto Rows.treeBuildsSpec).pre6 enc Try.prog Try.f5 Rows.treeBuildsUptoRow.domain false) (((Rows.OpenSpec.upto Rows.treeBuildsSpec).at F).post enc Try.prog Try.f5 false true false false):=by
 refine returnsInHanded_of_cond (C:=Try.checked) (s:=Rows.OpenSpec.upto Rows.treeBuildsSpec) (k:=Rows.uptoSmall) rfl own started (by kernel_rfl) Try.func5
  (OpenSpec.witness (enc:=enc) (C:=Try.checked) (s:=Rows.OpenSpec.upto Rows.treeBuildsSpec) (k:=Rows.uptoSmall) rfl false ⟨#[],#[.agg #[.int .i64 0,.slice none 0 0,.slice none 0 0,.slice none 0 0,.bool false],.slice none 0 0,.slice none 0 0,.slice none 0 0],[]⟩ 8 (by kernel_rfl) (by kernel_rfl) (by kernel_rfl)
   (x:=([.agg [.lit (.int .i64 0),.nil,.nil,.nil,.lit (.bool false)],.nil,.nil,.nil],[],[])) (by kernel_rfl) rfl (by kernel_rfl)) ?_
 intro W base args ds gs before hval hW _ hk _
 exact contract H enc W base args ds gs before hval hW hk (qfT W)
theorem saidUpto:Rows.TreeBuildsUptoSaid:=
 OpenClaim.holds_of_cond 5 Try.f5 rfl rfl rfl rfl rfl rfl rfl ⟨rfl,rfl,rfl,rfl,rfl⟩ rfl rfl rfl rfl rfl (by kernel_rfl) Try.func5 (by kernel_rfl)
  (of_decide_eq_true (by kernel_rfl)) (by unfold Func.isWrapper;first|(rw[if_pos (by decide+kernel)];kernel_rfl)|(rw[if_neg (by decide+kernel)];exact⟨rfl,rfl⟩))
  (fun os started H enc _ F=>by exact lifted os started H enc F)
end Go.Proofs.Ytjdjdbkoplmjeaa.lawTreeBuilds
