/- Part of a proof that a law of the given program answers true. -/
import Derived.Test.YtjdjdbkoplmjeaaSPA
import Derived.Test.YtjdjdbkoplmjeaaSSS
set_option linter.unusedSimpArgs false
set_option linter.unusedVariables false
set_option maxRecDepth 100000
namespace Go.Proofs.Ytjdjdbkoplmjeaa.lawTreeTells
open Go.E Go.ChangeShapes Go.WideShapes Go.ChangeAt Go.RowKit Go.Proofs.Ytjdjdbkoplmjeaa.law
theorem pures (ps:List (V×Nat)) (hl:ps.length=2) (h: ∀(i:Nat) p Q,ps[i]?=some p→([Img (fun x:GrI=>x.V) szG (fun _=>True),Img Nd.V Nd.size (fun _=>True)]:List (V→Nat→Prop))[i]?=some Q→Q p.1 p.2) (hs:(ps.map (·.2)).sum≤1048576):
 Pure Try.prog 3 (ps.map (·.1)) (.bool true):=by
 match ps,hl with
 | [p0,p1],_=>
   obtain ⟨a0,w0,e0,s0⟩:=h 0 _ _ rfl rfl
   obtain ⟨a1,w1,e1,s1⟩:=h 1 _ _ rfl rfl
   simp only[List.map_cons,List.map_nil,List.sum_cons,List.sum_nil]at hs ⊢
   rw[e0,e1]
   have h0:=qgj (x:=a0) o_
   exact vG h0.1 h0.2.1 h0.2.2.1 h0.2.2.2 o_
theorem contract (H:Type) (enc:TypeId×Value→H) (W:World) (base:Nat) (args:Array Value) (ds gs:List (DataW H)) (before:List MemPlace)
 (hval: ∀(j:Nat) t v,Try.f3.params[j]?=some t→args[j]?=some v→Value.okWide Try.prog W .any base t v)
 (hW:DataW.Whole enc Try.prog Try.f3.params.toList Rows.treeTellsSpec.vars false W args.toList ds gs before) (hk:Rows.uptoSmall H (ds++gs)=true) (hG:Go.E.GOk Try.prog W ZE):
 Calls Try.prog 3 args W fun e W'=> ∃v,e=.returned v∧Rows.treeTellsSpec.post enc Try.prog Try.f3 false true false false W args v W':=by
 have hgs:gs=[]:=by
  obtain ⟨p,q,_,hV,_⟩:=hW
  cases gs with
  |nil=>rfl
  |cons g gs=>exact hV.elim
 have hk2:=small hk
 rw[hgs,List.append_nil]at hk2
 refine QU (B:=B) (bound:=1048576) rfl (fun H ds h=>?_) (by kernel_rfl) Try.underlying4 kids slices (by rw[Try.params3];decide+kernel) [Img (fun x:GrI=>x.V) szG (fun _=>True),Img Nd.V Nd.size (fun _=>True)] (by rw[Try.params3];rfl) ?_ (fun ps hl h hs=>pures ps hl h hs) H enc W base args ds gs before hval hW hk2 hG
 · rw[Try.params3]at h
   match ds,h with
   |[x0,x1],_=>rfl
 · rw[Try.params3]
   intro i t Q ht hq
   match i,ht,hq with
   |0,ht,hq=>cases ht;cases hq;exact rGr
   |1,ht,hq=>cases ht;cases hq;exact qfr
theorem lifted (os:Os) (started:os.Started) (H:Type) (enc:TypeId×Value→H) (F:Stop.Interp):
 ReturnsInHanded {} Try.checked os 3 .any ((Rows.OpenSpec.upto Rows.treeTellsSpec).pre6 enc Try.prog Try.f3 Rows.treeTellsUptoRow.domain false) (((Rows.OpenSpec.upto Rows.treeTellsSpec).at F).post enc Try.prog Try.f3 false true false false):=by
 refine returnsInHanded_of_cond (C:=Try.checked) (s:=Rows.OpenSpec.upto Rows.treeTellsSpec) (k:=Rows.uptoSmall) rfl own started (by kernel_rfl) Try.func3
  (OpenSpec.witness (enc:=enc) (C:=Try.checked) (s:=Rows.OpenSpec.upto Rows.treeTellsSpec) (k:=Rows.uptoSmall) rfl false ⟨#[],#[.agg #[.int .i64 0,.slice none 0 0,.slice none 0 0,.slice none 0 0,.bool false],.agg #[.int .i64 0,.int .i64 0,.int .i64 0,.slice none 0 0]],[]⟩ 8 (by kernel_rfl) (by kernel_rfl) (by kernel_rfl)
   (x:=([.agg [.lit (.int .i64 0),.nil,.nil,.nil,.lit (.bool false)],.agg [.lit (.int .i64 0),.lit (.int .i64 0),.lit (.int .i64 0),.nil]],[],[])) (by kernel_rfl) rfl (by kernel_rfl)) ?_
 intro W base args ds gs before hval hW _ hk _
 exact contract H enc W base args ds gs before hval hW hk (qdp W)
theorem saidUpto:Rows.TreeTellsUptoSaid:=
 OpenClaim.holds_of_cond 3 Try.f3 rfl rfl rfl rfl rfl rfl rfl ⟨rfl,rfl,rfl,rfl,rfl⟩ rfl rfl rfl rfl rfl (by kernel_rfl) Try.func3 (by kernel_rfl)
  (of_decide_eq_true (by kernel_rfl)) (by unfold Func.isWrapper;first|(rw[if_pos (by decide+kernel)];kernel_rfl)|(rw[if_neg (by decide+kernel)];exact⟨rfl,rfl⟩))
  (fun os started H enc _ F=>by exact lifted os started H enc F)
end Go.Proofs.Ytjdjdbkoplmjeaa.lawTreeTells
