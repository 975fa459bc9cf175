/- Part of a proof that a law of the given program answers true. -/
import Derived.Test.YtjdjdbkoplmjeaaDoorVVHC
import Derived.Test.YtjdjdbkoplmjeaaDoorVSSC
set_option linter.unusedSimpArgs false
set_option linter.unusedVariables false
set_option maxRecDepth 100000
namespace Go.Proofs.YtjdjdbkoplmjeaaDoor.lawVainRounds
open Go.E Go.ChangeShapes Go.WideShapes Go.ChangeAt Go.RowKit Go.Proofs.YtjdjdbkoplmjeaaDoor.law
theorem pures (ps:List (V×Nat)) (hl:ps.length=3) (h: ∀(i:Nat) p Q,ps[i]?=some p→([Img (fun n:Int=>.int .i64 n) (fun _=>1) (fun n=>(Lit.int .i64 n).wf=true),Img (fun n:Int=>.int .i64 n) (fun _=>1) (fun n=>(Lit.int .i64 n).wf=true),Img (fun n:Bool=>.bool n) (fun _=>1) (fun _=>True)]:List (V→Nat→Prop))[i]?=some Q→Q p.1 p.2) (hs:(ps.map (·.2)).sum≤1048576):
 Pure Tryd.prog 5 (ps.map (·.1)) (.bool true):=by
 match ps,hl with
 | [p0,p1,p2],_=>
   obtain ⟨a0,w0,e0,s0⟩:=h 0 _ _ rfl rfl
   obtain ⟨a1,w1,e1,s1⟩:=h 1 _ _ rfl rfl
   obtain ⟨a2,w2,e2,s2⟩:=h 2 _ _ rfl rfl
   simp only[List.map_cons,List.map_nil,List.sum_cons,List.sum_nil]at hs ⊢
   rw[e0,e1,e2]
   exact kJ
theorem contract (H:Type) (enc:TypeId×Value→H) (W:World) (base:Nat) (args:Array Value) (ds gs:List (DataW H)) (before:List MemPlace)
 (hval: ∀(j:Nat) t v,Tryd.f5.params[j]?=some t→args[j]?=some v→Value.okWide Tryd.prog W .any base t v)
 (hW:DataW.Whole enc Tryd.prog Tryd.f5.params.toList Rows.vainRoundsSpec.vars false W args.toList ds gs before) (hk:Rows.uptoSmall H (ds++gs)=true) (hG:Go.E.GOk Tryd.prog W Ju):
 Calls Tryd.prog 5 args W fun e W'=> ∃v,e=.returned v∧Rows.vainRoundsSpec.post enc Tryd.prog Tryd.f5 false true false false W args v W':=by
 have hgs:gs=[]:=by
  obtain ⟨p,q,_,hV,_⟩:=hW
  cases gs with
  |nil=>rfl
  |cons g gs=>exact hV.elim
 have hk2:=small hk
 rw[hgs,List.append_nil]at hk2
 refine ZI (B:=B) (bound:=1048576) rfl (fun H ds h=>?_) (by kernel_rfl) Tryd.underlying4 kids slices (by rw[Tryd.params5];decide+kernel) [Img (fun n:Int=>.int .i64 n) (fun _=>1) (fun n=>(Lit.int .i64 n).wf=true),Img (fun n:Int=>.int .i64 n) (fun _=>1) (fun n=>(Lit.int .i64 n).wf=true),Img (fun n:Bool=>.bool n) (fun _=>1) (fun _=>True)] (by rw[Tryd.params5];rfl) ?_ (fun ps hl h hs=>pures ps hl h hs) H enc W base args ds gs before hval hW hk2 hG
 · rw[Tryd.params5]at h
   match ds,h with
   |[x0,x1,x2],_=>rfl
 · rw[Tryd.params5]
   intro i t Q ht hq
   match i,ht,hq with
   |0,ht,hq=>cases ht;cases hq;exact qxM
   |1,ht,hq=>cases ht;cases hq;exact qxM
   |2,ht,hq=>cases ht;cases hq;exact qyh
theorem Ye (os:Os):laidMet Tryd.prog Rows.vainRoundsUptoRow.laid ((yO os).forCall (fun _ _=>0) ⟨#[],#[.int .i64 0,.int .i64 0,.bool false],[]⟩).memory:=
 laidMet_of_run' 8 (by kernel_rfl) (by kernel_rfl)
theorem reads (os:Os) {H:Type} (enc:TypeId×Value→H): ∃places,DataW.whole enc Tryd.prog ((yO os).forCall (fun _ _=>0) ⟨#[],#[.int .i64 0,.int .i64 0,.bool false],[]⟩).memory Tryd.f5.params.toList Rows.vainRoundsSpec.vars false #[.int .i64 0,.int .i64 0,.bool false].toList 8=some ([.lit (.int .i64 0),.lit (.int .i64 0),.lit (.bool false)],[],places):=
 ⟨[],by kernel_rfl⟩
theorem lifted (os:Os) (started:os.Started) (H:Type) (enc:TypeId×Value→H) (F:Stop.Interp):
 ReturnsInHanded {} Tryd.checked os 5 .any ((Rows.OpenSpec.upto Rows.vainRoundsSpec).preRow enc Tryd.prog Tryd.f5 Rows.vainRoundsUptoRow.domain false Rows.vainRoundsUptoRow.laid) (((Rows.OpenSpec.upto Rows.vainRoundsSpec).at F).post enc Tryd.prog Tryd.f5 false true false false):=by
 obtain ⟨places,hx⟩:=reads os enc
 refine returnsInHanded_of_row (C:=Tryd.checked) (s:=Rows.OpenSpec.upto Rows.vainRoundsSpec) own started (by kernel_rfl) Tryd.func5
  (witness_row_at (enc:=enc) (C:=Tryd.checked) false (yO os) #[.int .i64 0,.int .i64 0,.bool false] rfl (by kernel_rfl) (by kernel_rfl) (by kernel_rfl)
   (OpenSpec.preRow_of_cond 8 hx (by kernel_rfl) (fun k hk=>by cases hk;kernel_rfl) (by kernel_rfl) (Ye os))) ?_
 intro W base args ds gs before hval hW _ hcond _ hL _ _
 exact contract H enc W base args ds gs before hval hW (hcond _ rfl) (qfr hL)
theorem saidUpto:Rows.VainRoundsUptoSaid:=
 OpenClaim.holds_of_cond 5 Tryd.f5 rfl rfl rfl rfl rfl rfl rfl ⟨rfl,rfl,rfl,rfl,rfl⟩ rfl rfl rfl rfl rfl (by kernel_rfl) Tryd.func5 (by kernel_rfl)
  (of_decide_eq_true (by kernel_rfl)) (by unfold Func.isWrapper;first|(rw[if_pos (by decide+kernel)];kernel_rfl)|(rw[if_neg (by decide+kernel)];exact⟨rfl,rfl⟩))
  (fun os started H enc _ F=>by rw[OpenClaim.pre_eq_preRow];exact lifted os started H enc F)
theorem plain (f:FuncId) (fn:Func) (hf:Tryd.pinned.checked.prog.funcNamed "yucca/yuccalaw11.VainRounds"=some f) (hfn:Tryd.pinned.checked.prog.funcs[f]?=some fn):
 false=Tryd.pinned.checked.prog.looks []∧ ∀(j:Nat) t,fn.params[j]?=some t→Tryd.pinned.checked.prog.wantsStandIn t=false:=by
 obtain rfl:f=5:=Option.some.inj ((show Tryd.prog.funcNamed "yucca/yuccalaw11.VainRounds"=some 5 by kernel_rfl).symm.trans hf) |>.symm
 obtain rfl:fn=Tryd.f5:=(Option.some.inj (Tryd.func5.symm.trans hfn)).symm
 refine⟨by kernel_rfl,fun j t ht=>?_⟩
 rw[Tryd.params5]at ht
 have hm:=Array.mem_of_getElem? ht
 simp only[List.mem_toArray,List.mem_cons,List.not_mem_nil,or_false]at hm
 rcases hm with rfl|rfl|rfl<;>first|exact(show Tryd.prog.wantsStandIn 3=false by kernel_rfl)|exact(show Tryd.prog.wantsStandIn 4=false by kernel_rfl)
theorem cardUpto:Rows.VainRoundsUptoCardSaid:=
 Claim7.holds_tied_plain_at .later [] _ _ _ _ saidUpto (fun _ h=>by cases h) (by kernel_rfl) (fun _ h=>by cases h) vainRoundsUpto_row_tie rfl ⟨rfl,rfl⟩ (by kernel_rfl) rfl plain (by kernel_rfl)
end Go.Proofs.YtjdjdbkoplmjeaaDoor.lawVainRounds
