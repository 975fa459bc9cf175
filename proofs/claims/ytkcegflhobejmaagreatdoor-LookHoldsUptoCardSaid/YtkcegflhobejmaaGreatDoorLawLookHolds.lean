import Derived.Test.YtkcegflhobejmaaGreatDoorBSS
set_option linter.all false
set_option maxRecDepth 100000
namespace Go.Proofs.YtkcegflhobejmaaGreatDoor.lawLookHolds
open Go.E Go.ChangeShapes Go.WideShapes Go.ChangeAt Go.RowKit Go.Proofs.YtkcegflhobejmaaGreatDoor.law
theorem pures(ps:List (V×Nat))(hl:ps.length=2)(h:∀(i:Nat) p Q,ps[i]?=some p->([Img Source.V JQ qaJ,Img (λl:List Int=>.sl 1 false (l.map (V.int .i64))) szI (λl=>∀n∈l,(Lit.int .i64 n).wf=true)]:List (V->Nat->Prop))[i]?=some Q->Q p.1 p.2)(hs:(ps.map (·.2)).sum<=1048576):
 Pure Tryz.prog 9 (ps.map (·.1)) (.bool true):=by
 match ps,hl with
 | [p0,p1],_=>
   obtain ⟨a0,w0,e0,s0⟩:=h 0 _ _ rfl rfl;obtain ⟨a1,w1,e1,s1⟩:=h 1 _ _ rfl rfl;simp only[List.map_cons,List.map_nil,List.sum_cons,List.sum_nil]at hs ⊢;rw[e0,e1];simp only[qnE]at s1;exact Zn (qn3 o_) o_
theorem contract(H:Type)(enc:TypeId×Value->H)(W:World)(base:Nat)(args:Array Value)(ds gs:List (DataW H))(before:List MemPlace)
(hval:∀(j:Nat) t v,Tryz.f9.params[j]?=some t->args[j]?=some v->Value.okWide Tryz.prog W .any base t v)
(hW:DataW.Whole enc Tryz.prog Tryz.f9.params.toList Rows.lookHoldsSpec.vars false W args.toList ds gs before)(hk:Rows.uptoSmall H (ds++gs)=true)(hG:Go.E.GOk Tryz.prog W YM):
 Calls Tryz.prog 9 args W λe W'=>∃v,e=.returned v/\Rows.lookHoldsSpec.post enc Tryz.prog Tryz.f9 false true false false W args v W':=by
 have hgs:gs=[]:=by
  obtain ⟨p,q,_,hV,_⟩:=hW;cases gs with
  |nil=>rfl
  |cons g gs=>exact hV.elim
 have hk2:=small hk;rw[hgs,List.append_nil]at hk2;refine qcw (B:=B) (bound:=1048576) rfl (λH ds h=>?_) (by kernel_rfl) Tryz.underlying4 kids slices (by rw[Tryz.params9];decide+kernel) [Img Source.V JQ qaJ,Img (λl:List Int=>.sl 1 false (l.map (V.int .i64))) szI (λl=>∀n∈l,(Lit.int .i64 n).wf=true)] (by rw[Tryz.params9];rfl) ?_ (λps hl h hs=>pures ps hl h hs) H enc W base args ds gs before hval hW hk2 hG
 . rw[Tryz.params9]at h
   match ds,h with
   |[x0,x1],_=>rfl
 . rw[Tryz.params9];intro i t Q ht hq
   match i,ht,hq with
   |0,ht,hq=>cases ht;cases hq;exact(λN=>(qpX N).le o_)
   |1,ht,hq=>cases ht;cases hq;exact qye
theorem qlt(os:Os):laidMet Tryz.prog Rows.lookHoldsUptoRow.laid ((Vu os).forCall (λ_ _=>0) ⟨#[],#[.agg #[.string ⟨#[]⟩,.slice none 0 0,.slice none 0 0,.string ⟨#[]⟩],.slice none 0 0],[]⟩).memory:=
 laidMet_of_run' 8 (by kernel_rfl) (by kernel_rfl)
theorem reads(os:Os){H:Type}(enc:TypeId×Value->H):∃places,DataW.whole enc Tryz.prog ((Vu os).forCall (λ_ _=>0) ⟨#[],#[.agg #[.string ⟨#[]⟩,.slice none 0 0,.slice none 0 0,.string ⟨#[]⟩],.slice none 0 0],[]⟩).memory Tryz.f9.params.toList Rows.lookHoldsSpec.vars false #[.agg #[.string ⟨#[]⟩,.slice none 0 0,.slice none 0 0,.string ⟨#[]⟩],.slice none 0 0].toList 8=some ([.agg [.lit (.string []),.nil,.nil,.lit (.string [])],.nil],[],places):=
 ⟨[],by kernel_rfl⟩
theorem lifted(os:Os)(started:os.Started)(H:Type)(enc:TypeId×Value->H)(F:Stop.Interp):
 ReturnsInHanded {} Tryz.checked os 9 .any ((Rows.OpenSpec.upto Rows.lookHoldsSpec).preRow enc Tryz.prog Tryz.f9 Rows.lookHoldsUptoRow.domain false Rows.lookHoldsUptoRow.laid) (((Rows.OpenSpec.upto Rows.lookHoldsSpec).at F).post enc Tryz.prog Tryz.f9 false true false false):=by
 obtain ⟨places,hx⟩:=reads os enc;refine returnsInHanded_of_row (C:=Tryz.checked) (s:=Rows.OpenSpec.upto Rows.lookHoldsSpec) own started (by kernel_rfl) Tryz.func9
  (witness_row_at (enc:=enc) (C:=Tryz.checked) false (Vu os) #[.agg #[.string ⟨#[]⟩,.slice none 0 0,.slice none 0 0,.string ⟨#[]⟩],.slice none 0 0] rfl (by kernel_rfl) (by kernel_rfl) (by kernel_rfl)
   (OpenSpec.preRow_of_cond 8 hx (by kernel_rfl) (λk hk=>by cases hk;kernel_rfl) (by kernel_rfl) (qlt os))) ?_
 intro W base args ds gs before hval hW _ hcond _ hL _ _;exact contract H enc W base args ds gs before hval hW (hcond _ rfl) (qt7 hL)
theorem saidUpto:Rows.LookHoldsUptoSaid:=
 OpenClaim.holds_of_cond 9 Tryz.f9 rfl rfl rfl rfl rfl rfl rfl ⟨rfl,rfl,rfl,rfl,rfl⟩ rfl rfl rfl rfl rfl (by kernel_rfl) Tryz.func9 (by kernel_rfl)
  (of_decide_eq_true (by kernel_rfl)) (by unfold Func.isWrapper;first|(rw[if_pos (by decide+kernel)];kernel_rfl)|(rw[if_neg (by decide+kernel)];exact⟨rfl,rfl⟩))
  (λos started H enc _ F=>by rw[OpenClaim.pre_eq_preRow];exact lifted os started H enc F)
theorem plain(f:FuncId)(fn:Func)(hf:Tryz.pinned.checked.prog.funcNamed "yucca/yuccalaw17.LookHolds"=some f)(hfn:Tryz.pinned.checked.prog.funcs[f]?=some fn):
 false=Tryz.pinned.checked.prog.looks []/\∀(j:Nat) t,fn.params[j]?=some t->Tryz.pinned.checked.prog.wantsStandIn t=false:=by
 obtain rfl:f=9:=Option.some.inj ((show Tryz.prog.funcNamed "yucca/yuccalaw17.LookHolds"=some 9 by kernel_rfl).symm.trans hf) |>.symm;obtain rfl:fn=Tryz.f9:=(Option.some.inj (Tryz.func9.symm.trans hfn)).symm;refine⟨by kernel_rfl,λj t ht=>?_⟩;rw[Tryz.params9]at ht;have hm:=Array.mem_of_getElem? ht;simp only[List.mem_toArray,List.mem_cons,List.not_mem_nil,or_false]at hm;rcases hm with rfl|rfl<;>first|exact(show Tryz.prog.wantsStandIn 25=false by kernel_rfl)|exact(show Tryz.prog.wantsStandIn 27=false by kernel_rfl)
theorem cardUpto:Rows.LookHoldsUptoCardSaid:=
 Claim7.holds_tied_plain_at .later [] _ _ _ _ saidUpto (λ_ h=>by cases h) (by kernel_rfl) (λ_ h=>by cases h) lookHoldsUpto_row_tie rfl ⟨rfl,rfl⟩ (by kernel_rfl) rfl plain (by kernel_rfl)
end Go.Proofs.YtkcegflhobejmaaGreatDoor.lawLookHolds
