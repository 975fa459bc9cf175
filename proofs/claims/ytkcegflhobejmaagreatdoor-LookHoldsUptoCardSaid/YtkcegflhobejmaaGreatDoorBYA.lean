import Derived.Test.YtkcegflhobejmaaGreatDoorBTR
set_option maxRecDepth 20000
set_option linter.all false
set_option maxHeartbeats 4000000
namespace Go.Proofs
open Go.E
theorem Xy(token:Bool)(h:Nat->Bool)(l:List Int)(s:Int):zl token h (l++[s])=(zl token h l && (if s<1000 then token else h (s - 1000).toNat)):=by simp[zl]
def Zm(n:Nat)(E:Nat->Bool):List Int:=((List.range n).filter λk=> !E k).map λ(k:Nat)=>1000+(k:Int)
theorem qfV(n:Nat)(E:Nat->Bool):Zm (n+1) E=Zm n E++(if E n=true then[]else[1000+(n:Int)]):=by unfold Zm;rw[List.range_succ,List.filter_append,List.map_append];cases h:E n<;>simp[h]
theorem JW(n:Nat)(E:Nat->Bool):(Zm n E).length<=n:=by unfold Zm;rw[List.length_map];exact Nat.le_trans (List.length_filter_le _ _) (by rw[List.length_range];exact Nat.le_refl _)
variable {n k:Nat}
theorem qgF{E:Nat->Bool}(hk:k<n):(1000+(k:Int))∈Zm n E↔E k=false:=by
 unfold Zm;simp only[List.mem_map,List.mem_filter,List.mem_range];constructor
 . rintro ⟨q,⟨_,h1⟩,h2⟩
   have:q=k:=o_
   subst this;simpa using h1
 . intro h;exact⟨k,⟨hk,by rw[h];rfl⟩,rfl⟩
theorem qjl{E:Nat->Bool}{s:Int}(hs:s<1000):s ∉ Zm n E:=by unfold Zm;simp only[List.mem_map,List.mem_filter,List.mem_range];rintro ⟨q,_,h2⟩;omega
variable {g:Grammar} {p:GPr}
theorem qar(h:GOk g)(hp:p∈g.prods):∀s∈p.right,s<1000\/ ∃k:Nat,s=1000+(k:Int)/\k<g.nons.length:=λs hs=>by
 rcases h.right p hp s hs with ⟨t,e,l⟩|⟨k,e,l⟩
 . have:=h.tk2;exact Or.inl o_
 . exact Or.inr ⟨k,e,l⟩
theorem VP(hg:GOk g):∃E,IsGrow g true E/\Pure Tryz.prog 77 [g.V] (.sl 1 false ((Zm g.nons.length E).map (V.int .i64))):=by
 have hh:=qaY (G:=λv=>∃E,v=.sl 1 false ((Zm g.nons.length E).map (V.int .i64))/\IsGrow g true E) (args:=[g.V]) Tryz.func77 nm_ qwa (by show 1<=93;decide) ?_
 . obtain ⟨v,⟨E,rfl,h⟩,h2⟩:=hh;exact⟨E,h,h2⟩
 show ewp _ qtc _ _;have hnl:=hg.nn2;have hpl:=hg.pl2;have hb0:=qiH g.nons.length;repeat' with_reducible first|refine s_ ?_|simp -implicitDefEqProofs only[wZZ,seval]|refine t_ ?_|apply V5;exact wf_;exact wf_;(focus(unfold maxLen;first|omega|(simp only[wZ]<;>omega)))
 rw[hb0];refine qb ?nx1 (λ(q:(Nat->Bool)×Bool) s=>s.f 1=?v1_1/\s.f 3=?v1_3/\s.H 0=some (MObj.own 5 [g.V] false)/\s.f 4=.bool q.2/\((s.H 5=some (MObj.own 1 (QN g.nons.length q.1) false)))/\((∀F,xQ g true F->∀k,q.1 k=true->F k=true))/\((q.2=false->xQ g true q.1))) (λq=>2 *cf q.1 g.nons.length+(if q.2=true then 1 else 0)) ((λ_=>false,true)) wj_ (by refine⟨?_,?_,?_,?_,wc_,(by intro F _ k h;cases h),(by intro h;cases h)⟩<;>first|(simp -implicitDefEqProofs only[wL,wM,wN,wX,seval,Option.some.injEq]<;>exact wt_)|rfl|exact⟨_,rfl⟩) ?_;intro q s hnx ⟨g1,g3,o0,g4,k1_0,k1_1,k1_2⟩;obtain ⟨h,b⟩:=q;dsimp only at *;cases b with
 | true =>
   repeat' with_reducible first|refine s_ ?_|simp -implicitDefEqProofs only[wZZ,seval,g1,g3,g4,o0,k1_0]
   refine qb ?nx2 (λ(r:Nat×(Nat->Bool)×Bool) s=>s.f 1=?v2_1/\s.f 3=?v2_3/\s.H 0=some (MObj.own 5 [g.V] false)/\s.f 4=.bool r.2.2/\s.f 5=vi r.1/\(r.1<=g.prods.length)/\((s.H 5=some (MObj.own 1 (QN g.nons.length r.2.1) false)))/\((∀F,xQ g true F->∀k,r.2.1 k=true->F k=true))/\((r.2.2=false->r.2.1=h/\∀p∈g.prods.take r.1,zl true h p.right=true->h p.left.toNat=true))/\((r.2.2=true->cf r.2.1 g.nons.length<cf h g.nons.length))) (λr=>g.prods.length - r.1) ((0,h,false)) wj_ (by refine⟨?_,?_,?_,?_,?_,wo_,(by(simp only[wM];(repeat first|rw[if_pos trivial]|rw[if_pos rfl]|rw[if_neg o_]));exact k1_0),(by exact k1_1),(by exact λ_=>⟨rfl,λp hp=>by simp at hp⟩),(by intro h;cases h)⟩<;>first|(simp -implicitDefEqProofs only[wL,wM,wN,wX,seval,Option.some.injEq,g1,g3,g4,o0]<;>exact wt_)|rfl|exact⟨_,rfl⟩) ?_;intro r s hnx ⟨g1,g3,o0,g4,g5,k2_0,k2_1,k2_2,k2_3,k2_4⟩;obtain ⟨i,h',b'⟩:=r;dsimp only at *;have hz:=w1_ i;by_cases hi:i<g.prods.length
   . have hmem :=List.getElem_mem hi;obtain ⟨lf,hl1,hl2⟩:=hg.left _ hmem;have hrt:=qar hg hmem;have hrl:=hg.rlen _ hmem;have htk:g.prods.take (i+1)=g.prods.take i++[g.prods[i]]:=(by rw[List.take_add_one,ge_ hi];rfl);generalize hp:g.prods[i]=p at *;have hgp:g.prods[i]?=some p:=(by rw[ge_ hi,hp]);have hpm:p∈g.prods:=hp ▸ List.getElem_mem hi;clear hp;obtain ⟨pl,pr,pc,pco,pa,pat⟩:=p;dsimp only at hl1 hrt hrl;subst hl1;have hnew:(b'=false->h'=h/\∀p∈g.prods.take i,zl true h p.right=true->h p.left.toNat=true)->(zl true h' pr=true->h' lf=true)->(b'=false->h'=h/\∀p∈g.prods.take (i+1),zl true h p.right=true->h p.left.toNat=true):=λq1 q2 hb=>by
      obtain ⟨e1,e2⟩:=q1 hb;refine⟨e1,λp hp hf=>?_⟩;rw[htk]at hp;rcases List.mem_append.1 hp with hp|hp
      . exact e2 p hp hf
      . rw[List.mem_singleton]at hp;subst hp;subst e1;exact q2 hf
     repeat' with_reducible first|refine s_ ?_|simp -implicitDefEqProofs only[wZZ,seval,g1,g3,g4,g5,o0,k2_1,hz]|apply qa<;>intro h h_<;>(try simp only[wD,reduceCtorEq]at h_)<;>(try exact wb_)<;>(try simp only[h])|refine t_ ?_
     refine qb ?nx3 (λ(k:Nat) s=>s.f 1=?v3_1/\s.f 3=?v3_3/\s.f 4=?v3_4/\s.f 5=?v3_5/\s.H 0=some (MObj.own 5 [g.V] false)/\s.f 6=.bool (zl true h' (pr.take k))/\s.f 7=vi k/\(k<=pr.length)/\((s.H 5=some (MObj.own 1 (QN g.nons.length h') false)))) (λk=>pr.length - k) (0) wj_ (by refine⟨?_,?_,?_,?_,?_,?_,?_,wo_,(by(simp only[wM];(repeat first|rw[if_pos trivial]|rw[if_pos rfl]|rw[if_neg o_]));exact k2_1)⟩<;>first|(simp -implicitDefEqProofs only[wL,wM,wN,wX,seval,Option.some.injEq,g1,g3,g4,g5,o0]<;>exact wt_)|rfl|exact⟨_,rfl⟩) ?_;intro k s hnx ⟨g1,g3,g4,g5,o0,g6,g7,k3_0,k3_1⟩;have hzk:=w1_ k;by_cases hk:k<pr.length
     . have hgk:pr[k]?=some pr[k]:=ge_ hk;have hst:=Xy true h' (pr.take k) pr[k];rw[show pr.take k++[pr[k]]=pr.take (k+1) by rw[List.take_add_one,hgk];rfl]at hst;have hsr:=hrt _ (List.getElem_mem hk);generalize pr[k]=sy at *;generalize zl true h' (pr.take k)=q at *;rcases hsr with hs|⟨m,rfl,hm⟩
       . rw [if_pos hs,Bool.and_true]at hst;cases q with
         | false=>
           repeat' with_reducible first|refine s_ ?_|simp -implicitDefEqProofs only[wZZ,seval,g1,g3,g4,g5,g6,g7,o0,k3_1,hzk]|apply qa<;>intro h h_<;>(try simp only[wD,reduceCtorEq]at h_)<;>(try exact wb_)<;>(try simp only[h])|refine t_ ?_
           refine⟨wk_,k+1,o_,?_⟩;refine⟨?_,?_,?_,?_,?_,?_,?_,?_,?_⟩;iterate 7 (focus(first|(simp -implicitDefEqProofs only[wL,wM,wN,wX,seval,Option.some.injEq,g1,g3,g4,g5,g6,g7,o0,hst]<;>exact wt_)|rfl|exact⟨_,rfl⟩))
           all_goals try omega
           all_goals trivial
         | true=>
           repeat' with_reducible first|refine s_ ?_|simp -implicitDefEqProofs only[wZZ,seval,g1,g3,g4,g5,g6,g7,o0,k3_1,hzk]|(first|apply qa|apply qA|apply qB)<;>intro h h_<;>(try simp only[wD,reduceCtorEq]at h_)<;>(try exact wb_)<;>(try simp only[h])|refine t_ ?_
           refine⟨wk_,k+1,o_,?_⟩;refine⟨?_,?_,?_,?_,?_,?_,?_,?_,?_⟩;iterate 7 (focus(first|(simp -implicitDefEqProofs only[wL,wM,wN,wX,seval,Option.some.injEq,g1,g3,g4,g5,g6,g7,o0,hst]<;>exact wt_)|rfl|exact⟨_,rfl⟩))
           all_goals try omega
           all_goals trivial
       . have hzm:IntKind.i64.wrap (1000+(m:Int) - 1000)=(m:Int):=(by rw[wrap64 o_ o_];omega);rw[if_neg o_,show (1000+(m:Int) - 1000).toNat=m by omega]at hst;cases hb:h' m with
         | false=>
           rw[hb,Bool.and_false]at hst;cases q with
           | false=>
             repeat' with_reducible first|refine s_ ?_|simp -implicitDefEqProofs only[wZZ,seval,g1,g3,g4,g5,g6,g7,o0,k3_1,hzk,hzm,hb]|apply qa<;>intro h h_<;>(try simp only[wD,reduceCtorEq]at h_)<;>(try exact wb_)<;>(try simp only[h])|refine t_ ?_
             refine⟨wk_,k+1,o_,?_⟩;refine⟨?_,?_,?_,?_,?_,?_,?_,?_,?_⟩;iterate 7 (focus(first|(simp -implicitDefEqProofs only[wL,wM,wN,wX,seval,Option.some.injEq,g1,g3,g4,g5,g6,g7,o0,hst]<;>exact wt_)|rfl|exact⟨_,rfl⟩))
             all_goals try omega
             all_goals trivial
           | true=>
             repeat' with_reducible first|refine s_ ?_|simp -implicitDefEqProofs only[wZZ,seval,g1,g3,g4,g5,g6,g7,o0,k3_1,hzk,hzm,hb]|(first|apply qa|apply qA|apply qB)<;>intro h h_<;>(try simp only[wD,reduceCtorEq]at h_)<;>(try exact wb_)<;>(try simp only[h])|refine t_ ?_|(refine ldB hm ?_)
             refine⟨wk_,k+1,o_,?_⟩;refine⟨?_,?_,?_,?_,?_,?_,?_,?_,?_⟩;iterate 7 (focus(first|(simp -implicitDefEqProofs only[wL,wM,wN,wX,seval,Option.some.injEq,g1,g3,g4,g5,g6,g7,o0,hst]<;>exact wt_)|rfl|exact⟨_,rfl⟩))
             all_goals try omega
             all_goals trivial
           all_goals trivial
         | true=>
           rw[hb,Bool.and_true]at hst;cases q with
           | false=>
             repeat' with_reducible first|refine s_ ?_|simp -implicitDefEqProofs only[wZZ,seval,g1,g3,g4,g5,g6,g7,o0,k3_1,hzk,hzm,hb]|apply qa<;>intro h h_<;>(try simp only[wD,reduceCtorEq]at h_)<;>(try exact wb_)<;>(try simp only[h])|refine t_ ?_
             refine⟨wk_,k+1,o_,?_⟩;refine⟨?_,?_,?_,?_,?_,?_,?_,?_,?_⟩;iterate 7 (focus(first|(simp -implicitDefEqProofs only[wL,wM,wN,wX,seval,Option.some.injEq,g1,g3,g4,g5,g6,g7,o0,hst]<;>exact wt_)|rfl|exact⟨_,rfl⟩))
             all_goals try omega
             all_goals trivial
           | true=>
             repeat' with_reducible first|refine s_ ?_|simp -implicitDefEqProofs only[wZZ,seval,g1,g3,g4,g5,g6,g7,o0,k3_1,hzk,hzm,hb]|(first|apply qa|apply qA|apply qB)<;>intro h h_<;>(try simp only[wD,reduceCtorEq]at h_)<;>(try exact wb_)<;>(try simp only[h])|refine t_ ?_|(refine ldB hm ?_)
             refine⟨wk_,k+1,o_,?_⟩;refine⟨?_,?_,?_,?_,?_,?_,?_,?_,?_⟩;iterate 7 (focus(first|(simp -implicitDefEqProofs only[wL,wM,wN,wX,seval,Option.some.injEq,g1,g3,g4,g5,g6,g7,o0,hst]<;>exact wt_)|rfl|exact⟨_,rfl⟩))
             all_goals try omega
             all_goals trivial
     . rw [List.take_of_length_le o_]at g6;cases hfit:zl true h' pr with
       | false=>
         rw[hfit]at g6;have hlf:=hfit;repeat' with_reducible first|refine s_ ?_|simp -implicitDefEqProofs only[wZZ,seval,g1,g3,g4,g5,g6,g7,o0,k3_1,hz,hlf]|apply qa<;>intro h h_<;>(try simp only[wD,reduceCtorEq]at h_)<;>(try exact wb_)<;>(try simp only[h])|refine t_ ?_
         refine⟨wg_,(i+1,h',b'),d_,trivial,trivial,trivial,rfl,rfl,d_,rfl,k2_2,hnew k2_3 (λe=>by rw[hfit]at e;cases e),k2_4⟩
       | true =>
         rw[hfit]at g6;cases hlf:h' lf with
         | true=>
           repeat' with_reducible first|refine s_ ?_|simp -implicitDefEqProofs only[wZZ,seval,g1,g3,g4,g5,g6,g7,o0,k3_1,hz,hlf]|apply qa<;>intro h h_<;>(try simp only[wD,reduceCtorEq]at h_)<;>(try exact wb_)<;>(try simp only[h])|(refine ldB hl2 ?_)|refine t_ ?_
           refine⟨wg_,(i+1,h',b'),d_,trivial,trivial,trivial,rfl,rfl,d_,rfl,k2_2,hnew k2_3 (λ_=>hlf),k2_4⟩
         | false=>
           repeat' with_reducible first|refine s_ ?_|simp -implicitDefEqProofs only[wZZ,seval,g1,g3,g4,g5,g6,g7,o0,k3_1,hz,hlf]|apply qa<;>intro h h_<;>(try simp only[wD,reduceCtorEq]at h_)<;>(try exact wb_)<;>(try simp only[h])|(refine ldB hl2 ?_)|refine t_ ?_|(refine stB hl2 ?_)
           refine⟨wg_,(i+1,ze h' lf true,true),d_,trivial,trivial,trivial,rfl,rfl,d_,rfl,λF hF k hk=>?_,λe=>(by cases e),λ_=>?_⟩
           . dsimp only at hk;unfold ze at hk;split at hk
             . rename_i e;subst e;exact hF _ hpm (KZ (k2_2 F hF) hfit)
             . exact k2_2 F hF k hk
           . have:=(qjC (h:=h') (k:=lf) hlf g.nons.length).2 hl2
             show cf (ze h' lf true) g.nons.length<_;cases b' with
             |false=>have e:=(k2_3 rfl).1;subst e;omega
             |true=>have:=k2_4 rfl;omega
   . have e:i=g.prods.length:=o_;subst e;rw[List.take_length]at k2_3
     skip
     repeat' with_reducible first|refine s_ ?_|simp -implicitDefEqProofs only[wZZ,seval,g1,g3,g4,g5,o0,k2_1]|refine t_ ?_
     refine⟨wg_,(h',b'),?_,trivial,trivial,trivial,rfl,rfl,k2_2,λhb=>?_⟩
     . dsimp only;cases b' with
       |false=>have e:=(k2_3 rfl).1;subst e;simp
       |true=>have:=k2_4 rfl;simp;omega
     . obtain ⟨e1,e2⟩:=k2_3 hb;dsimp only;rw[e1];exact e2
 | false=>
   have hcl:=k1_2 rfl
   skip
   repeat' with_reducible first|refine s_ ?_|simp -implicitDefEqProofs only[wZZ,seval,g1,g3,g4,o0,k1_0]
   refine qb ?nx4 (λ(i:Nat) s=>s.f 3=?v4_3/\s.H 0=some (MObj.own 5 [g.V] false)/\(∃v,s.f 9=v/\Gr s.H s.next 1 ((Zm i h).map (V.int .i64)) v)/\s.f 10=vi i/\(i<=g.nons.length)/\((s.H 5=some (MObj.own 1 (QN g.nons.length h) false)))) (λi=>g.nons.length - i) (0) wj_ (by refine⟨?_,?_,?_,?_,wo_,(by(simp only[wM];(repeat first|rw[if_pos trivial]|rw[if_pos rfl]|rw[if_neg o_]));exact k1_0)⟩<;>first|(simp -implicitDefEqProofs only[wL,wM,wN,wX,seval,Option.some.injEq,g1,g3,g4,o0]<;>exact wt_)|rfl|exact⟨_,rfl⟩) ?_;intro i s hnx ⟨g3,o0,⟨v9,g9,G9⟩,g10,k4_0,k4_1⟩;have hz:=w1_ i;have hz2:IntKind.i64.wrap (1000+(i:Int))=1000+(i:Int):=wrap64 o_ o_;have hst:=qfV i h;have hvl:=JW i h;have hd:=Gr.dropO G9 o0;have hd5:=Gr.dropO G9 k4_1;by_cases hi:i<g.nons.length
   . cases hb:h i with
     | true=>
       rw[hb,if_pos rfl,List.append_nil]at hst;repeat' with_reducible first|refine s_ ?_|simp -implicitDefEqProofs only[wZZ,seval,g3,g9,g10,o0,Gr.dropO G9 o0,k4_1,hz,hz2,hb,G9.len]|apply qa<;>intro h h_<;>(try simp only[wD,reduceCtorEq]at h_)<;>(try exact wb_)<;>(try simp only[h])|(refine ldB hi ?_)|refine t_ ?_
       refine⟨wk_,i+1,o_,?_⟩;refine⟨?_,?_,?_,?_,?_,?_⟩;iterate 4 (focus(first|(simp -implicitDefEqProofs only[wL,wM,wN,wX,seval,Option.some.injEq,g3,g9,g10,o0,Gr.dropO G9 o0,hst]<;>first|rfl|exact⟨_,rfl⟩|exact⟨_,rfl,by first|assumption|exact Gr.nil|exact Gr.tok rfl o_|exact Gr.tok (by simp -implicitDefEqProofs only[wM,seval]<;>rfl) o_|exact Gr.clip|exact G9.to fs_ o_ rfl⟩)|rfl|exact⟨_,rfl⟩))
       all_goals try omega
       all_goals first|trivial|exact k4_1
     | false=>
       rw[hb,if_neg (by simp)]at hst;repeat' with_reducible first|refine s_ ?_|simp -implicitDefEqProofs only[wZZ,seval,g3,g9,g10,o0,Gr.dropO G9 o0,k4_1,hz,hz2,hb,hvl,G9.len]|apply qa<;>intro h h_<;>(try simp only[wD,reduceCtorEq]at h_)<;>(try exact wb_)<;>(try simp only[h])|(refine ldB hi ?_)|refine t_ ?_|apply zq (hg:=G9);(focus(first|rfl|(simp -implicitDefEqProofs only[wM];done)));(focus(first|exact qY.sl|exact qY.asl|exact qY.gr G9|exact qY.str));exact wf_;(focus(unfold maxLen;first|omega|(simp only[wZ]<;>omega)))
       refine⟨wk_,i+1,o_,?_⟩;refine⟨?_,?_,?_,?_,?_,?_⟩;iterate 4 (focus(first|(simp -implicitDefEqProofs only[wL,wM,wN,wX,seval,Option.some.injEq,g3,g9,g10,o0,Gr.dropO G9 o0,hst]<;>first|rfl|exact⟨_,rfl⟩|exact⟨_,rfl,by first|assumption|exact Gr.nil|exact Gr.tok rfl o_|exact Gr.tok (by simp -implicitDefEqProofs only[wM,seval]<;>rfl) o_|exact Gr.clip|exact G9.to fs_ o_ rfl⟩)|rfl|exact⟨_,rfl⟩))
       all_goals try omega
       all_goals first|trivial|(rw[hd5];exact k4_1)|exact k4_1
   . have e:i=g.nons.length:=o_;subst e;repeat' with_reducible first|refine s_ ?_|simp -implicitDefEqProofs only[wZZ,seval,g3,g9,g10,o0,Gr.dropO G9 o0,k4_1,G9.len]
     refine⟨_,⟨h,rfl,hcl,k1_1⟩,Or.inr rfl,v9,?_,Gr.er G9 rfl⟩
     show qcM _ [.inl 2]=_;simp[qcM,qb4,one,wL,g9]

def Qz(n:Nat)(l:Nat->Int):List V:=(List.range n).map λk=>vi (l k)
theorem yX(n:Nat)(l:Nat->Int):(Qz n l).length=n:=by simp[Qz]
variable {l:Nat->Int}
theorem Jk(hk:k<n):(Qz n l)[k]?=some (vi (l k)):=by simp[Qz,hk]
theorem qa2{a b:Nat->Int}(h:∀i,i<n->a i=b i):Qz n a=Qz n b:=by unfold Qz;refine List.map_congr_left λi hi=>?_;rw[h i (List.mem_range.1 hi)]
def qgr(l:Nat->Int)(k:Nat)(x:Int):Nat->Int:=λi=>if i=k then x else l i
theorem qkF{x:Int}:(Qz n l).set k (vi x)=Qz n (qgr l k x):=by
 refine List.ext_getElem? λi=>?_;rw[List.getElem?_set];by_cases hi:i<n
 . rw[Jk hi,yX,Jk hi];by_cases e:k=i
   . subst e;simp[hi,qgr]
   . simp[e,qgr,Ne.symm e]
 . rw[List.getElem?_eq_none (by rw[yX];omega),List.getElem?_eq_none (by rw[yX];omega)];rw[yX];simp;omega
theorem qrv(n:Nat):List.replicate n (V.int .i64 0)=Qz n (λ_=>0):=by
 refine List.ext_getElem? λi=>?_;by_cases h:i<n
 . rw[Jk h];simp[h]
 . rw[List.getElem?_eq_none so_,List.getElem?_eq_none (by rw[yX];omega)]
variable {ro:Bool}
theorem qx0{K:V->Prop}(h:k<n)(hk:K (vi (l k))):onS (ldQ (some (.own 1 (Qz n l) ro)) false 1 k 0) K:=by
 have e:ldQ (some (.own 1 (Qz n l) ro)) false 1 k 0=some (vi (l k)):=by simp[ldQ,Jk h,jD,V.isAgg]
 rw[e];exact hk
theorem qzK{K:St->Prop}{s:St}{id:Nat}{x:Int}(h:k<n)(hk:K (s.setO id (some (.own 1 (Qz n (qgr l k x)) false)))):onS (stQ s (some (.own 1 (Qz n l) false)) 1 id k 0 (.int .i64 x)) K:=by
 have e:stQ s (some (.own 1 (Qz n l) false)) 1 id k 0 (.int .i64 x)=some (s.setO id (some (.own 1 (Qz n (qgr l k x)) false))):=by rw[<- qkF];simp[stQ,Jk h,V.cells,V.okCell,je,V.isAgg]
 rw[e];exact hk
theorem qew(n:Nat)(l:Nat->Int):Cls' (Qz n l):=inferInstanceAs (Cls' (List.map _ _))
theorem qm7{H:Nat->Option MObj}{id:Nat}(hH:H id=some (.own 1 (Qz n l) ro)):Er true H (.msl id 1 0 n) (.sl 1 false (Qz n l)):=by have:=qew n l;exact xD hH (by rw[yX];omega) (by rw[List.drop_zero];exact List.take_of_length_le (by rw[yX];omega))
def Yc(l:Nat->Int):Nat->Bool:=λk=>decide (0<=l k)
theorem XI:Yc l k=true↔0<=l k:=by unfold Yc;rw[decide_eq_true_eq]
structure LowR(g:Grammar)(r:Nat)(l:Nat->Int):Prop where
 ok:∀k,k<g.nons.length->0<=l k->∃(m:Nat) (p:GPr),l k=(m:Int)/\g.prods[m]?=some p/\p.left=(k:Int)/\zl true (Yc l) p.right=true
 sound:∀F,xQ g true F->∀k,k<g.nons.length->0<=l k->F k=true
 far:xQ g true (Yc l)\/cf (Yc l) g.nons.length+r<=g.nons.length
structure LowN(g:Grammar)(l l':Nat->Int)(i:Nat):Prop where
 keep:∀k,k<g.nons.length->0<=l k->l' k=l k
 new:∀k,k<g.nons.length->l k<0->l' k=l k\/ ∃(m:Nat) (p:GPr),l' k=(m:Int)/\g.prods[m]?=some p/\p.left=(k:Int)/\zl true (Yc l) p.right=true
 all:∀p∈g.prods.take i,zl true (Yc l) p.right=true->l p.left.toNat<0->0<=l' p.left.toNat
theorem LowN.init(g:Grammar)(l:Nat->Int):LowN g l l 0:=⟨λ_ _ _=>rfl,λ_ _ _=>Or.inl rfl,λp hp=>by simp at hp⟩
variable {l':Nat->Int}
theorem LowN.skip{i:Nat}(h:LowN g l l' i)(hp:g.prods[i]?=some p)(hn: ¬ (l p.left.toNat<0/\zl true (Yc l) p.right=true)):LowN g l l' (i+1):=
 ⟨h.keep,h.new,λq hq h1 h2=>by
  rw[List.take_add_one,hp]at hq;rcases List.mem_append.1 hq with hq|hq
  . exact h.all q hq h1 h2
  . have e:q=p:=(by simpa using hq);subst e;exact absurd ⟨h2,h1⟩ hn⟩
theorem LowN.put{i:Nat}(h:LowN g l l' i)(hp:g.prods[i]?=some p)(hl:p.left=(k:Int))(h1:l k<0)(h2:zl true (Yc l) p.right=true):LowN g l (qgr l' k (i:Int)) (i+1):=by
 refine⟨λq hq h0=>?_,λq hq h0=>?_,λq hq q1 q2=>?_⟩
 . unfold qgr;split
   . rename_i e;subst e;omega
   . exact h.keep q hq h0
 . unfold qgr;split
   . rename_i e;subst e;exact Or.inr ⟨i,p,rfl,hp,hl,h2⟩
   . exact h.new q hq h0
 . unfold qgr;split
   . omega
   . rename_i e;rw[List.take_add_one,hp]at hq;rcases List.mem_append.1 hq with hq|hq
     . exact h.all q hq q1 q2
     . have e2:q=p:=(by simpa using hq);subst e2;rw[hl]at e;exact absurd rfl e
theorem qhE{h h':Nat->Bool}:∀{n:Nat},(∀k,k<n->h k=true->h' k=true)->cf h' n<=cf h n
 |0,_=>Nat.le_refl _
 | n+1,hh=>by have:=qhE (n:=n) λk hk=>hh k o_;have:=hh n o_;unfold cf;cases h1:h n<;>cases h2:h' n<;>simp_all<;>omega
theorem qu9{h h':Nat->Bool}:∀{n:Nat},(∀k,k<n->h k=true->h' k=true)->(∃k,k<n/\h k=false/\h' k=true)->cf h' n<cf h n
 |0,_,⟨k,hk,_⟩=>o_
 | n +1,hh,⟨k,hk,h1,h2⟩=>by
   have m:=qhE (n:=n) λk hk=>hh k o_;unfold cf;by_cases e:k=n
   . subst e;rw[h1,h2];simp;omega
   . have:=qu9 (n:=n) (λk hk=>hh k o_) ⟨k,o_,h1,h2⟩;have:=hh n o_;cases h3:h n<;>cases h4:h' n<;>simp_all<;>omega
theorem qzV{h:Nat->Bool}:∀{n:Nat},cf h n=0->∀k,k<n->h k=true
 |0,_,k,hk=>o_
 | n +1,h0,k,hk=>by
   unfold cf at h0;by_cases e:k=n
   . subst e;cases h1:h k
     . rw[h1]at h0;simp at h0
     . rfl
   . exact qzV (n:=n) o_ k o_
theorem qs8(h:Nat->Bool):∀n:Nat,cf h n<=n
 |0=>Nat.le_refl _
 |n+1=>by have:=qs8 h n;unfold cf;split<;>omega
theorem Jw{h F:Nat->Bool}{l:List Int}(hr:∀s∈l,s<1000\/ ∃k:Nat,s=1000+(k:Int)/\k<n)(hh:∀k,k<n->h k=true->F k=true)(hl:zl true h l=true):zl true F l=true:=by
 unfold zl at *;rw[List.all_eq_true]at *;intro s hs;have:=hl s hs;rcases hr s hs with h1|⟨k,rfl,hk⟩
 . rw[if_pos h1]
 . rw[if_neg o_]at this ⊢;rw[show (1000+(k:Int) - 1000).toNat=k by omega]at this ⊢;exact hh k hk this
theorem LowR.next{r:Nat}(hg:GOk g)(h:LowR g r l)(hn:LowN g l l' g.prods.length):LowR g (r+1) l':=by
 have up:∀k,k<g.nons.length->Yc l k=true->Yc l' k=true:=λk hk h1=>by rw[XI]at h1 ⊢;rw[hn.keep k hk h1];exact h1
 have al:=hn.all;rw[List.take_length]at al;refine⟨λk hk h0=>?_,λF hF k hk h0=>?_,?_⟩
 . by_cases hl:0<=l k
   . obtain ⟨m,p,h1,h2,h3,h4⟩:=h.ok k hk hl;exact⟨m,p,(hn.keep k hk hl).trans h1,h2,h3,Jw (qar hg (List.mem_of_getElem? h2)) up h4⟩
   . rcases hn.new k hk o_ with e|⟨m,p,h1,h2,h3,h4⟩
     . omega
     . exact⟨m,p,h1,h2,h3,Jw (qar hg (List.mem_of_getElem? h2)) up h4⟩
 . by_cases hl:0<=l k
   . exact h.sound F hF k hk hl
   . rcases hn.new k hk o_ with e|⟨m,p,h1,h2,h3,h4⟩
     . omega
     . have:=hF p (List.mem_of_getElem? h2) (Jw (qar hg (List.mem_of_getElem? h2)) (λq hq h5=>h.sound F hF q hq (XI.1 h5)) h4);rwa [h3,Int.toNat_natCast]at this
 . by_cases hx:∃k,k<g.nons.length/\Yc l k=false/\Yc l' k=true
   . rcases h.far with hc|hc
     . obtain ⟨k,hk,h1,h2⟩:=hx;have hl: ¬ 0<=l k:=λe=>by rw[XI.2 e]at h1;cases h1
       rcases hn.new k hk o_ with e|⟨m,p,_,h3,h4,h5⟩
       . rw[XI]at h2;omega
       . have:=hc p (List.mem_of_getElem? h3) h5;rw[h4,Int.toNat_natCast,h1]at this;cases this
     . have:=qu9 up hx;exact Or.inr o_
   . left;have dn:∀k,k<g.nons.length->Yc l' k=true->Yc l k=true:=λk hk h1=>by
      cases h2:Yc l k
      . exact absurd ⟨k,hk,h2,h1⟩ hx
      . rfl
     intro p hp hf;have hf2:=Jw (qar hg hp) dn hf;obtain ⟨lf,e,hlf⟩:=hg.left p hp;have a:=al p hp hf2;rw[e,Int.toNat_natCast]at a ⊢;by_cases h0:l lf<0
     . exact XI.2 (a h0)
     . exact up lf hlf (XI.2 o_)
theorem LowR.init(g:Grammar):LowR g 0 (λ_=> -1):=
 ⟨λk _ h=>o_,λF _ k _ h=>o_,Or.inr (by have:=qs8 (Yc λ_=> -1) g.nons.length;omega)⟩
structure IsLow(g:Grammar)(l:Nat->Int):Prop where
 ok:∀k,k<g.nons.length->0<=l k->∃(m:Nat) (p:GPr),l k=(m:Int)/\g.prods[m]?=some p/\p.left=(k:Int)/\zl true (Yc l) p.right=true
 sound:∀F,xQ g true F->∀k,k<g.nons.length->0<=l k->F k=true
 closed:xQ g true (Yc l)
theorem LowR.done(hg:GOk g)(h:LowR g g.nons.length l):IsLow g l:=by
 refine⟨h.ok,h.sound,?_⟩;rcases h.far with hc|hc
 . exact hc
 . intro p hp _;obtain ⟨lf,e,hlf⟩:=hg.left p hp;rw[e,Int.toNat_natCast];exact qzV o_ lf hlf
theorem IsLow.get{E:Nat->Bool}(hl:IsLow g l)(hE:IsGrow g true E)(hg:GOk g)(hk:k<g.nons.length)(h:E k=true):∃(m:Nat) (p:GPr),l k=(m:Int)/\g.prods[m]?=some p/\p.left=(k:Int)/\zl true E p.right=true:=by have h1:=hE.least _ hl.closed k h;obtain ⟨m,p,e1,e2,e3,e4⟩:=hl.ok k hk (XI.1 h1);exact⟨m,p,e1,e2,e3,Jw (qar hg (List.mem_of_getElem? e2)) (λq hq h5=>hl.sound E hE.closed q hq (XI.1 h5)) e4⟩

theorem qho{cls:Cls}{id:Nat}{s:St}{K:V->St->Prop}{z bytes ti yi m:Nat}{es ys:List V}(hcl:(cls == .t)=false)(hH:s.H ti=some (.own z es false))(hn:n=es.length)(hY:s.H yi=some (.own z ys ro))(hm:m=ys.length)
(hb:(es.length+ys.length) *bytes<=140737488355328)(hl:es.length+ys.length<=maxLen)
(hk:K (.msl id z 0 (es.length+ys.length)) ((s.setO ti none).setO id (some (.own z (es++ys) false)))):VK cls id s K true z bytes (.msl ti z 0 n) (.msl yi z 0 m):=by
 subst hn hm;have hs:qb1 s z (.msl yi z 0 ys.length)=some ys:=by simp[qb1,hY]
 unfold VK;rw[hs];refine⟨λe=>(by subst e;cases hcl),?_⟩;have e:qO id s true z (.msl ti z 0 es.length) ys=some (.msl id z 0 (es.length+ys.length),(s.setO ti none).setO id (some (.own z (es++ys) false)),es.length+ys.length):=by simp[qO,hH]
 rw[e];exact⟨hb,hl,hk⟩
theorem qfS(hg:GOk g):∃l,IsLow g l/\Pure Tryz.prog 76 [g.V] (.sl 1 false (Qz g.nons.length l)):=by
 have hh:=qaY (G:=λv=>∃l,v=.sl 1 false (Qz g.nons.length l)/\IsLow g l) (args:=[g.V]) Tryz.func76 nm_ qwu (by show 1<=95;decide) ?_
 . obtain ⟨v,⟨l,rfl,h⟩,h2⟩:=hh;exact⟨l,h,h2⟩
 show ewp _ quX _ _;have hnl:=hg.nn2;have hpl:=hg.pl2;have hb0:List.replicate g.nons.length (V.int .i64 0)=Qz g.nons.length (λk=>if k<0 then -1 else 0):=(qrv _).trans (qa2 λk _=>by rw[if_neg o_]);repeat' with_reducible first|refine s_ ?_|simp -implicitDefEqProofs only[wZZ,seval]|refine t_ ?_|apply V5;exact wf_;exact wf_;(focus(unfold maxLen;first|omega|(simp only[wZ]<;>omega)))
 rw[hb0];refine qb ?nx1 (λ(i:Nat) s=>s.f 1=?v1_1/\s.f 3=?v1_3/\s.H 0=some (MObj.own 5 [g.V] false)/\s.f 4=vi i/\(i<=g.nons.length)/\((s.H 5=some (MObj.own 1 (Qz g.nons.length (λk=>if k<i then -1 else 0)) false)))) (λi=>g.nons.length - i) (0) wj_ (by refine⟨?_,?_,?_,?_,wo_,wc_⟩<;>first|(simp -implicitDefEqProofs only[wL,wM,wN,wX,seval,Option.some.injEq]<;>exact wt_)|rfl|exact⟨_,rfl⟩) ?_;intro i s hnx ⟨g1,g3,o0,g4,k1_0,k1_1⟩;have hz:=w1_ i;by_cases hi:i<g.nons.length
 . have hst:Qz g.nons.length (qgr (λk=>if k<i then -1 else 0) i (-1))=Qz g.nons.length (λk=>if k<i+1 then -1 else 0):=qa2 λk _=>by
    unfold qgr;by_cases e:k=i
    . subst e;rw[if_pos rfl,if_pos o_]
    . rw[if_neg e];dsimp only;by_cases h:k<i
      . rw[if_pos h,if_pos o_]
      . rw[if_neg h,if_neg o_]
   repeat' with_reducible first|refine s_ ?_|simp -implicitDefEqProofs only[wZZ,seval,g1,g3,g4,o0,k1_1,hz]|apply qa<;>intro h h_<;>(try simp only[wD,reduceCtorEq]at h_)<;>(try exact wb_)<;>(try simp only[h])|apply qZ;omega;omega|(refine qzK hi ?_)
   rw[hst];refine⟨wk_,i+1,o_,?_⟩;refine⟨?_,?_,?_,?_,?_,?_⟩;iterate 4 (focus(first|(simp -implicitDefEqProofs only[wL,wM,wN,wX,seval,Option.some.injEq,g1,g3,g4,o0]<;>exact wt_)|rfl|exact⟨_,rfl⟩))
   all_goals try omega
   all_goals first|trivial|rfl
 . have hmn : Qz g.nons.length (λk=>if k<i then(-1:Int)else 0)=Qz g.nons.length (λ_=> -1):=qa2 λk hk=>by rw[if_pos o_]
   rw[hmn]at k1_1;repeat' with_reducible first|refine s_ ?_|simp -implicitDefEqProofs only[wZZ,seval,g1,g3,g4,o0,k1_1]|apply qa<;>intro h h_<;>(try simp only[wD,reduceCtorEq]at h_)<;>(try exact wb_)<;>(try simp only[h])
   refine qb ?nx2 (λ(q:Nat×Nat×(Nat->Int)) s=>s.f 1=?v2_1/\s.H 0=some (MObj.own 5 [g.V] false)/\s.f 3=.msl q.2.1 1 0 g.nons.length/\s.f 5=vi q.1/\(q.1<=g.nons.length)/\(LowR g q.1 q.2.2)/\((s.H q.2.1=some (MObj.own 1 (Qz g.nons.length q.2.2) false)))/\(1<=q.2.1)/\(q.2.1<s.next)) (λq=>g.nons.length - q.1) ((0,5,λ_=> -1)) wj_ (by refine⟨?_,?_,?_,?_,wo_,(by exact LowR.init g),(by(simp only[wM];(repeat first|rw[if_pos trivial]|rw[if_pos rfl]|rw[if_neg o_]));exact k1_1),wo_,wg_⟩<;>first|(simp -implicitDefEqProofs only[wL,wM,wN,wX,seval,Option.some.injEq,g1,g3,g4,o0]<;>exact wt_)|rfl|exact⟨_,rfl⟩) ?_;intro q s hnx ⟨g1,o0,g3,g5,k2_0,k2_1,k2_2,k2_3,k2_4⟩;obtain ⟨r,li,l⟩:=q;dsimp only at *;have hzr:=w1_ r;by_cases hr:r<g.nons.length
   . have hil : (Qz g.nons.length l).length=g.nons.length:=yX _ _;repeat' with_reducible first|refine s_ ?_|simp -implicitDefEqProofs only[wZZ,seval,g1,g3,g5,o0,k2_2]|apply qa<;>intro h h_<;>(try simp only[wD,reduceCtorEq]at h_)<;>(try exact wb_)<;>(try simp only[h])
     refine qho (es:=[]) (ys:=Qz g.nons.length l) (ro:=false) rfl hh_ rfl (by((try simp only[wM]);(repeat first|rw[if_pos trivial]|rw[if_pos rfl]|rw[if_neg o_]));exact k2_2) hil.symm (by rw[hil];simp;omega) (by rw[hil];unfold maxLen;simp;omega) ?_;rw[hil];simp only[List.nil_append,List.length_nil,Nat.zero_add];obtain ⟨ni,hni⟩:∃ni,ni=s.next+4+2:=⟨_,rfl⟩;rw[<- hni];repeat' with_reducible first|refine s_ ?_|simp -implicitDefEqProofs only[wZZ,seval,g1,g3,g5,o0]
     refine qb ?nx3 (λ(p:Nat×(Nat->Int)) s=>s.f 1=?v3_1/\s.f 3=?v3_3/\s.f 5=?v3_5/\s.f 6=?v3_6/\s.f 7=vi p.1/\(p.1<=g.prods.length)/\(LowN g l p.2 p.1)/\((s.H ni=some (MObj.own 1 (Qz g.nons.length p.2) false)))/\((s.H li=some (MObj.own 1 (Qz g.nons.length l) false)))/\((s.H 0=some (MObj.own 5 [g.V] false)))) (λp=>g.prods.length - p.1) ((0,l)) wj_ (by refine⟨?_,?_,?_,?_,?_,wo_,(by exact LowN.init g l),wc_,(by(simp only[wM];(repeat first|rw[if_pos trivial]|rw[if_pos rfl]|rw[if_neg o_]));exact k2_2),(by(simp only[wM];(repeat first|rw[if_pos trivial]|rw[if_pos rfl]|rw[if_neg o_]));exact o0)⟩<;>first|(simp -implicitDefEqProofs only[wL,wM,wN,wX,seval,Option.some.injEq,g1,g3,g5,o0]<;>exact wt_)|rfl|exact⟨_,rfl⟩) ?_;intro p s hnx ⟨g1,g3,g5,g6,g7,k3_0,k3_1,k3_2,k3_3,k3_4⟩;obtain ⟨i,l'⟩:=p;dsimp only at *;have hz:=w1_ i;by_cases hi:i<g.prods.length
     . have hmem:=List.getElem_mem hi;obtain ⟨lf,hl1,hl2⟩:=hg.left _ hmem;have hrt:=qar hg hmem;have hrl:=hg.rlen _ hmem;generalize hp:g.prods[i]=p at *;have hgp:g.prods[i]?=some p:=(by rw[ge_ hi,hp]);clear hp;obtain ⟨pl,pr,pc,pco,pa,pat⟩:=p;dsimp only at hl1 hrt hrl;subst hl1;repeat' with_reducible first|refine s_ ?_|simp -implicitDefEqProofs only[wZZ,seval,g1,g3,g5,g6,g7,k3_2,k3_3,k3_4,hz]|apply qa<;>intro h h_<;>(try simp only[wD,reduceCtorEq]at h_)<;>(try exact wb_)<;>(try simp only[h])|apply qZ;omega;omega|(refine qx0 hl2 ?_)|refine t_ ?_
       refine qb ?nx4 (λ(k:Nat) s=>s.f 1=?v4_1/\s.f 3=?v4_3/\s.f 5=?v4_5/\s.f 6=?v4_6/\s.f 7=?v4_7/\s.f 9=vi k/\(k<=pr.length)/\((s.H ni=some (MObj.own 1 (Qz g.nons.length l') false)))/\((s.H li=some (MObj.own 1 (Qz g.nons.length l) false)))/\((s.H 0=some (MObj.own 5 [g.V] false)))/\(s.f 8=.bool (decide (l lf<0) && zl true (Yc l) (pr.take k)))) (λk=>pr.length - k) (0) wj_ (by refine⟨?_,?_,?_,?_,?_,?_,wo_,(by(simp only[wM];(repeat first|rw[if_pos trivial]|rw[if_pos rfl]|rw[if_neg o_]));exact k3_2),(by(simp only[wM];(repeat first|rw[if_pos trivial]|rw[if_pos rfl]|rw[if_neg o_]));exact k3_3),(by(simp only[wM];(repeat first|rw[if_pos trivial]|rw[if_pos rfl]|rw[if_neg o_]));exact k3_4),(by(try simp -implicitDefEqProofs only[wL,wM,wN,seval,g1,g3,g5,g6,g7]);simp[zl])⟩<;>first|(simp -implicitDefEqProofs only[wL,wM,wN,wX,seval,Option.some.injEq,g1,g3,g5,g6,g7]<;>exact wt_)|rfl|exact⟨_,rfl⟩) ?_;intro k s hnx ⟨g1,g3,g5,g6,g7,g9,k4_0,k4_1,k4_2,k4_3,g8⟩;have hzk:=w1_ k;by_cases hk:k<pr.length
       . have hgk:pr[k]?=some pr[k]:=ge_ hk;have hst:=Xy true (Yc l) (pr.take k) pr[k];rw[show pr.take k++[pr[k]]=pr.take (k+1) by rw[List.take_add_one,hgk];rfl]at hst;have hst:=congrArg (λb=>decide (l lf<0) && b) hst;rw[<- Bool.and_assoc]at hst;have hsr:=hrt _ (List.getElem_mem hk);generalize pr[k]=sy at *;generalize (decide (l lf<0) && zl true (Yc l) (pr.take k))=q at *;rcases hsr with hs|⟨m,rfl,hm⟩
         . rw [if_pos hs,Bool.and_true]at hst;cases q with
           | false=>
             repeat' with_reducible first|refine s_ ?_|simp -implicitDefEqProofs only[wZZ,seval,g1,g3,g5,g6,g7,g9,g8,k4_1,k4_2,k4_3,hzk]|apply qa<;>intro h h_<;>(try simp only[wD,reduceCtorEq]at h_)<;>(try exact wb_)<;>(try simp only[h])|refine t_ ?_
             refine⟨wk_,k+1,o_,?_⟩;refine⟨?_,?_,?_,?_,?_,?_,?_,?_,?_,?_,?_⟩;iterate 6 (focus(first|(simp -implicitDefEqProofs only[wL,wM,wN,wX,seval,Option.some.injEq,g1,g3,g5,g6,g7,g9,g8,hst,k4_1,k4_2,k4_3]<;>exact wt_)|rfl|exact⟨_,rfl⟩))
             all_goals try omega
             all_goals try simp -implicitDefEqProofs only[wL,wM,wN,wX,seval,g1,g3,g5,g6,g7,g9,g8,hst,k4_1,k4_2,k4_3]
             all_goals first|trivial|rfl
           | true=>
             repeat' with_reducible first|refine s_ ?_|simp -implicitDefEqProofs only[wZZ,seval,g1,g3,g5,g6,g7,g9,g8,k4_1,k4_2,k4_3,hzk]|(first|apply qa|apply qA|apply qB)<;>intro h h_<;>(try simp only[wD,reduceCtorEq]at h_)<;>(try exact wb_)<;>(try simp only[h])|refine t_ ?_
             refine⟨wk_,k+1,o_,?_⟩;refine⟨?_,?_,?_,?_,?_,?_,?_,?_,?_,?_,?_⟩;iterate 6 (focus(first|(simp -implicitDefEqProofs only[wL,wM,wN,wX,seval,Option.some.injEq,g1,g3,g5,g6,g7,g9,g8,hst,k4_1,k4_2,k4_3]<;>exact wt_)|rfl|exact⟨_,rfl⟩))
             all_goals try omega
             all_goals try simp -implicitDefEqProofs only[wL,wM,wN,wX,seval,g1,g3,g5,g6,g7,g9,g8,hst,k4_1,k4_2,k4_3]
             all_goals first|trivial|rfl
         . have hzm:IntKind.i64.wrap (1000+(m:Int) - 1000)=(m:Int):=(by rw[wrap64 o_ o_];omega);rw[if_neg o_,show (1000+(m:Int) - 1000).toNat=m by omega]at hst;cases hb:Yc l m with
           | false=>
             rw[hb,Bool.and_false]at hst;have hb2:decide (0<=l m)=false:=hb;cases q with
             | false=>
               repeat' with_reducible first|refine s_ ?_|simp -implicitDefEqProofs only[wZZ,seval,g1,g3,g5,g6,g7,g9,g8,k4_1,k4_2,k4_3,hzk,hzm,hb2]|apply qa<;>intro h h_<;>(try simp only[wD,reduceCtorEq]at h_)<;>(try exact wb_)<;>(try simp only[h])|refine t_ ?_
               refine⟨wk_,k+1,o_,?_⟩;refine⟨?_,?_,?_,?_,?_,?_,?_,?_,?_,?_,?_⟩;iterate 6 (focus(first|(simp -implicitDefEqProofs only[wL,wM,wN,wX,seval,Option.some.injEq,g1,g3,g5,g6,g7,g9,g8,hst,k4_1,k4_2,k4_3]<;>exact wt_)|rfl|exact⟨_,rfl⟩))
               all_goals try omega
               all_goals try simp -implicitDefEqProofs only[wL,wM,wN,wX,seval,g1,g3,g5,g6,g7,g9,g8,hst,k4_1,k4_2,k4_3]
               all_goals first|trivial|rfl
             | true=>
               repeat' with_reducible first|refine s_ ?_|simp -implicitDefEqProofs only[wZZ,seval,g1,g3,g5,g6,g7,g9,g8,k4_1,k4_2,k4_3,hzk,hzm,hb2]|(first|apply qa|apply qA|apply qB)<;>intro h h_<;>(try simp only[wD,reduceCtorEq]at h_)<;>(try exact wb_)<;>(try simp only[h])|refine t_ ?_|apply qZ;omega;omega|(refine qx0 hm ?_)
               refine⟨wk_,k+1,o_,?_⟩;refine⟨?_,?_,?_,?_,?_,?_,?_,?_,?_,?_,?_⟩;iterate 6 (focus(first|(simp -implicitDefEqProofs only[wL,wM,wN,wX,seval,Option.some.injEq,g1,g3,g5,g6,g7,g9,g8,hst,k4_1,k4_2,k4_3]<;>exact wt_)|rfl|exact⟨_,rfl⟩))
               all_goals try omega
               all_goals try simp -implicitDefEqProofs only[wL,wM,wN,wX,seval,g1,g3,g5,g6,g7,g9,g8,hst,k4_1,k4_2,k4_3]
               all_goals first|trivial|rfl
           | true=>
             rw[hb,Bool.and_true]at hst;have hb2:decide (0<=l m)=true:=hb;cases q with
             | false=>
               repeat' with_reducible first|refine s_ ?_|simp -implicitDefEqProofs only[wZZ,seval,g1,g3,g5,g6,g7,g9,g8,k4_1,k4_2,k4_3,hzk,hzm,hb2]|apply qa<;>intro h h_<;>(try simp only[wD,reduceCtorEq]at h_)<;>(try exact wb_)<;>(try simp only[h])|refine t_ ?_
               refine⟨wk_,k+1,o_,?_⟩;refine⟨?_,?_,?_,?_,?_,?_,?_,?_,?_,?_,?_⟩;iterate 6 (focus(first|(simp -implicitDefEqProofs only[wL,wM,wN,wX,seval,Option.some.injEq,g1,g3,g5,g6,g7,g9,g8,hst,k4_1,k4_2,k4_3]<;>exact wt_)|rfl|exact⟨_,rfl⟩))
               all_goals try omega
               all_goals try simp -implicitDefEqProofs only[wL,wM,wN,wX,seval,g1,g3,g5,g6,g7,g9,g8,hst,k4_1,k4_2,k4_3]
               all_goals first|trivial|rfl
             | true=>
               repeat' with_reducible first|refine s_ ?_|simp -implicitDefEqProofs only[wZZ,seval,g1,g3,g5,g6,g7,g9,g8,k4_1,k4_2,k4_3,hzk,hzm,hb2]|(first|apply qa|apply qA|apply qB)<;>intro h h_<;>(try simp only[wD,reduceCtorEq]at h_)<;>(try exact wb_)<;>(try simp only[h])|refine t_ ?_|apply qZ;omega;omega|(refine qx0 hm ?_)
               refine⟨wk_,k+1,o_,?_⟩;refine⟨?_,?_,?_,?_,?_,?_,?_,?_,?_,?_,?_⟩;iterate 6 (focus(first|(simp -implicitDefEqProofs only[wL,wM,wN,wX,seval,Option.some.injEq,g1,g3,g5,g6,g7,g9,g8,hst,k4_1,k4_2,k4_3]<;>exact wt_)|rfl|exact⟨_,rfl⟩))
               all_goals try omega
               all_goals try simp -implicitDefEqProofs only[wL,wM,wN,wX,seval,g1,g3,g5,g6,g7,g9,g8,hst,k4_1,k4_2,k4_3]
               all_goals first|trivial|rfl
       . rw [List.take_of_length_le o_]at g8;cases hfit:(decide (l lf<0) && zl true (Yc l) pr)with
         | false=>
           rw[hfit]at g8;have hn:=k3_1.skip hgp (λ⟨e1,e2⟩=>by rw[show l (lf:Int).toNat=l lf from rfl]at e1;rw[decide_eq_true e1,e2]at hfit;cases hfit);repeat' with_reducible first|refine s_ ?_|simp -implicitDefEqProofs only[wZZ,seval,g1,g3,g5,g6,g7,g9,g8,k4_1,k4_2,k4_3,hz]|apply qa<;>intro h h_<;>(try simp only[wD,reduceCtorEq]at h_)<;>(try exact wb_)<;>(try simp only[h])|refine t_ ?_
           refine⟨wk_,(i+1,l'),o_,?_⟩;refine⟨?_,?_,?_,?_,?_,?_,?_,?_,?_,?_⟩;iterate 5 (focus(first|(simp -implicitDefEqProofs only[wL,wM,wN,wX,seval,Option.some.injEq,g1,g3,g5,g6,g7,g9,g8,k4_1,k4_2,k4_3]<;>exact wt_)|rfl|exact⟨_,rfl⟩))
           all_goals try omega
           all_goals first|trivial|rfl|exact hn|exact k4_1|exact k4_2|exact k4_3
         | true=>
           rw[hfit]at g8;rw[Bool.and_eq_true,decide_eq_true_eq]at hfit;have hn:=k3_1.put hgp rfl hfit.1 hfit.2;repeat' with_reducible first|refine s_ ?_|simp -implicitDefEqProofs only[wZZ,seval,g1,g3,g5,g6,g7,g9,g8,k4_1,k4_2,k4_3,hz]|apply qa<;>intro h h_<;>(try simp only[wD,reduceCtorEq]at h_)<;>(try exact wb_)<;>(try simp only[h])|apply qZ;omega;omega|refine t_ ?_|(refine qzK hl2 ?_)|simp -implicitDefEqProofs (disch:=omega) only[w64,if_neg]
           refine⟨wk_,(i+1,qgr l' lf (i:Int)),o_,?_⟩;refine⟨?_,?_,?_,?_,?_,?_,?_,?_,?_,?_⟩;iterate 5 (focus(first|(simp -implicitDefEqProofs only[wL,wM,wN,wX,seval,Option.some.injEq,g1,g3,g5,g6,g7,g9,g8,k4_1,k4_2,k4_3]<;>exact wt_)|rfl|exact⟨_,rfl⟩))
           all_goals try omega
           all_goals first|trivial|rfl|exact hn|((simp only[wM];(repeat first|rw[if_pos trivial]|rw[if_pos rfl]|rw[if_neg o_]));first|exact k4_1|exact k4_2|exact k4_3|rfl)
     . have e:i=g.prods.length:=o_;subst e;have hnx2:=k2_1.next hg k3_1
       skip
       repeat' with_reducible first|refine s_ ?_|simp -implicitDefEqProofs only[wZZ,seval,g1,g3,g5,g6,g7,k3_2,k3_3,k3_4]|refine t_ ?_|simp -implicitDefEqProofs (disch:=omega) only[w64,if_neg]
       refine⟨wk_,(r+1,ni,l'),o_,?_⟩;refine⟨?_,?_,?_,?_,?_,?_,?_,?_,?_⟩;iterate 4 (focus(first|(simp -implicitDefEqProofs only[wL,wM,wN,wX,seval,Option.some.injEq,g1,g3,g5,g6,g7,k3_2,k3_3,k3_4]<;>exact wt_)|rfl|exact⟨_,rfl⟩))
       all_goals try omega
       all_goals first|trivial|rfl|exact hnx2|exact k3_2|exact k3_4|(((try simp only[wN])<;>omega))|((simp only[wM];(repeat first|rw[if_pos trivial]|rw[if_pos rfl]|rw[if_neg o_]));first|exact k3_2|exact k3_4)
   . have e:r=g.nons.length:=o_;subst e
     skip
     repeat' with_reducible first|refine s_ ?_|simp -implicitDefEqProofs only[wZZ,seval,g1,g3,g5,o0,k2_2]
     refine⟨_,⟨l,rfl,k2_1.done hg⟩,Or.inr rfl,.msl li 1 0 g.nons.length,?_,qm7 (ro:=false) ?_⟩
     . show qcM _ [.inl 2]=_;simp[qcM,qb4,one,wL,g3]
     . (simp only[wM];(repeat first|rw[if_pos trivial]|rw[if_pos rfl]|rw[if_neg o_]));exact k2_2
end Go.Proofs
