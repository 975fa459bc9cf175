/- Part of a proof that a law of the given program answers true. -/
import Derived.Test.YthgkeppkcjcmjaaTPE
set_option linter.unusedSimpArgs false
set_option linter.unusedVariables false
set_option maxHeartbeats 4000000
namespace Go.Proofs
open Go.E
abbrev JZ (M:Mk) (l:List UInt8):Mk:=if qE l M.lefts 0<0 then {M with lefts:=M.lefts++[l]} else M
abbrev Qf (M:Mk) (r:Rule):Mk:=if 0≤Ki M.toks {name:=r.left} then zl M r.at_ r.left else M
theorem qbG (M:Mk) (r:Rule):(Qf M r).toks=M.toks∧(Qf M r).lefts=M.lefts∧(Qf M r).types=M.types∧(Qf M r).prods=M.prods∧(Qf M r).nons=M.nons∧(Qf M r).inner=M.inner:=by
 obtain ⟨ff1,ff2,ff3,ff4,ff5,ff6,ff7,ff8⟩:=zB M r.at_ r.left
 unfold Qf;split
 · exact⟨ff1,ff3,ff4,ff5,ff6,ff8⟩
 · exact⟨rfl,rfl,rfl,rfl,rfl,rfl⟩
theorem qfu (M:Mk):xI [] M=M:=rfl
theorem Jc (r:Rule) (l:List Rule) (M:Mk):xI (r::l) M=xI l (JZ (Qf M r) r.left):=by
 rw[xI]
 have:=(qbG M r).2.1
 unfold JZ
 rw[this]
theorem qgx {s:St} {m ti gi rb:Nat} {src:Source} {vN vP vT vL:V} {M:Mk} {r:Rule} {Q:Exit→St→Prop} (hO:OfAt s m src ti gi vN vP vT vL M) (hL:Gr s.H s.next 1 (M.lefts.map V.str) vL) (f12:s.f 12=.ptr rb 0 0) (hr:s.H rb=some (.own 3 [r.V] false)) (lr:rb<s.next) (b1:M.lefts.length≤1000000000)
 (hQ: ∀s' vL',OfAt s' m src ti gi vN vP vT vL' (JZ M r.left)→Gr s'.H s'.next 1 ((JZ M r.left).lefts.map V.str) vL'→s'.f 11=s.f 11→s'.f 7=s.f 7→s.next≤s'.next→Q .normal s'):ewp Try.prog qak Q s:=by
 have f1:=hO.f1;have f2:=hO.f2;have f6:=hO.f6
 have hM:=hO.at_;have hm:=hM.hm;have lm:=hM.lm;have lt:=hM.lt;have lg:=hM.lg;have ln:=hO.ln
 obtain ⟨n1,n2,n3⟩:=hM.mt
 obtain ⟨c1,c2,c3⟩:=hM.nt
 have d1:=hL.ne c1;have d2:=hL.ne c2;have d3:=hL.ne c3
 by_cases hl:qE r.left M.lefts 0<0
 · have e:JZ M r.left={M with lefts:=M.lefts++[r.left]}:=if_pos hl
   rw[e]at hQ
   repeat' with_reducible first
    |refine s_ ?_
    |simp only[wZZ,seval,f1,f2,f6,f12,hr,hm,qi d1]
    |apply qa<;>intro h h_<;>(try simp only[wD,reduceCtorEq]at h_)<;>(try exact wb_)<;>(try simp only[h])
    |apply ze (hp:=qD ?_);(focus(refine(hM.mono (Nat.le_refl _) (fun j hj=>?_)).er;(try simp only[wM]);(repeat rw[if_neg o_])));exact qc;exact wu_;exact Flat.int _ _;rotate_left;exact wf_
    |apply za rfl (hL.mono (Nat.le_refl _) (fun id h1 h2=>by(try simp only[wM]);(repeat rw[if_neg o_])));(focus(first|exact qU.sl|exact qU.asl));(focus(simp only[wZ]<;>omega));(focus(unfold maxLen;simp only[wZ]<;>omega))
    |refine t_ ?_
    |simp(disch:=omega) only[w64,if_neg]
   refine hQ _ (.asl (s.next+5+8) (M.lefts.length+1) 1 ((M.lefts++[r.left]).map V.str)) (hO.upd ⟨?_,?_,?_,hM.eN,hM.eP,hM.eT,QN,by simp only[wN]<;>omega,by simp only[wN]<;>omega,by simp only[wN]<;>omega,hM.len,hM.len3⟩ wl_ wl_ wl_ wh_ (fun j g1 g2 g3 g4 g5=>?_)) (Gr.tok ?_ wh_) wl_ wl_ wh_
   · simp only[wM]
     repeat first|rw[if_pos trivial]|rw[if_pos rfl]|rw[if_neg o_]|simp only[wM]|rw[qi d1]
     try simp
   · simp only[wM]
     repeat first|rw[if_pos trivial]|rw[if_pos rfl]|rw[if_neg o_]|simp only[wM]|rw[qi d2]
     exact hM.ht
   · simp only[wM]
     repeat first|rw[if_pos trivial]|rw[if_pos rfl]|rw[if_neg o_]|simp only[wM]|rw[qi d3]
     exact hM.hg
   · have d5:=hL.ne g5
     simp only[wM]
     repeat first|rw[if_pos trivial]|rw[if_pos rfl]|rw[if_neg o_]|simp only[wM]|rw[qi d5]
   · simp only[wM]
     repeat first|rw[if_pos trivial]|rw[if_pos rfl]|rw[if_neg o_]|simp only[wM]
 · have e:JZ M r.left=M:=if_neg hl
   rw[e]at hQ
   repeat' with_reducible first
    |refine s_ ?_
    |simp only[wZZ,seval,f1,f2,f6,f12,hr,hm]
    |apply qa<;>intro h h_<;>(try simp only[wD,reduceCtorEq]at h_)<;>(try exact wb_)<;>(try simp only[h])
    |apply ze (hp:=qD ?_);(focus(refine(hM.mono (Nat.le_refl _) (fun j hj=>?_)).er;(try simp only[wM]);(repeat rw[if_neg o_])));exact qc;exact wu_;exact Flat.int _ _;rotate_left;exact wf_
    |refine t_ ?_
   exact hQ _ vL (hO.mono wl_ wl_ wl_ wh_ (fun j hj=>by simp only[wM])) (hL.mono wh_ (fun j h1 hj=>by simp only[wM])) wl_ wl_ wh_
theorem qpB {s0:St} {m ti gi:Nat} {src:Source} {vN vP vT vL:V} {M:Mk} {E:EC} {Q:Exit→St→Prop} (h:OfAt s0 m src ti gi vN vP vT vL M) (hL:Gr s0.H s0.next 1 (M.lefts.map V.str) vL) (hS:Small src)
 (b1:M.toks.length≤1000000000) (b2:M.lefts.length≤1000000)
 (hQ: ∀s' vL',OfAt s' m src ti gi vN vP vT vL' (xI src.rules M)→s'.f 7=s0.f 7→s0.next≤s'.next→(xI src.rules M).toks.length=M.toks.length→(xI src.rules M).types.length=M.types.length→(xI src.rules M).lefts.length≤M.lefts.length+1000→(xI src.rules M).prods=M.prods→(xI src.rules M).nons=M.nons→(xI src.rules M).inner=M.inner→ewp Try.prog E Q s'):ewp Try.prog (.seq qad E) Q s0:=by
 generalize hR:xI src.rules M=R at hQ
 have f1:=h.f1;have f2:=h.f2;have f6:=h.f6
 have hA0:=h
 repeat' with_reducible first
  |refine s_ ?_
  |simp only[wZZ,seval,f1,f2,f6]
 refine qb ?nx3 (fun(z:Nat×Mk) s=>s.f 1=?v3_1∧s.f 2=?v3_2∧s.f 6=?v3_6∧s.f 7=?v3_7∧s.f 11=vi z.1∧(z.1≤src.rules.length)∧((∃vL,OfAt s m src ti gi vN vP vT vL z.2∧Gr s.H s.next 1 (z.2.lefts.map V.str) vL))∧(xI (src.rules.drop z.1) z.2=R)∧((z.2.toks.length=M.toks.length))∧((z.2.types.length=M.types.length))∧((z.2.lefts.length≤M.lefts.length+z.1))∧((z.2.prods=M.prods))∧((z.2.nons=M.nons))∧((z.2.inner=M.inner))) (fun z=>src.rules.length - z.1) ((0,M)) wj_ (by refine⟨?_,?_,?_,?_,?_,wo_,(by exact⟨vL,hA0.mono wl_ wl_ wl_ wh_ (fun j hj=>by simp only[wM]),hL.mono wh_ (fun j h1 hj=>by simp only[wM])⟩),(by exact hR),(by rfl),(by rfl),(by dsimp only;omega),(by rfl),(by rfl),(by rfl)⟩<;>first|(simp only[wL,wM,wN,wX,seval,Option.some.injEq]<;>exact wt_)|rfl|exact⟨_,rfl⟩) ?_
 intro z s hnx ⟨g1,g2,g6,g7,g11,k3_0,k3_1,k3_2,k3_3,k3_4,k3_5,k3_6,k3_7,k3_8⟩
 obtain ⟨i,M1⟩:=z
 dsimp only at g11 k3_0 k3_1 k3_2 k3_3 k3_4 k3_5 k3_6 k3_7 k3_8
 obtain ⟨vL1,hA1,hL1⟩:=k3_1
 have hrl:=hS.rl
 have g1:=hA1.f1;have g2:=hA1.f2;have g6:=hA1.f6;have o0:=hA1.h0;have o1:=hA1.h1;have ln:=hA1.ln
 have hM:=hA1.at_;have hm:=hM.hm;have lm:=hM.lm;have lt:=hM.lt;have lg:=hM.lg
 obtain ⟨n1,n2,n3⟩:=hM.mt
 by_cases hi:i<src.rules.length
 · rw [List.drop_eq_getElem_cons hi,Jc]at k3_2
   obtain ⟨u1,u2,u3,u4,u5,u6⟩:=qbG M1 src.rules[i]
   have hadd:(JZ (Qf M1 src.rules[i]) src.rules[i].left).toks=(Qf M1 src.rules[i]).toks∧(JZ (Qf M1 src.rules[i]) src.rules[i].left).types=(Qf M1 src.rules[i]).types∧(JZ (Qf M1 src.rules[i]) src.rules[i].left).prods=(Qf M1 src.rules[i]).prods∧(JZ (Qf M1 src.rules[i]) src.rules[i].left).nons=(Qf M1 src.rules[i]).nons∧(JZ (Qf M1 src.rules[i]) src.rules[i].left).inner=(Qf M1 src.rules[i]).inner∧(JZ (Qf M1 src.rules[i]) src.rules[i].left).lefts.length≤(Qf M1 src.rules[i]).lefts.length+1:=by
    unfold JZ;split
    · exact⟨rfl,rfl,rfl,rfl,rfl,by simp⟩
    · exact⟨rfl,rfl,rfl,rfl,rfl,o_⟩
   obtain ⟨w1,w2,w3,w4,w5,w6⟩:=hadd
   show ewp _ (.seq qiW (.seq (.block 5 (.seq (.reg qi1) (.seq qjU qak))) (.reg qii))) _ _
   have T: ∀(s':St) (Q:Exit→St→Prop) (rb:Nat),OfAt s' m src ti gi vN vP vT vL1 (Qf M1 src.rules[i])→Gr s'.H s'.next 1 ((Qf M1 src.rules[i]).lefts.map V.str) vL1→s'.f 12=.ptr rb 0 0→s'.H rb=some (.own 3 [src.rules[i].V] false)→rb<s'.next→(∀s2 vL',OfAt s2 m src ti gi vN vP vT vL' (JZ (Qf M1 src.rules[i]) src.rules[i].left)→Gr s2.H s2.next 1 ((JZ (Qf M1 src.rules[i]) src.rules[i].left).lefts.map V.str) vL'→s2.f 11=s'.f 11→s2.f 7=s'.f 7→s'.next≤s2.next→Q .normal s2)→ewp Try.prog qak Q s':=
    fun s' Q rb q1 q2 q3 q4 q5 q6=>qgx q1 q2 q3 q4 q5 (by rw[u2];omega) q6
   generalize qak=E62 at T
   have hbt:M1.toks.length≤1099511627776:=o_
   by_cases hd:0≤Ki M1.toks {name:=src.rules[i].left}
   · have hdu:Qf M1 src.rules[i]=zl M1 src.rules[i].at_ src.rules[i].left:=if_pos hd
     repeat' with_reducible first
      |refine s_ ?_
      |simp only[wZZ,seval,g1,g2,g6,g7,g11,g1,g2,g6,g11,o0,hm]
      |apply qa<;>intro h h_<;>(try simp only[wD,reduceCtorEq]at h_)<;>(try exact wb_)<;>(try simp only[h])
      |apply ze (hp:=qY (x:={name:=src.rules[i].left}) hbt);(focus(refine(hM.mono (Nat.le_refl _) (fun j hj=>?_)).er;(try simp only[wM]);(repeat rw[if_neg o_])));exact qc;exact wu_;exact Flat.int _ _
      |(refine zk rfl rfl rfl ((YD (hM.mono wh_ (fun j hj=>by(try simp only[wM]);(repeat rw[if_neg o_])))).mono ?_);rintro v1 H1 n1 ⟨q1,q2,q3⟩;(try simp only[wN]at q1);(try simp only[wM]at q3))
      |refine t_ ?_
     (try simp only[wN]at q1);(try simp only[wM,wN]at q3)
     have orr:H1 (s.next+5+5)=some (.own 3 [src.rules[i].V] false):=by rw[q3 _ o_ o_,if_pos rfl]
     have hlf:(Qf M1 src.rules[i]).lefts=M1.lefts:=u2
     have hst: ∀j,j<s.next→j≠m→H1 j=s.H j:=fun j h1 h2=>by rw[q3 j o_ h2];repeat(first|rw[if_pos trivial]|rw[if_pos rfl]|rw[if_neg o_])
     refine T _ _ (s.next+5+5) (by rw[hdu];exact hA1.upd (q2.mono wh_ (fun j hj=>by simp only[wM])) wl_ wl_ wl_ wh_ (fun j h1 h2 h3 h4 h5=>(by simp only[wM];exact hst j h1 h2))) (by rw[hlf];exact hL1.stay hM wh_ (fun j h1 h2 h3 h4=>(by simp only[wM];exact hst j h1 h2))) wl_ (by simp only[wM];exact orr) wh_ (fun s2 vL2 r1 r2 r3 r4 r5=>?_)
     have h11:s2.f 11=vi i:=r3.trans (by simp only[wL,seval,g11])
     have h7:s2.f 7=s0.f 7:=r4.trans (by simp only[wL,seval,g7])
     (try simp only[wN]at r5)
     repeat' with_reducible first
      |refine s_ ?_
      |simp only[wZZ,seval,g1,g2,g6,g7,g11,h11]
      |simp(disch:=omega) only[w64,if_neg]
     refine⟨by(try simp only[wN])<;>omega,(i+1,JZ (Qf M1 src.rules[i]) src.rules[i].left),by dsimp only;omega,by rw[f1];exact r1.f1,by rw[f2];exact r1.f2,by rw[f6];exact r1.f6,h7,rfl,by dsimp only;omega,⟨vL2,r1.mono wl_ wl_ wl_ wg_ (fun j hj=>by first|rfl|simp only[wM]),r2.mono wg_ (fun j h1 hj=>by first|rfl|simp only[wM])⟩,k3_2,by dsimp only;rw[w1,u1];exact k3_3,by dsimp only;rw[w2,u3];exact k3_4,by dsimp only;rw[u2]at w6;omega,by dsimp only;rw[w3,u4];exact k3_6,by dsimp only;rw[w4,u5];exact k3_7,by dsimp only;rw[w5,u6];exact k3_8⟩
   · have hdu:Qf M1 src.rules[i]=M1:=if_neg hd
     repeat' with_reducible first
      |refine s_ ?_
      |simp only[wZZ,seval,g1,g2,g6,g7,g11,g1,g2,g6,g11,o0,hm]
      |apply qa<;>intro h h_<;>(try simp only[wD,reduceCtorEq]at h_)<;>(try exact wb_)<;>(try simp only[h])
      |apply ze (hp:=qY (x:={name:=src.rules[i].left}) hbt);(focus(refine(hM.mono (Nat.le_refl _) (fun j hj=>?_)).er;(try simp only[wM]);(repeat rw[if_neg o_])));exact qc;exact wu_;exact Flat.int _ _
      |refine t_ ?_
     refine T _ _ (s.next+5+5) (by rw[hdu];exact hA1.mono wl_ wl_ wl_ wh_ (fun j h1=>wi_)) (by rw[hdu];exact hL1.mono wh_ (fun j h1 hj=>wi_)) wl_ wi_ wh_ (fun s2 vL2 r1 r2 r3 r4 r5=>?_)
     have h11:s2.f 11=vi i:=r3.trans (by simp only[wL,seval,g11])
     have h7:s2.f 7=s0.f 7:=r4.trans (by simp only[wL,seval,g7])
     (try simp only[wN]at r5)
     repeat' with_reducible first
      |refine s_ ?_
      |simp only[wZZ,seval,g1,g2,g6,g7,g11,h11]
      |simp(disch:=omega) only[w64,if_neg]
     refine⟨by(try simp only[wN])<;>omega,(i+1,JZ (Qf M1 src.rules[i]) src.rules[i].left),by dsimp only;omega,by rw[f1];exact r1.f1,by rw[f2];exact r1.f2,by rw[f6];exact r1.f6,h7,rfl,by dsimp only;omega,⟨vL2,r1.mono wl_ wl_ wl_ wg_ (fun j hj=>by first|rfl|simp only[wM]),r2.mono wg_ (fun j h1 hj=>by first|rfl|simp only[wM])⟩,k3_2,by dsimp only;rw[w1,u1];exact k3_3,by dsimp only;rw[w2,u3];exact k3_4,by dsimp only;rw[u2]at w6;omega,by dsimp only;rw[w3,u4];exact k3_6,by dsimp only;rw[w4,u5];exact k3_7,by dsimp only;rw[w5,u6];exact k3_8⟩
 · rw[List.drop_eq_nil_of_le o_,qfu]at k3_2
   subst k3_2
   repeat' with_reducible first
    |refine s_ ?_
    |simp only[wZZ,seval,g1,g2,g6,g7,g11,g1,g2,g6,g11,o0]
    |apply qa<;>intro h h_<;>(try simp only[wD,reduceCtorEq]at h_)<;>(try exact wb_)<;>(try simp only[h])
    |refine t_ ?_
   exact hQ _ vL1 (hA1.mono wl_ wl_ wl_ wh_ (fun j hj=>by simp only[wM])) (by simp only[wL,seval];exact g7) wh_ k3_3 k3_4 o_ k3_6 k3_7 k3_8

abbrev xD (M M':Mk):Prop:=M'.toks=M.toks∧M'.given=M.given∧M'.lefts=M.lefts∧M'.types=M.types∧M'.prods=M.prods∧M'.nons=M.nons∧M'.inner=M.inner
theorem xD.rfl' (M:Mk):xD M M:=⟨rfl,rfl,rfl,rfl,rfl,rfl,rfl⟩
theorem xD.fail (M:Mk) (a:Int) (n:List UInt8):xD M (zl M a n):=let ⟨f1,f2,f3,f4,f5,f6,_,f8⟩:=zB M a n;⟨f1,f2,f3,f4,f5,f6,f8⟩
theorem xD.trans' {A B C:Mk} (h:xD A B) (k:xD B C):xD A C:=⟨k.1.trans h.1,k.2.1.trans h.2.1,k.2.2.1.trans h.2.2.1,k.2.2.2.1.trans h.2.2.2.1,k.2.2.2.2.1.trans h.2.2.2.2.1,k.2.2.2.2.2.1.trans h.2.2.2.2.2.1,k.2.2.2.2.2.2.trans h.2.2.2.2.2.2⟩
abbrev qhI (M:Mk) (kind:Int) (x:Sym):Mk:=if 5≤kind∧qE x.name M.lefts 0<0 then zl M x.at_ x.name else M
theorem qjx (M:Mk) (kind:Int) (x:Sym):xD M (qhI M kind x):=by
 unfold qhI;split
 · exact xD.fail M _ _
 · exact xD.rfl' M
theorem qc0 (kind:Int) (M:Mk):jC kind [] M=M:=rfl
theorem yY (kind:Int) (x:Sym) (r:List Sym) (M:Mk):jC kind (x::r) M=jC kind r (qhI M kind x):=by rw[jC]
theorem qdP (M:Mk):vI [] M=M:=rfl
theorem Qb (d:Decl) (r:List Decl) (M:Mk):vI (d::r) M=vI r (jC d.kind d.syms M):=by rw[vI]
theorem qgA {s0:St} {m ti gi i:Nat} {src:Source} {vN vP vT vL:V} {M:Mk} {Q:Exit→St→Prop} (h:OfAt s0 m src ti gi vN vP vT vL M) (hi:i<src.decls.length) (f13:s0.f 13=vi i) (hdl:src.decls.length≤1000) (hsl:src.decls[i].syms.length≤1000) (b2:M.lefts.length≤1000000000)
 (hQ: ∀s',OfAt s' m src ti gi vN vP vT vL (jC src.decls[i].kind src.decls[i].syms M)→s'.f 7=s0.f 7→s'.f 13=s0.f 13→s0.next≤s'.next→xD M (jC src.decls[i].kind src.decls[i].syms M)→Q .normal s'):ewp Try.prog qaM Q s0:=by
 generalize hR:jC src.decls[i].kind src.decls[i].syms M=R at hQ
 have f1:=h.f1;have f2:=h.f2;have f6:=h.f6
 have hA0:=h
 repeat' with_reducible first
  |refine s_ ?_
  |simp only[wZZ,seval,f1,f2,f6]
 refine qb ?nx5 (fun(z:Nat×Mk) s=>s.f 1=?v5_1∧s.f 2=?v5_2∧s.f 6=?v5_6∧s.f 7=?v5_7∧s.f 13=?v5_13∧s.f 14=vi z.1∧(z.1≤src.decls[i].syms.length)∧((OfAt s m src ti gi vN vP vT vL z.2))∧(jC src.decls[i].kind (src.decls[i].syms.drop z.1) z.2=R)∧((xD M z.2))) (fun z=>src.decls[i].syms.length - z.1) ((0,M)) wj_ (by refine⟨?_,?_,?_,?_,?_,?_,wo_,(by exact hA0.mono wl_ wl_ wl_ wg_ (fun j hj=>by first|rfl|simp only[wM])),(by exact hR),(by exact xD.rfl' M)⟩<;>first|(simp only[wL,wM,wN,wX,seval,Option.some.injEq]<;>exact wt_)|rfl|exact⟨_,rfl⟩) ?_
 intro z s hnx ⟨g1,g2,g6,g7,g13,g14,k5_0,k5_1,k5_2,k5_3⟩
 obtain ⟨k,M1⟩:=z
 dsimp only at g14 k5_0 k5_1 k5_2 k5_3
 have hA1:=k5_1
 have g1:=hA1.f1;have g2:=hA1.f2;have g6:=hA1.f6;have o0:=hA1.h0;have ln:=hA1.ln
 have hM:=hA1.at_;have hm:=hM.hm;have lm:=hM.lm;have lt:=hM.lt;have lg:=hM.lg
 obtain ⟨n1,n2,n3⟩:=hM.mt
 have hgd:src.decls[i]?=some src.decls[i]:=ge_ hi
 have hbt:M1.lefts.length≤1099511627776:=by rw[k5_3.2.2.1];omega
 by_cases hk:k<src.decls[i].syms.length
 · rw [List.drop_eq_getElem_cons hk,yY]at k5_2
   by_cases hu:5≤src.decls[i].kind∧qE src.decls[i].syms[k].name M1.lefts 0<0
   · have e:qhI M1 src.decls[i].kind src.decls[i].syms[k]=zl M1 src.decls[i].syms[k].at_ src.decls[i].syms[k].name:=if_pos hu
     rw[e]at k5_2
     repeat' with_reducible first
      |refine s_ ?_
      |simp only[wZZ,seval,g1,g2,g6,g7,g13,g14,g1,g2,g6,f13,g14,o0,hm]
      |(first|apply qa|apply qg|apply qh)<;>intro h h_<;>(try simp only[wD,reduceCtorEq]at h_)<;>(try exact wb_)<;>(try simp only[h])
      |apply ze (hp:=qD ?_);(focus(refine(hM.mono (Nat.le_refl _) (fun j hj=>?_)).er;(try simp only[wM]);(repeat rw[if_neg o_])));exact qc;exact wu_;exact Flat.int _ _;rotate_left;exact wf_
      |(refine zk rfl rfl rfl ((YD (hM.mono wh_ (fun j hj=>by(try simp only[wM]);(repeat rw[if_neg o_])))).mono ?_);rintro v1 H1 n1 ⟨q1,q2,q3⟩;(try simp only[wN]at q1);(try simp only[wM]at q3))
      |refine t_ ?_
      |simp(disch:=omega) only[w64,if_neg]
     (try simp only[wN]at q1);(try simp only[wM,wN]at q3)
     have hst: ∀j,j<s.next→j≠m→H1 j=s.H j:=fun j h1 h2=>by rw[q3 j o_ h2];repeat(first|rw[if_pos trivial]|rw[if_pos rfl]|rw[if_neg o_])
     refine⟨by(try simp only[wN])<;>omega,(k+1,zl M1 src.decls[i].syms[k].at_ src.decls[i].syms[k].name),by dsimp only;omega,f1.symm,f2.symm,f6.symm,by first|trivial|rfl,by first|trivial|rfl,rfl,by dsimp only;omega,hA1.upd (q2.mono wg_ (fun j hj=>by first|rfl|simp only[wM])) wl_ wl_ wl_ wg_ (fun j h1 h2 h3 h4 h5=>(by(try simp only[wM]);exact hst j h1 h2)),k5_2,k5_3.trans' (xD.fail M1 _ _)⟩
   · have e:qhI M1 src.decls[i].kind src.decls[i].syms[k]=M1:=if_neg hu
     rw[e]at k5_2
     repeat' with_reducible first
      |refine s_ ?_
      |simp only[wZZ,seval,g1,g2,g6,g7,g13,g14,g1,g2,g6,f13,g14,o0,hm]
      |(first|apply qa|apply qg|apply qh)<;>intro h h_<;>(try simp only[wD,reduceCtorEq]at h_)<;>(try exact wb_)<;>(try simp only[h])
      |apply ze (hp:=qD ?_);(focus(refine(hM.mono (Nat.le_refl _) (fun j hj=>?_)).er;(try simp only[wM]);(repeat rw[if_neg o_])));exact qc;exact wu_;exact Flat.int _ _;rotate_left;exact wf_
      |refine t_ ?_
      |simp(disch:=omega) only[w64,if_neg]
     all_goals(refine⟨by(try simp only[wN])<;>omega,(k+1,M1),by dsimp only;omega,f1.symm,f2.symm,f6.symm,by first|trivial|rfl,by first|trivial|rfl,rfl,by dsimp only;omega,hA1.mono wl_ wl_ wl_ wg_ (fun j hj=>(by(try simp only[wM]);repeat(first|rw[if_pos trivial]|rw[if_pos rfl]|rw[if_neg o_]))),k5_2,k5_3⟩)
 · rw[List.drop_eq_nil_of_le o_,qc0]at k5_2
   subst k5_2
   repeat' with_reducible first
    |refine s_ ?_
    |simp only[wZZ,seval,g1,g2,g6,g7,g13,g14,g1,g2,g6,f13,g14,o0]
    |apply qa<;>intro h h_<;>(try simp only[wD,reduceCtorEq]at h_)<;>(try exact wb_)<;>(try simp only[h])
    |refine t_ ?_
   exact hQ _ (hA1.mono wl_ wl_ wl_ wg_ (fun j hj=>by first|rfl|simp only[wM])) (by simp only[wL,seval];exact g7) (by simp only[wL,seval];exact g13) wh_ k5_3
theorem qr2 {s0:St} {m ti gi:Nat} {src:Source} {vN vP vT vL:V} {M:Mk} {E:EC} {Q:Exit→St→Prop} (h:OfAt s0 m src ti gi vN vP vT vL M) (hS:Small src) (b2:M.lefts.length≤1000000000)
 (hQ: ∀s',OfAt s' m src ti gi vN vP vT vL (vI src.decls M)→s'.f 7=s0.f 7→s0.next≤s'.next→xD M (vI src.decls M)→ewp Try.prog E Q s'):ewp Try.prog (.seq qag E) Q s0:=by
 generalize hR:vI src.decls M=R at hQ
 have f1:=h.f1;have f2:=h.f2;have f6:=h.f6
 have hA0:=h
 have hdl:=hS.dl
 repeat' with_reducible first
  |refine s_ ?_
  |simp only[wZZ,seval,f1,f2,f6]
 refine qb ?nx4 (fun(z:Nat×Mk) s=>s.f 1=?v4_1∧s.f 2=?v4_2∧s.f 6=?v4_6∧s.f 7=?v4_7∧s.f 13=vi z.1∧(z.1≤src.decls.length)∧((OfAt s m src ti gi vN vP vT vL z.2))∧(vI (src.decls.drop z.1) z.2=R)∧((xD M z.2))) (fun z=>src.decls.length - z.1) ((0,M)) wj_ (by refine⟨?_,?_,?_,?_,?_,wo_,(by exact hA0.mono wl_ wl_ wl_ wg_ (fun j hj=>by first|rfl|simp only[wM])),(by exact hR),(by exact xD.rfl' M)⟩<;>first|(simp only[wL,wM,wN,wX,seval,Option.some.injEq]<;>exact wt_)|rfl|exact⟨_,rfl⟩) ?_
 intro z s hnx ⟨g1,g2,g6,g7,g13,k4_0,k4_1,k4_2,k4_3⟩
 obtain ⟨i,M1⟩:=z
 dsimp only at g13 k4_0 k4_1 k4_2 k4_3
 have hA1:=k4_1
 have g1:=hA1.f1;have g2:=hA1.f2;have g6:=hA1.f6;have o0:=hA1.h0;have ln:=hA1.ln
 by_cases hi:i<src.decls.length
 · rw[List.drop_eq_getElem_cons hi,Qb]at k4_2
   have hgd:src.decls[i]?=some src.decls[i]:=ge_ hi
   have T: ∀(s':St) (Q:Exit→St→Prop),OfAt s' m src ti gi vN vP vT vL M1→s'.f 13=vi i→(∀s2,OfAt s2 m src ti gi vN vP vT vL (jC src.decls[i].kind src.decls[i].syms M1)→s2.f 7=s'.f 7→s2.f 13=s'.f 13→s'.next≤s2.next→xD M1 (jC src.decls[i].kind src.decls[i].syms M1)→Q .normal s2)→ewp Try.prog qaM Q s':=
    fun s' Q q1 q2 q3=>qgA q1 hi q2 hdl (hS.ds _ (List.getElem_mem hi)) (by rw[k4_3.2.2.1];omega) q3
   show ewp _ (.seq qjg (.seq (.block 7 qaM) (.reg qiV))) _ _
   generalize qaM=E92 at T
   generalize hG:jC src.decls[i].kind src.decls[i].syms M1=G at T k4_2
   repeat' with_reducible first
    |refine s_ ?_
    |simp only[wZZ,seval,g1,g2,g6,g7,g13,g1,g2,g6,g13,o0]
    |apply qa<;>intro h h_<;>(try simp only[wD,reduceCtorEq]at h_)<;>(try exact wb_)<;>(try simp only[h])
    |refine t_ ?_
   refine T _ _ (hA1.mono wl_ wl_ wl_ wg_ (fun j hj=>by first|rfl|simp only[wM])) (by simp only[wL,seval,g13]) (fun s2 r1 r2 r3 r4 r5=>?_)
   have h13:s2.f 13=vi i:=r3.trans (by simp only[wL,seval,g13])
   have h7:s2.f 7=s0.f 7:=r2.trans (by simp only[wL,seval,g7])
   (try simp only[wN]at r4)
   repeat' with_reducible first
    |refine s_ ?_
    |simp only[wZZ,seval,g1,g2,g6,g7,g13,h13]
    |simp(disch:=omega) only[w64,if_neg]
   refine⟨by(try simp only[wN])<;>omega,(i+1,G),by dsimp only;omega,by rw[f1];exact r1.f1,by rw[f2];exact r1.f2,by rw[f6];exact r1.f6,h7,rfl,by dsimp only;omega,r1.mono wl_ wl_ wl_ wg_ (fun j hj=>by first|rfl|simp only[wM]),k4_2,k4_3.trans' r5⟩
 · rw[List.drop_eq_nil_of_le o_,qdP]at k4_2
   subst k4_2
   repeat' with_reducible first
    |refine s_ ?_
    |simp only[wZZ,seval,g1,g2,g6,g7,g13,g1,g2,g6,g13,o0]
    |apply qa<;>intro h h_<;>(try simp only[wD,reduceCtorEq]at h_)<;>(try exact wb_)<;>(try simp only[h])
    |refine t_ ?_
   exact hQ _ (hA1.mono wl_ wl_ wl_ wg_ (fun j hj=>by first|rfl|simp only[wM])) (by simp only[wL,seval];exact g7) wh_ k4_3

abbrev Qq (src:Source) (st:List UInt8):List UInt8:=if st=[]then(src.rules.headD {}).left else st
abbrev firstM (M:Mk) (start:List UInt8):Mk:={M with prods:=[{left:=0,right:=[1001+qE start M.lefts 0],prec:= -1}]}
abbrev qiS (M:Mk) (start:List UInt8):V:= .agg [vi 0,.sl 1 true [vi (1001+qE start M.lefts 0)],vi (-1),.str [],.sl 1 true [],vi 0]
theorem qeb {s0:St} {m ti gi:Nat} {src:Source} {vN vP vT vL:V} {M:Mk} {start:List UInt8} {E:EC} {Q:Exit→St→Prop} (h:OfAt s0 m src ti gi vN vP vT vL M) (f7:s0.f 7=.str start) (b2:M.lefts.length≤1000000000)
 (hQ: ∀s',OfAt s' m src ti gi vN (.sl 6 true [qiS M start]) vT vL (firstM M start)→s0.next≤s'.next→ewp Try.prog E Q s'):ewp Try.prog (.seq (.reg Ye) E) Q s0:=by
 have hA0:=h
 have f1:=h.f1;have f2:=h.f2;have f6:=h.f6
 have hM:=h.at_;have hm:=hM.hm;have lm:=hM.lm;have lt:=hM.lt;have lg:=hM.lg;have ln:=h.ln
 obtain ⟨n1,n2,n3⟩:=hM.mt
 have hbd:=ja start M.lefts 0
 have hz:IntKind.i64.wrap (1001+qE start M.lefts 0)=1001+qE start M.lefts 0:=wrap64 o_ o_
 repeat' with_reducible first
  |refine zV ?_
  |simp only[wZZ,seval,f1,f2,f6,f7,hm,hz]
  |apply ze (hp:=qD ?_);(focus(refine(hM.mono (Nat.le_refl _) (fun j hj=>?_)).er;(try simp only[wM]);(repeat rw[if_neg o_])));exact qc;exact wu_;exact Flat.int _ _;rotate_left;exact wf_
  |refine t_ ?_
 refine hQ _ (hA0.upd ⟨?_,?_,?_,hM.eN,?_,hM.eT,hM.eL,by simp only[wN]<;>omega,by simp only[wN]<;>omega,by simp only[wN]<;>omega,hM.len,hM.len3⟩ wl_ wl_ wl_ wh_ (fun j g1 g2 g3 g4 g5=>?_)) wh_
 · simp only[wM]
   repeat(first|rw[if_pos trivial]|rw[if_pos rfl]|rw[if_neg o_])
 · simp only[wM]
   repeat(first|rw[if_pos trivial]|rw[if_pos rfl]|rw[if_neg o_])
   exact hM.ht
 · simp only[wM]
   repeat(first|rw[if_pos trivial]|rw[if_pos rfl]|rw[if_neg o_])
   exact hM.hg
 · exact ErL.sl (.cons (ErL.agg (.cons (.int _ _) (.cons (ErL.sl (.cons (.int _ _) .nil)) (.cons (.int _ _) (.cons (.str _) (.cons (ErL.sl .nil) (.cons (.int _ _) .nil))))))) .nil)
 · simp only[wM]
   repeat(first|rw[if_pos trivial]|rw[if_pos rfl]|rw[if_neg o_])
theorem qfb {s0:St} {m ti gi:Nat} {src:Source} {vN vP vT vL:V} {M:Mk} {st:List UInt8} {E:EC} {Q:Exit→St→Prop} (h:OfAt s0 m src ti gi vN vP vT vL M) (f7:s0.f 7=.str st) (hr:0<src.rules.length)
 (hQ: ∀s',OfAt s' m src ti gi vN vP vT vL M→s'.f 7=.str (Qq src st)→s0.next≤s'.next→ewp Try.prog E Q s'):ewp Try.prog (.seq Yt E) Q s0:=by
 have hA0:=h
 have f1:=h.f1;have f2:=h.f2;have f6:=h.f6;have o0:=h.h0;have ln:=h.ln
 by_cases hs:st=[]
 · have hg:src.rules[(0:Int).toNat]?=some (src.rules.headD {}):=by
    cases hrs:src.rules with
    |nil=>rw[hrs]at hr;simp at hr
    |cons a r=>rfl
   have e:Qq src st=(src.rules.headD {}).left:=if_pos hs
   rw[e]at hQ
   repeat' with_reducible first
    |refine s_ ?_
    |simp only[wZZ,seval,f1,f2,f6,f7,o0,hs]
    |refine t_ ?_
   exact hQ _ (hA0.mono wl_ wl_ wl_ wg_ (fun j hj=>by first|rfl|simp only[wM])) wl_ wh_
 · have e:Qq src st=st:=if_neg hs
   rw[e]at hQ
   repeat' with_reducible first
    |refine s_ ?_
    |simp only[wZZ,seval,f1,f2,f6,f7,o0]
    |apply qa<;>intro h h_<;>(try simp only[wD,reduceCtorEq]at h_)<;>(try exact wb_)<;>(try simp only[h])
   exact hQ _ (hA0.mono wl_ wl_ wl_ wg_ (fun j hj=>by first|rfl|simp only[wM])) (by simp only[wL,seval];exact f7) wh_
theorem qiU (M:Mk) (n:List UInt8) (a:Alt):(Xa M n a).lefts=M.lefts∧(Xa M n a).types=M.types∧(Xa M n a).nons=M.nons∧(Xa M n a).toks.length≤M.toks.length+a.parts.length+1∧M.toks.length≤(Xa M n a).toks.length∧M.inner≤(Xa M n a).inner∧(Xa M n a).inner≤M.inner+a.parts.length:=by
 rw[qek M n a _ _ rfl rfl]
 obtain ⟨h1,h2,h3,h4,h5,h6,h7,h8,h9,h10⟩:=Yn a.parts M {left:=1+qE n M.lefts 0,prec:= -1,at_:=a.at_}
 generalize zH a.parts (M,{left:=1+qE n M.lefts 0,prec:= -1,at_:=a.at_})=q at *
 generalize ({q.2 with prec:=xU q.2.right (-1)}:GPr).prec=pr
 obtain ⟨k1,k2,k3,k4,k5,k6,k7⟩:=qDS q.1 a.prec pr
 exact⟨k1.trans h1,k3.trans h2,k4.trans h3,by show (Ym q.1 a.prec pr).1.toks.length≤_;omega,by show _≤(Ym q.1 a.prec pr).1.toks.length;omega,by show _≤(Ym q.1 a.prec pr).1.inner;omega,by show (Ym q.1 a.prec pr).1.inner≤_;omega⟩
theorem qda (n:List UInt8) (M:Mk):zI n [] M=M:=rfl
theorem xM (n:List UInt8) (a:Alt) (r:List Alt) (M:Mk):zI n (a::r) M=zI n r (Xa M n a):=by rw[zI]
theorem qeT (M:Mk):yh [] M=M:=rfl
theorem yx (r:Rule) (l:List Rule) (M:Mk):yh (r::l) M=yh l (zI r.left r.alts M):=by rw[yh]

abbrev qeH (M M':Mk):Prop:=M'.lefts=M.lefts∧M'.types=M.types∧M'.nons=M.nons∧M.inner≤M'.inner∧M.toks.length≤M'.toks.length
theorem qhs {s0:St} {m ti gi i:Nat} {src:Source} {vN vP vT vL:V} {ps:List V} {M:Mk} {Q:Exit→St→Prop} (h:OfAt s0 m src ti gi vN vP vT vL M) (hP:Gr s0.H s0.next 6 ps vP) (heP:QM ps (M.prods.map GPr.V)) (hi:i<src.rules.length) (f16:s0.f 16=vi i) (hS:Small src)
 (b1:M.toks.length≤10000000000) (b2:M.lefts.length≤1000000000) (b3:ps.length≤10000000000) (b4:0≤M.inner) (b5:M.inner≤10000000000)
 (hQ: ∀s' ti' gi' vP' ps',OfAt s' m src ti' gi' vN vP' vT vL (zI src.rules[i].left src.rules[i].alts M)→Gr s'.H s'.next 6 ps' vP'→QM ps' ((zI src.rules[i].left src.rules[i].alts M).prods.map GPr.V)→s'.f 16=s0.f 16→s0.next≤s'.next→qeH M (zI src.rules[i].left src.rules[i].alts M)→(zI src.rules[i].left src.rules[i].alts M).toks.length≤M.toks.length+1001000→ps'.length≤ps.length+1001000→(zI src.rules[i].left src.rules[i].alts M).inner≤M.inner+1000000→Q .normal s'):ewp Try.prog Xm Q s0:=by
 generalize hR:zI src.rules[i].left src.rules[i].alts M=R at hQ
 have f1:=h.f1;have f2:=h.f2;have f6:=h.f6
 have hA0:=h
 have hrl:=hS.rl;have hal:=hS.ra _ (List.getElem_mem hi);have hpl:=hS.rp _ (List.getElem_mem hi);have hxl:=hS.rx _ (List.getElem_mem hi);have hql:=hS.rq _ (List.getElem_mem hi)
 repeat' with_reducible first
  |refine s_ ?_
  |simp only[wZZ,seval,f1,f2,f6]
 refine qb ?nx7 (fun(z:Nat×Mk) s=>s.f 1=?v7_1∧s.f 2=?v7_2∧s.f 6=?v7_6∧s.f 16=?v7_16∧s.f 17=vi z.1∧(z.1≤src.rules[i].alts.length)∧((∃ti gi vP ps1,OfAt s m src ti gi vN vP vT vL z.2∧Gr s.H s.next 6 ps1 vP∧QM ps1 (z.2.prods.map GPr.V)∧ps1.length≤ps.length+1001 *z.1))∧(zI src.rules[i].left (src.rules[i].alts.drop z.1) z.2=R)∧((qeH M z.2))∧((z.2.toks.length≤M.toks.length+1001 *z.1))∧((z.2.inner≤M.inner+1000 *z.1))) (fun z=>src.rules[i].alts.length - z.1) ((0,M)) wj_ (by refine⟨?_,?_,?_,?_,?_,wo_,(by exact⟨ti,gi,vP,ps,hA0.mono wl_ wl_ wl_ wg_ (fun j hj=>by first|rfl|simp only[wM]),hP.mono wg_ (fun j h1 hj=>by first|rfl|simp only[wM]),heP,by dsimp only;omega⟩),(by exact hR),(by exact⟨rfl,rfl,rfl,Int.le_refl _,Nat.le_refl _⟩),(by dsimp only;omega),(by dsimp only;omega)⟩<;>first|(simp only[wL,wM,wN,wX,seval,Option.some.injEq]<;>exact wt_)|rfl|exact⟨_,rfl⟩) ?_
 intro z s hnx ⟨g1,g2,g6,g16,g17,k7_0,k7_1,k7_2,k7_3,k7_4,k7_5⟩
 obtain ⟨k,M1⟩:=z
 dsimp only at g17 k7_0 k7_1 k7_2 k7_3 k7_4 k7_5
 obtain ⟨ti1,gi1,vP1,ps1,hA1,hP1,heP1,hl1⟩:=k7_1
 have g1:=hA1.f1;have g2:=hA1.f2;have g6:=hA1.f6;have o0:=hA1.h0;have ln:=hA1.ln
 have hM:=hA1.at_;have hm:=hM.hm;have lm:=hM.lm;have lt:=hM.lt;have lg:=hM.lg
 have hgd:src.rules[i]?=some src.rules[i]:=ge_ hi
 obtain ⟨sm1,sm2,sm3,sm4,sm5⟩:=k7_3
 by_cases hk:k<src.rules[i].alts.length
 · rw[List.drop_eq_getElem_cons hk,xM]at k7_2
   have hm1:=hpl _ (List.getElem_mem hk);have hm2:=hxl _ (List.getElem_mem hk);have hm3:=hql _ (List.getElem_mem hk)
   obtain ⟨y1,y2,y3,y4,y5,y6,y7⟩:=qiU M1 src.rules[i].left src.rules[i].alts[k]
   have hlf:M1.lefts.length≤274877906944:=by rw[sm1];omega
   repeat' with_reducible first
    |refine s_ ?_
    |simp only[wZZ,seval,g1,g2,g6,g16,g17,g1,g2,g6,f16,g17,o0,hm]
    |apply qa<;>intro h h_<;>(try simp only[wD,reduceCtorEq]at h_)<;>(try exact wb_)<;>(try simp only[h])
    |(refine zk rfl rfl rfl ((qSL (hM.mono wh_ (fun j hj=>by simp only[wM])) (hP1.mono wh_ (fun j h1 hj=>by simp only[wM])) heP1 o_ hlf o_ o_ o_ o_ hm2 hm3).mono ?_);rintro v1 H1 n1 ⟨q1,⟨ti',gi',vP',ps',q2,q3,q4,q5,q7,q8⟩,q6⟩;(try simp only[wN]at q1))
    |refine t_ ?_
    |simp(disch:=omega) only[w64,if_neg]
   have q6': ∀j,j<s.next→j≠m→j≠ti1→j≠gi1→(∀f,s.H j≠some (.tok f))→H1 j=s.H j:=fun j h1 h2 h3 h4 h5=>q6 j wh_ h2 h3 h4 (by simp only[wM];exact h5)
   refine⟨by(try simp only[wN])<;>omega,(k+1,Xa M1 src.rules[i].left src.rules[i].alts[k]),by dsimp only;omega,f1.symm,f2.symm,f6.symm,by first|trivial|rfl,rfl,by dsimp only;omega,⟨ti',gi',vP',ps',hA1.upd (q4.mono wg_ (fun j hj=>by first|rfl|simp only[wM])) wl_ wl_ wl_ wg_ (fun j h1 h2 h3 h4 h5=>(by(try simp only[wM]);exact q6' j h1 h2 h3 h4 h5)),q5.mono wg_ (fun j h1 hj=>by first|rfl|simp only[wM]),q7,by dsimp only;omega⟩,k7_2,⟨y1.trans sm1,y2.trans sm2,y3.trans sm3,Int.le_trans sm4 y6,Nat.le_trans sm5 y5⟩,by dsimp only;omega,by dsimp only;omega⟩
 · rw[List.drop_eq_nil_of_le o_,qda]at k7_2
   subst k7_2
   repeat' with_reducible first
    |refine s_ ?_
    |simp only[wZZ,seval,g1,g2,g6,g16,g17,g1,g2,g6,f16,g17,o0]
    |apply qa<;>intro h h_<;>(try simp only[wD,reduceCtorEq]at h_)<;>(try exact wb_)<;>(try simp only[h])
    |refine t_ ?_
   exact hQ _ ti1 gi1 vP1 ps1 (hA1.mono wl_ wl_ wl_ wg_ (fun j hj=>by first|rfl|simp only[wM])) (hP1.mono wg_ (fun j h1 hj=>by first|rfl|simp only[wM])) heP1 (by simp only[wL,seval];exact g16) wh_ ⟨sm1,sm2,sm3,sm4,sm5⟩ o_ o_ o_
theorem qmD {s0:St} {m ti gi:Nat} {src:Source} {vN vP vT vL:V} {ps:List V} {M:Mk} {E:EC} {Q:Exit→St→Prop} (h:OfAt s0 m src ti gi vN vP vT vL M) (hP:Gr s0.H s0.next 6 ps vP) (heP:QM ps (M.prods.map GPr.V)) (hS:Small src)
 (b1:M.toks.length≤1000000000) (b2:M.lefts.length≤1000000000) (b3:ps.length≤1000000000) (b4:0≤M.inner) (b5:M.inner≤1000000000)
 (hQ: ∀s' ti' gi' vP',OfAt s' m src ti' gi' vN vP' vT vL (yh src.rules M)→s0.next≤s'.next→qeH M (yh src.rules M)→(yh src.rules M).toks.length≤M.toks.length+1001000000→(yh src.rules M).prods.length≤ps.length+1001000000→(yh src.rules M).inner≤M.inner+1000000000→ewp Try.prog E Q s'):ewp Try.prog (.seq Yp E) Q s0:=by
 generalize hR:yh src.rules M=R at hQ
 have f1:=h.f1;have f2:=h.f2;have f6:=h.f6
 have hA0:=h
 have hrl:=hS.rl
 repeat' with_reducible first
  |refine s_ ?_
  |simp only[wZZ,seval,f1,f2,f6]
 refine qb ?nx6 (fun(z:Nat×Mk) s=>s.f 1=?v6_1∧s.f 2=?v6_2∧s.f 6=?v6_6∧s.f 16=vi z.1∧(z.1≤src.rules.length)∧((∃ti gi vP ps1,OfAt s m src ti gi vN vP vT vL z.2∧Gr s.H s.next 6 ps1 vP∧QM ps1 (z.2.prods.map GPr.V)∧ps1.length≤ps.length+z.1 *1001000))∧(yh (src.rules.drop z.1) z.2=R)∧((qeH M z.2))∧((z.2.toks.length≤M.toks.length+z.1 *1001000))∧((z.2.inner≤M.inner+1000 *(1000 *z.1)))) (fun z=>src.rules.length - z.1) ((0,M)) wj_ (by refine⟨?_,?_,?_,?_,wo_,(by exact⟨ti,gi,vP,ps,hA0.mono wl_ wl_ wl_ wg_ (fun j hj=>by first|rfl|simp only[wM]),hP.mono wg_ (fun j h1 hj=>by first|rfl|simp only[wM]),heP,by dsimp only;omega⟩),(by exact hR),(by exact⟨rfl,rfl,rfl,Int.le_refl _,Nat.le_refl _⟩),(by dsimp only;omega),(by dsimp only;omega)⟩<;>first|(simp only[wL,wM,wN,wX,seval,Option.some.injEq]<;>exact wt_)|rfl|exact⟨_,rfl⟩) ?_
 intro z s hnx ⟨g1,g2,g6,g16,k6_0,k6_1,k6_2,k6_3,k6_4,k6_5⟩
 obtain ⟨i,M1⟩:=z
 dsimp only at g16 k6_0 k6_1 k6_2 k6_3 k6_4 k6_5
 obtain ⟨ti1,gi1,vP1,ps1,hA1,hP1,heP1,hl1⟩:=k6_1
 have g1:=hA1.f1;have g2:=hA1.f2;have g6:=hA1.f6;have o0:=hA1.h0;have ln:=hA1.ln
 obtain ⟨sm1,sm2,sm3,sm4,sm5⟩:=k6_3
 by_cases hi:i<src.rules.length
 · rw[List.drop_eq_getElem_cons hi,yx]at k6_2
   have hgd:src.rules[i]?=some src.rules[i]:=ge_ hi
   have T: ∀(s':St) (Q:Exit→St→Prop),OfAt s' m src ti1 gi1 vN vP1 vT vL M1→Gr s'.H s'.next 6 ps1 vP1→s'.f 16=vi i→(∀s2 ti' gi' vP' ps',OfAt s2 m src ti' gi' vN vP' vT vL (zI src.rules[i].left src.rules[i].alts M1)→Gr s2.H s2.next 6 ps' vP'→QM ps' ((zI src.rules[i].left src.rules[i].alts M1).prods.map GPr.V)→s2.f 16=s'.f 16→s'.next≤s2.next→qeH M1 (zI src.rules[i].left src.rules[i].alts M1)→(zI src.rules[i].left src.rules[i].alts M1).toks.length≤M1.toks.length+1001000→ps'.length≤ps1.length+1001000→(zI src.rules[i].left src.rules[i].alts M1).inner≤M1.inner+1000000→Q .normal s2)→ewp Try.prog Xm Q s':=
    fun s' Q q1 q2 q3 q4=>qhs q1 q2 heP1 hi q3 hS o_ (by rw[sm1];omega) o_ o_ o_ q4
   show ewp _ (.seq qfl (.seq (.block 11 Xm) (.reg qff))) _ _
   generalize Xm=E120 at T
   generalize hG:zI src.rules[i].left src.rules[i].alts M1=G at T k6_2
   repeat' with_reducible first
    |refine s_ ?_
    |simp only[wZZ,seval,g1,g2,g6,g16,g1,g2,g6,g16,o0]
    |apply qa<;>intro h h_<;>(try simp only[wD,reduceCtorEq]at h_)<;>(try exact wb_)<;>(try simp only[h])
    |refine t_ ?_
   refine T _ _ (hA1.mono wl_ wl_ wl_ wg_ (fun j hj=>by first|rfl|simp only[wM])) (hP1.mono wg_ (fun j h1 hj=>by first|rfl|simp only[wM])) (by simp only[wL,seval,g16]) (fun s2 ti' gi' vP' ps' r1 r2 r3 r4 r5 r6 r7 r8 r9=>?_)
   have h16:s2.f 16=vi i:=r4.trans (by simp only[wL,seval,g16])
   (try simp only[wN]at r5)
   obtain ⟨y1,y2,y3,y6,y5⟩:=r6
   repeat' with_reducible first
    |refine s_ ?_
    |simp only[wZZ,seval,g1,g2,g6,g16,h16]
    |simp(disch:=omega) only[w64,if_neg]
   refine⟨by(try simp only[wN])<;>omega,(i+1,G),by dsimp only;omega,by rw[f1];exact r1.f1,by rw[f2];exact r1.f2,by rw[f6];exact r1.f6,rfl,by dsimp only;omega,⟨ti',gi',vP',ps',r1.mono wl_ wl_ wl_ wg_ (fun j hj=>by first|rfl|simp only[wM]),r2.mono wg_ (fun j h1 hj=>by first|rfl|simp only[wM]),r3,by dsimp only;omega⟩,k6_2,⟨y1.trans sm1,y2.trans sm2,y3.trans sm3,Int.le_trans sm4 y6,Nat.le_trans sm5 y5⟩,by dsimp only;omega,by dsimp only;omega⟩
 · rw[List.drop_eq_nil_of_le o_,qeT]at k6_2
   subst k6_2
   have hlp:=heP1.len
   rw[List.length_map]at hlp
   repeat' with_reducible first
    |refine s_ ?_
    |simp only[wZZ,seval,g1,g2,g6,g16,g1,g2,g6,g16,o0]
    |apply qa<;>intro h h_<;>(try simp only[wD,reduceCtorEq]at h_)<;>(try exact wb_)<;>(try simp only[h])
    |refine t_ ?_
   exact hQ _ ti1 gi1 vP1 (hA1.mono wl_ wl_ wl_ wg_ (fun j hj=>by first|rfl|simp only[wM])) wh_ ⟨sm1,sm2,sm3,sm4,sm5⟩ o_ o_ o_

set_option maxRecDepth 10000
def YJ:Nat→Nat→List UInt8→List UInt8
 |0,_,s=>s
 |f+1,u,s=>if 0<u∨s=[]then YJ f (u / 10) (UInt8.ofNat (48+u % 10)::s)else s
def qwT:Nat→Nat
 |0=>1
 |n+1=>10 *qwT n
def qjY (n:Nat):List UInt8:=YJ 25 n []
theorem qaO: ∀(f u:Nat) (s:List UInt8),(YJ f u s).length≤s.length+f
 |0,_,s=>by unfold YJ;omega
 | f +1,u,s=>by
   unfold YJ;split
   · have:=qaO f (u / 10) (UInt8.ofNat (48+u % 10)::s)
     rw[List.length_cons]at this;omega
   · omega
theorem JS {n:Nat} (hn:n≤4611686018427387904):Pure Try.prog 95 [vi n] (.str (qjY n)):=by
 refine pure_intro Try.func95 nm_ qwd (by show 1≤32;decide) ?_
 show ewp _ qiL _ _
 have e:qjY n=YJ 25 n []:=rfl
 rw[e]
 generalize hR:YJ 25 n []=R
 have hz:IntKind.u64.wrap (n:Int)=(n:Int):=qoB o_ o_
 repeat' with_reducible first
  |refine s_ ?_
  |simp only[wZZ,seval,hz]
  |apply qa<;>intro h h_<;>(try simp only[wD,reduceCtorEq]at h_)<;>(try exact wb_)<;>(try simp only[h])
 refine qb ?nx1 (fun(z:Nat×List UInt8) s=>s.f 0=?v1_0∧s.f 3=.int .u64 z.1∧s.f 4=.str z.2∧(z.1≤n)∧((∃f,YJ f z.1 z.2=R∧z.1<qwT f∧(z.2=[]→0<f)∧z.2.length+f≤25))) (fun z=>(if z.2=[]then z.1+1 else z.1)) ((n,[])) wj_ (by refine⟨?_,?_,?_,wo_,(by exact⟨25,hR,by have e:qwT 25=10000000000000000000000000:=(by decide);rw[e];dsimp only;omega,fun _=>by omega,by simp⟩)⟩<;>first|(simp only[wL,wM,wN,wX,seval,Option.some.injEq]<;>exact wt_)|rfl|exact⟨_,rfl⟩) ?_
 intro z s hnx ⟨g0,g3,g4,k1_0,k1_1⟩
 · obtain ⟨u,t⟩:=z
   dsimp only at *
   obtain ⟨f,hf,hu,h0,hl⟩:=k1_1
   by_cases hc:0<u∨t=[]
   · obtain ⟨f,rfl⟩: ∃m,f=m+1:=⟨f - 1,by
      rcases hc with hc|hc
      · cases f with
        |zero=>simp[qwT]at hu;omega
        |succ f=>omega
      · have:=h0 hc;omega⟩
     rw[qwT]at hu
     rw[YJ,if_pos hc]at hf
     have hm:(u:Int).tmod 10=((u % 10:Nat):Int):=by rw[Int.tmod_eq_emod_of_nonneg o_];omega
     have hd:(u:Int).tdiv 10=((u / 10:Nat):Int):=by rw[Int.tdiv_eq_ediv_of_nonneg o_];omega
     have hd2:IntKind.u64.wrap ((u / 10:Nat):Int)=((u / 10:Nat):Int):=qoB o_ o_
     have ha:IntKind.u64.wrap (48+((u % 10:Nat):Int))=((48+u % 10:Nat):Int):=by rw[qoB o_ o_];omega
     have hb:IntKind.u8.wrap ((48+u % 10:Nat):Int)=((48+u % 10:Nat):Int):=by
      unfold IntKind.wrap
      have e1:((2:Int) ^ IntKind.bits .u8)=256:=by decide
      have e3:IntKind.signed .u8=false:=rfl
      simp only[e1,e3,Bool.false_and]
      simp;omega
     repeat' with_reducible first
      |refine s_ ?_
      |simp only[wZZ,seval,g0,g3,g4,hm,hd,hd2,ha,hb]
      |(first|apply qa|apply qg|apply qh)<;>intro h h_<;>(try simp only[wD,reduceCtorEq]at h_)<;>(try exact wb_)<;>(try simp only[h])
      |apply qjy;(focus(first|omega|(simp only[wZ]<;>omega)))
      |apply qSv;omega;omega
     · refine⟨by(try simp only[wN])<;>omega,(u / 10,UInt8.ofNat (48+u % 10)::t),?_,trivial,rfl,rfl,by dsimp only;omega,f,hf,by dsimp only;omega,(fun h=>by cases h),by simp;omega⟩
       rw[if_neg (by simp)]
       dsimp only
       split
       · omega
       · rename_i ht
         rcases hc with hc|hc
         · omega
         · exact absurd hc ht
     · exfalso
       rcases hc with hc|hc
       · omega
       · exact absurd hc (by assumption)
     · refine⟨by(try simp only[wN])<;>omega,(u / 10,UInt8.ofNat (48+u % 10)::t),?_,trivial,rfl,rfl,by dsimp only;omega,f,hf,by dsimp only;omega,(fun h=>by cases h),by simp;omega⟩
       rw[if_neg (by simp)]
       dsimp only
       split
       · omega
       · rename_i ht
         rcases hc with hc|hc
         · omega
         · exact absurd hc ht
   · have hu0:u=0:=o_
     have ht:t≠[]:=fun e=>hc (Or.inr e)
     have hR2:t=R:=by
      rw[← hf]
      cases f with
      |zero=>rfl
      |succ f=>rw[YJ,if_neg hc]
     subst hu0
     repeat' with_reducible first
      |refine s_ ?_
      |simp only[wZZ,seval,g0,g3,g4]
      |apply qa<;>intro h h_<;>(try simp only[wD,reduceCtorEq]at h_)<;>(try exact wb_)<;>(try simp only[h])
     refine qA rfl (Or.inr rfl) ?_
     simp only[wL,seval,g0,g3,g4]
     refine er_ ?_
     try(with_reducible rfl)
     exact hR2
theorem XH {b:Bool} {H:Nat→Option MObj} {v v':V} (h:Er b H v v'):Flat v'→v=v':=by
 induction h with
 |bool b=>intro _;rfl
 |int k n=>intro _;rfl
 |str s=>intro _;rfl
 | agg cs cs' hl h ih=>
   intro hf
   cases hf with
   | agg _ hf=>
     refine congrArg V.agg (List.ext_getElem? fun i=>?_)
     by_cases hi:i<cs.length
     · have hi2:i<cs'.length:=o_
       rw[ge_ hi,ge_ hi2]
       exact congrArg some (ih i _ _ (ge_ hi) (ge_ hi2) (hf _ (List.getElem_mem hi2)))
     · rw[List.getElem?_eq_none o_,List.getElem?_eq_none o_]
 | tup cs cs' hl h ih=>
   intro hf
   cases hf with
   | tup _ hf=>
     refine congrArg V.tup (List.ext_getElem? fun i=>?_)
     by_cases hi:i<cs.length
     · have hi2:i<cs'.length:=o_
       rw[ge_ hi,ge_ hi2]
       exact congrArg some (ih i _ _ (ge_ hi) (ge_ hi2) (hf _ (List.getElem_mem hi2)))
     · rw[List.getElem?_eq_none o_,List.getElem?_eq_none o_]
 |sl=>intro hf;cases hf
 |asl=>intro hf;cases hf
 |iptr=>intro hf;cases hf
 |msl=>intro hf;cases hf
 |ptr=>intro hf;cases hf
 |nilp=>intro _;rfl
 |nilfn=>intro _;rfl
 |nilmap=>intro _;rfl
 |nilifc=>intro _;rfl
 |fn=>intro hf;cases hf
 |ifc=>intro hf;cases hf
theorem qq0 {α:Type} {f:α→V} {z:Nat} {l:List α} {v:V} {k:IntKind} {i:Int} {x:α} {K:V→Prop} (h:ErP v (.sl z false (l.map f))) (hf: ∀a,Flat (f a)) (h0:0≤i) (hx:l[i.toNat]?=some x) (hk:K (.iptr z (f x) 0)):onS (jk z v (.int k i)) K:=by
 obtain ⟨es,h1,h2,h3⟩:=ErP.shape h
 rw[List.length_map]at h1
 have hi:i.toNat<l.length:=(List.getElem?_eq_some_iff.1 hx).1
 have he:es[i.toNat]?=some (f x):=by
  rw[ge_ o_]
  have:=h2 i.toNat _ _ (ge_ (show i.toNat<es.length by omega)) (by rw[List.getElem?_map,hx];rfl)
  exact congrArg some (XH this (hf x))
 rcases h3 with ⟨b,rfl⟩|⟨id,fin,rfl⟩
 · simp only[jk,idxOf,if_pos h0,he,↓reduceIte,Option.map_some,zN];exact hk
 · simp only[jk,idxOf,if_pos h0,he,↓reduceIte,Option.map_some,zN];exact hk
end Go.Proofs
