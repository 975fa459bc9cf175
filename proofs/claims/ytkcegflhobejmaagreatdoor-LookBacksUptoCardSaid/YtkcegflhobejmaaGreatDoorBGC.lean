/- Part of a proof that a law of the given program answers true. -/
import Derived.Test.YtkcegflhobejmaaGreatDoorBGB
set_option maxRecDepth 20000
set_option linter.unusedSimpArgs false
set_option linter.unusedVariables false
set_option maxHeartbeats 4000000
namespace Go.Proofs
open Go.E
abbrev Qd (src:Source) (st:List UInt8):List UInt8:=if st=[]then(src.rules.headD {}).left else st
abbrev firstM (M:Mk) (start:List UInt8):Mk:={M with prods:=[{left:=0,right:=[1001+qN start M.lefts 0],prec:= -1}]}
abbrev qgn (M:Mk) (start:List UInt8):V:= .agg [vi 0,.sl 1 true [vi (1001+qN start M.lefts 0)],vi (-1),.str [],.sl 1 true [],vi 0]
theorem qea {s0:St} {m ti gi:Nat} {src:Source} {vN vP vT vL:V} {M:Mk} {start:List UInt8} {E:EC} {Q:Exit→St→Prop} (h:OfAt s0 m src ti gi vN vP vT vL M) (f7:s0.f 7=.str start) (b2:M.lefts.length≤1000000000)
 (hQ: ∀s',OfAt s' m src ti gi vN (.sl 6 true [qgn M start]) vT vL (firstM M start)→s0.next≤s'.next→ewp Tryz.prog E Q s'):ewp Tryz.prog (.seq (.reg JU) E) Q s0:=by
 have hA0:=h
 have f1:=h.f1;have f2:=h.f2;have f6:=h.f6
 have hM:=h.at_;have hm:=hM.hm;have lm:=hM.lm;have lt:=hM.lt;have lg:=hM.lg;have ln:=h.ln
 obtain ⟨n1,n2,n3⟩:=hM.mt
 have hbd:=jU start M.lefts 0
 have hz:IntKind.i64.wrap (1001+qN start M.lefts 0)=1001+qN start M.lefts 0:=wrap64 o_ o_
 repeat' with_reducible first
  |refine yE ?_
  |simp -implicitDefEqProofs only[wZZ,seval,f1,f2,f6,f7,hm,hz]
  |apply zn (hp:=qE ?_);(focus(refine(hM.mono (Nat.le_refl _) (fun j hj=>?_)).er;(try simp only[wM]);(repeat rw[if_neg o_])));exact qj;exact wu_;exact Flat.int _ _;rotate_left;exact wf_
  |refine t_ ?_
 refine hQ _ (hA0.upd ⟨?_,?_,?_,hM.eN,?_,hM.eT,hM.eL,by simp only[wN]<;>omega,by simp only[wN]<;>omega,by simp only[wN]<;>omega,hM.len,hM.len3⟩ wl_ wl_ wl_ wh_ (fun j g1 g2 g3 g4 g5=>?_)) wh_
 · simp only[wM]
   repeat(first|rw[if_pos trivial]|rw[if_pos rfl]|rw[if_neg o_])
 · simp only[wM]
   repeat(first|rw[if_pos trivial]|rw[if_pos rfl]|rw[if_neg o_])
   exact hM.ht
 · simp only[wM]
   repeat(first|rw[if_pos trivial]|rw[if_pos rfl]|rw[if_neg o_])
   exact hM.hg
 · exact ErL.sl (.cons (ErL.agg (.cons (.int _ _) (.cons (ErL.sl (.cons (.int _ _) .nil)) (.cons (.int _ _) (.cons (.str _) (.cons (ErL.sl .nil) (.cons (.int _ _) .nil))))))) .nil)
 · simp only[wM]
   repeat(first|rw[if_pos trivial]|rw[if_pos rfl]|rw[if_neg o_])
theorem qcw {s0:St} {m ti gi:Nat} {src:Source} {vN vP vT vL:V} {M:Mk} {st:List UInt8} {E:EC} {Q:Exit→St→Prop} (h:OfAt s0 m src ti gi vN vP vT vL M) (f7:s0.f 7=.str st) (hr:0<src.rules.length)
 (hQ: ∀s',OfAt s' m src ti gi vN vP vT vL M→s'.f 7=.str (Qd src st)→s0.next≤s'.next→ewp Tryz.prog E Q s'):ewp Tryz.prog (.seq Ju E) Q s0:=by
 have hA0:=h
 have f1:=h.f1;have f2:=h.f2;have f6:=h.f6;have o0:=h.h0;have ln:=h.ln
 by_cases hs:st=[]
 · have hg:src.rules[(0:Int).toNat]?=some (src.rules.headD {}):=by
    cases hrs:src.rules with
    |nil=>rw[hrs]at hr;simp at hr
    |cons a r=>rfl
   have e:Qd src st=(src.rules.headD {}).left:=if_pos hs
   rw[e]at hQ
   repeat' with_reducible first
    |refine s_ ?_
    |simp -implicitDefEqProofs only[wZZ,seval,f1,f2,f6,f7,o0,hs]
    |refine t_ ?_
   exact hQ _ (hA0.mono wl_ wl_ wl_ wg_ (fun j hj=>by first|rfl|simp only[wM])) wl_ wh_
 · have e:Qd src st=st:=if_neg hs
   rw[e]at hQ
   repeat' with_reducible first
    |refine s_ ?_
    |simp -implicitDefEqProofs only[wZZ,seval,f1,f2,f6,f7,o0]
    |apply qa<;>intro h h_<;>(try simp only[wD,reduceCtorEq]at h_)<;>(try exact wb_)<;>(try simp only[h])
   exact hQ _ (hA0.mono wl_ wl_ wl_ wg_ (fun j hj=>by first|rfl|simp only[wM])) (by simp -implicitDefEqProofs only[wL,seval];exact f7) wh_
theorem qgv (M:Mk) (n:List UInt8) (a:Alt):(Xl M n a).lefts=M.lefts∧(Xl M n a).types=M.types∧(Xl M n a).nons=M.nons∧(Xl M n a).toks.length≤M.toks.length+a.parts.length+1∧M.toks.length≤(Xl M n a).toks.length∧M.inner≤(Xl M n a).inner∧(Xl M n a).inner≤M.inner+a.parts.length:=by
 rw[qem M n a _ _ rfl rfl]
 obtain ⟨h1,h2,h3,h4,h5,h6,h7,h8,h9,h10⟩:=J9 a.parts M {left:=1+qN n M.lefts 0,prec:= -1,at_:=a.at_}
 generalize zR a.parts (M,{left:=1+qN n M.lefts 0,prec:= -1,at_:=a.at_})=q at *
 generalize ({q.2 with prec:=xM q.2.right (-1)}:GPr).prec=pr
 obtain ⟨k1,k2,k3,k4,k5,k6,k7⟩:=qJw q.1 a.prec pr
 exact⟨k1.trans h1,k3.trans h2,k4.trans h3,by show (Js q.1 a.prec pr).1.toks.length≤_;omega,by show _≤(Js q.1 a.prec pr).1.toks.length;omega,by show _≤(Js q.1 a.prec pr).1.inner;omega,by show (Js q.1 a.prec pr).1.inner≤_;omega⟩
theorem qbB (n:List UInt8) (M:Mk):zW n [] M=M:=rfl
theorem yO (n:List UInt8) (a:Alt) (r:List Alt) (M:Mk):zW n (a::r) M=zW n r (Xl M n a):=by rw[zW]
theorem qdl (M:Mk):yS [] M=M:=rfl
theorem kS (r:Rule) (l:List Rule) (M:Mk):yS (r::l) M=yS l (zW r.left r.alts M):=by rw[yS]

abbrev qep (M M':Mk):Prop:=M'.lefts=M.lefts∧M'.types=M.types∧M'.nons=M.nons∧M.inner≤M'.inner∧M.toks.length≤M'.toks.length
theorem qeD {s0:St} {m ti gi i:Nat} {src:Source} {vN vP vT vL:V} {ps:List V} {M:Mk} {Q:Exit→St→Prop} (h:OfAt s0 m src ti gi vN vP vT vL M) (hP:Gr s0.H s0.next 6 ps vP) (heP:Ze ps (M.prods.map GPr.V)) (hi:i<src.rules.length) (f16:s0.f 16=vi i) (hS:Small src)
 (b1:M.toks.length≤10000000000) (b2:M.lefts.length≤1000000000) (b3:ps.length≤10000000000) (b4:0≤M.inner) (b5:M.inner≤10000000000)
 (hQ: ∀s' ti' gi' vP' ps',OfAt s' m src ti' gi' vN vP' vT vL (zW src.rules[i].left src.rules[i].alts M)→Gr s'.H s'.next 6 ps' vP'→Ze ps' ((zW src.rules[i].left src.rules[i].alts M).prods.map GPr.V)→s'.f 16=s0.f 16→s0.next≤s'.next→qep M (zW src.rules[i].left src.rules[i].alts M)→(zW src.rules[i].left src.rules[i].alts M).toks.length≤M.toks.length+1001000→ps'.length≤ps.length+1001000→(zW src.rules[i].left src.rules[i].alts M).inner≤M.inner+1000000→Q .normal s'):ewp Tryz.prog JN Q s0:=by
 generalize hR:zW src.rules[i].left src.rules[i].alts M=R at hQ
 have f1:=h.f1;have f2:=h.f2;have f6:=h.f6
 have hA0:=h
 have hrl:=hS.rl;have hal:=hS.ra _ (List.getElem_mem hi);have hpl:=hS.rp _ (List.getElem_mem hi);have hxl:=hS.rx _ (List.getElem_mem hi);have hql:=hS.rq _ (List.getElem_mem hi)
 repeat' with_reducible first
  |refine s_ ?_
  |simp -implicitDefEqProofs only[wZZ,seval,f1,f2,f6]
 refine qi ?nx7 (fun(z:Nat×Mk) s=>s.f 1=?v7_1∧s.f 2=?v7_2∧s.f 6=?v7_6∧s.f 16=?v7_16∧s.f 17=vi z.1∧(z.1≤src.rules[i].alts.length)∧((∃ti gi vP ps1,OfAt s m src ti gi vN vP vT vL z.2∧Gr s.H s.next 6 ps1 vP∧Ze ps1 (z.2.prods.map GPr.V)∧ps1.length≤ps.length+1001 *z.1))∧(zW src.rules[i].left (src.rules[i].alts.drop z.1) z.2=R)∧((qep M z.2))∧((z.2.toks.length≤M.toks.length+1001 *z.1))∧((z.2.inner≤M.inner+1000 *z.1))) (fun z=>src.rules[i].alts.length - z.1) ((0,M)) wj_ (by refine⟨?_,?_,?_,?_,?_,wo_,(by exact⟨ti,gi,vP,ps,hA0.mono wl_ wl_ wl_ wg_ (fun j hj=>by first|rfl|simp only[wM]),hP.mono wg_ (fun j h1 hj=>by first|rfl|simp only[wM]),heP,by dsimp only;omega⟩),(by exact hR),(by exact⟨rfl,rfl,rfl,Int.le_refl _,Nat.le_refl _⟩),(by dsimp only;omega),(by dsimp only;omega)⟩<;>first|(simp -implicitDefEqProofs only[wL,wM,wN,wX,seval,Option.some.injEq]<;>exact wt_)|rfl|exact⟨_,rfl⟩) ?_
 intro z s hnx ⟨g1,g2,g6,g16,g17,k7_0,k7_1,k7_2,k7_3,k7_4,k7_5⟩
 obtain ⟨k,M1⟩:=z
 dsimp only at g17 k7_0 k7_1 k7_2 k7_3 k7_4 k7_5
 obtain ⟨ti1,gi1,vP1,ps1,hA1,hP1,heP1,hl1⟩:=k7_1
 have g1:=hA1.f1;have g2:=hA1.f2;have g6:=hA1.f6;have o0:=hA1.h0;have ln:=hA1.ln
 have hM:=hA1.at_;have hm:=hM.hm;have lm:=hM.lm;have lt:=hM.lt;have lg:=hM.lg
 have hgd:src.rules[i]?=some src.rules[i]:=ge_ hi
 obtain ⟨sm1,sm2,sm3,sm4,sm5⟩:=k7_3
 by_cases hk:k<src.rules[i].alts.length
 · rw[List.drop_eq_getElem_cons hk,yO]at k7_2
   have hm1:=hpl _ (List.getElem_mem hk);have hm2:=hxl _ (List.getElem_mem hk);have hm3:=hql _ (List.getElem_mem hk)
   obtain ⟨y1,y2,y3,y4,y5,y6,y7⟩:=qgv M1 src.rules[i].left src.rules[i].alts[k]
   have hlf:M1.lefts.length≤274877906944:=by rw[sm1];omega
   repeat' with_reducible first
    |refine s_ ?_
    |simp -implicitDefEqProofs only[wZZ,seval,g1,g2,g6,g16,g17,g1,g2,g6,f16,g17,o0,hm]
    |apply qa<;>intro h h_<;>(try simp only[wD,reduceCtorEq]at h_)<;>(try exact wb_)<;>(try simp only[h])
    |(refine jg rfl rfl rfl ((qRS (hM.mono wh_ (fun j hj=>by simp only[wM])) (hP1.mono wh_ (fun j h1 hj=>by simp only[wM])) heP1 o_ hlf o_ o_ o_ o_ hm2 hm3).mono ?_);rintro v1 H1 n1 ⟨q1,⟨ti',gi',vP',ps',q2,q3,q4,q5,q7,q8⟩,q6⟩;(try simp only[wN]at q1))
    |refine t_ ?_
    |simp -implicitDefEqProofs (disch:=omega) only[w64,if_neg]
   have q6': ∀j,j<s.next→j≠m→j≠ti1→j≠gi1→(∀f,s.H j≠some (.tok f))→H1 j=s.H j:=fun j h1 h2 h3 h4 h5=>q6 j wh_ h2 h3 h4 (by simp only[wM];exact h5)
   refine⟨by(try simp only[wN])<;>omega,(k+1,Xl M1 src.rules[i].left src.rules[i].alts[k]),by dsimp only;omega,f1.symm,f2.symm,f6.symm,by first|trivial|rfl,rfl,by dsimp only;omega,⟨ti',gi',vP',ps',hA1.upd (q4.mono wg_ (fun j hj=>by first|rfl|simp only[wM])) wl_ wl_ wl_ wg_ (fun j h1 h2 h3 h4 h5=>(by(try simp only[wM]);exact q6' j h1 h2 h3 h4 h5)),q5.mono wg_ (fun j h1 hj=>by first|rfl|simp only[wM]),q7,by dsimp only;omega⟩,k7_2,⟨y1.trans sm1,y2.trans sm2,y3.trans sm3,Int.le_trans sm4 y6,Nat.le_trans sm5 y5⟩,by dsimp only;omega,by dsimp only;omega⟩
 · rw[List.drop_eq_nil_of_le o_,qbB]at k7_2
   subst k7_2
   repeat' with_reducible first
    |refine s_ ?_
    |simp -implicitDefEqProofs only[wZZ,seval,g1,g2,g6,g16,g17,g1,g2,g6,f16,g17,o0]
    |apply qa<;>intro h h_<;>(try simp only[wD,reduceCtorEq]at h_)<;>(try exact wb_)<;>(try simp only[h])
    |refine t_ ?_
   exact hQ _ ti1 gi1 vP1 ps1 (hA1.mono wl_ wl_ wl_ wg_ (fun j hj=>by first|rfl|simp only[wM])) (hP1.mono wg_ (fun j h1 hj=>by first|rfl|simp only[wM])) heP1 (by simp -implicitDefEqProofs only[wL,seval];exact g16) wh_ ⟨sm1,sm2,sm3,sm4,sm5⟩ o_ o_ o_
theorem qnL {s0:St} {m ti gi:Nat} {src:Source} {vN vP vT vL:V} {ps:List V} {M:Mk} {E:EC} {Q:Exit→St→Prop} (h:OfAt s0 m src ti gi vN vP vT vL M) (hP:Gr s0.H s0.next 6 ps vP) (heP:Ze ps (M.prods.map GPr.V)) (hS:Small src)
 (b1:M.toks.length≤1000000000) (b2:M.lefts.length≤1000000000) (b3:ps.length≤1000000000) (b4:0≤M.inner) (b5:M.inner≤1000000000)
 (hQ: ∀s' ti' gi' vP',OfAt s' m src ti' gi' vN vP' vT vL (yS src.rules M)→s0.next≤s'.next→qep M (yS src.rules M)→(yS src.rules M).toks.length≤M.toks.length+1001000000→(yS src.rules M).prods.length≤ps.length+1001000000→(yS src.rules M).inner≤M.inner+1000000000→ewp Tryz.prog E Q s'):ewp Tryz.prog (.seq JJ E) Q s0:=by
 generalize hR:yS src.rules M=R at hQ
 have f1:=h.f1;have f2:=h.f2;have f6:=h.f6
 have hA0:=h
 have hrl:=hS.rl
 repeat' with_reducible first
  |refine s_ ?_
  |simp -implicitDefEqProofs only[wZZ,seval,f1,f2,f6]
 refine qi ?nx6 (fun(z:Nat×Mk) s=>s.f 1=?v6_1∧s.f 2=?v6_2∧s.f 6=?v6_6∧s.f 16=vi z.1∧(z.1≤src.rules.length)∧((∃ti gi vP ps1,OfAt s m src ti gi vN vP vT vL z.2∧Gr s.H s.next 6 ps1 vP∧Ze ps1 (z.2.prods.map GPr.V)∧ps1.length≤ps.length+z.1 *1001000))∧(yS (src.rules.drop z.1) z.2=R)∧((qep M z.2))∧((z.2.toks.length≤M.toks.length+z.1 *1001000))∧((z.2.inner≤M.inner+1000 *(1000 *z.1)))) (fun z=>src.rules.length - z.1) ((0,M)) wj_ (by refine⟨?_,?_,?_,?_,wo_,(by exact⟨ti,gi,vP,ps,hA0.mono wl_ wl_ wl_ wg_ (fun j hj=>by first|rfl|simp only[wM]),hP.mono wg_ (fun j h1 hj=>by first|rfl|simp only[wM]),heP,by dsimp only;omega⟩),(by exact hR),(by exact⟨rfl,rfl,rfl,Int.le_refl _,Nat.le_refl _⟩),(by dsimp only;omega),(by dsimp only;omega)⟩<;>first|(simp -implicitDefEqProofs only[wL,wM,wN,wX,seval,Option.some.injEq]<;>exact wt_)|rfl|exact⟨_,rfl⟩) ?_
 intro z s hnx ⟨g1,g2,g6,g16,k6_0,k6_1,k6_2,k6_3,k6_4,k6_5⟩
 obtain ⟨i,M1⟩:=z
 dsimp only at g16 k6_0 k6_1 k6_2 k6_3 k6_4 k6_5
 obtain ⟨ti1,gi1,vP1,ps1,hA1,hP1,heP1,hl1⟩:=k6_1
 have g1:=hA1.f1;have g2:=hA1.f2;have g6:=hA1.f6;have o0:=hA1.h0;have ln:=hA1.ln
 obtain ⟨sm1,sm2,sm3,sm4,sm5⟩:=k6_3
 by_cases hi:i<src.rules.length
 · rw[List.drop_eq_getElem_cons hi,kS]at k6_2
   have hgd:src.rules[i]?=some src.rules[i]:=ge_ hi
   have T: ∀(s':St) (Q:Exit→St→Prop),OfAt s' m src ti1 gi1 vN vP1 vT vL M1→Gr s'.H s'.next 6 ps1 vP1→s'.f 16=vi i→(∀s2 ti' gi' vP' ps',OfAt s2 m src ti' gi' vN vP' vT vL (zW src.rules[i].left src.rules[i].alts M1)→Gr s2.H s2.next 6 ps' vP'→Ze ps' ((zW src.rules[i].left src.rules[i].alts M1).prods.map GPr.V)→s2.f 16=s'.f 16→s'.next≤s2.next→qep M1 (zW src.rules[i].left src.rules[i].alts M1)→(zW src.rules[i].left src.rules[i].alts M1).toks.length≤M1.toks.length+1001000→ps'.length≤ps1.length+1001000→(zW src.rules[i].left src.rules[i].alts M1).inner≤M1.inner+1000000→Q .normal s2)→ewp Tryz.prog JN Q s':=
    fun s' Q q1 q2 q3 q4=>qeD q1 q2 heP1 hi q3 hS o_ (by rw[sm1];omega) o_ o_ o_ q4
   show ewp _ (.seq qen (.seq (.block 11 JN) (.reg qek))) _ _
   generalize JN=E120 at T
   generalize hG:zW src.rules[i].left src.rules[i].alts M1=G at T k6_2
   repeat' with_reducible first
    |refine s_ ?_
    |simp -implicitDefEqProofs only[wZZ,seval,g1,g2,g6,g16,g1,g2,g6,g16,o0]
    |apply qa<;>intro h h_<;>(try simp only[wD,reduceCtorEq]at h_)<;>(try exact wb_)<;>(try simp only[h])
    |refine t_ ?_
   refine T _ _ (hA1.mono wl_ wl_ wl_ wg_ (fun j hj=>by first|rfl|simp only[wM])) (hP1.mono wg_ (fun j h1 hj=>by first|rfl|simp only[wM])) (by simp -implicitDefEqProofs only[wL,seval,g16]) (fun s2 ti' gi' vP' ps' r1 r2 r3 r4 r5 r6 r7 r8 r9=>?_)
   have h16:s2.f 16=vi i:=r4.trans (by simp -implicitDefEqProofs only[wL,seval,g16])
   (try simp only[wN]at r5)
   obtain ⟨y1,y2,y3,y6,y5⟩:=r6
   repeat' with_reducible first
    |refine s_ ?_
    |simp -implicitDefEqProofs only[wZZ,seval,g1,g2,g6,g16,h16]
    |simp -implicitDefEqProofs (disch:=omega) only[w64,if_neg]
   refine⟨by(try simp only[wN])<;>omega,(i+1,G),by dsimp only;omega,by rw[f1];exact r1.f1,by rw[f2];exact r1.f2,by rw[f6];exact r1.f6,rfl,by dsimp only;omega,⟨ti',gi',vP',ps',r1.mono wl_ wl_ wl_ wg_ (fun j hj=>by first|rfl|simp only[wM]),r2.mono wg_ (fun j h1 hj=>by first|rfl|simp only[wM]),r3,by dsimp only;omega⟩,k6_2,⟨y1.trans sm1,y2.trans sm2,y3.trans sm3,Int.le_trans sm4 y6,Nat.le_trans sm5 y5⟩,by dsimp only;omega,by dsimp only;omega⟩
 · rw[List.drop_eq_nil_of_le o_,qdl]at k6_2
   subst k6_2
   have hlp:=heP1.len
   rw[List.length_map]at hlp
   repeat' with_reducible first
    |refine s_ ?_
    |simp -implicitDefEqProofs only[wZZ,seval,g1,g2,g6,g16,g1,g2,g6,g16,o0]
    |apply qa<;>intro h h_<;>(try simp only[wD,reduceCtorEq]at h_)<;>(try exact wb_)<;>(try simp only[h])
    |refine t_ ?_
   exact hQ _ ti1 gi1 vP1 (hA1.mono wl_ wl_ wl_ wg_ (fun j hj=>by first|rfl|simp only[wM])) wh_ ⟨sm1,sm2,sm3,sm4,sm5⟩ o_ o_ o_

set_option maxRecDepth 10000
def Xj:Nat→Nat→List UInt8→List UInt8
 |0,_,s=>s
 |f+1,u,s=>if 0<u∨s=[]then Xj f (u / 10) (UInt8.ofNat (48+u % 10)::s)else s
def qAf:Nat→Nat
 |0=>1
 |n+1=>10 *qAf n
def qfX (n:Nat):List UInt8:=Xj 25 n []
theorem Vf: ∀(f u:Nat) (s:List UInt8),(Xj f u s).length≤s.length+f
 |0,_,s=>by unfold Xj;omega
 | f +1,u,s=>by
   unfold Xj;split
   · have:=Vf f (u / 10) (UInt8.ofNat (48+u % 10)::s)
     rw[List.length_cons]at this;omega
   · omega
theorem ZM {n:Nat} (hn:n≤4611686018427387904):Pure Tryz.prog 105 [vi n] (.str (qfX n)):=by
 refine pure_intro Tryz.func105 nm_ qnJ (by show 1≤32;decide) ?_
 show ewp _ qb3 _ _
 have e:qfX n=Xj 25 n []:=rfl
 rw[e]
 generalize hR:Xj 25 n []=R
 have hz:IntKind.u64.wrap (n:Int)=(n:Int):=qsL o_ o_
 repeat' with_reducible first
  |refine s_ ?_
  |simp -implicitDefEqProofs only[wZZ,seval,hz]
  |apply qa<;>intro h h_<;>(try simp only[wD,reduceCtorEq]at h_)<;>(try exact wb_)<;>(try simp only[h])
 refine qi ?nx1 (fun(z:Nat×List UInt8) s=>s.f 0=?v1_0∧s.f 3=.int .u64 z.1∧s.f 4=.str z.2∧(z.1≤n)∧((∃f,Xj f z.1 z.2=R∧z.1<qAf f∧(z.2=[]→0<f)∧z.2.length+f≤25))) (fun z=>(if z.2=[]then z.1+1 else z.1)) ((n,[])) wj_ (by refine⟨?_,?_,?_,wo_,(by exact⟨25,hR,by have e:qAf 25=10000000000000000000000000:=(by decide);rw[e];dsimp only;omega,fun _=>by omega,by simp⟩)⟩<;>first|(simp -implicitDefEqProofs only[wL,wM,wN,wX,seval,Option.some.injEq]<;>exact wt_)|rfl|exact⟨_,rfl⟩) ?_
 intro z s hnx ⟨g0,g3,g4,k1_0,k1_1⟩
 · obtain ⟨u,t⟩:=z
   dsimp only at *
   obtain ⟨f,hf,hu,h0,hl⟩:=k1_1
   by_cases hc:0<u∨t=[]
   · obtain ⟨f,rfl⟩: ∃m,f=m+1:=⟨f - 1,by
      rcases hc with hc|hc
      · cases f with
        |zero=>simp[qAf]at hu;omega
        |succ f=>omega
      · have:=h0 hc;omega⟩
     rw[qAf]at hu
     rw[Xj,if_pos hc]at hf
     have hm:(u:Int).tmod 10=((u % 10:Nat):Int):=by rw[Int.tmod_eq_emod_of_nonneg o_];omega
     have hd:(u:Int).tdiv 10=((u / 10:Nat):Int):=by rw[Int.tdiv_eq_ediv_of_nonneg o_];omega
     have hd2:IntKind.u64.wrap ((u / 10:Nat):Int)=((u / 10:Nat):Int):=qsL o_ o_
     have ha:IntKind.u64.wrap (48+((u % 10:Nat):Int))=((48+u % 10:Nat):Int):=by rw[qsL o_ o_];omega
     have hb:IntKind.u8.wrap ((48+u % 10:Nat):Int)=((48+u % 10:Nat):Int):=by
      unfold IntKind.wrap
      have e1:((2:Int) ^ IntKind.bits .u8)=256:=by decide
      have e3:IntKind.signed .u8=false:=rfl
      simp only[e1,e3,Bool.false_and]
      simp;omega
     repeat' with_reducible first
      |refine s_ ?_
      |simp -implicitDefEqProofs only[wZZ,seval,g0,g3,g4,hm,hd,hd2,ha,hb]
      |(first|apply qa|apply qJ|apply qK)<;>intro h h_<;>(try simp only[wD,reduceCtorEq]at h_)<;>(try exact wb_)<;>(try simp only[h])
      |apply qB;(focus(first|omega|(simp only[wZ]<;>omega)))
      |apply qEW;omega;omega
     · refine⟨by(try simp only[wN])<;>omega,(u / 10,UInt8.ofNat (48+u % 10)::t),?_,trivial,rfl,rfl,by dsimp only;omega,f,hf,by dsimp only;omega,(fun h=>by cases h),by simp;omega⟩
       rw[if_neg (by simp)]
       dsimp only
       split
       · omega
       · rename_i ht
         rcases hc with hc|hc
         · omega
         · exact absurd hc ht
     · exfalso
       rcases hc with hc|hc
       · omega
       · exact absurd hc (by assumption)
     · refine⟨by(try simp only[wN])<;>omega,(u / 10,UInt8.ofNat (48+u % 10)::t),?_,trivial,rfl,rfl,by dsimp only;omega,f,hf,by dsimp only;omega,(fun h=>by cases h),by simp;omega⟩
       rw[if_neg (by simp)]
       dsimp only
       split
       · omega
       · rename_i ht
         rcases hc with hc|hc
         · omega
         · exact absurd hc ht
   · have hu0:u=0:=o_
     have ht:t≠[]:=fun e=>hc (Or.inr e)
     have hR2:t=R:=by
      rw[← hf]
      cases f with
      |zero=>rfl
      |succ f=>rw[Xj,if_neg hc]
     subst hu0
     repeat' with_reducible first
      |refine s_ ?_
      |simp -implicitDefEqProofs only[wZZ,seval,g0,g3,g4]
      |apply qa<;>intro h h_<;>(try simp only[wD,reduceCtorEq]at h_)<;>(try exact wb_)<;>(try simp only[h])
     refine qF rfl (Or.inr rfl) ?_
     simp -implicitDefEqProofs only[wL,seval,g0,g3,g4]
     refine er_ ?_
     try(with_reducible rfl)
     exact hR2
theorem Jl {b:Bool} {H:Nat→Option MObj} {v v':V} (h:Er b H v v'):Flat v'→v=v':=by
 induction h with
 |bool b=>intro _;rfl
 |int k n=>intro _;rfl
 |str s=>intro _;rfl
 | agg cs cs' hl h ih=>
   intro hf
   cases hf with
   | agg _ hf=>
     refine congrArg V.agg (List.ext_getElem? fun i=>?_)
     by_cases hi:i<cs.length
     · have hi2:i<cs'.length:=o_
       rw[ge_ hi,ge_ hi2]
       exact congrArg some (ih i _ _ (ge_ hi) (ge_ hi2) (hf _ (List.getElem_mem hi2)))
     · rw[List.getElem?_eq_none o_,List.getElem?_eq_none o_]
 | tup cs cs' hl h ih=>
   intro hf
   cases hf with
   | tup _ hf=>
     refine congrArg V.tup (List.ext_getElem? fun i=>?_)
     by_cases hi:i<cs.length
     · have hi2:i<cs'.length:=o_
       rw[ge_ hi,ge_ hi2]
       exact congrArg some (ih i _ _ (ge_ hi) (ge_ hi2) (hf _ (List.getElem_mem hi2)))
     · rw[List.getElem?_eq_none o_,List.getElem?_eq_none o_]
 |sl=>intro hf;cases hf
 |asl=>intro hf;cases hf
 |iptr=>intro hf;cases hf
 |msl=>intro hf;cases hf
 |ptr=>intro hf;cases hf
 |nilp=>intro _;rfl
 |nilfn=>intro _;rfl
 |nilmap=>intro _;rfl
 |nilifc=>intro _;rfl
 |fn=>intro hf;cases hf
 |ifc=>intro hf;cases hf
 |mp=>intro hf;cases hf
 |mapo=>intro hf;cases hf
 |mfn=>intro hf;cases hf
theorem qqM {α:Type} {f:α→V} {z:Nat} {l:List α} {v:V} {k:IntKind} {i:Int} {x:α} {K:V→Prop} (h:ErP v (.sl z false (l.map f))) (hf: ∀a,Flat (f a)) (h0:0≤i) (hx:l[i.toNat]?=some x) (hk:K (.iptr z (f x) 0)):onS (z8 z v (.int k i)) K:=by
 obtain ⟨es,h1,h2,h3⟩:=ErP.shape h
 rw[List.length_map]at h1
 have hi:i.toNat<l.length:=(List.getElem?_eq_some_iff.1 hx).1
 have he:es[i.toNat]?=some (f x):=by
  rw[ge_ o_]
  have:=h2 i.toNat _ _ (ge_ (show i.toNat<es.length by omega)) (by rw[List.getElem?_map,hx];rfl)
  exact congrArg some (Jl this (hf x))
 rcases h3 with ⟨b,rfl⟩|⟨id,fin,rfl⟩
 · simp only[z8,idxOf,if_pos h0,he,↓reduceIte,Option.map_some,zH];exact hk
 · simp only[z8,idxOf,if_pos h0,he,↓reduceIte,Option.map_some,zH];exact hk

set_option maxRecDepth 20000
abbrev qeI (M:Mk) (x:Non):Mk:={M with nons:=M.nons++[x]}
theorem qav (s:List UInt8):Flat (.str s):= .str s
theorem qe8 (x:Non):Flat (Non.V x):= .agg _ (fun c hc=>by
 simp at hc;rcases hc with rfl|rfl<;>exact .str _)
theorem OfAt.non {s s':St} {m:Nat} {src:Source} {ti gi id:Nat} {vN vP vT vL:V} {M:Mk} {x:Non} (h:OfAt s m src ti gi vN vP vT vL M) (hN:Gr s.H s.next 2 (M.nons.map Non.V) vN)
 (f1:s'.f 1=s.f 1) (f2:s'.f 2=s.f 2) (f6:s'.f 6=s.f 6) (hn:s.next≤s'.next) (hid:s.next≤id) (hid2:id<s'.next)
 (hm:s'.H m=some (.own 13 [mkC ti gi (.asl id (M.nons.length+1) 2 ((M.nons++[x]).map Non.V)) vP vT vL (qeI M x)] false)) (ht:s'.H id=some (.tok (M.nons.length+1))) (hH: ∀j,j<s.next→j≠m→gid vN≠some j→s'.H j=s.H j):
 OfAt s' m src ti gi (.asl id (M.nons.length+1) 2 ((M.nons++[x]).map Non.V)) vP vT vL (qeI M x)∧Gr s'.H s'.next 2 ((qeI M x).nons.map Non.V) (.asl id (M.nons.length+1) 2 ((M.nons++[x]).map Non.V)):=by
 have hM:=h.at_;have lm:=hM.lm;have lt:=hM.lt;have lg:=hM.lg
 obtain ⟨n1,n2,n3⟩:=hM.mt
 obtain ⟨c1,c2,c3⟩:=hM.nt
 refine⟨h.upd ⟨hm,by rw[hH ti lt n1 (hN.ne c2)];exact hM.ht,by rw[hH gi lg n2 (hN.ne c3)];exact hM.hg,zF,hM.eP,hM.eT,hM.eL,o_,o_,o_,hM.len,hM.len3⟩ f1 f2 f6 hn (fun j h1 h2 h3 h4 h5=>hH j h1 h2 (hN.ne h5)),Gr.tok ht hid2⟩
theorem Va (t:List Non):xX t []=[]:=rfl
abbrev qhr (types:List Non) (n:List UInt8):Non:={name:=n,tag:=if 0≤xZ n types 0 then(types.getD (xZ n types 0).toNat {}).tag else[]}
theorem qa5 (t:List Non) (l:List (List UInt8)) (n:List UInt8):xX t (l++[n])=xX t l++[qhr t n]:=by
 induction l with
 |nil=>rfl
 |cons a r ih=>rw[List.cons_append,xX,ih];rfl
theorem Jm (t:List Non) (l:List (List UInt8)):(xX t l).length=l.length:=by
 induction l with
 |nil=>rfl
 |cons a r ih=>rw[xX,List.length_cons,ih,List.length_cons]
abbrev Yy (M:Mk) (i:Nat):Mk:={M with nons:=M.nons++xX M.types (M.lefts.take i)}
theorem qta {s0:St} {m ti gi:Nat} {src:Source} {vN vP vT vL:V} {M:Mk} {E:EC} {Q:Exit→St→Prop} (h:OfAt s0 m src ti gi vN vP vT vL M) (hN:Gr s0.H s0.next 2 (M.nons.map Non.V) vN) (b1:M.lefts.length≤1000000000) (b2:M.types.length≤1000000000) (b3:M.nons.length≤10)
 (hQ: ∀s' vN',OfAt s' m src ti gi vN' vP vT vL {M with nons:=M.nons++xX M.types M.lefts}→Gr s'.H s'.next 2 ((M.nons++xX M.types M.lefts).map Non.V) vN'→ewp Tryz.prog E Q s'):ewp Tryz.prog (.seq yJ E) Q s0:=by
 have hA0:=h
 have f1:=h.f1;have f2:=h.f2;have f6:=h.f6
 have hLl:Qx vL=some (.int .i64 (M.lefts.length:Int)):=by have:=ErP.Qx h.at_.eL;rwa [List.length_map]at this
 have eL:=h.at_.eL;have eT:=h.at_.eT
 repeat' with_reducible first
  |refine s_ ?_
  |simp -implicitDefEqProofs only[wZZ,seval,f1,f2,f6]
 refine qi ?nx8 (fun(i:Nat) s=>s.f 1=?v8_1∧s.f 2=?v8_2∧s.f 6=?v8_6∧s.f 18=vi i∧(i≤M.lefts.length)∧((∃vN,OfAt s m src ti gi vN vP vT vL (Yy M i)∧Gr s.H s.next 2 ((M.nons++xX M.types (M.lefts.take i)).map Non.V) vN))) (fun i=>M.lefts.length - i) (0) wj_ (by refine⟨?_,?_,?_,?_,wo_,(by exact⟨vN,(by have e:Yy M 0=M:=(by unfold Yy;rw[List.take_zero,Va,List.append_nil]);rw[e];exact hA0.mono wl_ wl_ wl_ wg_ (fun j hj=>by first|rfl|simp only[wM])),(by rw[List.take_zero,Va,List.append_nil];exact hN.mono wg_ (fun j h1 hj=>by first|rfl|simp only[wM]))⟩)⟩<;>first|(simp -implicitDefEqProofs only[wL,wM,wN,wX,seval,Option.some.injEq]<;>exact wt_)|rfl|exact⟨_,rfl⟩) ?_
 intro i s hnx ⟨g1,g2,g6,g18,k8_0,k8_1⟩
 obtain ⟨vN1,hA1,hN1⟩:=k8_1
 have g1:=hA1.f1;have g2:=hA1.f2;have g6:=hA1.f6;have ln:=hA1.ln
 have hM:=hA1.at_;have lm:=hM.lm;have lt:=hM.lt;have lg:=hM.lg
 have hm:s.H m=some (.own 13 [mkC ti gi vN1 vP vT vL M] false):=hM.hm
 obtain ⟨n1,n2,n3⟩:=hM.mt
 obtain ⟨c1,c2,c3⟩:=hM.nt
 have d1:=hN1.ne c1
 have hlen:(xX M.types (M.lefts.take i)).length=i:=by rw[Jm,List.length_take];omega
 by_cases hi:i<M.lefts.length
 · have ht2:xX M.types (M.lefts.take (i+1))=xX M.types (M.lefts.take i)++[qhr M.types M.lefts[i]]:=by rw[List.take_add_one,ge_ hi];exact qa5 _ _ _
   have hnx2:Yy M (i+1)=qeI (Yy M i) (qhr M.types M.lefts[i]):=by unfold Yy qeI;rw[ht2,List.append_assoc]
   have hnl2:M.nons++xX M.types (M.lefts.take (i+1))=(qeI (Yy M i) (qhr M.types M.lefts[i])).nons:=by rw[ht2,← List.append_assoc]
   by_cases hk:0≤xZ M.lefts[i] M.types 0
   · have hbd:=qaJ M.lefts[i] M.types 0
     obtain ⟨k,hk2⟩: ∃k:Nat,xZ M.lefts[i] M.types 0=k:=⟨(xZ M.lefts[i] M.types 0).toNat,o_⟩
     have hkl:k<M.types.length:=o_
     have hxe:qhr M.types M.lefts[i]={name:=M.lefts[i],tag:=M.types[k].tag}:=by
      unfold qhr;rw[if_pos hk,hk2];simp[List.getD,hkl]
     rw[hxe]at hnx2 hnl2
     repeat' with_reducible first
      |refine s_ ?_
      |simp -implicitDefEqProofs only[wZZ,seval,g1,g2,g6,g18,g1,g2,g6,g18,hm,hLl,hk2,qb d1]
      |apply qa<;>intro h h_<;>(try simp only[wD,reduceCtorEq]at h_)<;>(try exact wb_)<;>(try simp only[h])
      |apply zn (hp:=zG ?_);(focus(refine(hM.mono (Nat.le_refl _) (fun j hj=>?_)).er;(try simp only[wM]);(repeat rw[if_neg o_])));exact qj;exact wu_;exact Flat.int _ _;rotate_left;exact wf_
      |apply qX rfl (hN1.mono (Nat.le_refl _) (fun id h1 h2=>by(try simp only[wM]);(repeat rw[if_neg o_])));(focus(first|exact qc.sl|exact qc.asl));(focus(simp only[wZ]<;>omega));(focus(unfold maxLen;simp only[wZ]<;>omega))
      |apply qqM eL qav;omega;(focus(first|assumption|exact ge_ o_))
      |apply qqM eT qe8;omega;(focus(first|assumption|exact ge_ o_))
      |refine t_ ?_
      |simp -implicitDefEqProofs (disch:=omega) only[w64,if_neg]
     refine⟨by(try simp only[wN])<;>omega,i+1,o_,f1.symm,f2.symm,f6.symm,rfl,o_,?_⟩
     rw[hnx2,hnl2]
     refine⟨_,hA1.non (id:=s.next+7+10+5+2+10+8) hN1 wl_ wl_ wl_ wg_ o_ wg_ ?_ ?_ (fun j h1 h2 h3=>?_)⟩
     · simp only[wM]
       repeat(first|rw[if_pos trivial]|rw[if_pos rfl]|rw[if_neg o_]|simp only[wM]|rw[qb d1])
       simp
     · simp only[wM]
       repeat(first|rw[if_pos trivial]|rw[if_pos rfl]|rw[if_neg o_]|simp only[wM])
     · simp only[wM]
       repeat(first|rw[if_pos trivial]|rw[if_pos rfl]|rw[if_neg o_]|simp only[wM]|rw[qb h3])
   · have hxe:qhr M.types M.lefts[i]={name:=M.lefts[i]}:=by
      unfold qhr;rw[if_neg hk]
     rw[hxe]at hnx2 hnl2
     repeat' with_reducible first
      |refine s_ ?_
      |simp -implicitDefEqProofs only[wZZ,seval,g1,g2,g6,g18,g1,g2,g6,g18,hm,hLl,qb d1]
      |apply qa<;>intro h h_<;>(try simp only[wD,reduceCtorEq]at h_)<;>(try exact wb_)<;>(try simp only[h])
      |apply zn (hp:=zG ?_);(focus(refine(hM.mono (Nat.le_refl _) (fun j hj=>?_)).er;(try simp only[wM]);(repeat rw[if_neg o_])));exact qj;exact wu_;exact Flat.int _ _;rotate_left;exact wf_
      |apply qX rfl (hN1.mono (Nat.le_refl _) (fun id h1 h2=>by(try simp only[wM]);(repeat rw[if_neg o_])));(focus(first|exact qc.sl|exact qc.asl));(focus(simp only[wZ]<;>omega));(focus(unfold maxLen;simp only[wZ]<;>omega))
      |apply qqM eL qav;omega;(focus(first|assumption|exact ge_ o_))
      |refine t_ ?_
      |simp -implicitDefEqProofs (disch:=omega) only[w64,if_neg]
     refine⟨by(try simp only[wN])<;>omega,i+1,o_,f1.symm,f2.symm,f6.symm,rfl,o_,?_⟩
     rw[hnx2,hnl2]
     refine⟨_,hA1.non (id:=s.next+7+10+5+2+8) hN1 wl_ wl_ wl_ wg_ o_ wg_ ?_ ?_ (fun j h1 h2 h3=>?_)⟩
     · simp only[wM]
       repeat(first|rw[if_pos trivial]|rw[if_pos rfl]|rw[if_neg o_]|simp only[wM]|rw[qb d1])
       simp
     · simp only[wM]
       repeat(first|rw[if_pos trivial]|rw[if_pos rfl]|rw[if_neg o_]|simp only[wM])
     · simp only[wM]
       repeat(first|rw[if_pos trivial]|rw[if_pos rfl]|rw[if_neg o_]|simp only[wM]|rw[qb h3])
 · have e:Yy M i={M with nons:=M.nons++xX M.types M.lefts}:=by unfold Yy;rw[List.take_of_length_le o_]
   rw[e]at hA1
   rw[List.take_of_length_le o_]at hN1
   repeat' with_reducible first
    |refine s_ ?_
    |simp -implicitDefEqProofs only[wZZ,seval,g1,g2,g6,g18,g1,g2,g6,g18,hm,hLl]
    |apply qa<;>intro h h_<;>(try simp only[wD,reduceCtorEq]at h_)<;>(try exact wb_)<;>(try simp only[h])
    |refine t_ ?_
   exact hQ _ vN1 (hA1.mono wl_ wl_ wl_ wg_ (fun j hj=>by first|rfl|simp only[wM])) (hN1.mono wg_ (fun j h1 hj=>by first|rfl|simp only[wM]))

def qaK (n:Nat):List Non:=(List.range n).map fun k=>{name:=64::qfX (k+1)}
theorem YZ (n:Nat):qaK (n+1)=qaK n++[{name:=64::qfX (n+1)}]:=by unfold qaK;rw[List.range_succ,List.map_append];rfl
theorem qaa (n:Nat):(qaK n).length=n:=by simp[qaK]
theorem qeN (n:Nat):(qfX n).length≤25:=by have:=Vf 25 n [];simpa[qfX]using this
abbrev qew (M:Mk) (i:Nat):Mk:={M with nons:=M.nons++qaK i}
theorem qs9 {s0:St} {m ti gi n:Nat} {src:Source} {vN vP vT vL:V} {M:Mk} {E:EC} {Q:Exit→St→Prop} (h:OfAt s0 m src ti gi vN vP vT vL M) (hN:Gr s0.H s0.next 2 (M.nons.map Non.V) vN) (b1:M.nons.length≤1000000000) (hi:M.inner=n) (b2:n≤2000000000)
 (hQ: ∀s' vN',OfAt s' m src ti gi vN' vP vT vL (qew M n)→ewp Tryz.prog E Q s'):ewp Tryz.prog (.seq yC E) Q s0:=by
 have hA0:=h
 have f1:=h.f1;have f2:=h.f2;have f6:=h.f6
 repeat' with_reducible first
  |refine s_ ?_
  |simp -implicitDefEqProofs only[wZZ,seval,f1,f2,f6]
 refine qi ?nx9 (fun(i:Nat) s=>s.f 1=?v9_1∧s.f 2=?v9_2∧s.f 6=?v9_6∧s.f 21=vi i∧(1≤i)∧(i≤n+1)∧((∃vN,OfAt s m src ti gi vN vP vT vL (qew M (i - 1))∧Gr s.H s.next 2 ((M.nons++qaK (i - 1)).map Non.V) vN))) (fun i=>n+1 - i) (1) wj_ (by refine⟨?_,?_,?_,?_,wo_,wo_,(by exact⟨vN,(by have e:qew M (1 - 1)=M:=(by show {M with nons:=M.nons++qaK 0}=M;unfold qaK;simp);rw[e];exact hA0.mono wl_ wl_ wl_ wg_ (fun j hj=>by first|rfl|simp only[wM])),(by have e:M.nons++qaK (1 - 1)=M.nons:=(by unfold qaK;simp);rw[e];exact hN.mono wg_ (fun j h1 hj=>by first|rfl|simp only[wM]))⟩)⟩<;>first|(simp -implicitDefEqProofs only[wL,wM,wN,wX,seval,Option.some.injEq]<;>exact wt_)|rfl|exact⟨_,rfl⟩) ?_
 intro i s hnx ⟨g1,g2,g6,g21,k9_0,k9_1,k9_2⟩
 obtain ⟨vN1,hA1,hN1⟩:=k9_2
 have g1:=hA1.f1;have g2:=hA1.f2;have g6:=hA1.f6;have ln:=hA1.ln
 have hM:=hA1.at_;have lm:=hM.lm;have lt:=hM.lt;have lg:=hM.lg
 have hm:s.H m=some (.own 13 [mkC ti gi vN1 vP vT vL M] false):=hM.hm
 obtain ⟨n1,n2,n3⟩:=hM.mt
 obtain ⟨c1,c2,c3⟩:=hM.nt
 have d1:=hN1.ne c1
 have hlen:=qaa (i - 1)
 by_cases hk:i≤n
 · obtain ⟨j,rfl⟩: ∃j,i=j+1:=⟨i - 1,o_⟩
   have ej:j+1 - 1=j:=rfl
   rw[ej]at hA1 hN1 hlen
   have hdl:=qeN (j+1)
   have hnx2:qew M (j+1+1 - 1)=qeI (qew M j) {name:=64::qfX (j+1)}:=by
    show ({M with nons:=M.nons++qaK (j+1)}:Mk)=_
    unfold qeI qew;rw[YZ,List.append_assoc]
   have hnl2:M.nons++qaK (j+1+1 - 1)=(qeI (qew M j) {name:=64::qfX (j+1)}).nons:=by
    show M.nons++qaK (j+1)=_
    rw[YZ,← List.append_assoc]
   have hz:IntKind.i64.wrap ((j+1+1:Nat):Int)=((j+1+1:Nat):Int):=wrap64 o_ o_
   repeat' with_reducible first
    |refine s_ ?_
    |simp -implicitDefEqProofs only[wZZ,seval,g1,g2,g6,g21,g1,g2,g6,g21,hm,hi,qb d1,hz]
    |apply qa<;>intro h h_<;>(try simp only[wD,reduceCtorEq]at h_)<;>(try exact wb_)<;>(try simp only[h])
    |apply qX rfl (hN1.mono (Nat.le_refl _) (fun id h1 h2=>by(try simp only[wM]);(repeat rw[if_neg o_])));(focus(first|exact qc.sl|exact qc.asl));(focus(simp only[wZ]<;>omega));(focus(unfold maxLen;simp only[wZ]<;>omega))
    |refine t_ ?_
    |apply qB;(focus(first|omega|(simp only[wZ]<;>omega)))
    |refine zf we_ (ZM wf_) ?_
    |simp -implicitDefEqProofs (disch:=omega) only[w64,if_neg]
   refine⟨by(try simp only[wN])<;>omega,j+1+1,o_,f1.symm,f2.symm,f6.symm,rfl,o_,o_,?_⟩
   rw[hnx2,hnl2]
   refine⟨_,hA1.non (id:=s.next+6+11) hN1 wl_ wl_ wl_ wg_ o_ wg_ ?_ ?_ (fun j h1 h2 h3=>?_)⟩
   · simp only[wM]
     repeat(first|rw[if_pos trivial]|rw[if_pos rfl]|rw[if_neg o_]|simp only[wM]|rw[qb d1])
     simp[hi]
   · simp only[wM]
     repeat(first|rw[if_pos trivial]|rw[if_pos rfl]|rw[if_neg o_]|simp only[wM])
   · simp only[wM]
     repeat(first|rw[if_pos trivial]|rw[if_pos rfl]|rw[if_neg o_]|simp only[wM]|rw[qb h3])
 · have e:i - 1=n:=o_
   rw[e]at hA1
   repeat' with_reducible first
    |refine s_ ?_
    |simp -implicitDefEqProofs only[wZZ,seval,g1,g2,g6,g21,g1,g2,g6,g21,hm,hi]
    |apply qa<;>intro h h_<;>(try simp only[wD,reduceCtorEq]at h_)<;>(try exact wb_)<;>(try simp only[h])
    |refine t_ ?_
   exact hQ _ vN1 (hA1.mono wl_ wl_ wl_ wg_ (fun j hj=>by first|rfl|simp only[wM]))
def Yi (given:List Bool):Nat→Nat→List Tok×Int→List Tok×Int
 |0,_,q=>q
 |f+1,i,(l,n)=>Yi given f (i+1) (if given.getD i false=true then(l,n)else(l.set i {l.getD i {} with num:=n},n+1))
theorem XD (given:List Bool) (f i:Nat) (l:List Tok) (n:Int):Yi given (f+1) i (l,n)=Yi given f (i+1) (if given.getD i false=true then(l,n)else(l.set i {l.getD i {} with num:=n},n+1)):=rfl
abbrev qbu (M:Mk) (l:List Tok):Mk:={M with toks:=l}
theorem qsi {s0:St} {m ti gi:Nat} {src:Source} {vN vP vT vL:V} {M:Mk} {E:EC} {Q:Exit→St→Prop} (h:OfAt s0 m src ti gi vN vP vT vL M) (f22:s0.f 22=vi 57346) (b1:M.toks.length≤10000000000)
 (hQ: ∀s',OfAt s' m src ti gi vN vP vT vL (qbu M (Yi M.given (M.toks.length - 3) 3 (M.toks,57346)).1)→ewp Tryz.prog E Q s'):ewp Tryz.prog (.seq xD E) Q s0:=by
 generalize hR:Yi M.given (M.toks.length - 3) 3 (M.toks,57346)=R at hQ
 have hA0:=h
 have f1:=h.f1;have f2:=h.f2;have f6:=h.f6
 have hl3:=h.at_.len3;have hgl:=h.at_.len
 repeat' with_reducible first
  |refine s_ ?_
  |simp -implicitDefEqProofs only[wZZ,seval,f1,f2,f6]
 refine qi ?nx10 (fun(z:Nat×List Tok×Int) s=>s.f 1=?v10_1∧s.f 2=?v10_2∧s.f 6=?v10_6∧s.f 23=vi z.1∧(3≤z.1)∧(z.1≤M.toks.length)∧((OfAt s m src ti gi vN vP vT vL (qbu M z.2.1)))∧(Yi M.given (M.toks.length - z.1) z.1 z.2=R)∧((z.2.1.length=M.toks.length))∧((57346≤z.2.2∧z.2.2≤57346+z.1))∧(s.f 22=vi z.2.2)) (fun z=>M.toks.length - z.1) ((3,M.toks,57346)) wj_ (by refine⟨?_,?_,?_,?_,wo_,wo_,(by exact hA0.mono wl_ wl_ wl_ wg_ (fun j hj=>by first|rfl|simp only[wM])),(by exact hR),(by rfl),(by dsimp only;omega),(by(try simp -implicitDefEqProofs only[wL,wM,wN,seval]);exact f22)⟩<;>first|(simp -implicitDefEqProofs only[wL,wM,wN,wX,seval,Option.some.injEq]<;>exact wt_)|rfl|exact⟨_,rfl⟩) ?_
 intro z s hnx ⟨g1,g2,g6,g23,k10_0,k10_1,k10_2,k10_3,k10_4,k10_5,g22⟩
 obtain ⟨i,l,n⟩:=z
 dsimp only at g22 g23 k10_0 k10_1 k10_2 k10_3 k10_4 k10_5
 have hA1:=k10_2
 have g1:=hA1.f1;have g2:=hA1.f2;have g6:=hA1.f6;have ln:=hA1.ln
 have hM:=hA1.at_;have lm:=hM.lm;have lt:=hM.lt;have lg:=hM.lg
 have hm:s.H m=some (.own 13 [.agg [.msl ti 6 0 l.length,vN,vP,.str [],.str [],.msl gi 1 0 M.given.length,vT,vL,vi M.e,vi M.at_,.str M.name,vi M.level,vi M.inner]] false):=hM.hm
 have ht:s.H ti=some (.own 6 (l.map Tok.V) false):=hM.ht
 have hg:s.H gi=some (.own 1 (M.given.map V.bool) false):=hM.hg
 obtain ⟨n1,n2,n3⟩:=hM.mt
 by_cases hk:i<M.toks.length
 · rw [show M.toks.length - i=(M.toks.length - (i+1))+1 by omega,XD]at k10_3
   have hgt:M.given[i]?=some (M.given.getD i false):=by
    rw[ge_ o_];simp[List.getD,show i<M.given.length by omega]
   generalize hgb:M.given.getD i false=gb at hgt k10_3
   have hlt:l[i]?=some (l.getD i {}):=by
    rw[ge_ o_];simp[List.getD,show i<l.length by omega]
   generalize hkt:l.getD i {}=kt at hlt k10_3
   cases gb
   · rw[if_neg (by simp)]at k10_3
     have hz:IntKind.i64.wrap (n+1)=n+1:=wrap64 o_ o_
     have hs0:yA (qbu M l) i {kt with num:=n}=qbu M (l.set i {kt with num:=n}):=rfl
     repeat' with_reducible first
      |refine s_ ?_
      |simp -implicitDefEqProofs only[wZZ,seval,g1,g2,g6,g23,g22,g1,g2,g6,g22,g23,hm,ht,hg,hz]
      |apply qa<;>intro h h_<;>(try simp only[wD,reduceCtorEq]at h_)<;>(try exact wb_)<;>(try simp only[h])
      |apply stT ({kt with num:=n});(focus(first|assumption|exact List.getElem?_set_self (by first|omega|(simp only[List.length_set];omega))));exact wu_;exact wu_;exact wu_;decide;exact wu_
      |refine t_ ?_
      |apply qg;exact wd_;exact wu_
      |simp -implicitDefEqProofs (disch:=omega) only[w64,if_neg]
     refine⟨by(try simp only[wN])<;>omega,(i+1,l.set i {kt with num:=n},n+1),by dsimp only;omega,f1.symm,f2.symm,f6.symm,rfl,by dsimp only;omega,by dsimp only;omega,?_,k10_3,by dsimp only;rw[List.length_set];exact k10_4,by dsimp only;omega,rfl⟩
     dsimp only
     rw[← hs0]
     refine hA1.upd (hM.yA wg_ ?_ (fun j h1 h2=>?_)) wl_ wl_ wl_ wg_ (fun j h1 h2 h3 h4 h5=>?_)
     · simp only[wM]
       repeat(first|rw[if_pos trivial]|rw[if_pos rfl]|rw[if_neg o_])
     · simp only[wM]
       repeat(first|rw[if_pos trivial]|rw[if_pos rfl]|rw[if_neg o_])
     · simp only[wM]
       repeat(first|rw[if_pos trivial]|rw[if_pos rfl]|rw[if_neg o_])
   · rw[if_pos rfl]at k10_3
     repeat' with_reducible first
      |refine s_ ?_
      |simp -implicitDefEqProofs only[wZZ,seval,g1,g2,g6,g23,g22,g1,g2,g6,g22,g23,hm,ht,hg]
      |apply qa<;>intro h h_<;>(try simp only[wD,reduceCtorEq]at h_)<;>(try exact wb_)<;>(try simp only[h])
      |refine t_ ?_
      |apply qg;exact wd_;exact wu_
      |simp -implicitDefEqProofs (disch:=omega) only[w64,if_neg]
     exact⟨by(try simp only[wN])<;>omega,(i+1,l,n),by dsimp only;omega,f1.symm,f2.symm,f6.symm,rfl,by dsimp only;omega,by dsimp only;omega,hA1.mono wl_ wl_ wl_ wg_ (fun j hj=>by first|rfl|simp only[wM]),k10_3,k10_4,by dsimp only;omega,rfl⟩
 · have e:M.toks.length - i=0:=o_
   rw[e]at k10_3
   subst k10_3
   repeat' with_reducible first
    |refine s_ ?_
    |simp -implicitDefEqProofs only[wZZ,seval,g1,g2,g6,g23,g22,g1,g2,g6,g22,g23,hm]
    |apply qa<;>intro h h_<;>(try simp only[wD,reduceCtorEq]at h_)<;>(try exact wb_)<;>(try simp only[h])
    |refine t_ ?_
   exact hQ _ (hA1.mono wl_ wl_ wl_ wg_ (fun j hj=>by first|rfl|simp only[wM]))

theorem qBu {vP:V} {l:List GPr} {i:Nat} {p:GPr} (h:ErP vP (.sl 6 false (l.map GPr.V))) (hp:l[i]?=some p): ∃w1 w2,z8 6 vP (vi i)=some (.iptr 6 (.agg [vi p.left,w1,vi p.prec,.str p.code,w2,vi p.at_]) 0)∧ErP w1 (.sl 1 false (p.right.map (V.int .i64)))∧ErP w2 (.sl 1 false (p.args.map (V.int .i64))):=by
 obtain ⟨es,h1,h2,h3⟩:=ErP.shape h
 rw[List.length_map]at h1
 have hi:i<l.length:=(List.getElem?_eq_some_iff.1 hp).1
 have he:es[i]?=some es[i]:=ge_ o_
 have hE:=h2 i _ _ he (by rw[List.getElem?_map,hp];rfl)
 generalize es[i]=e at he hE
 unfold ErP at hE
 cases hE with
 | agg cs _ hl hc=>
   match cs,hl with
   | [c0,c1,c2,c3,c4,c5],_=>
     have e0:=Jl (hc 0 _ _ rfl rfl) (.int _ _);have e2:=Jl (hc 2 _ _ rfl rfl) (.int _ _);have e3:=Jl (hc 3 _ _ rfl rfl) (.str _);have e5:=Jl (hc 5 _ _ rfl rfl) (.int _ _)
     subst e0 e2 e3 e5
     refine⟨c1,c4,?_,hc 1 _ _ rfl rfl,hc 4 _ _ rfl rfl⟩
     rcases h3 with ⟨b,rfl⟩|⟨id,fin,rfl⟩
     · simp[z8,idxOf,he]
     · simp[z8,idxOf,he]
def Xo (M:Mk):Bool:=decide (40<M.toks.length) || decide (24<M.nons.length) || decide (60<M.prods.length) || M.prods.any fun p=>decide (8<p.right.length)
theorem qfA {s0:St} {m ti gi:Nat} {src:Source} {vN vP vT vL:V} {M:Mk} {E:EC} {Q:Exit→St→Prop} (h:OfAt s0 m src ti gi vN vP vT vL M) (b1:M.prods.length≤10000000000)
 (hQ: ∀s',OfAt s' m src ti gi vN vP vT vL M→s'.f 24=.bool (Xo M)→ewp Tryz.prog E Q s'):ewp Tryz.prog (.seq (.reg xC) (.seq jL E)) Q s0:=by
 have hA0:=h
 have f1:=h.f1;have f2:=h.f2;have f6:=h.f6
 have hM:=h.at_;have hm:=hM.hm
 have hNl:Qx vN=some (.int .i64 (M.nons.length:Int)):=by have:=ErP.Qx hM.eN;rwa [List.length_map]at this
 have hPl:Qx vP=some (.int .i64 (M.prods.length:Int)):=by have:=ErP.Qx hM.eP;rwa [List.length_map]at this
 generalize hB:(decide (40<M.toks.length) || decide (24<M.nons.length) || decide (60<M.prods.length))=B
 have hR:Xo M=(B || M.prods.any fun p=>decide (8<p.right.length)):=by unfold Xo;rw[hB]
 rw[hR]at hQ
 have tail: ∀s1,OfAt s1 m src ti gi vN vP vT vL M→s1.f 24=.bool B→ewp Tryz.prog (.seq jL E) Q s1:=by
  intro s1 hA f24
  have f1:=hA.f1;have f2:=hA.f2;have f6:=hA.f6
  generalize hRR:(B || M.prods.any fun p=>decide (8<p.right.length))=R at hQ
  repeat' with_reducible first
   |refine s_ ?_
   |simp -implicitDefEqProofs only[wZZ,seval,f1,f2,f6,f24]
  refine qi ?nx11 (fun(z:Nat×Bool) s=>s.f 1=?v11_1∧s.f 2=?v11_2∧s.f 6=?v11_6∧s.f 25=vi z.1∧(z.1≤M.prods.length)∧((OfAt s m src ti gi vN vP vT vL M))∧(((z.2 || (M.prods.drop z.1).any fun p=>decide (8<p.right.length))=R))∧(s.f 24=.bool z.2)) (fun z=>M.prods.length - z.1) ((0,B)) wj_ (by refine⟨?_,?_,?_,?_,wo_,(by exact hA.mono wl_ wl_ wl_ wg_ (fun j hj=>by first|rfl|simp only[wM])),(by exact hRR),(by(try simp -implicitDefEqProofs only[wL,wM,wN,seval]);exact f24)⟩<;>first|(simp -implicitDefEqProofs only[wL,wM,wN,wX,seval,Option.some.injEq]<;>exact wt_)|rfl|exact⟨_,rfl⟩) ?_
  intro z s hnx ⟨g1,g2,g6,g25,k11_0,k11_1,k11_2,g24⟩
  obtain ⟨i,b⟩:=z
  dsimp only at g24 g25 k11_0 k11_1 k11_2
  have hA1:=k11_1
  have g1:=hA1.f1;have g2:=hA1.f2;have g6:=hA1.f6;have ln:=hA1.ln
  have hM1:=hA1.at_;have hm1:=hM1.hm
  by_cases hk:i<M.prods.length
  · obtain ⟨w1,w2,hia,hw1,hw2⟩:=qBu hM.eP (ge_ hk)
    have hwl:Qx w1=some (.int .i64 (M.prods[i].right.length:Int)):=by have:=ErP.Qx hw1;rwa [List.length_map]at this
    rw[List.drop_eq_getElem_cons hk,List.any_cons]at k11_2
    cases b
    · repeat' with_reducible first
       |refine s_ ?_
       |simp -implicitDefEqProofs only[wZZ,seval,g1,g2,g6,g25,g24,g1,g2,g6,g24,g25,hm1,hPl,hia,hwl]
       |apply qa<;>intro h h_<;>(try simp only[wD,reduceCtorEq]at h_)<;>(try exact wb_)<;>(try simp only[h])
       |refine t_ ?_
       |simp -implicitDefEqProofs (disch:=omega) only[w64,if_neg]
      exact⟨by(try simp only[wN])<;>omega,(i+1,decide (8<(M.prods[i].right.length:Int))),by dsimp only;omega,f1.symm,f2.symm,f6.symm,rfl,by dsimp only;omega,hA1.mono wl_ wl_ wl_ wg_ (fun j hj=>by first|rfl|simp only[wM]),by rw[← k11_2,Bool.false_or];congr 1;simp;omega,rfl⟩
    · repeat' with_reducible first
       |refine s_ ?_
       |simp -implicitDefEqProofs only[wZZ,seval,g1,g2,g6,g25,g24,g1,g2,g6,g24,g25,hm1,hPl,hia,hwl]
       |apply qa<;>intro h h_<;>(try simp only[wD,reduceCtorEq]at h_)<;>(try exact wb_)<;>(try simp only[h])
       |refine t_ ?_
       |simp -implicitDefEqProofs (disch:=omega) only[w64,if_neg]
      exact⟨by(try simp only[wN])<;>omega,(i+1,true),by dsimp only;omega,f1.symm,f2.symm,f6.symm,rfl,by dsimp only;omega,hA1.mono wl_ wl_ wl_ wg_ (fun j hj=>by first|rfl|simp only[wM]),by rw[← k11_2];simp,rfl⟩
  · rw[List.drop_eq_nil_of_le o_,List.any_nil,Bool.or_false]at k11_2
    subst k11_2
    repeat' with_reducible first
     |refine s_ ?_
     |simp -implicitDefEqProofs only[wZZ,seval,g1,g2,g6,g25,g24,g1,g2,g6,g24,g25,hm1,hPl]
     |apply qa<;>intro h h_<;>(try simp only[wD,reduceCtorEq]at h_)<;>(try exact wb_)<;>(try simp only[h])
     |refine t_ ?_
    exact hQ _ (hA1.mono wl_ wl_ wl_ wg_ (fun j hj=>by first|rfl|simp only[wM])) (by simp -implicitDefEqProofs only[wL,seval];exact g24)
 generalize (EC.seq jL E)=F at tail
 skip
 repeat' with_reducible first
  |refine s_ ?_
  |simp -implicitDefEqProofs only[wZZ,seval,f1,f2,f6,hm,hNl,hPl]
  |(first|apply qJ|apply qK)<;>intro h h_<;>(try simp only[wD,reduceCtorEq]at h_)<;>(try exact wb_)<;>(try simp only[h])
  |refine t_ ?_
 all_goals(refine tail _ (hA0.mono wl_ wl_ wl_ wg_ (fun j hj=>by first|rfl|simp only[wM])) ?_)
 all_goals(simp -implicitDefEqProofs only[wL,seval])
 all_goals(refine congrArg V.bool ?_;rw[← hB])
 all_goals first
  |(rw[show decide (40<M.toks.length)=false from decide_eq_false o_,show decide (24<M.nons.length)=false from decide_eq_false o_];simp only[Bool.false_or,decide_eq_decide];omega)
  |(rw[decide_eq_false o_,decide_eq_true o_];rfl)
  |(rw[decide_eq_true o_];rfl)
end Go.Proofs
