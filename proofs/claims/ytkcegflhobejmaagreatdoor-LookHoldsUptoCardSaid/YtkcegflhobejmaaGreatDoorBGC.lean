import Derived.Test.YtkcegflhobejmaaGreatDoorBGB
set_option maxRecDepth 20000
set_option linter.all false
set_option maxHeartbeats 4000000
namespace Go.Proofs
open Go.E
abbrev Zw(src:Source)(st:List UInt8):List UInt8:=if st=[]then(src.rules.headD {}).left else st
abbrev firstM(M:Mk)(start:List UInt8):Mk:={M with prods:=[{left:=0,right:=[1001+qD start M.lefts 0],prec:= -1}]}
abbrev qlw(M:Mk)(start:List UInt8):V:= .agg [vi 0,.sl 1 true [vi (1001+qD start M.lefts 0)],vi (-1),.str [],.sl 1 true [],vi 0]
variable {s0:St} {ti gi:Nat} {vN vP vT vL:Go.E.V} {M:Mk} {Q:Exit->St->Prop}
theorem qiL{m:Nat}{src:Source}{start:List UInt8}{E:EC}(h:OfAt s0 m src ti gi vN vP vT vL M)(f7:s0.f 7=.str start)(b2:M.lefts.length<=1000000000)
(hQ:∀s',OfAt s' m src ti gi vN (.sl 6 true [qlw M start]) vT vL (firstM M start)->s0.next<=s'.next->ewp Tryz.prog E Q s'):ewp Tryz.prog (.seq (.reg qbi) E) Q s0:=by
 have hA0:=h;have f1:=h.f1;have f2:=h.f2;have f6:=h.f6;have hM:=h.at_;have hm:=hM.hm;have lm:=hM.lm;have lt:=hM.lt;have lg:=hM.lg;have ln:=h.ln;obtain ⟨n1,n2,n3⟩:=hM.mt;have hbd:=jH start M.lefts 0;have hz:IntKind.i64.wrap (1001+qD start M.lefts 0)=1001+qD start M.lefts 0:=wrap64 o_ o_;repeat' with_reducible first|refine qL ?_|simp -implicitDefEqProofs only[wZZ,seval,f1,f2,f6,f7,hm,hz]|apply qM (hp:=qC ?_);(focus(refine(hM.mono (Nat.le_refl _) (λj hj=>?_)).er;(try simp only[wM]);(repeat rw[if_neg o_])));exact qd;exact wu_;exact Flat.int _ _;rotate_left;exact wf_|refine t_ ?_
 refine hQ _ (hA0.upd ⟨?_,?_,?_,hM.eN,?_,hM.eT,hM.eL,wg_,wg_,wg_,hM.len,hM.len3⟩ wl_ wl_ wl_ wh_ (λj g1 g2 g3 g4 g5=>?_)) wh_
 . simp only[wM]
   repeat(first|rw[if_pos trivial]|rw[if_pos rfl]|rw[if_neg o_])
 . simp only[wM]
   repeat(first|rw[if_pos trivial]|rw[if_pos rfl]|rw[if_neg o_])
   exact hM.ht
 . simp only[wM]
   repeat(first|rw[if_pos trivial]|rw[if_pos rfl]|rw[if_neg o_])
   exact hM.hg
 . exact ErL.sl (.cons (ErL.agg (.cons (.int _ _) (.cons (ErL.sl (.cons (.int _ _) .nil)) (.cons (.int _ _) (.cons (.str _) (.cons (ErL.sl .nil) (.cons (.int _ _) .nil))))))) .nil)
 . simp only[wM]
   repeat(first|rw[if_pos trivial]|rw[if_pos rfl]|rw[if_neg o_])
theorem qjE{m:Nat}{src:Source}{st:List UInt8}{E:EC}(h:OfAt s0 m src ti gi vN vP vT vL M)(f7:s0.f 7=.str st)(hr:0<src.rules.length)
(hQ:∀s',OfAt s' m src ti gi vN vP vT vL M->s'.f 7=.str (Zw src st)->s0.next<=s'.next->ewp Tryz.prog E Q s'):ewp Tryz.prog (.seq qaU E) Q s0:=by
 have hA0:=h;have f1:=h.f1;have f2:=h.f2;have f6:=h.f6;have o0:=h.h0;have ln:=h.ln;by_cases hs:st=[]
 . have hg:src.rules[(0:Int).toNat]?=some (src.rules.headD {}):=by
    cases hrs:src.rules with
    |nil=>rw[hrs]at hr;simp at hr
    |cons a r=>rfl
   have e:Zw src st=(src.rules.headD {}).left:=if_pos hs;rw[e]at hQ;repeat' with_reducible first|refine s_ ?_|simp -implicitDefEqProofs only[wZZ,seval,f1,f2,f6,f7,o0,hs]|refine t_ ?_
   exact hQ _ (hA0.mono wl_ wl_ wl_ wg_ (λj hj=>fm_)) wl_ wh_
 . have e:Zw src st=st:=if_neg hs;rw[e]at hQ;repeat' with_reducible first|refine s_ ?_|simp -implicitDefEqProofs only[wZZ,seval,f1,f2,f6,f7,o0]|apply qa<;>intro h h_<;>(try simp only[wD,reduceCtorEq]at h_)<;>(try exact wb_)<;>(try simp only[h])
   exact hQ _ (hA0.mono wl_ wl_ wl_ wg_ (λj hj=>fm_)) (by simp -implicitDefEqProofs only[wL,seval];exact f7) wh_
theorem qlI(M:Mk)(n:List UInt8)(a:Alt):(Yb M n a).lefts=M.lefts/\(Yb M n a).types=M.types/\(Yb M n a).nons=M.nons/\(Yb M n a).toks.length<=M.toks.length+a.parts.length+1/\M.toks.length<=(Yb M n a).toks.length/\M.inner<=(Yb M n a).inner/\(Yb M n a).inner<=M.inner+a.parts.length:=by rw[qgZ M n a _ _ rfl rfl];obtain ⟨h1,h2,h3,h4,h5,h6,h7,h8,h9,h10⟩:=Va a.parts M {left:=1+qD n M.lefts 0,prec:= -1,at_:=a.at_};generalize zR a.parts (M,{left:=1+qD n M.lefts 0,prec:= -1,at_:=a.at_})=q at *;generalize ({q.2 with prec:=yS q.2.right (-1)}:GPr).prec=pr;obtain ⟨k1,k2,k3,k4,k5,k6,k7⟩:=qty q.1 a.prec pr;exact⟨k1.trans h1,k3.trans h2,k4.trans h3,by show (Yl q.1 a.prec pr).1.toks.length<=_;omega,by show _<=(Yl q.1 a.prec pr).1.toks.length;omega,by show _<=(Yl q.1 a.prec pr).1.inner;omega,by show (Yl q.1 a.prec pr).1.inner<=_;omega⟩
theorem qfE(n:List UInt8)(M:Mk):zX n [] M=M:=rfl
theorem yx(n:List UInt8)(a:Alt)(r:List Alt)(M:Mk):zX n (a::r) M=zX n r (Yb M n a):=by rw[zX]
theorem qjr(M:Mk):vH [] M=M:=rfl
theorem kN(r:Rule)(l:List Rule)(M:Mk):vH (r::l) M=vH l (zX r.left r.alts M):=by rw[vH]

abbrev qi8(M M':Mk):Prop:=M'.lefts=M.lefts/\M'.types=M.types/\M'.nons=M.nons/\M.inner<=M'.inner/\M.toks.length<=M'.toks.length
variable {ps:List Go.E.V}
theorem qkL{m i:Nat}{src:Source}(h:OfAt s0 m src ti gi vN vP vT vL M)(hP:Gr s0.H s0.next 6 ps vP)(heP:J6 ps (M.prods.map GPr.V))(hi:i<src.rules.length)(f16:s0.f 16=vi i)(hS:Small src)
(b1:M.toks.length<=10000000000)(b2:M.lefts.length<=1000000000)(b3:ps.length<=10000000000)(b4:0<=M.inner)(b5:M.inner<=10000000000)
(hQ:∀s' ti' gi' vP' ps',OfAt s' m src ti' gi' vN vP' vT vL (zX src.rules[i].left src.rules[i].alts M)->Gr s'.H s'.next 6 ps' vP'->J6 ps' ((zX src.rules[i].left src.rules[i].alts M).prods.map GPr.V)->s'.f 16=s0.f 16->s0.next<=s'.next->qi8 M (zX src.rules[i].left src.rules[i].alts M)->(zX src.rules[i].left src.rules[i].alts M).toks.length<=M.toks.length+1001000->ps'.length<=ps.length+1001000->(zX src.rules[i].left src.rules[i].alts M).inner<=M.inner+1000000->Q .normal s'):ewp Tryz.prog qai Q s0:=by
 generalize hR:zX src.rules[i].left src.rules[i].alts M=R at hQ;have f1:=h.f1;have f2:=h.f2;have f6:=h.f6;have hA0:=h;have hrl:=hS.rl;have hal:=hS.ra _ (List.getElem_mem hi);have hpl:=hS.rp _ (List.getElem_mem hi);have hxl:=hS.rx _ (List.getElem_mem hi);have hql:=hS.rq _ (List.getElem_mem hi);repeat' with_reducible first|refine s_ ?_|simp -implicitDefEqProofs only[wZZ,seval,f1,f2,f6]
 refine qb ?nx7 (λ(z:Nat×Mk) s=>s.f 1=?v7_1/\s.f 2=?v7_2/\s.f 6=?v7_6/\s.f 16=?v7_16/\s.f 17=vi z.1/\(z.1<=src.rules[i].alts.length)/\((∃ti gi vP ps1,OfAt s m src ti gi vN vP vT vL z.2/\Gr s.H s.next 6 ps1 vP/\J6 ps1 (z.2.prods.map GPr.V)/\ps1.length<=ps.length+1001 *z.1))/\(zX src.rules[i].left (src.rules[i].alts.drop z.1) z.2=R)/\((qi8 M z.2))/\((z.2.toks.length<=M.toks.length+1001 *z.1))/\((z.2.inner<=M.inner+1000 *z.1))) (λz=>src.rules[i].alts.length - z.1) ((0,M)) wj_ (by refine⟨?_,?_,?_,?_,?_,wo_,(by exact⟨ti,gi,vP,ps,hA0.mono wl_ wl_ wl_ wg_ (λj hj=>fm_),hP.mono wg_ (λj h1 hj=>fm_),heP,d_⟩),(by exact hR),(by exact⟨rfl,rfl,rfl,Int.le_refl _,Nat.le_refl _⟩),d_,d_⟩<;>first|(simp -implicitDefEqProofs only[wL,wM,wN,wX,seval,Option.some.injEq]<;>exact wt_)|rfl|exact⟨_,rfl⟩) ?_;intro z s hnx ⟨g1,g2,g6,g16,g17,k7_0,k7_1,k7_2,k7_3,k7_4,k7_5⟩;obtain ⟨k,M1⟩:=z;dsimp only at g17 k7_0 k7_1 k7_2 k7_3 k7_4 k7_5;obtain ⟨ti1,gi1,vP1,ps1,hA1,hP1,heP1,hl1⟩:=k7_1;have g1:=hA1.f1;have g2:=hA1.f2;have g6:=hA1.f6;have o0:=hA1.h0;have ln:=hA1.ln;have hM:=hA1.at_;have hm:=hM.hm;have lm:=hM.lm;have lt:=hM.lt;have lg:=hM.lg;have hgd:src.rules[i]?=some src.rules[i]:=ge_ hi;obtain ⟨sm1,sm2,sm3,sm4,sm5⟩:=k7_3;by_cases hk:k<src.rules[i].alts.length
 . rw[List.drop_eq_getElem_cons hk,yx]at k7_2;have hm1:=hpl _ (List.getElem_mem hk);have hm2:=hxl _ (List.getElem_mem hk);have hm3:=hql _ (List.getElem_mem hk);obtain ⟨y1,y2,y3,y4,y5,y6,y7⟩:=qlI M1 src.rules[i].left src.rules[i].alts[k];have hlf:M1.lefts.length<=274877906944:=(by rw[sm1];omega);repeat' with_reducible first|refine s_ ?_|simp -implicitDefEqProofs only[wZZ,seval,g1,g2,g6,g16,g17,g1,g2,g6,f16,g17,o0,hm]|apply qa<;>intro h h_<;>(try simp only[wD,reduceCtorEq]at h_)<;>(try exact wb_)<;>(try simp only[h])|(refine qR rfl rfl rfl ((qz9 (hM.mono wh_ (λj hj=>mm_)) (hP1.mono wh_ (λj h1 hj=>mm_)) heP1 o_ hlf o_ o_ o_ o_ hm2 hm3).mono ?_);rintro v1 H1 n1 ⟨q1,⟨ti',gi',vP',ps',q2,q3,q4,q5,q7,q8⟩,q6⟩;(try simp only[wN]at q1))|refine t_ ?_|simp -implicitDefEqProofs (disch:=omega) only[w64,if_neg]
   have q6':∀j,j<s.next->j≠m->j≠ti1->j≠gi1->(∀f,s.H j≠some (.tok f))->H1 j=s.H j:=λj h1 h2 h3 h4 h5=>q6 j wh_ h2 h3 h4 (by simp only[wM];exact h5);refine⟨by(try simp only[wN])<;>omega,(k+1,Yb M1 src.rules[i].left src.rules[i].alts[k]),d_,f1.symm,f2.symm,f6.symm,by first|trivial|rfl,rfl,d_,⟨ti',gi',vP',ps',hA1.upd (q4.mono wg_ (λj hj=>fm_)) wl_ wl_ wl_ wg_ (λj h1 h2 h3 h4 h5=>(by(try simp only[wM]);exact q6' j h1 h2 h3 h4 h5)),q5.mono wg_ (λj h1 hj=>fm_),q7,d_⟩,k7_2,⟨y1.trans sm1,y2.trans sm2,y3.trans sm3,Int.le_trans sm4 y6,Nat.le_trans sm5 y5⟩,d_,d_⟩
 . rw[List.drop_eq_nil_of_le o_,qfE]at k7_2;subst k7_2;repeat' with_reducible first|refine s_ ?_|simp -implicitDefEqProofs only[wZZ,seval,g1,g2,g6,g16,g17,g1,g2,g6,f16,g17,o0]|apply qa<;>intro h h_<;>(try simp only[wD,reduceCtorEq]at h_)<;>(try exact wb_)<;>(try simp only[h])|refine t_ ?_
   exact hQ _ ti1 gi1 vP1 ps1 (hA1.mono wl_ wl_ wl_ wg_ (λj hj=>fm_)) (hP1.mono wg_ (λj h1 hj=>fm_)) heP1 (by simp -implicitDefEqProofs only[wL,seval];exact g16) wh_ ⟨sm1,sm2,sm3,sm4,sm5⟩ o_ o_ o_
theorem qnP{m:Nat}{src:Source}{E:EC}(h:OfAt s0 m src ti gi vN vP vT vL M)(hP:Gr s0.H s0.next 6 ps vP)(heP:J6 ps (M.prods.map GPr.V))(hS:Small src)
(b1:M.toks.length<=1000000000)(b2:M.lefts.length<=1000000000)(b3:ps.length<=1000000000)(b4:0<=M.inner)(b5:M.inner<=1000000000)
(hQ:∀s' ti' gi' vP',OfAt s' m src ti' gi' vN vP' vT vL (vH src.rules M)->s0.next<=s'.next->qi8 M (vH src.rules M)->(vH src.rules M).toks.length<=M.toks.length+1001000000->(vH src.rules M).prods.length<=ps.length+1001000000->(vH src.rules M).inner<=M.inner+1000000000->ewp Tryz.prog E Q s'):ewp Tryz.prog (.seq qaD E) Q s0:=by
 generalize hR:vH src.rules M=R at hQ;have f1:=h.f1;have f2:=h.f2;have f6:=h.f6;have hA0:=h;have hrl:=hS.rl;repeat' with_reducible first|refine s_ ?_|simp -implicitDefEqProofs only[wZZ,seval,f1,f2,f6]
 refine qb ?nx6 (λ(z:Nat×Mk) s=>s.f 1=?v6_1/\s.f 2=?v6_2/\s.f 6=?v6_6/\s.f 16=vi z.1/\(z.1<=src.rules.length)/\((∃ti gi vP ps1,OfAt s m src ti gi vN vP vT vL z.2/\Gr s.H s.next 6 ps1 vP/\J6 ps1 (z.2.prods.map GPr.V)/\ps1.length<=ps.length+z.1 *1001000))/\(vH (src.rules.drop z.1) z.2=R)/\((qi8 M z.2))/\((z.2.toks.length<=M.toks.length+z.1 *1001000))/\((z.2.inner<=M.inner+1000 *(1000 *z.1)))) (λz=>src.rules.length - z.1) ((0,M)) wj_ (by refine⟨?_,?_,?_,?_,wo_,(by exact⟨ti,gi,vP,ps,hA0.mono wl_ wl_ wl_ wg_ (λj hj=>fm_),hP.mono wg_ (λj h1 hj=>fm_),heP,d_⟩),(by exact hR),(by exact⟨rfl,rfl,rfl,Int.le_refl _,Nat.le_refl _⟩),d_,d_⟩<;>first|(simp -implicitDefEqProofs only[wL,wM,wN,wX,seval,Option.some.injEq]<;>exact wt_)|rfl|exact⟨_,rfl⟩) ?_;intro z s hnx ⟨g1,g2,g6,g16,k6_0,k6_1,k6_2,k6_3,k6_4,k6_5⟩;obtain ⟨i,M1⟩:=z;dsimp only at g16 k6_0 k6_1 k6_2 k6_3 k6_4 k6_5;obtain ⟨ti1,gi1,vP1,ps1,hA1,hP1,heP1,hl1⟩:=k6_1;have g1:=hA1.f1;have g2:=hA1.f2;have g6:=hA1.f6;have o0:=hA1.h0;have ln:=hA1.ln;obtain ⟨sm1,sm2,sm3,sm4,sm5⟩:=k6_3;by_cases hi:i<src.rules.length
 . rw[List.drop_eq_getElem_cons hi,kN]at k6_2;have hgd:src.rules[i]?=some src.rules[i]:=ge_ hi;have T:∀(s':St) (Q:Exit->St->Prop),OfAt s' m src ti1 gi1 vN vP1 vT vL M1->Gr s'.H s'.next 6 ps1 vP1->s'.f 16=vi i->(∀s2 ti' gi' vP' ps',OfAt s2 m src ti' gi' vN vP' vT vL (zX src.rules[i].left src.rules[i].alts M1)->Gr s2.H s2.next 6 ps' vP'->J6 ps' ((zX src.rules[i].left src.rules[i].alts M1).prods.map GPr.V)->s2.f 16=s'.f 16->s'.next<=s2.next->qi8 M1 (zX src.rules[i].left src.rules[i].alts M1)->(zX src.rules[i].left src.rules[i].alts M1).toks.length<=M1.toks.length+1001000->ps'.length<=ps1.length+1001000->(zX src.rules[i].left src.rules[i].alts M1).inner<=M1.inner+1000000->Q .normal s2)->ewp Tryz.prog qai Q s':=
    λs' Q q1 q2 q3 q4=>qkL q1 q2 heP1 hi q3 hS o_ (by rw[sm1];omega) o_ o_ o_ q4
   show ewp _ (.seq qm4 (.seq (.block 11 qai) (.reg qnu))) _ _;generalize qai=E120 at T;generalize hG:zX src.rules[i].left src.rules[i].alts M1=G at T k6_2;repeat' with_reducible first|refine s_ ?_|simp -implicitDefEqProofs only[wZZ,seval,g1,g2,g6,g16,g1,g2,g6,g16,o0]|apply qa<;>intro h h_<;>(try simp only[wD,reduceCtorEq]at h_)<;>(try exact wb_)<;>(try simp only[h])|refine t_ ?_
   refine T _ _ (hA1.mono wl_ wl_ wl_ wg_ (λj hj=>fm_)) (hP1.mono wg_ (λj h1 hj=>fm_)) (by simp -implicitDefEqProofs only[wL,seval,g16]) (λs2 ti' gi' vP' ps' r1 r2 r3 r4 r5 r6 r7 r8 r9=>?_);have h16:s2.f 16=vi i:=r4.trans (by simp -implicitDefEqProofs only[wL,seval,g16]);(try simp only[wN]at r5);obtain ⟨y1,y2,y3,y6,y5⟩:=r6;repeat' with_reducible first|refine s_ ?_|simp -implicitDefEqProofs only[wZZ,seval,g1,g2,g6,g16,h16]|simp -implicitDefEqProofs (disch:=omega) only[w64,if_neg]
   refine⟨by(try simp only[wN])<;>omega,(i+1,G),d_,by rw[f1];exact r1.f1,by rw[f2];exact r1.f2,by rw[f6];exact r1.f6,rfl,d_,⟨ti',gi',vP',ps',r1.mono wl_ wl_ wl_ wg_ (λj hj=>fm_),r2.mono wg_ (λj h1 hj=>fm_),r3,d_⟩,k6_2,⟨y1.trans sm1,y2.trans sm2,y3.trans sm3,Int.le_trans sm4 y6,Nat.le_trans sm5 y5⟩,d_,d_⟩
 . rw[List.drop_eq_nil_of_le o_,qjr]at k6_2;subst k6_2;have hlp:=heP1.len;rw[List.length_map]at hlp;repeat' with_reducible first|refine s_ ?_|simp -implicitDefEqProofs only[wZZ,seval,g1,g2,g6,g16,g1,g2,g6,g16,o0]|apply qa<;>intro h h_<;>(try simp only[wD,reduceCtorEq]at h_)<;>(try exact wb_)<;>(try simp only[h])|refine t_ ?_
   exact hQ _ ti1 gi1 vP1 (hA1.mono wl_ wl_ wl_ wg_ (λj hj=>fm_)) wh_ ⟨sm1,sm2,sm3,sm4,sm5⟩ o_ o_ o_

set_option maxRecDepth 10000
def V6:Nat->Nat->List UInt8->List UInt8
 |0,_,s=>s
 |f+1,u,s=>if 0<u\/s=[]then V6 f (u / 10) (UInt8.ofNat (48+u % 10)::s)else s
def qvH:Nat->Nat
 |0=>1
 |n+1=>10 *qvH n
def qlP(n:Nat):List UInt8:=V6 25 n []
theorem qcp:∀(f u:Nat) (s:List UInt8),(V6 f u s).length<=s.length+f
 |0,_,s=>by unfold V6;omega
 | f +1,u,s=>by
   unfold V6;split
   . have:=qcp f (u / 10) (UInt8.ofNat (48+u % 10)::s);rw[List.length_cons]at this;omega
   . omega
theorem XZ{n:Nat}(hn:n<=4611686018427387904):Pure Tryz.prog 105 [vi n] (.str (qlP n)):=by
 refine pure_intro Tryz.func105 nm_ qp4 (by show 1<=32;decide) ?_
 show ewp _ qmL _ _;have e:qlP n=V6 25 n []:=rfl;rw[e];generalize hR:V6 25 n []=R;have hz:IntKind.u64.wrap (n:Int)=(n:Int):=qdI o_ o_;repeat' with_reducible first|refine s_ ?_|simp -implicitDefEqProofs only[wZZ,seval,hz]|apply qa<;>intro h h_<;>(try simp only[wD,reduceCtorEq]at h_)<;>(try exact wb_)<;>(try simp only[h])
 refine qb ?nx1 (λ(z:Nat×List UInt8) s=>s.f 0=?v1_0/\s.f 3=.int .u64 z.1/\s.f 4=.str z.2/\(z.1<=n)/\((∃f,V6 f z.1 z.2=R/\z.1<qvH f/\(z.2=[]->0<f)/\z.2.length+f<=25))) (λz=>(if z.2=[]then z.1+1 else z.1)) ((n,[])) wj_ (by refine⟨?_,?_,?_,wo_,(by exact⟨25,hR,by have e:qvH 25=10000000000000000000000000:=dc_;rw[e];dsimp only;omega,λ_=>o_,by simp⟩)⟩<;>first|(simp -implicitDefEqProofs only[wL,wM,wN,wX,seval,Option.some.injEq]<;>exact wt_)|rfl|exact⟨_,rfl⟩) ?_;intro z s hnx ⟨g0,g3,g4,k1_0,k1_1⟩
 . obtain ⟨u,t⟩:=z;dsimp only at *;obtain ⟨f,hf,hu,h0,hl⟩:=k1_1;by_cases hc:0<u\/t=[]
   . obtain ⟨f,rfl⟩:∃m,f=m+1:=⟨f - 1,by
      rcases hc with hc|hc
      . cases f with
        |zero=>simp[qvH]at hu;omega
        |succ f=>omega
      . have:=h0 hc;omega⟩
     rw[qvH]at hu;rw[V6,if_pos hc]at hf;have hm:(u:Int).tmod 10=((u % 10:Nat):Int):=(by rw[Int.tmod_eq_emod_of_nonneg o_];omega);have hd:(u:Int).tdiv 10=((u / 10:Nat):Int):=(by rw[Int.tdiv_eq_ediv_of_nonneg o_];omega);have hd2:IntKind.u64.wrap ((u / 10:Nat):Int)=((u / 10:Nat):Int):=qdI o_ o_;have ha:IntKind.u64.wrap (48+((u % 10:Nat):Int))=((48+u % 10:Nat):Int):=(by rw[qdI o_ o_];omega);have hb:IntKind.u8.wrap ((48+u % 10:Nat):Int)=((48+u % 10:Nat):Int):=by unfold IntKind.wrap;have e1:((2:Int) ^ IntKind.bits .u8)=256:=dc_;have e3:IntKind.signed .u8=false:=rfl;simp only[e1,e3,Bool.false_and];simp;omega
     repeat' with_reducible first|refine s_ ?_|simp -implicitDefEqProofs only[wZZ,seval,g0,g3,g4,hm,hd,hd2,ha,hb]|(first|apply qa|apply qA|apply qB)<;>intro h h_<;>(try simp only[wD,reduceCtorEq]at h_)<;>(try exact wb_)<;>(try simp only[h])|apply ql9;(focus(first|omega|(simp only[wZ]<;>omega)))|apply qyJ;omega;omega
     . refine⟨by(try simp only[wN])<;>omega,(u / 10,UInt8.ofNat (48+u % 10)::t),?_,trivial,rfl,rfl,d_,f,hf,d_,(λh=>by cases h),so_⟩;rw[if_neg (by simp)];dsimp only;split
       . omega
       . rename_i ht;rcases hc with hc|hc
         . omega
         . exact absurd hc ht
     . exfalso;rcases hc with hc|hc
       . omega
       . exact absurd hc as_
     . refine⟨by(try simp only[wN])<;>omega,(u / 10,UInt8.ofNat (48+u % 10)::t),?_,trivial,rfl,rfl,d_,f,hf,d_,(λh=>by cases h),so_⟩;rw[if_neg (by simp)];dsimp only;split
       . omega
       . rename_i ht;rcases hc with hc|hc
         . omega
         . exact absurd hc ht
   . have hu0:u=0:=o_;have ht:t≠[]:=λe=>hc (Or.inr e);have hR2:t=R:=by
      rw[<- hf];cases f with
      |zero=>rfl
      |succ f=>rw[V6,if_neg hc]
     subst hu0;repeat' with_reducible first|refine s_ ?_|simp -implicitDefEqProofs only[wZZ,seval,g0,g3,g4]|apply qa<;>intro h h_<;>(try simp only[wD,reduceCtorEq]at h_)<;>(try exact wb_)<;>(try simp only[h])
     refine qz rfl (Or.inr rfl) ?_;simp -implicitDefEqProofs only[wL,seval,g0,g3,g4];refine er_ ?_
     try(with_reducible rfl)
     exact hR2
variable {v:Go.E.V}
theorem Ve{b:Bool}{H:Nat->Option MObj}{v':V}(h:Er b H v v'):Flat v'->v=v':=by
 induction h with
 |bool b=>intro _;rfl
 |int k n=>intro _;rfl
 |str s=>intro _;rfl
 | agg cs cs' hl h ih=>
   intro hf;cases hf with
   | agg _ hf=>
     refine congrArg V.agg (List.ext_getElem? λi=>?_);by_cases hi:i<cs.length
     . have hi2:i<cs'.length:=o_;rw[ge_ hi,ge_ hi2];exact congrArg some (ih i _ _ (ge_ hi) (ge_ hi2) (hf _ (List.getElem_mem hi2)))
     . rw[List.getElem?_eq_none o_,List.getElem?_eq_none o_]
 | tup cs cs' hl h ih=>
   intro hf;cases hf with
   | tup _ hf=>
     refine congrArg V.tup (List.ext_getElem? λi=>?_);by_cases hi:i<cs.length
     . have hi2:i<cs'.length:=o_;rw[ge_ hi,ge_ hi2];exact congrArg some (ih i _ _ (ge_ hi) (ge_ hi2) (hf _ (List.getElem_mem hi2)))
     . rw[List.getElem?_eq_none o_,List.getElem?_eq_none o_]
 |sl=>intro hf;cases hf
 |asl=>intro hf;cases hf
 |iptr=>intro hf;cases hf
 |msl=>intro hf;cases hf
 |ptr=>intro hf;cases hf
 |nilp=>intro _;rfl
 |nilfn=>intro _;rfl
 |nilmap=>intro _;rfl
 |nilifc=>intro _;rfl
 |fn=>intro hf;cases hf
 |ifc=>intro hf;cases hf
 |mp=>intro hf;cases hf
 |mapo=>intro hf;cases hf
 |mfn=>intro hf;cases hf
variable {α:Type}
theorem qmu{f:α->V}{z:Nat}{l:List α}{k:IntKind}{i:Int}{x:α}{K:V->Prop}(h:ErP v (.sl z false (l.map f)))(hf:∀a,Flat (f a))(h0:0<=i)(hx:l[i.toNat]?=some x)(hk:K (.iptr z (f x) 0)):onS (jc z v (.int k i)) K:=by
 obtain ⟨es,h1,h2,h3⟩:=ErP.shape h;rw[List.length_map]at h1;have hi:i.toNat<l.length:=(List.getElem?_eq_some_iff.1 hx).1;have he:es[i.toNat]?=some (f x):=by rw[ge_ o_];have:=h2 i.toNat _ _ (ge_ (show i.toNat<es.length by omega)) (by rw[List.getElem?_map,hx];rfl);exact congrArg some (Ve this (hf x))
 rcases h3 with ⟨b,rfl⟩|⟨id,fin,rfl⟩
 . simp only[jc,idxOf,if_pos h0,he,↓reduceIte,Option.map_some,zF];exact hk
 . simp only[jc,idxOf,if_pos h0,he,↓reduceIte,Option.map_some,zF];exact hk

set_option maxRecDepth 20000
abbrev qk4(M:Mk)(x:Non):Mk:={M with nons:=M.nons++[x]}
theorem qd7(s:List UInt8):Flat (.str s):= .str s
theorem qli(x:Non):Flat (Non.V x):= .agg _ (λc hc=>by
 simp at hc;rcases hc with rfl|rfl<;>exact .str _)
variable {s:St}
theorem OfAt.non{s':St}{m:Nat}{src:Source}{id:Nat}{x:Non}(h:OfAt s m src ti gi vN vP vT vL M)(hN:Gr s.H s.next 2 (M.nons.map Non.V) vN)
(f1:s'.f 1=s.f 1)(f2:s'.f 2=s.f 2)(f6:s'.f 6=s.f 6)(hn:s.next<=s'.next)(hid:s.next<=id)(hid2:id<s'.next)
(hm:s'.H m=some (.own 13 [mkC ti gi (.asl id (M.nons.length+1) 2 ((M.nons++[x]).map Non.V)) vP vT vL (qk4 M x)] false))(ht:s'.H id=some (.tok (M.nons.length+1)))(hH:∀j,j<s.next->j≠m->gid vN≠some j->s'.H j=s.H j):
 OfAt s' m src ti gi (.asl id (M.nons.length+1) 2 ((M.nons++[x]).map Non.V)) vP vT vL (qk4 M x)/\Gr s'.H s'.next 2 ((qk4 M x).nons.map Non.V) (.asl id (M.nons.length+1) 2 ((M.nons++[x]).map Non.V)):=by
 have hM:=h.at_;have lm:=hM.lm;have lt:=hM.lt;have lg:=hM.lg;obtain ⟨n1,n2,n3⟩:=hM.mt;obtain ⟨c1,c2,c3⟩:=hM.nt;refine⟨h.upd ⟨hm,by rw[hH ti lt n1 (hN.ne c2)];exact hM.ht,by rw[hH gi lg n2 (hN.ne c3)];exact hM.hg,Zy,hM.eP,hM.eT,hM.eL,o_,o_,o_,hM.len,hM.len3⟩ f1 f2 f6 hn (λj h1 h2 h3 h4 h5=>hH j h1 h2 (hN.ne h5)),Gr.tok ht hid2⟩
theorem qcz(t:List Non):vZ t []=[]:=rfl
abbrev qma(types:List Non)(n:List UInt8):Non:={name:=n,tag:=if 0<=kD n types 0 then(types.getD (kD n types 0).toNat {}).tag else[]}
theorem qf7(t:List Non)(l:List (List UInt8))(n:List UInt8):vZ t (l++[n])=vZ t l++[qma t n]:=by
 induction l with
 |nil=>rfl
 |cons a r ih=>rw[List.cons_append,vZ,ih];rfl
theorem Yu(t:List Non)(l:List (List UInt8)):(vZ t l).length=l.length:=by
 induction l with
 |nil=>rfl
 |cons a r ih=>rw[vZ,List.length_cons,ih,List.length_cons]
abbrev qaX(M:Mk)(i:Nat):Mk:={M with nons:=M.nons++vZ M.types (M.lefts.take i)}
theorem qop{m:Nat}{src:Source}{E:EC}(h:OfAt s0 m src ti gi vN vP vT vL M)(hN:Gr s0.H s0.next 2 (M.nons.map Non.V) vN)(b1:M.lefts.length<=1000000000)(b2:M.types.length<=1000000000)(b3:M.nons.length<=10)
(hQ:∀s' vN',OfAt s' m src ti gi vN' vP vT vL {M with nons:=M.nons++vZ M.types M.lefts}->Gr s'.H s'.next 2 ((M.nons++vZ M.types M.lefts).map Non.V) vN'->ewp Tryz.prog E Q s'):ewp Tryz.prog (.seq QE E) Q s0:=by
 have hA0:=h;have f1:=h.f1;have f2:=h.f2;have f6:=h.f6;have hLl:J9 vL=some (.int .i64 (M.lefts.length:Int)):=by have:=ErP.J9 h.at_.eL;rwa [List.length_map]at this
 have eL:=h.at_.eL;have eT:=h.at_.eT;repeat' with_reducible first|refine s_ ?_|simp -implicitDefEqProofs only[wZZ,seval,f1,f2,f6]
 refine qb ?nx8 (λ(i:Nat) s=>s.f 1=?v8_1/\s.f 2=?v8_2/\s.f 6=?v8_6/\s.f 18=vi i/\(i<=M.lefts.length)/\((∃vN,OfAt s m src ti gi vN vP vT vL (qaX M i)/\Gr s.H s.next 2 ((M.nons++vZ M.types (M.lefts.take i)).map Non.V) vN))) (λi=>M.lefts.length - i) (0) wj_ (by refine⟨?_,?_,?_,?_,wo_,(by exact⟨vN,(by have e:qaX M 0=M:=(by unfold qaX;rw[List.take_zero,qcz,List.append_nil]);rw[e];exact hA0.mono wl_ wl_ wl_ wg_ (λj hj=>fm_)),(by rw[List.take_zero,qcz,List.append_nil];exact hN.mono wg_ (λj h1 hj=>fm_))⟩)⟩<;>first|(simp -implicitDefEqProofs only[wL,wM,wN,wX,seval,Option.some.injEq]<;>exact wt_)|rfl|exact⟨_,rfl⟩) ?_;intro i s hnx ⟨g1,g2,g6,g18,k8_0,k8_1⟩;obtain ⟨vN1,hA1,hN1⟩:=k8_1;have g1:=hA1.f1;have g2:=hA1.f2;have g6:=hA1.f6;have ln:=hA1.ln;have hM:=hA1.at_;have lm:=hM.lm;have lt:=hM.lt;have lg:=hM.lg;have hm:s.H m=some (.own 13 [mkC ti gi vN1 vP vT vL M] false):=hM.hm;obtain ⟨n1,n2,n3⟩:=hM.mt;obtain ⟨c1,c2,c3⟩:=hM.nt;have d1:=hN1.ne c1;have hlen:(vZ M.types (M.lefts.take i)).length=i:=by rw[Yu,List.length_take];omega
 by_cases hi:i<M.lefts.length
 . have ht2:vZ M.types (M.lefts.take (i+1))=vZ M.types (M.lefts.take i)++[qma M.types M.lefts[i]]:=(by rw[List.take_add_one,ge_ hi];exact qf7 _ _ _);have hnx2:qaX M (i+1)=qk4 (qaX M i) (qma M.types M.lefts[i]):=(by unfold qaX qk4;rw[ht2,List.append_assoc]);have hnl2:M.nons++vZ M.types (M.lefts.take (i+1))=(qk4 (qaX M i) (qma M.types M.lefts[i])).nons:=(by rw[ht2,<- List.append_assoc]);by_cases hk:0<=kD M.lefts[i] M.types 0
   . have hbd:=qff M.lefts[i] M.types 0;obtain ⟨k,hk2⟩:∃k:Nat,kD M.lefts[i] M.types 0=k:=⟨(kD M.lefts[i] M.types 0).toNat,o_⟩;have hkl:k<M.types.length:=o_;have hxe:qma M.types M.lefts[i]={name:=M.lefts[i],tag:=M.types[k].tag}:=by
      unfold qma;rw[if_pos hk,hk2];simp[List.getD,hkl]
     rw[hxe]at hnx2 hnl2;repeat' with_reducible first|refine s_ ?_|simp -implicitDefEqProofs only[wZZ,seval,g1,g2,g6,g18,g1,g2,g6,g18,hm,hLl,hk2,qj d1]|apply qa<;>intro h h_<;>(try simp only[wD,reduceCtorEq]at h_)<;>(try exact wb_)<;>(try simp only[h])|apply qM (hp:=zM ?_);(focus(refine(hM.mono (Nat.le_refl _) (λj hj=>?_)).er;(try simp only[wM]);(repeat rw[if_neg o_])));exact qd;exact wu_;exact Flat.int _ _;rotate_left;exact wf_|apply zq rfl (hN1.mono (Nat.le_refl _) (λid h1 h2=>by(try simp only[wM]);(repeat rw[if_neg o_])));(focus(first|exact qY.sl|exact qY.asl));(focus(simp only[wZ]<;>omega));(focus(unfold maxLen;simp only[wZ]<;>omega))|apply qmu eL qd7;omega;(focus(first|assumption|exact ge_ o_))|apply qmu eT qli;omega;(focus(first|assumption|exact ge_ o_))|refine t_ ?_|simp -implicitDefEqProofs (disch:=omega) only[w64,if_neg]
     refine⟨by(try simp only[wN])<;>omega,i+1,o_,f1.symm,f2.symm,f6.symm,rfl,o_,?_⟩;rw[hnx2,hnl2];refine⟨_,hA1.non (id:=s.next+7+10+5+2+10+8) hN1 wl_ wl_ wl_ wg_ o_ wg_ ?_ ?_ (λj h1 h2 h3=>?_)⟩
     . simp only[wM]
       repeat(first|rw[if_pos trivial]|rw[if_pos rfl]|rw[if_neg o_]|simp only[wM]|rw[qj d1])
       simp
     . simp only[wM]
       repeat(first|rw[if_pos trivial]|rw[if_pos rfl]|rw[if_neg o_]|simp only[wM])
     . simp only[wM]
       repeat(first|rw[if_pos trivial]|rw[if_pos rfl]|rw[if_neg o_]|simp only[wM]|rw[qj h3])
   . have hxe:qma M.types M.lefts[i]={name:=M.lefts[i]}:=by
      unfold qma;rw[if_neg hk]
     rw[hxe]at hnx2 hnl2;repeat' with_reducible first|refine s_ ?_|simp -implicitDefEqProofs only[wZZ,seval,g1,g2,g6,g18,g1,g2,g6,g18,hm,hLl,qj d1]|apply qa<;>intro h h_<;>(try simp only[wD,reduceCtorEq]at h_)<;>(try exact wb_)<;>(try simp only[h])|apply qM (hp:=zM ?_);(focus(refine(hM.mono (Nat.le_refl _) (λj hj=>?_)).er;(try simp only[wM]);(repeat rw[if_neg o_])));exact qd;exact wu_;exact Flat.int _ _;rotate_left;exact wf_|apply zq rfl (hN1.mono (Nat.le_refl _) (λid h1 h2=>by(try simp only[wM]);(repeat rw[if_neg o_])));(focus(first|exact qY.sl|exact qY.asl));(focus(simp only[wZ]<;>omega));(focus(unfold maxLen;simp only[wZ]<;>omega))|apply qmu eL qd7;omega;(focus(first|assumption|exact ge_ o_))|refine t_ ?_|simp -implicitDefEqProofs (disch:=omega) only[w64,if_neg]
     refine⟨by(try simp only[wN])<;>omega,i+1,o_,f1.symm,f2.symm,f6.symm,rfl,o_,?_⟩;rw[hnx2,hnl2];refine⟨_,hA1.non (id:=s.next+7+10+5+2+8) hN1 wl_ wl_ wl_ wg_ o_ wg_ ?_ ?_ (λj h1 h2 h3=>?_)⟩
     . simp only[wM]
       repeat(first|rw[if_pos trivial]|rw[if_pos rfl]|rw[if_neg o_]|simp only[wM]|rw[qj d1])
       simp
     . simp only[wM]
       repeat(first|rw[if_pos trivial]|rw[if_pos rfl]|rw[if_neg o_]|simp only[wM])
     . simp only[wM]
       repeat(first|rw[if_pos trivial]|rw[if_pos rfl]|rw[if_neg o_]|simp only[wM]|rw[qj h3])
 . have e:qaX M i={M with nons:=M.nons++vZ M.types M.lefts}:=(by unfold qaX;rw[List.take_of_length_le o_]);rw[e]at hA1;rw[List.take_of_length_le o_]at hN1;repeat' with_reducible first|refine s_ ?_|simp -implicitDefEqProofs only[wZZ,seval,g1,g2,g6,g18,g1,g2,g6,g18,hm,hLl]|apply qa<;>intro h h_<;>(try simp only[wD,reduceCtorEq]at h_)<;>(try exact wb_)<;>(try simp only[h])|refine t_ ?_
   exact hQ _ vN1 (hA1.mono wl_ wl_ wl_ wg_ (λj hj=>fm_)) (hN1.mono wg_ (λj h1 hj=>fm_))

def qfm(n:Nat):List Non:=(List.range n).map λk=>{name:=64::qlP (k+1)}
theorem qcD(n:Nat):qfm (n+1)=qfm n++[{name:=64::qlP (n+1)}]:=by unfold qfm;rw[List.range_succ,List.map_append];rfl
theorem qeo(n:Nat):(qfm n).length=n:=by simp[qfm]
theorem qk8(n:Nat):(qlP n).length<=25:=by have:=qcp 25 n [];simpa[qlP]using this
abbrev qjP(M:Mk)(i:Nat):Mk:={M with nons:=M.nons++qfm i}
theorem qqh{m n:Nat}{src:Source}{E:EC}(h:OfAt s0 m src ti gi vN vP vT vL M)(hN:Gr s0.H s0.next 2 (M.nons.map Non.V) vN)(b1:M.nons.length<=1000000000)(hi:M.inner=n)(b2:n<=2000000000)
(hQ:∀s' vN',OfAt s' m src ti gi vN' vP vT vL (qjP M n)->ewp Tryz.prog E Q s'):ewp Tryz.prog (.seq QR E) Q s0:=by
 have hA0:=h;have f1:=h.f1;have f2:=h.f2;have f6:=h.f6;repeat' with_reducible first|refine s_ ?_|simp -implicitDefEqProofs only[wZZ,seval,f1,f2,f6]
 refine qb ?nx9 (λ(i:Nat) s=>s.f 1=?v9_1/\s.f 2=?v9_2/\s.f 6=?v9_6/\s.f 21=vi i/\(1<=i)/\(i<=n+1)/\((∃vN,OfAt s m src ti gi vN vP vT vL (qjP M (i - 1))/\Gr s.H s.next 2 ((M.nons++qfm (i - 1)).map Non.V) vN))) (λi=>n+1 - i) (1) wj_ (by refine⟨?_,?_,?_,?_,wo_,wo_,(by exact⟨vN,(by have e:qjP M (1 - 1)=M:=(by show {M with nons:=M.nons++qfm 0}=M;unfold qfm;simp);rw[e];exact hA0.mono wl_ wl_ wl_ wg_ (λj hj=>fm_)),(by have e:M.nons++qfm (1 - 1)=M.nons:=(by unfold qfm;simp);rw[e];exact hN.mono wg_ (λj h1 hj=>fm_))⟩)⟩<;>first|(simp -implicitDefEqProofs only[wL,wM,wN,wX,seval,Option.some.injEq]<;>exact wt_)|rfl|exact⟨_,rfl⟩) ?_;intro i s hnx ⟨g1,g2,g6,g21,k9_0,k9_1,k9_2⟩;obtain ⟨vN1,hA1,hN1⟩:=k9_2;have g1:=hA1.f1;have g2:=hA1.f2;have g6:=hA1.f6;have ln:=hA1.ln;have hM:=hA1.at_;have lm:=hM.lm;have lt:=hM.lt;have lg:=hM.lg;have hm:s.H m=some (.own 13 [mkC ti gi vN1 vP vT vL M] false):=hM.hm;obtain ⟨n1,n2,n3⟩:=hM.mt;obtain ⟨c1,c2,c3⟩:=hM.nt;have d1:=hN1.ne c1;have hlen:=qeo (i - 1);by_cases hk:i<=n
 . obtain ⟨j,rfl⟩:∃j,i=j+1:=⟨i - 1,o_⟩;have ej:j+1 - 1=j:=rfl;rw[ej]at hA1 hN1 hlen;have hdl:=qk8 (j+1);have hnx2:qjP M (j+1+1 - 1)=qk4 (qjP M j) {name:=64::qlP (j+1)}:=by
    show ({M with nons:=M.nons++qfm (j+1)}:Mk)=_;unfold qk4 qjP;rw[qcD,List.append_assoc]
   have hnl2:M.nons++qfm (j+1+1 - 1)=(qk4 (qjP M j) {name:=64::qlP (j+1)}).nons:=by show M.nons++qfm (j+1)=_;rw[qcD,<- List.append_assoc]
   have hz:IntKind.i64.wrap ((j+1+1:Nat):Int)=((j+1+1:Nat):Int):=wrap64 o_ o_;repeat' with_reducible first|refine s_ ?_|simp -implicitDefEqProofs only[wZZ,seval,g1,g2,g6,g21,g1,g2,g6,g21,hm,hi,qj d1,hz]|apply qa<;>intro h h_<;>(try simp only[wD,reduceCtorEq]at h_)<;>(try exact wb_)<;>(try simp only[h])|apply zq rfl (hN1.mono (Nat.le_refl _) (λid h1 h2=>by(try simp only[wM]);(repeat rw[if_neg o_])));(focus(first|exact qY.sl|exact qY.asl));(focus(simp only[wZ]<;>omega));(focus(unfold maxLen;simp only[wZ]<;>omega))|refine t_ ?_|apply ql9;(focus(first|omega|(simp only[wZ]<;>omega)))|refine yY we_ (XZ wf_) ?_|simp -implicitDefEqProofs (disch:=omega) only[w64,if_neg]
   refine⟨by(try simp only[wN])<;>omega,j+1+1,o_,f1.symm,f2.symm,f6.symm,rfl,o_,o_,?_⟩;rw[hnx2,hnl2];refine⟨_,hA1.non (id:=s.next+6+11) hN1 wl_ wl_ wl_ wg_ o_ wg_ ?_ ?_ (λj h1 h2 h3=>?_)⟩
   . simp only[wM]
     repeat(first|rw[if_pos trivial]|rw[if_pos rfl]|rw[if_neg o_]|simp only[wM]|rw[qj d1])
     simp[hi]
   . simp only[wM]
     repeat(first|rw[if_pos trivial]|rw[if_pos rfl]|rw[if_neg o_]|simp only[wM])
   . simp only[wM]
     repeat(first|rw[if_pos trivial]|rw[if_pos rfl]|rw[if_neg o_]|simp only[wM]|rw[qj h3])
 . have e:i - 1=n:=o_;rw[e]at hA1;repeat' with_reducible first|refine s_ ?_|simp -implicitDefEqProofs only[wZZ,seval,g1,g2,g6,g21,g1,g2,g6,g21,hm,hi]|apply qa<;>intro h h_<;>(try simp only[wD,reduceCtorEq]at h_)<;>(try exact wb_)<;>(try simp only[h])|refine t_ ?_
   exact hQ _ vN1 (hA1.mono wl_ wl_ wl_ wg_ (λj hj=>fm_))
def qal(given:List Bool):Nat->Nat->List Tok×Int->List Tok×Int
 |0,_,q=>q
 |f+1,i,(l,n)=>qal given f (i+1) (if given.getD i false=true then(l,n)else(l.set i {l.getD i {} with num:=n},n+1))
theorem KI(given:List Bool)(f i:Nat)(l:List Tok)(n:Int):qal given (f+1) i (l,n)=qal given f (i+1) (if given.getD i false=true then(l,n)else(l.set i {l.getD i {} with num:=n},n+1)):=rfl
abbrev qge(M:Mk)(l:List Tok):Mk:={M with toks:=l}
theorem qqJ{m:Nat}{src:Source}{E:EC}(h:OfAt s0 m src ti gi vN vP vT vL M)(f22:s0.f 22=vi 57346)(b1:M.toks.length<=10000000000)
(hQ:∀s',OfAt s' m src ti gi vN vP vT vL (qge M (qal M.given (M.toks.length - 3) 3 (M.toks,57346)).1)->ewp Tryz.prog E Q s'):ewp Tryz.prog (.seq vF E) Q s0:=by
 generalize hR:qal M.given (M.toks.length - 3) 3 (M.toks,57346)=R at hQ;have hA0:=h;have f1:=h.f1;have f2:=h.f2;have f6:=h.f6;have hl3:=h.at_.len3;have hgl:=h.at_.len;repeat' with_reducible first|refine s_ ?_|simp -implicitDefEqProofs only[wZZ,seval,f1,f2,f6]
 refine qb ?nx10 (λ(z:Nat×List Tok×Int) s=>s.f 1=?v10_1/\s.f 2=?v10_2/\s.f 6=?v10_6/\s.f 23=vi z.1/\(3<=z.1)/\(z.1<=M.toks.length)/\((OfAt s m src ti gi vN vP vT vL (qge M z.2.1)))/\(qal M.given (M.toks.length - z.1) z.1 z.2=R)/\((z.2.1.length=M.toks.length))/\((57346<=z.2.2/\z.2.2<=57346+z.1))/\(s.f 22=vi z.2.2)) (λz=>M.toks.length - z.1) ((3,M.toks,57346)) wj_ (by refine⟨?_,?_,?_,?_,wo_,wo_,(by exact hA0.mono wl_ wl_ wl_ wg_ (λj hj=>fm_)),(by exact hR),(by rfl),d_,(by(try simp -implicitDefEqProofs only[wL,wM,wN,seval]);exact f22)⟩<;>first|(simp -implicitDefEqProofs only[wL,wM,wN,wX,seval,Option.some.injEq]<;>exact wt_)|rfl|exact⟨_,rfl⟩) ?_;intro z s hnx ⟨g1,g2,g6,g23,k10_0,k10_1,k10_2,k10_3,k10_4,k10_5,g22⟩;obtain ⟨i,l,n⟩:=z;dsimp only at g22 g23 k10_0 k10_1 k10_2 k10_3 k10_4 k10_5;have hA1:=k10_2;have g1:=hA1.f1;have g2:=hA1.f2;have g6:=hA1.f6;have ln:=hA1.ln;have hM:=hA1.at_;have lm:=hM.lm;have lt:=hM.lt;have lg:=hM.lg;have hm:s.H m=some (.own 13 [.agg [.msl ti 6 0 l.length,vN,vP,.str [],.str [],.msl gi 1 0 M.given.length,vT,vL,vi M.e,vi M.at_,.str M.name,vi M.level,vi M.inner]] false):=hM.hm;have ht:s.H ti=some (.own 6 (l.map Tok.V) false):=hM.ht;have hg:s.H gi=some (.own 1 (M.given.map V.bool) false):=hM.hg;obtain ⟨n1,n2,n3⟩:=hM.mt;by_cases hk:i<M.toks.length
 . rw [show M.toks.length - i=(M.toks.length - (i+1))+1 by omega,KI]at k10_3;have hgt:M.given[i]?=some (M.given.getD i false):=by
    rw[ge_ o_];simp[List.getD,show i<M.given.length by omega]
   generalize hgb:M.given.getD i false=gb at hgt k10_3;have hlt:l[i]?=some (l.getD i {}):=by rw[ge_ o_];simp[List.getD,show i<l.length by omega]
   generalize hkt:l.getD i {}=kt at hlt k10_3;cases gb
   . rw[if_neg (by simp)]at k10_3;have hz:IntKind.i64.wrap (n+1)=n+1:=wrap64 o_ o_;have hs0:Zq (qge M l) i {kt with num:=n}=qge M (l.set i {kt with num:=n}):=rfl;repeat' with_reducible first|refine s_ ?_|simp -implicitDefEqProofs only[wZZ,seval,g1,g2,g6,g23,g22,g1,g2,g6,g22,g23,hm,ht,hg,hz]|apply qa<;>intro h h_<;>(try simp only[wD,reduceCtorEq]at h_)<;>(try exact wb_)<;>(try simp only[h])|apply stT ({kt with num:=n});(focus(first|assumption|exact List.getElem?_set_self ls_));exact wu_;exact wu_;exact wu_;decide;exact wu_|refine t_ ?_|apply YV;exact wd_;exact wu_|simp -implicitDefEqProofs (disch:=omega) only[w64,if_neg]
     refine⟨by(try simp only[wN])<;>omega,(i+1,l.set i {kt with num:=n},n+1),d_,f1.symm,f2.symm,f6.symm,rfl,d_,d_,?_,k10_3,by dsimp only;rw[List.length_set];exact k10_4,d_,rfl⟩;dsimp only;rw[<- hs0];refine hA1.upd (hM.Zq wg_ ?_ (λj h1 h2=>?_)) wl_ wl_ wl_ wg_ (λj h1 h2 h3 h4 h5=>?_)
     . simp only[wM]
       repeat(first|rw[if_pos trivial]|rw[if_pos rfl]|rw[if_neg o_])
     . simp only[wM]
       repeat(first|rw[if_pos trivial]|rw[if_pos rfl]|rw[if_neg o_])
     . simp only[wM]
       repeat(first|rw[if_pos trivial]|rw[if_pos rfl]|rw[if_neg o_])
   . rw[if_pos rfl]at k10_3;repeat' with_reducible first|refine s_ ?_|simp -implicitDefEqProofs only[wZZ,seval,g1,g2,g6,g23,g22,g1,g2,g6,g22,g23,hm,ht,hg]|apply qa<;>intro h h_<;>(try simp only[wD,reduceCtorEq]at h_)<;>(try exact wb_)<;>(try simp only[h])|refine t_ ?_|apply YV;exact wd_;exact wu_|simp -implicitDefEqProofs (disch:=omega) only[w64,if_neg]
     exact⟨by(try simp only[wN])<;>omega,(i+1,l,n),d_,f1.symm,f2.symm,f6.symm,rfl,d_,d_,hA1.mono wl_ wl_ wl_ wg_ (λj hj=>fm_),k10_3,k10_4,d_,rfl⟩
 . have e:M.toks.length - i=0:=o_;rw[e]at k10_3;subst k10_3;repeat' with_reducible first|refine s_ ?_|simp -implicitDefEqProofs only[wZZ,seval,g1,g2,g6,g23,g22,g1,g2,g6,g22,g23,hm]|apply qa<;>intro h h_<;>(try simp only[wD,reduceCtorEq]at h_)<;>(try exact wb_)<;>(try simp only[h])|refine t_ ?_
   exact hQ _ (hA1.mono wl_ wl_ wl_ wg_ (λj hj=>fm_))

theorem qte{l:List GPr}{i:Nat}{p:GPr}(h:ErP vP (.sl 6 false (l.map GPr.V)))(hp:l[i]?=some p):∃w1 w2,jc 6 vP (vi i)=some (.iptr 6 (.agg [vi p.left,w1,vi p.prec,.str p.code,w2,vi p.at_]) 0)/\ErP w1 (.sl 1 false (p.right.map (V.int .i64)))/\ErP w2 (.sl 1 false (p.args.map (V.int .i64))):=by
 obtain ⟨es,h1,h2,h3⟩:=ErP.shape h;rw[List.length_map]at h1;have hi:i<l.length:=(List.getElem?_eq_some_iff.1 hp).1;have he:es[i]?=some es[i]:=ge_ o_;have hE:=h2 i _ _ he (by rw[List.getElem?_map,hp];rfl);generalize es[i]=e at he hE;unfold ErP at hE;cases hE with
 | agg cs _ hl hc=>
   match cs,hl with
   | [c0,c1,c2,c3,c4,c5],_=>
     have e0:=Ve (hc 0 _ _ rfl rfl) (.int _ _);have e2:=Ve (hc 2 _ _ rfl rfl) (.int _ _);have e3:=Ve (hc 3 _ _ rfl rfl) (.str _);have e5:=Ve (hc 5 _ _ rfl rfl) (.int _ _);subst e0 e2 e3 e5;refine⟨c1,c4,?_,hc 1 _ _ rfl rfl,hc 4 _ _ rfl rfl⟩;rcases h3 with ⟨b,rfl⟩|⟨id,fin,rfl⟩
     . simp[jc,idxOf,he]
     . simp[jc,idxOf,he]
def VR(M:Mk):Bool:=decide (40<M.toks.length) || decide (24<M.nons.length) || decide (60<M.prods.length) || M.prods.any λp=>decide (8<p.right.length)
theorem qk6{m:Nat}{src:Source}{E:EC}(h:OfAt s0 m src ti gi vN vP vT vL M)(b1:M.prods.length<=10000000000)
(hQ:∀s',OfAt s' m src ti gi vN vP vT vL M->s'.f 24=.bool (VR M)->ewp Tryz.prog E Q s'):ewp Tryz.prog (.seq (.reg vI) (.seq xL E)) Q s0:=by
 have hA0:=h;have f1:=h.f1;have f2:=h.f2;have f6:=h.f6;have hM:=h.at_;have hm:=hM.hm;have hNl:J9 vN=some (.int .i64 (M.nons.length:Int)):=by have:=ErP.J9 hM.eN;rwa [List.length_map]at this
 have hPl:J9 vP=some (.int .i64 (M.prods.length:Int)):=by have:=ErP.J9 hM.eP;rwa [List.length_map]at this
 generalize hB:(decide (40<M.toks.length) || decide (24<M.nons.length) || decide (60<M.prods.length))=B;have hR:VR M=(B || M.prods.any λp=>decide (8<p.right.length)):=by unfold VR;rw[hB]
 rw[hR]at hQ;have tail:∀s1,OfAt s1 m src ti gi vN vP vT vL M->s1.f 24=.bool B->ewp Tryz.prog (.seq xL E) Q s1:=by
  intro s1 hA f24;have f1:=hA.f1;have f2:=hA.f2;have f6:=hA.f6;generalize hRR:(B || M.prods.any λp=>decide (8<p.right.length))=R at hQ;repeat' with_reducible first|refine s_ ?_|simp -implicitDefEqProofs only[wZZ,seval,f1,f2,f6,f24]
  refine qb ?nx11 (λ(z:Nat×Bool) s=>s.f 1=?v11_1/\s.f 2=?v11_2/\s.f 6=?v11_6/\s.f 25=vi z.1/\(z.1<=M.prods.length)/\((OfAt s m src ti gi vN vP vT vL M))/\(((z.2 || (M.prods.drop z.1).any λp=>decide (8<p.right.length))=R))/\(s.f 24=.bool z.2)) (λz=>M.prods.length - z.1) ((0,B)) wj_ (by refine⟨?_,?_,?_,?_,wo_,(by exact hA.mono wl_ wl_ wl_ wg_ (λj hj=>fm_)),(by exact hRR),(by(try simp -implicitDefEqProofs only[wL,wM,wN,seval]);exact f24)⟩<;>first|(simp -implicitDefEqProofs only[wL,wM,wN,wX,seval,Option.some.injEq]<;>exact wt_)|rfl|exact⟨_,rfl⟩) ?_;intro z s hnx ⟨g1,g2,g6,g25,k11_0,k11_1,k11_2,g24⟩;obtain ⟨i,b⟩:=z;dsimp only at g24 g25 k11_0 k11_1 k11_2;have hA1:=k11_1;have g1:=hA1.f1;have g2:=hA1.f2;have g6:=hA1.f6;have ln:=hA1.ln;have hM1:=hA1.at_;have hm1:=hM1.hm;by_cases hk:i<M.prods.length
  . obtain ⟨w1,w2,hia,hw1,hw2⟩:=qte hM.eP (ge_ hk);have hwl:J9 w1=some (.int .i64 (M.prods[i].right.length:Int)):=(by have:=ErP.J9 hw1;rwa [List.length_map]at this);rw[List.drop_eq_getElem_cons hk,List.any_cons]at k11_2;cases b
    . repeat' with_reducible first|refine s_ ?_|simp -implicitDefEqProofs only[wZZ,seval,g1,g2,g6,g25,g24,g1,g2,g6,g24,g25,hm1,hPl,hia,hwl]|apply qa<;>intro h h_<;>(try simp only[wD,reduceCtorEq]at h_)<;>(try exact wb_)<;>(try simp only[h])|refine t_ ?_|simp -implicitDefEqProofs (disch:=omega) only[w64,if_neg]
      exact⟨by(try simp only[wN])<;>omega,(i+1,decide (8<(M.prods[i].right.length:Int))),d_,f1.symm,f2.symm,f6.symm,rfl,d_,hA1.mono wl_ wl_ wl_ wg_ (λj hj=>fm_),by rw[<- k11_2,Bool.false_or];congr 1;simp;omega,rfl⟩
    . repeat' with_reducible first|refine s_ ?_|simp -implicitDefEqProofs only[wZZ,seval,g1,g2,g6,g25,g24,g1,g2,g6,g24,g25,hm1,hPl,hia,hwl]|apply qa<;>intro h h_<;>(try simp only[wD,reduceCtorEq]at h_)<;>(try exact wb_)<;>(try simp only[h])|refine t_ ?_|simp -implicitDefEqProofs (disch:=omega) only[w64,if_neg]
      exact⟨by(try simp only[wN])<;>omega,(i+1,true),d_,f1.symm,f2.symm,f6.symm,rfl,d_,hA1.mono wl_ wl_ wl_ wg_ (λj hj=>fm_),by rw[<- k11_2];simp,rfl⟩
  . rw[List.drop_eq_nil_of_le o_,List.any_nil,Bool.or_false]at k11_2;subst k11_2;repeat' with_reducible first|refine s_ ?_|simp -implicitDefEqProofs only[wZZ,seval,g1,g2,g6,g25,g24,g1,g2,g6,g24,g25,hm1,hPl]|apply qa<;>intro h h_<;>(try simp only[wD,reduceCtorEq]at h_)<;>(try exact wb_)<;>(try simp only[h])|refine t_ ?_
    exact hQ _ (hA1.mono wl_ wl_ wl_ wg_ (λj hj=>fm_)) (by simp -implicitDefEqProofs only[wL,seval];exact g24)
 generalize (EC.seq xL E)=F at tail
 skip
 repeat' with_reducible first|refine s_ ?_|simp -implicitDefEqProofs only[wZZ,seval,f1,f2,f6,hm,hNl,hPl]|(first|apply qA|apply qB)<;>intro h h_<;>(try simp only[wD,reduceCtorEq]at h_)<;>(try exact wb_)<;>(try simp only[h])|refine t_ ?_
 all_goals(refine tail _ (hA0.mono wl_ wl_ wl_ wg_ (λj hj=>fm_)) ?_)
 all_goals(simp -implicitDefEqProofs only[wL,seval])
 all_goals(refine congrArg V.bool ?_;rw[<- hB])
 all_goals first|(rw[show decide (40<M.toks.length)=false from decide_eq_false o_,show decide (24<M.nons.length)=false from decide_eq_false o_];simp only[Bool.false_or,decide_eq_decide];omega)|(rw[decide_eq_false o_,decide_eq_true o_];rfl)|(rw[decide_eq_true o_];rfl)

def Yt(p:Part):Bool:=if p.code=[]then qgg p.sym false true else p.sym.none && decide (qxE p.code=p.code.length)
def qgq(a:Alt):Bool:=a.parts.all Yt && (a.prec.none || qgg a.prec false true)
def Part.Fits(p:Part):Prop:=p.sym.name.length<=1099511627776/\p.code.length<=1099511627776
def Alt.Fits(a:Alt):Prop:=a.parts.length<=1099511627776/\(∀p∈a.parts,p.Fits)/\a.prec.name.length<=1099511627776
theorem XP{a:Alt}(hf:a.Fits):Pure Tryz.prog 128 [a.V] (.bool (qgq a)):=by
 refine pure_intro Tryz.func128 nm_ qpB (by show 1<=54;decide) ?_
 show ewp _ qoZ _ _;obtain ⟨hl,hp,hn⟩:=hf;obtain ⟨ps,pc,at_⟩:=a;dsimp only at hl hp hn;repeat' with_reducible first|refine s_ ?_|simp -implicitDefEqProofs only[wZZ,seval]|refine t_ ?_
 refine qb ?nx1 (λ(k:Nat) s=>s.f 1=?v1_1/\s.H 0=?o1_0/\s.f 3=vi k/\(k<=ps.length)/\(∀x∈ps.take k,Yt x=true)) (λk=>ps.length - k) (0) wj_ (by refine⟨?_,?_,?_,wo_,wo_⟩<;>first|(simp -implicitDefEqProofs only[wL,wM,wN,wX,seval,Option.some.injEq]<;>exact wt_)|rfl|exact⟨_,rfl⟩) ?_;intro k s hnx ⟨g1,o0,g3,k1_0,k1_1⟩;by_cases hk:k<ps.length
 . have hx:=hp ps[k] (List.getElem_mem hk);have ht2:ps.take (k+1)=ps.take k++[ps[k]]:=(by rw[List.take_add_one,ge_ hk];rfl);have hbad:Yt ps[k]=false->qgq ⟨ps,pc,at_⟩=false:=λh=>by
    unfold qgq;rw[List.all_eq_false.2 ⟨ps[k],List.getElem_mem hk,by rw[h];exact Bool.false_ne_true⟩];rfl
   have hgood:Yt ps[k]=true->∀x∈ps.take (k+1),Yt x=true:=λh x hx2=>by
    rw[ht2]at hx2;rcases List.mem_append.1 hx2 with hx2|hx2
    . exact k1_1 x hx2
    . obtain rfl:=List.mem_singleton.1 hx2;exact h
   obtain ⟨hx1,hx2⟩:=hx;repeat' with_reducible first|refine s_ ?_|simp -implicitDefEqProofs only[wZZ,seval,g1,g3,o0]|(first|apply qa|apply qA|apply qB)<;>intro h h_<;>(try simp only[wD,reduceCtorEq]at h_)<;>(try exact wb_)<;>(try simp only[h])|refine t_ ?_|apply Xl;exact wu_;exact wu_;(focus((try simp -implicitDefEqProofs only[wE,Nat.reduceAdd]);rfl))|refine XA we_ we_ we_ (xM wf_) ?_|refine cq1 Zt we_ ?_|refine jZ we_ we_ (qau wf_) ?_|simp -implicitDefEqProofs (disch:=omega) only[w64,if_neg]
   . refine⟨wk_,k+1,o_,?_⟩;refine⟨?_,?_,?_,?_,?_⟩;iterate 3 (focus(first|(simp -implicitDefEqProofs only[wL,wM,wN,wX,seval,Option.some.injEq,g1,g3,o0]<;>exact wt_)|rfl|exact⟨_,rfl⟩))
     all_goals try omega
     exact hgood (by simp_all [Yt,Sym.none])
   . refine qz rfl (Or.inr rfl) ?_;simp -implicitDefEqProofs only[wL,seval,g1,g3];refine er_ ?_
     try(with_reducible rfl)
     exact(hbad (by simp_all [Yt,Sym.none])).symm
   . refine qz rfl (Or.inr rfl) ?_;simp -implicitDefEqProofs only[wL,seval,g1,g3];refine er_ ?_
     try(with_reducible rfl)
     exact(hbad (by simp_all [Yt,Sym.none])).symm
   . refine⟨wk_,k+1,o_,?_⟩;refine⟨?_,?_,?_,?_,?_⟩;iterate 3 (focus(first|(simp -implicitDefEqProofs only[wL,wM,wN,wX,seval,Option.some.injEq,g1,g3,o0]<;>exact wt_)|rfl|exact⟨_,rfl⟩))
     all_goals try omega
     exact hgood (by simp_all [Yt,Sym.none])
   . refine qz rfl (Or.inr rfl) ?_;simp -implicitDefEqProofs only[wL,seval,g1,g3];refine er_ ?_
     try(with_reducible rfl)
     exact(hbad (by simp_all [Yt,Sym.none])).symm
 . rw[List.take_of_length_le o_]at k1_1;have e:qgq ⟨ps,pc,at_⟩=(pc.none || qgg pc false true):=(by unfold qgq;rw[List.all_eq_true.2 k1_1];rfl);rw[e];repeat' with_reducible first|refine s_ ?_|simp -implicitDefEqProofs only[wZZ,seval,g1,g3,o0]|(first|apply qa|apply qA|apply qB)<;>intro h h_<;>(try simp only[wD,reduceCtorEq]at h_)<;>(try exact wb_)<;>(try simp only[h])|apply Xl;exact wu_;exact wu_;(focus((try simp -implicitDefEqProofs only[wE,Nat.reduceAdd]);rfl))|refine t_ ?_|refine XA we_ we_ we_ (xM wf_) ?_|refine cq1 Zt we_ ?_
   all_goals refine qz rfl (Or.inr rfl) ?_
   all_goals(try simp -implicitDefEqProofs only[wL,seval,g1,g3])
   all_goals refine er_ ?_
   all_goals(try(with_reducible rfl))
   all_goals simp_all
def qna:List UInt8->Bool
 |[]=>false
 |[_]=>false
 |a::b::r=>(decide (a=37) && decide (b=125)) || qna (b::r)
def qao(r:Rule):Bool:=qc9 r.left && !decide (r.alts=[]) && r.alts.all qgq
def Vd(x:Source):Bool:= !qna x.pro && x.decls.all V7 && x.rules.all qao && !decide (x.rules=[])
def Decl.Fits(d:Decl):Prop:=d.tag.length<=1099511627776/\d.syms.length<=1099511627776/\∀x∈d.syms,x.name.length<=1099511627776
def Rule.Fits(r:Rule):Prop:=r.left.length<=1099511627776/\r.alts.length<=1099511627776/\∀a∈r.alts,a.Fits
def Source.Fits(x:Source):Prop:=x.pro.length<=1099511627776/\x.tail.length<=1099511627776/\x.decls.length<=1099511627776/\(∀d∈x.decls,d.Fits)/\x.rules.length<=1099511627776/\∀r∈x.rules,r.Fits
theorem qaP{p:α->Bool}{l:List α}{k:Nat}(hk:k<l.length)(h:∀x∈l.take k,p x=true)(hx:p l[k]=true):∀x∈l.take (k+1),p x=true:=by
 rw[List.take_add_one,ge_ hk];intro x h2;rcases List.mem_append.1 h2 with h2|h2
 . exact h x h2
 . obtain rfl:=List.mem_singleton.1 h2;exact hx
theorem qdt{p:α->Bool}{l:List α}{k:Nat}(hk:k<l.length)(hx:p l[k]=false):l.all p=false:=
 List.all_eq_false.2 ⟨l[k],List.getElem_mem hk,by rw[hx];exact Bool.false_ne_true⟩
theorem qip(a b:UInt8)(r:List UInt8):qna (a::b::r)=((decide (a=37) && decide (b=125)) || qna (b::r)):=rfl
theorem JF{x:Source}(hf:x.Fits):Pure Tryz.prog 98 [x.V] (.bool (Vd x)):=by
 refine pure_intro Tryz.func98 nm_ quA (by show 1<=77;decide) ?_
 show ewp _ quy _ _;obtain ⟨hp,ht,hdl,hd,hrl,hr⟩:=hf;obtain ⟨pro,ds,rs,tl⟩:=x;dsimp only at hp ht hdl hd hrl hr;repeat' with_reducible first|refine s_ ?_|simp -implicitDefEqProofs only[wZZ,seval]|refine t_ ?_
 refine qb ?nx1 (λ(k:Nat) s=>s.f 1=?v1_1/\s.H 0=?o1_0/\s.f 3=vi k/\(k<=pro.length)/\(qna (pro.drop k)=qna pro)) (λk=>pro.length - k) (0) wj_ (by refine⟨?_,?_,?_,wo_,wo_⟩<;>first|(simp -implicitDefEqProofs only[wL,wM,wN,wX,seval,Option.some.injEq]<;>exact wt_)|rfl|exact⟨_,rfl⟩) ?_;intro k s hnx ⟨g1,o0,g3,k1_0,k1_1⟩;by_cases hk:k+1<pro.length
 . have hz:=w1_ k;have hz2:IntKind.i64.wrap ((k:Int)+2)=(k:Int)+2:=wrap64 o_ o_;have e1:pro.drop k=pro[k]::pro[k+1]::pro.drop (k+2):=(by rw[List.drop_eq_getElem_cons o_,List.drop_eq_getElem_cons hk]);have e2:pro.drop (k+1)=pro[k+1]::pro.drop (k+2):=(by rw[List.drop_eq_getElem_cons hk]);have e3:(pro.take (k+2)).drop k=[pro[k],pro[k+1]]:=by
    rw[List.drop_take,e1,show k+2 - k=2 by omega];rfl
   have e4:((pro.take ((k:Int)+2).toNat).drop k)=[pro[k],pro[k+1]]:=by rw[show ((k:Int)+2).toNat=k+2 by omega,e3]
   rw[e1,qip,<- e2]at k1_1;repeat' with_reducible first|refine s_ ?_|simp -implicitDefEqProofs only[wZZ,seval,g1,g3,o0,hz,hz2]|apply qa<;>intro h h_<;>(try simp only[wD,reduceCtorEq]at h_)<;>(try exact wb_)<;>(try simp only[h])|apply qd0;omega;omega;omega|refine t_ ?_
   . refine qz rfl (Or.inr rfl) ?_;simp -implicitDefEqProofs only[wL,seval,g1,g3];refine er_ ?_
     try(with_reducible rfl)
     rw[e4]at h_;simp at h_;simp[h_.1,h_.2]at k1_1;simp[Vd,k1_1]
   . refine⟨wk_,k+1,o_,?_⟩;refine⟨?_,?_,?_,?_,?_⟩;iterate 3 (focus(first|(simp -implicitDefEqProofs only[wL,wM,wN,wX,seval,Option.some.injEq,g1,g3,o0]<;>exact wt_)|rfl|exact⟨_,rfl⟩))
     all_goals try omega
     rw[e4]at h_;simp at h_;rw[<- k1_1];by_cases h37:pro[k]=37
     . simp[h_ h37]
     . simp[h37]
 . have hpc :qna pro=false:=by
    rw[<- k1_1];by_cases hk2:k<pro.length
    . rw[List.drop_eq_getElem_cons hk2,List.drop_eq_nil_of_le o_];rfl
    . rw[List.drop_eq_nil_of_le o_];rfl
   have hz:=w1_ k;repeat' with_reducible first|refine s_ ?_|simp -implicitDefEqProofs only[wZZ,seval,g1,g3,o0,hz]|apply qa<;>intro h h_<;>(try simp only[wD,reduceCtorEq]at h_)<;>(try exact wb_)<;>(try simp only[h])|refine t_ ?_
   refine qb ?nx2 (λ(k:Nat) s=>s.f 1=?v2_1/\s.H 0=?o2_0/\s.f 4=vi k/\(k<=ds.length)/\(∀x∈ds.take k,V7 x=true)) (λk=>ds.length - k) (0) wj_ (by refine⟨?_,?_,?_,wo_,wo_⟩<;>first|(simp -implicitDefEqProofs only[wL,wM,wN,wX,seval,Option.some.injEq,g1,g3,o0]<;>exact wt_)|rfl|exact⟨_,rfl⟩) ?_;intro k s hnx ⟨g1,o0,g4,k2_0,k2_1⟩;by_cases hk:k<ds.length
   . obtain ⟨hx1,hx2,hx3⟩:=hd ds[k] (List.getElem_mem hk);repeat' with_reducible first|refine s_ ?_|simp -implicitDefEqProofs only[wZZ,seval,g1,g4,o0]|apply qa<;>intro h h_<;>(try simp only[wD,reduceCtorEq]at h_)<;>(try exact wb_)<;>(try simp only[h])|refine t_ ?_|refine yY we_ (Xf wf_ wf_ wf_) ?_|simp -implicitDefEqProofs (disch:=omega) only[w64,if_neg]
     . refine qz rfl (Or.inr rfl) ?_;simp -implicitDefEqProofs only[wL,seval,g1,g4];refine er_ ?_
       try(with_reducible rfl)
       have:=qdt hk (p:=V7) (by simpa using h_);simp[Vd,this]
     . refine⟨wk_,k+1,o_,?_⟩;refine⟨?_,?_,?_,?_,?_⟩;iterate 3 (focus(first|(simp -implicitDefEqProofs only[wL,wM,wN,wX,seval,Option.some.injEq,g1,g4,o0]<;>exact wt_)|rfl|exact⟨_,rfl⟩))
       all_goals try omega
       exact qaP hk k2_1 (by simpa using h_)
   . rw [List.take_of_length_le o_]at k2_1;repeat' with_reducible first|refine s_ ?_|simp -implicitDefEqProofs only[wZZ,seval,g1,g4,o0]|apply qa<;>intro h h_<;>(try simp only[wD,reduceCtorEq]at h_)<;>(try exact wb_)<;>(try simp only[h])|refine t_ ?_
     refine qb ?nx3 (λ(k:Nat) s=>s.f 1=?v3_1/\s.H 0=?o3_0/\s.f 5=vi k/\(k<=rs.length)/\(∀x∈rs.take k,qao x=true)) (λk=>rs.length - k) (0) wj_ (by refine⟨?_,?_,?_,wo_,wo_⟩<;>first|(simp -implicitDefEqProofs only[wL,wM,wN,wX,seval,Option.some.injEq,g1,g4,o0]<;>exact wt_)|rfl|exact⟨_,rfl⟩) ?_;intro k s hnx ⟨g1,o0,g5,k3_0,k3_1⟩;by_cases hk:k<rs.length
     . obtain ⟨hx1,hx2,hx3⟩:=hr rs[k] (List.getElem_mem hk);obtain ⟨n0,hn0⟩:∃n0,n0=s.next:=⟨_,rfl⟩;have hbad:qao rs[k]=false->Vd ⟨pro,ds,rs,tl⟩=false:=λh=>by
        simp[Vd,qdt hk h]
       repeat' with_reducible first|refine s_ ?_|simp -implicitDefEqProofs only[wZZ,seval,g1,g5,o0]|(first|apply qa|apply qA|apply qB)<;>intro h h_<;>(try simp only[wD,reduceCtorEq]at h_)<;>(try exact wb_)<;>(try simp only[h])|refine t_ ?_|refine yY we_ (vD wf_) ?_
       . refine qz rfl (Or.inr rfl) ?_;simp -implicitDefEqProofs only[wL,seval,g1,g5];refine er_ ?_
         try(with_reducible rfl)
         refine(hbad ?_).symm
         have:rs[k].alts=[]:=List.length_eq_zero_iff.1 o_
         simp[qao,this]
       . rw [<- hn0];refine qb ?nx4 (λ(j:Nat) s=>s.f 1=?v4_1/\s.f 5=?v4_5/\s.f 6=?v4_6/\s.H 0=?o4_0/\s.H (n0+5+5)=?o4_1/\s.f 7=vi j/\(j<=rs[k].alts.length)/\(∀x∈rs[k].alts.take j,qgq x=true)) (λj=>rs[k].alts.length - j) (0) wj_ (by refine⟨?_,?_,?_,?_,?_,?_,wo_,wo_⟩<;>first|(simp -implicitDefEqProofs only[wL,wM,wN,wX,seval,Option.some.injEq,g1,g5,o0]<;>exact wt_)|rfl|exact⟨_,rfl⟩) ?_;intro j s hnx ⟨g1,g5,g6,o0,o1,g7,k4_0,k4_1⟩;by_cases hj:j<rs[k].alts.length
         . have hx4:=hx3 rs[k].alts[j] (List.getElem_mem hj);repeat' with_reducible first|refine s_ ?_|simp -implicitDefEqProofs only[wZZ,seval,g1,g5,g6,g7,o0,o1]|apply qa<;>intro h h_<;>(try simp only[wD,reduceCtorEq]at h_)<;>(try exact wb_)<;>(try simp only[h])|refine t_ ?_|refine yY we_ (XP wf_) ?_|simp -implicitDefEqProofs (disch:=omega) only[w64,if_neg]
           . refine qz rfl (Or.inr rfl) ?_;simp -implicitDefEqProofs only[wL,seval,g1,g5,g6,g7];refine er_ ?_
             try(with_reducible rfl)
             refine(hbad ?_).symm;have:=qdt hj (p:=qgq) (by simpa using h_);simp[qao,this]
           . refine⟨wk_,j+1,o_,?_⟩;refine⟨?_,?_,?_,?_,?_,?_,?_,?_⟩;iterate 6 (focus(first|(simp -implicitDefEqProofs only[wL,wM,wN,wX,seval,Option.some.injEq,g1,g5,g6,g7,o0,o1]<;>exact wt_)|rfl|exact⟨_,rfl⟩))
             all_goals try omega
             exact qaP hj k4_1 (by simpa using h_)
         . rw[List.take_of_length_le o_]at k4_1;repeat' with_reducible first|refine s_ ?_|simp -implicitDefEqProofs only[wZZ,seval,g1,g5,g6,g7,o0,o1]|apply qa<;>intro h h_<;>(try simp only[wD,reduceCtorEq]at h_)<;>(try exact wb_)<;>(try simp only[h])|refine t_ ?_|simp -implicitDefEqProofs (disch:=omega) only[w64,if_neg]
           refine⟨wk_,k+1,o_,?_⟩;refine⟨?_,?_,?_,?_,?_⟩;iterate 3 (focus(first|(simp -implicitDefEqProofs only[wL,wM,wN,wX,seval,Option.some.injEq,g1,g5,g6,g7,o0,o1]<;>exact wt_)|rfl|exact⟨_,rfl⟩))
           all_goals try omega
           refine qaP hk k3_1 ?_;have e1:rs[k].alts.all qgq=true:=List.all_eq_true.2 k4_1;have e0: ¬ (rs[k].alts.length:Int)=0:=as_;have e2: ¬ rs[k].alts=[]:=λe=>by rw[e]at e0;exact e0 rfl
           have e3:qc9 rs[k].left=true:=as_;simp[qao,e1,e2,e3]
       . skip
         refine qz rfl (Or.inr rfl) ?_;simp -implicitDefEqProofs only[wL,seval,g1,g5];refine er_ ?_
         try(with_reducible rfl)
         refine(hbad ?_).symm
         have:qc9 rs[k].left=false:=by simpa using h_
         simp[qao,this]
     . rw[List.take_of_length_le o_]at k3_1;repeat' with_reducible first|refine s_ ?_|simp -implicitDefEqProofs only[wZZ,seval,g1,g5,o0]|apply qa<;>intro h h_<;>(try simp only[wD,reduceCtorEq]at h_)<;>(try exact wb_)<;>(try simp only[h])|refine t_ ?_
       refine qz rfl (Or.inr rfl) ?_;simp -implicitDefEqProofs only[wL,seval,g1,g5];refine er_ ?_
       try(with_reducible rfl)
       have e1:ds.all V7=true:=List.all_eq_true.2 k2_1;have e2:rs.all qao=true:=List.all_eq_true.2 k3_1;by_cases e3:rs=[]
       . subst e3;simp[Vd]
       . have:0<rs.length:=List.length_pos_iff.2 e3
         simp[Vd,hpc,e1,e2,e3];omega

variable {ef:EF} {ro:Bool} {res:Go.E.V}
theorem qk7{t a b c id:Nat}{e:Exit}(he:ef.res=[.inr (t,true,5),.inl a,.inl b,.inl c])(hx:e=.normal\/e=.ret)(hp:s.f t=.ptr id 0 0)(hH:s.H id=some (.own 5 [v] ro))(ha:v.isAgg=true)
(h:Er true s.H (.tup [v,s.f a,s.f b,s.f c]) res):z8 ef res e s:=by
 have hv:zw s true 5 (s.f t)=some v:=by rw[hp];simp only[zw,hH,List.getElem?_cons_zero,jD,ha,and_self,if_true]
 exact⟨hx,_,by rw[he];simp[qcM,qb4,hv,one],h⟩
theorem yU{b:Bool}{H:Nat->Option MObj}(src:Source):Er b H src.V src.V:=ErL.agg (.cons (.str _) (.cons qd (.cons qd (.cons (.str _) .nil))))
def yF(m:Mk):Mk:=
 let m1:Mk:={m with nons:=[{name:=[36,97,99,99,101,112,116]}]}
 let m2:Mk:={m1 with nons:=m1.nons++vZ m1.types m1.lefts}
 let m3:=qjP m2 m.inner.toNat
 qge m3 (qal m3.given (m3.toks.length - 3) 3 (m3.toks,57346)).1
def ofS(src:Source):Grammar×Int×Int×List UInt8:=
 if Vd src=true then
  if (xG src).e≠0 then({},(xG src).e,(xG src).at_,(xG src).name)
  else if VR (yF (xG src))=true then({},4,0,[])
  else({toks:=(yF (xG src)).toks,nons:=(yF (xG src)).nons,prods:=(yF (xG src)).prods,pro:=src.pro,tail:=src.tail},0,0,[])
 else({},1,0,[])
@[reducible] def ofV(q:Grammar×Int×Int×List UInt8):V:= .tup [q.1.V,vi q.2.1,vi q.2.2.1,.str q.2.2.2]
theorem qnX{m:Nat}{src:Source}(h:OfAt s0 m src ti gi vN vP vT vL M)(hm0:Vd src=true)(hM0:xG src=M)
(b1:M.toks.length<=5000000000)(b2:M.lefts.length<=1000000)(b3:M.types.length<=1000000000)(b4:M.prods.length<=5000000000)(b5:0<=M.inner)(b6:M.inner<=1000000000)(hnn:M.nons=[]):
 ewp Tryz.prog (.seq Yw (.seq (.reg Yo) (.seq QE (.seq QR (.seq (.reg Zz) (.seq vF (.seq (.reg vI) (.seq xL (.seq Qi (.seq (.reg kX) (.seq (.reg kZ) .ret))))))))))) (z8 e70 (ofV (ofS src))) s0:=by
 have hA0:=h;have f1:=h.f1;have f2:=h.f2;have f6:=h.f6;have h1:=h.h1;have ln:=h.ln;have hM:=h.at_;have hm:=hM.hm;have lm:=hM.lm;have lt:=hM.lt;have lg:=hM.lg;obtain ⟨n1,n2,n3⟩:=hM.mt;obtain ⟨z1,z2,z3,z4⟩:=hM.far h1 dc_ dc_;by_cases he:M.e=0
 . show ewp _ (.seq Yw (.seq (.reg Yo) (.seq QE (.seq QR (.seq (.reg Zz) (.seq vF (.seq (.reg vI) (.seq xL (.seq Qi (.seq (.reg kX) (.seq (.reg kZ) .ret))))))))))) _ _;have hof:ofS src=if VR (yF M)=true then({},4,0,[])else({toks:=(yF M).toks,nons:=(yF M).nons,prods:=(yF M).prods,pro:=src.pro,tail:=src.tail},0,0,[]):=by
    unfold ofS;rw[if_pos hm0,hM0,if_neg (by simp[he])]
   obtain ⟨n,hn⟩:∃n:Nat,M.inner=n:=⟨M.inner.toNat,o_⟩;have tail:∀s1 vN1,OfAt s1 m src ti gi vN1 vP vT vL {M with nons:=[{name:=[36,97,99,99,101,112,116]}]}->Gr s1.H s1.next 2 ([({name:=[36,97,99,99,101,112,116]}:Non)].map Non.V) vN1->
    ewp Tryz.prog (.seq QE (.seq QR (.seq (.reg Zz) (.seq vF (.seq (.reg vI) (.seq xL (.seq Qi (.seq (.reg kX) (.seq (.reg kZ) .ret))))))))) (z8 e70 (ofV (ofS src))) s1:=by
    intro s1 vN1 hA1 hN1;refine qop hA1 hN1 d_ b3 (by simp) λs2 vN2 hA2 hN2=>?_;have hnl:([({name:=[36,97,99,99,101,112,116]}:Non)]++vZ M.types M.lefts).length=1+M.lefts.length:=(by rw[List.length_append,Yu];rfl);refine qqh (n:=n) hA2 hN2 (by dsimp only;rw[hnl];omega) hn o_ λs3 vN3 hA3=>?_;have tail2:∀s4,OfAt s4 m src ti gi vN3 vP vT vL (qjP {M with nons:=[({name:=[36,97,99,99,101,112,116]}:Non)]++vZ M.types M.lefts} n)->s4.f 22=vi 57346->ewp Tryz.prog (.seq vF (.seq (.reg vI) (.seq xL (.seq Qi (.seq (.reg kX) (.seq (.reg kZ) .ret)))))) (z8 e70 (ofV (ofS src))) s4:=by
     intro s4 hA4 f22;refine qqJ hA4 f22 d_ λs5 hA5=>?_;have hmn:yF M=qge (qjP {M with nons:=[({name:=[36,97,99,99,101,112,116]}:Non)]++vZ M.types M.lefts} n) (qal M.given (M.toks.length - 3) 3 (M.toks,57346)).1:=by unfold yF;rw[hn];rfl
     have hA5':OfAt s5 m src ti gi vN3 vP vT vL (yF M):=(by rw[hmn];exact hA5);refine qk6 hA5' (by rw[hmn];exact Nat.le_trans b4 dc_) λs6 hA6 f24=>?_;have f1:=hA6.f1;have f2:=hA6.f2;have f6:=hA6.f6;have h1:=hA6.h1;have h0:=hA6.h0;have ln:=hA6.ln;have hM:=hA6.at_;have hm:=hM.hm;have lm:=hM.lm;have lt:=hM.lt;have lg:=hM.lg;obtain ⟨n1,n2,n3⟩:=hM.mt;obtain ⟨z1,z2,z3,z4⟩:=hM.far h1 dc_ dc_;obtain ⟨y1,y2,y3,y4⟩:=hM.far h0 dc_ dc_;by_cases hlo:VR (yF M)=true
     . rw[hof,if_pos hlo];repeat' with_reducible first|refine s_ ?_|simp -implicitDefEqProofs only[wZZ,seval,f1,f2,f6,f24,hlo,h1]|refine t_ ?_
       refine qk7 (id:=1) rfl (Or.inr rfl) (by simp -implicitDefEqProofs only[wL,seval,f2]) wi_ rfl ?_;simp -implicitDefEqProofs only[wL,seval];exact ErL.tup (.cons (ErL.agg (.cons (ErL.sl .nil) (.cons (ErL.sl .nil) (.cons (ErL.sl .nil) (.cons (.str _) (.cons (.str _) .nil)))))) (.cons (.int _ _) (.cons (.int _ _) (.cons (.str _) .nil))))
     . have hlf:VR (yF M)=false:=(by simpa using hlo);rw[hof,if_neg hlo];repeat' with_reducible first|refine s_ ?_|simp -implicitDefEqProofs only[wZZ,seval,f1,f2,f6,f24,hlf,h0,h1,hm]|(refine And.intro ?_ ?_;(focus(first|with_unfolding_all rfl|exact congrArg some (qkp ls_))))|apply Xl;exact wu_;exact wu_;(focus((try simp -implicitDefEqProofs only[wE,Nat.reduceAdd]);rfl))|refine t_ ?_|simp -implicitDefEqProofs (disch:=omega) only[w64,if_neg]
       refine qk7 (id:=1) rfl (Or.inr rfl) (by simp -implicitDefEqProofs only[wL,seval,f2]) wi_ rfl ?_;simp -implicitDefEqProofs only[wL,seval];refine ErL.tup (.cons (ErL.agg (.cons ?_ (.cons hM.eN.er (.cons hM.eP.er (.cons (.str _) (.cons (.str _) .nil)))))) (.cons (.int _ _) (.cons (.int _ _) (.cons (.str _) .nil))));refine xD (es:=(yF M).toks.map Tok.V) (ro:=false) ?_ (by simp) (by rw[List.drop_zero];exact List.take_of_length_le (by simp));simp only[wM]
       repeat(first|rw[if_pos trivial]|rw[if_pos rfl]|rw[if_neg o_])
       exact hM.ht
    generalize (EC.seq vF (.seq (.reg vI) (.seq xL (.seq Qi (.seq (.reg kX) (.seq (.reg kZ) .ret))))))=F2 at tail2;have f1:=hA3.f1;repeat' with_reducible first|refine qL ?_|simp -implicitDefEqProofs only[wZZ,seval,f1]
    exact tail2 _ (hA3.mono wl_ wl_ wl_ wg_ (λj hj=>fm_)) wl_
   generalize (EC.seq QE (.seq QR (.seq (.reg Zz) (.seq vF (.seq (.reg vI) (.seq xL (.seq Qi (.seq (.reg kX) (.seq (.reg kZ) .ret)))))))))=F at tail;repeat' with_reducible first|refine s_ ?_|simp -implicitDefEqProofs only[wZZ,seval,f1,f2,f6,h1,hm,he]|refine t_ ?_
   refine tail _ (.sl 2 true [.agg [.str [36,97,99,99,101,112,116],.str []]]) (hA0.upd ⟨?_,?_,?_,?_,hM.eP,hM.eT,hM.eL,wg_,wg_,wg_,hM.len,hM.len3⟩ wl_ wl_ wl_ wh_ (λj g1 g2 g3 g4 g5=>?_)) Gr.clip
   . simp only[wM]
     repeat(first|rw[if_pos trivial]|rw[if_pos rfl]|rw[if_neg o_])
     simp[he]
   . simp only[wM]
     repeat(first|rw[if_pos trivial]|rw[if_pos rfl]|rw[if_neg o_])
     exact hM.ht
   . simp only[wM]
     repeat(first|rw[if_pos trivial]|rw[if_pos rfl]|rw[if_neg o_])
     exact hM.hg
   . exact yN
   . simp only[wM]
     repeat(first|rw[if_pos trivial]|rw[if_pos rfl]|rw[if_neg o_])
 . have hof:ofS src=({},M.e,M.at_,M.name):=(by unfold ofS;rw[if_pos hm0,hM0,if_pos he]);rw[hof];repeat' with_reducible first|refine s_ ?_|simp -implicitDefEqProofs only[wZZ,seval,f1,f2,f6,h1,hm]|apply qa<;>intro h h_<;>(try simp only[wD,reduceCtorEq]at h_)<;>(try exact wb_)<;>(try simp only[h])|(refine And.intro ?_ ?_;(focus(first|with_unfolding_all rfl|exact congrArg some (qkp ls_))))|refine t_ ?_
   refine qk7 (id:=1) rfl (Or.inr rfl) (by simp -implicitDefEqProofs only[wL,seval,f2]) wi_ rfl ?_;simp -implicitDefEqProofs only[wL,seval];exact ErL.tup (.cons (ErL.agg (.cons (ErL.sl .nil) (.cons (ErL.sl .nil) (.cons (ErL.sl .nil) (.cons (.str _) (.cons (.str _) .nil)))))) (.cons (.int _ _) (.cons (.int _ _) (.cons (.str _) .nil))))
theorem qcK{src:Source}(hf:src.Fits)(hS:Vd src=true->Small src):Pure Tryz.prog 70 [src.V] (ofV (ofS src)):=by
 refine pure_intro Tryz.func70 nm_ quE (by show 1<=435;decide) ?_
 show ewp _ qnK _ _
 show ewp _ (.seq (.reg qxR) (.seq qxL (.seq (.reg qxQ) (.seq (.reg qyE) (.seq (.reg qx1) (.seq qe1 (.seq qe6 (.seq qfj (.seq qaU (.seq (.reg qbi) (.seq qaD (.seq Yw (.seq (.reg Yo) (.seq QE (.seq QR (.seq (.reg Zz) (.seq vF (.seq (.reg vI) (.seq xL (.seq Qi (.seq (.reg kX) (.seq (.reg kZ) .ret)))))))))))))))))))))) _ _;have tail:∀s m ti gi,Vd src=true->OfAt s m src ti gi (.sl 2 true []) (.sl 6 true []) (.sl 2 true []) (.sl 1 true []) {}->s.f 7=.str []->
  ewp Tryz.prog (.seq qe1 (.seq qe6 (.seq qfj (.seq qaU (.seq (.reg qbi) (.seq qaD (.seq Yw (.seq (.reg Yo) (.seq QE (.seq QR (.seq (.reg Zz) (.seq vF (.seq (.reg vI) (.seq xL (.seq Qi (.seq (.reg kX) (.seq (.reg kZ) .ret))))))))))))))))) (z8 e70 (ofV (ofS src))) s:=by
  intro s m ti gi hm0 hA f7;have hSm:=hS hm0;have hr0:0<src.rules.length:=by have:=hm0;unfold Vd at this;simp only[Bool.and_eq_true,Bool.not_eq_true',decide_eq_false_iff_not]at this;exact List.length_pos_iff.2 this.2
  refine qmk hA Gr.nil f7 hSm dc_ dc_ dc_ dc_ λs1 ti1 gi1 vT1 hA1 f71 hs1 ht1 hy1=>?_;generalize hq:jY src.decls ({},[])=q at hA1 f71 hs1 ht1 hy1;obtain ⟨a1,a2,a3,a4⟩:=hs1;refine qmJ hA1 (by rw[a1];exact Gr.nil) hSm (Nat.le_trans ht1 dc_) (by rw[a1];decide) λs2 vL2 hA2 f72 hn2 c1 c2 c3 c4 c5 c6=>?_;generalize hm2:yh src.rules q.1=m2 at hA2 c1 c2 c3 c4 c5 c6;rw[a1]at c3;refine qoN hA2 hSm (Nat.le_trans c3 dc_) λs3 hA3 f73 hn3 hs3=>?_;generalize hm3:Qv src.decls m2=m3 at hA3 hs3;obtain ⟨d1,d2,d3,d4,d5,d6,d7⟩:=hs3;refine qjE hA3 (f73.trans (f72.trans f71)) hr0 λs4 hA4 f74 hn4=>?_;refine qiL hA4 f74 (by rw[d3];exact Nat.le_trans c3 dc_) λs5 hA5 hn5=>?_;have hmm:xG src=vH src.rules (firstM m3 (Zw src q.2)):=by unfold xG;simp only[hq,hm2,hm3]
  have kt:({}:Mk).toks.length=3:=rfl;have kl:({}:Mk).lefts.length=0:=rfl;have ky:({}:Mk).types.length=0:=rfl;have ki:({}:Mk).inner=0:=rfl;have kn:({}:Mk).nons=[]:=rfl;have t3:m3.toks.length<=1000003:=by rw[d1,c1];omega
  have l3:m3.lefts.length<=1000:=by rw[d3];omega
  have y3:m3.types.length<=1000000:=by rw[d4,c2];omega
  have i3:m3.inner=0:=by rw[d7,c6,a4]
  have n3:m3.nons=[]:=by rw[d6,c5,a3]
  have l1:[qlw m3 (Zw src q.2)].length=1:=rfl;refine qnP hA5 Gr.clip ?_ hSm ?_ ?_ (by rw[l1];omega) ?_ ?_ λs6 ti6 gi6 vP6 hA6 hn6 hs6 e1 e2 e3=>?_
  . exact .cons (ErL.agg (.cons (.int _ _) (.cons (ErL.sl (.cons (.int _ _) .nil)) (.cons (.int _ _) (.cons (.str _) (.cons (ErL.sl .nil) (.cons (.int _ _) .nil))))))) .nil
  . show m3.toks.length<=_;omega
  . show m3.lefts.length<=_;omega
  . show 0<=m3.inner;omega
  . show m3.inner<=_;omega
  . obtain ⟨u1,u2,u3,u4,u5⟩:=hs6;have v1:(firstM m3 (Zw src q.2)).toks.length=m3.toks.length:=rfl;have v2:(firstM m3 (Zw src q.2)).lefts.length=m3.lefts.length:=rfl;have v3:(firstM m3 (Zw src q.2)).types.length=m3.types.length:=rfl;have v4:(firstM m3 (Zw src q.2)).inner=m3.inner:=rfl;have v5:(firstM m3 (Zw src q.2)).nons=m3.nons:=rfl;exact qnX hA6 hm0 hmm o_ (by rw[u1];omega) (by rw[u2];omega) (by rw[l1]at e2;omega) o_ o_ (by rw[u3,v5];exact n3)
 generalize (EC.seq qe1 (.seq qe6 (.seq qfj (.seq qaU (.seq (.reg qbi) (.seq qaD (.seq Yw (.seq (.reg Yo) (.seq QE (.seq QR (.seq (.reg Zz) (.seq vF (.seq (.reg vI) (.seq xL (.seq Qi (.seq (.reg kX) (.seq (.reg kZ) .ret)))))))))))))))))=F at tail;by_cases hm0:Vd src=true
 . repeat' with_reducible first|refine s_ ?_|simp -implicitDefEqProofs only[wZZ,seval,hm0]|refine cq1 (JF hf) (yU src) ?_|refine t_ ?_|apply V5;exact wf_;exact wf_;(focus(unfold maxLen;first|omega|(simp only[wZ]<;>omega)))
   refine tail _ 10 16 8 hm0 ⟨⟨?_,?_,?_,ErL.sl .nil,ErL.sl .nil,ErL.sl .nil,ErL.sl .nil,wg_,wg_,wg_,rfl,dc_⟩,?_,?_,?_,?_,?_,wg_⟩ ?_
   . simp -implicitDefEqProofs only[wM,seval];rfl
   . simp -implicitDefEqProofs only[wM,seval];rfl
   . simp -implicitDefEqProofs only[wM,seval];rfl
   . simp -implicitDefEqProofs only[wL,seval]
   . simp -implicitDefEqProofs only[wL,seval]
   . simp -implicitDefEqProofs only[wL,seval]
   . simp -implicitDefEqProofs only[wM,seval]
   . simp -implicitDefEqProofs only[wM,seval]
   . simp -implicitDefEqProofs only[wL,seval]
 . have hmf:Vd src=false:=(by simpa using hm0);have hof:ofS src=({},1,0,[]):=(by unfold ofS;rw[if_neg hm0]);rw[hof];repeat' with_reducible first|refine s_ ?_|simp -implicitDefEqProofs only[wZZ,seval,hmf]|refine cq1 (JF hf) (yU src) ?_|refine t_ ?_
   refine qk7 (id:=1) rfl (Or.inr rfl) wl_ (by simp -implicitDefEqProofs only[wM,seval];rfl) rfl ?_;simp -implicitDefEqProofs only[wL,seval];exact ErL.tup (.cons (ErL.agg (.cons (ErL.sl .nil) (.cons (ErL.sl .nil) (.cons (ErL.sl .nil) (.cons (.str _) (.cons (.str _) .nil)))))) (.cons (.int _ _) (.cons (.int _ _) (.cons (.str _) .nil))))

theorem qxk{t a id:Nat}{e:Exit}(he:ef.res=[.inr (t,true,5),.inl a])(hx:e=.normal\/e=.ret)(hp:s.f t=.ptr id 0 0)(hH:s.H id=some (.own 5 [v] ro))(ha:v.isAgg=true)
(h:Er true s.H (.tup [v,s.f a]) res):z8 ef res e s:=by
 have hv:zw s true 5 (s.f t)=some v:=by rw[hp];simp only[zw,hH,List.getElem?_cons_zero,jD,ha,and_self,if_true]
 exact⟨hx,_,by rw[he];simp[qcM,qb4,hv,one],h⟩
instance (g:Grammar):Cl g.V:=⟨λb H=>ErL.agg (.cons qd (.cons qd (.cons qd (.cons (.str _) (.cons (.str _) .nil)))))⟩
abbrev jC(src:Source):Grammar:=(ofS src).1
abbrev YN(src:Source):Bool:=decide ((ofS src).2.1=0)
theorem y9{src:Source}(hf:src.Fits)(hS:Vd src=true->Small src):Pure Tryz.prog 34 [src.V] (.tup [(jC src).V,.bool (YN src)]):=by
 refine pure_intro Tryz.func34 nm_ qss (by show 1<=18;decide) ?_
 show ewp _ qx8 _ _;repeat' with_reducible first|refine s_ ?_|simp -implicitDefEqProofs only[wZZ,seval]|refine cq1 (qcK hf hS) (yU src) ?_|refine t_ ?_
 refine qxk (id:=1) rfl (Or.inr rfl) wl_ (by simp -implicitDefEqProofs only[wM,seval];rfl) rfl ?_;simp -implicitDefEqProofs only[wL,seval];exact ErL.tup (.cons qd (.cons (.bool _) .nil))
end Go.Proofs
