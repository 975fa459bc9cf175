/- Part of a proof that a law of the given program answers true. -/
import Derived.Test.YtkcegflhobejmaaGreatDoorBGA
set_option maxRecDepth 20000
set_option linter.unusedSimpArgs false
set_option linter.unusedVariables false
set_option maxHeartbeats 4000000
namespace Go.Proofs
open Go.E
theorem AAt.mono {s s':St} {H:Nat→Option MObj} {next m ti gi pb:Nat} {vN vP vT vL vR:V} {ps:List V} {a:Alt} {ti1 gi1:Nat} {M:Mk} {p:GPr} (h:AAt s H next m ti gi pb vN vP vT vL vR ps a ti1 gi1 M p)
 (h0:s'.f 0=s.f 0) (h5:s'.f 5=s.f 5) (h6:s'.f 6=s.f 6) (hn:s.next≤s'.next) (hH: ∀j,j<s.next→s'.H j=s.H j):AAt s' H next m ti gi pb vN vP vT vL vR ps a ti1 gi1 M p:=
 h.upd (h.at_.mono hn hH) (Or.inl rfl) (Or.inl rfl) h0 h5 h6 hn (by rw[hH pb h.lp];exact h.h6) (h.gR.mono hn fun id _ g=>hH id g) (h.gP.mono hn fun id _ g=>hH id g) h.eP h.sp fun j g _ _ _ _ _ _=>hH j g
theorem JP (q:Mk×GPr):zq [] q=q:=rfl
theorem Qa (w:Part) (r:List Part) (M:Mk) (p:GPr):zq (w::r) (M,p)=if w.code=[]then zq r ((xY M w.sym).1,{p with right:=p.right++[(xY M w.sym).2]})
 else if r=[]then(M,{p with code:=w.code,at_:=w.at_})
 else zq r ({M with inner:=M.inner+1,prods:=M.prods++[{left:=M.lefts.length+(M.inner+1),prec:= -1,code:=w.code,args:=p.right,at_:=w.at_}]},
  {p with right:=p.right++[1000+M.lefts.length+(M.inner+1)]}):=by rw[zq]
theorem qe1 {s0:St} {H:Nat→Option MObj} {next m ti gi pb:Nat} {vN vP vT vL vR:V} {ps:List V} {a:Alt} {ti1 gi1:Nat} {M:Mk} {p:GPr} {E:EC} {Q:Exit→St→Prop} (h:AAt s0 H next m ti gi pb vN vP vT vL vR ps a ti1 gi1 M p)
 (b1:M.toks.length+a.parts.length≤549755813888) (b2:M.lefts.length≤549755813888) (b3:p.right.length+a.parts.length≤274877906944) (b4:ps.length+a.parts.length≤274877906944) (b5:0≤M.inner) (b6:M.inner+a.parts.length≤549755813888)
 (hx: ∀w∈a.parts,w.sym.lit=true→w.sym.name≠[])
 (hQ: ∀s' vP' vR' ps' ti2 gi2,AAt s' H next m ti gi pb vN vP' vT vL vR' ps' a ti2 gi2 (zq a.parts (M,p)).1 (zq a.parts (M,p)).2→ps'.length≤ps.length+a.parts.length→ewp Tryz.prog E Q s'):ewp Tryz.prog (.seq XY E) Q s0:=by
 generalize hR:zq a.parts (M,p)=R at hQ
 have f0:=h.f0;have f5:=h.f5;have f6:=h.f6
 repeat' with_reducible first
  |refine s_ ?_
  |simp -implicitDefEqProofs only[wZZ,seval,f0,f5,f6]
 refine qc ?nx1 (fun(k:Nat) s=>s.f 0=?v1_0∧s.f 5=?v1_5∧s.f 6=?v1_6∧s.f 7=vi k∧(k≤a.parts.length)∧((∃vP vR ps1 ti1 gi1 M1 p1,AAt s H next m ti gi pb vN vP vT vL vR ps1 a ti1 gi1 M1 p1∧zq (a.parts.drop k) (M1,p1)=R∧M1.toks.length≤M.toks.length+k∧M1.lefts.length=M.lefts.length∧p1.right.length≤p.right.length+k∧ps1.length≤ps.length+k∧0≤M1.inner∧M1.inner≤M.inner+k))) (fun k=>a.parts.length - k) (0) wj_ (by refine⟨?_,?_,?_,?_,wo_,(by exact⟨vP,vR,ps,ti1,gi1,M,p,h.mono wl_ wl_ wl_ wh_ (fun j hj=>by simp only[wM]),hR,o_,rfl,o_,o_,b5,o_⟩)⟩<;>first|(simp -implicitDefEqProofs only[wL,wM,wN,wX,seval,Option.some.injEq]<;>exact wt_)|rfl|exact⟨_,rfl⟩) ?_
 intro k s hnx ⟨g0,g5,g6,g7,k1_0,k1_1⟩
 obtain ⟨vP,vR,ps1,ti1,gi1,M1,p1,hA1,hal,t1,t2,t3,t4,t5,t6⟩:=k1_1
 have g0:=hA1.f0;have g5:=hA1.f5;have g6:=hA1.f6;have o5:=hA1.h5;have lp:=hA1.lp;have ln:=hA1.ln
 by_cases hk:k<a.parts.length
 · have hd:a.parts.drop k=a.parts[k]::a.parts.drop (k+1):=List.drop_eq_getElem_cons hk
   have hxk:=hx a.parts[k] (List.getElem_mem hk)
   rw[hd,Qa]at hal
   have hwf: ∃wb,wb=s.next+5+5:=⟨_,rfl⟩
   show ewp _ (.seq qkl (.seq (.block 1 (.seq (.reg qjq) (.block 2 (.seq (.reg qkO) (.cond (.t 82) (.reg qaj) (.seq (.reg qkh) (.cond (.t 95) (.reg Xv) X6))))))) (.reg qfL))) _ _
   have T8: ∀(s':St) (Q:Exit→St→Prop) (wb:Nat),AAt s' H next m ti gi pb vN vP vT vL vR ps1 a ti1 gi1 M1 p1→s'.f 8=.ptr wb 0 0→s'.H wb=some (.own 6 [a.parts[k].V] false)→(∀s2 ti2 gi2 vR',s2.f 7=s'.f 7→s'.next≤s2.next→AAt s2 H next m ti gi pb vN vP vT vL vR' ps1 a ti2 gi2 (xY M1 a.parts[k].sym).1 {p1 with right:=p1.right++[(xY M1 a.parts[k].sym).2]}→Q .normal s2)→ewp Tryz.prog (.reg qaj) Q s':=
    fun s' Q wb q1 q2 q3 q4=>qrh q1 q2 q3 o_ o_ o_ hxk q4
   have T10: ∀(s':St) (Q:Exit→St→Prop) (wb:Nat),AAt s' H next m ti gi pb vN vP vT vL vR ps1 a ti1 gi1 M1 p1→s'.f 8=.ptr wb 0 0→s'.H wb=some (.own 6 [a.parts[k].V] false)→(∀s2,s2.f 7=s'.f 7→s'.next≤s2.next→AAt s2 H next m ti gi pb vN vP vT vL vR ps1 a ti1 gi1 M1 {p1 with code:=a.parts[k].code,at_:=a.parts[k].at_}→Q .normal s2)→ewp Tryz.prog (.reg Xv) Q s':=
    fun s' Q wb q1 q2 q3 q4=>qhz q1 q2 q3 q4
   have T15: ∀(s':St) (Q:Exit→St→Prop) (wb:Nat),AAt s' H next m ti gi pb vN vP vT vL vR ps1 a ti1 gi1 M1 p1→s'.f 8=.ptr wb 0 0→s'.H wb=some (.own 6 [a.parts[k].V] false)→wb<s'.next→(∀s2 vP' vR' ps',s2.f 7=s'.f 7→s'.next≤s2.next→ps'.length=ps1.length+1→AAt s2 H next m ti gi pb vN vP' vT vL vR' ps' a ti1 gi1 {M1 with inner:=M1.inner+1,prods:=M1.prods++[{left:=M1.lefts.length+(M1.inner+1),prec:= -1,code:=a.parts[k].code,args:=p1.right,at_:=a.parts[k].at_}]} {p1 with right:=p1.right++[1000+M1.lefts.length+(M1.inner+1)]}→Q .normal s2)→ewp Tryz.prog X6 Q s':=
    fun s' Q wb q1 q2 q3 q5 q4=>qgl q1 q2 q3 q5 o_ o_ o_ t5 o_ q4
   generalize (EC.reg qaj)=E8 at T8
   generalize (EC.reg Xv)=E10 at T10
   generalize X6=E15 at T15
   by_cases hc:a.parts[k].code=[]
   · rw[if_pos hc]at hal
     obtain ⟨y1,y2,y3,y4,y5,y6,y7,y8⟩:=Qp M1 a.parts[k].sym
     repeat' with_reducible first
      |refine s_ ?_
      |simp -implicitDefEqProofs only[wZZ,seval,g0,g5,g6,g7,g0,g5,g6,o5]
      |apply qa<;>intro h h_<;>(try simp only[wD,reduceCtorEq]at h_)<;>(try exact wb_)<;>(try simp only[h])
      |refine t_ ?_
     refine T8 _ _ (s.next+5+5) (hA1.mono wl_ wl_ wl_ wh_ (fun j hj=>by simp only[wM];repeat(first|rw[if_pos trivial]|rw[if_pos rfl]|rw[if_neg o_]))) wl_ wi_ (fun s2 ti2 gi2 vR2 h7a h7b hA=>?_)
     have h7:s2.f 7=vi k:=h7a.trans (by simp -implicitDefEqProofs only[wL,seval,g0,g5,g6,g7])
     simp only[wN]at h7b
     have hA2:=hA.mono (s':=(((s2.bump 3).put (some 22) (vi k)).put (some 23) (.int .i64 ((k+1:Nat):Int))).put (some 7) (.int .i64 ((k+1:Nat):Int))) wl_ wl_ wl_ wh_ (fun j hj=>by simp only[wM])
     repeat' with_reducible first
      |refine s_ ?_
      |simp -implicitDefEqProofs only[wZZ,seval,g0,g5,g6,g7,h7]
      |simp -implicitDefEqProofs (disch:=omega) only[w64,if_neg]
     refine⟨by(try simp only[wN])<;>omega,k+1,o_,by rw[f0];exact hA2.f0,by rw[f5];exact hA2.f5,by rw[f6];exact hA2.f6,by simp -implicitDefEqProofs only[wL,seval],o_,vP,vR2,ps1,ti2,gi2,_,_,hA2,hal,o_,by rw[y2];exact t2,by simp;omega,o_,by rw[y6];exact t5,by rw[y6];omega⟩
   · rw [if_neg hc]at hal
     by_cases hl:k+1=a.parts.length
     · rw[if_pos (List.drop_eq_nil_of_le o_)]at hal
       have hal:zq (a.parts.drop (k+1)) (M1,{p1 with code:=a.parts[k].code,at_:=a.parts[k].at_})=R:=by rw[List.drop_eq_nil_of_le o_];exact hal
       repeat' with_reducible first
        |refine s_ ?_
        |simp -implicitDefEqProofs only[wZZ,seval,g0,g5,g6,g7,g0,g5,g6,o5]
        |apply qa<;>intro h h_<;>(try simp only[wD,reduceCtorEq]at h_)<;>(try exact wb_)<;>(try simp only[h])
        |refine t_ ?_
        |simp -implicitDefEqProofs (disch:=omega) only[w64,if_neg]
       refine T10 _ _ (s.next+5+5) (hA1.mono wl_ wl_ wl_ wh_ (fun j hj=>by simp only[wM];repeat(first|rw[if_pos trivial]|rw[if_pos rfl]|rw[if_neg o_]))) wl_ wi_ (fun s2 h7a h7b hA=>?_)
       have h7:s2.f 7=vi k:=h7a.trans (by simp -implicitDefEqProofs only[wL,seval,g0,g5,g6,g7])
       simp only[wN]at h7b
       have hA2:=hA.mono (s':=(((s2.bump 3).put (some 22) (vi k)).put (some 23) (.int .i64 ((k+1:Nat):Int))).put (some 7) (.int .i64 ((k+1:Nat):Int))) wl_ wl_ wl_ wh_ (fun j hj=>by simp only[wM])
       repeat' with_reducible first
        |refine s_ ?_
        |simp -implicitDefEqProofs only[wZZ,seval,g0,g5,g6,g7,h7]
        |simp -implicitDefEqProofs (disch:=omega) only[w64,if_neg]
       refine⟨by(try simp only[wN])<;>omega,k+1,o_,by rw[f0];exact hA2.f0,by rw[f5];exact hA2.f5,by rw[f6];exact hA2.f6,by simp -implicitDefEqProofs only[wL,seval],o_,vP,vR,ps1,ti1,gi1,_,_,hA2,hal,o_,t2,by dsimp only;omega,o_,t5,o_⟩
     · rw[if_neg (by rw[List.drop_eq_getElem_cons (show k+1<a.parts.length by omega)];exact List.cons_ne_nil _ _)]at hal
       repeat' with_reducible first
        |refine s_ ?_
        |simp -implicitDefEqProofs only[wZZ,seval,g0,g5,g6,g7,g0,g5,g6,o5]
        |apply qa<;>intro h h_<;>(try simp only[wD,reduceCtorEq]at h_)<;>(try exact wb_)<;>(try simp only[h])
        |refine t_ ?_
        |simp -implicitDefEqProofs (disch:=omega) only[w64,if_neg]
       refine T15 _ _ (s.next+5+5) (hA1.mono wl_ wl_ wl_ wh_ (fun j hj=>by simp only[wM];repeat(first|rw[if_pos trivial]|rw[if_pos rfl]|rw[if_neg o_]))) wl_ wi_ wh_ (fun s2 vP2 vR2 ps2 h7a h7b h7c hA=>?_)
       have h7:s2.f 7=vi k:=h7a.trans (by simp -implicitDefEqProofs only[wL,seval,g0,g5,g6,g7])
       simp only[wN]at h7b
       have hA2:=hA.mono (s':=(((s2.bump 3).put (some 22) (vi k)).put (some 23) (.int .i64 ((k+1:Nat):Int))).put (some 7) (.int .i64 ((k+1:Nat):Int))) wl_ wl_ wl_ wh_ (fun j hj=>by simp only[wM])
       repeat' with_reducible first
        |refine s_ ?_
        |simp -implicitDefEqProofs only[wZZ,seval,g0,g5,g6,g7,h7]
        |simp -implicitDefEqProofs (disch:=omega) only[w64,if_neg]
       refine⟨by(try simp only[wN])<;>omega,k+1,o_,by rw[f0];exact hA2.f0,by rw[f5];exact hA2.f5,by rw[f6];exact hA2.f6,by simp -implicitDefEqProofs only[wL,seval],o_,vP2,vR2,ps2,ti1,gi1,_,_,hA2,hal,by dsimp only;omega,t2,by simp;omega,o_,by dsimp only;omega,by dsimp only;omega⟩
 · rw[List.drop_eq_nil_of_le o_,JP]at hal
   subst hal
   repeat' with_reducible first
    |refine s_ ?_
    |simp -implicitDefEqProofs only[wZZ,seval,g0,g5,g6,g7,g0,g5,g6,o5]
    |apply qa<;>intro h h_<;>(try simp only[wD,reduceCtorEq]at h_)<;>(try exact wb_)<;>(try simp only[h])
    |refine t_ ?_
   exact hQ _ vP vR ps1 ti1 gi1 (hA1.mono wl_ wl_ wl_ wh_ (fun j hj=>by simp only[wM];repeat(first|rw[if_pos trivial]|rw[if_pos rfl]|rw[if_neg o_]))) o_

abbrev qdK (p:GPr) (q:Int):GPr:={p with prec:=q}
theorem AAt.qx3 {s s':St} {H:Nat→Option MObj} {next m ti gi pb:Nat} {vN vP vT vL vR:V} {ps:List V} {a:Alt} {ti1 gi1:Nat} {M:Mk} {p:GPr} {q:Int} (h:AAt s H next m ti gi pb vN vP vT vL vR ps a ti1 gi1 M p)
 (h0:s'.f 0=s.f 0) (h5:s'.f 5=s.f 5) (h6:s'.f 6=s.f 6) (hn:s.next≤s'.next) (hp:s'.H pb=some (.own 6 [prC {p with prec:=q} vR] false)) (hH: ∀j,j<s.next→j≠pb→s'.H j=s.H j):AAt s' H next m ti gi pb vN vP vT vL vR ps a ti1 gi1 M {p with prec:=q}:=by
 obtain ⟨b1,b2,b3,b4,b5⟩:=h.ap pb _ h.h6
 have hM:=h.at_
 exact h.upd (hM.mono3 hn (hH m hM.lm (Ne.symm b1)) (hH ti1 hM.lt (Ne.symm b2)) (hH gi1 hM.lg (Ne.symm b3))) (Or.inl rfl) (Or.inl rfl) h0 h5 h6 hn hp (h.gR.mono hn fun id g1 g2=>hH id g2 fun e=>b4 (by rw[← e];exact g1)) (h.gP.mono hn fun id g1 g2=>hH id g2 fun e=>b5 (by rw[← e];exact g1)) h.eP h.sp fun j g _ _ _ g5 _ _=>hH j g g5
theorem qhO {s0:St} {H:Nat→Option MObj} {next m ti gi pb:Nat} {vN vP vT vL vR:V} {ps:List V} {a:Alt} {ti1 gi1:Nat} {M:Mk} {p:GPr} {E:EC} {Q:Exit→St→Prop} (h:AAt s0 H next m ti gi pb vN vP vT vL vR ps a ti1 gi1 M p) (hbr:p.right.length≤549755813888)
 (hQ: ∀s',AAt s' H next m ti gi pb vN vP vT vL vR ps a ti1 gi1 M {p with prec:=xE p.right p.prec}→ewp Tryz.prog E Q s'):ewp Tryz.prog (.seq JW E) Q s0:=by
 generalize hR:xE p.right p.prec=R at hQ
 have f0:=h.f0;have f5:=h.f5;have f6:=h.f6
 repeat' with_reducible first
  |refine s_ ?_
  |simp -implicitDefEqProofs only[wZZ,seval,f0,f5,f6]
 refine qc ?nx2 (fun(z:Nat×Int) s=>s.f 0=?v2_0∧s.f 5=?v2_5∧s.f 6=?v2_6∧s.f 9=vi z.1∧(z.1≤p.right.length)∧((AAt s H next m ti gi pb vN vP vT vL vR ps a ti1 gi1 M (qdK p z.2)))∧(xE (p.right.drop z.1) z.2=R)) (fun z=>p.right.length - z.1) ((0,p.prec)) wj_ (by refine⟨?_,?_,?_,?_,wo_,(by exact h.mono wl_ wl_ wl_ wh_ (fun j hj=>by simp only[wM])),(by exact hR)⟩<;>first|(simp -implicitDefEqProofs only[wL,wM,wN,wX,seval,Option.some.injEq]<;>exact wt_)|rfl|exact⟨_,rfl⟩) ?_
 intro z s hnx ⟨g0,g5,g6,g9,k2_0,k2_1,k2_2⟩
 obtain ⟨k,q⟩:=z
 dsimp only at g9 k2_0 k2_1 k2_2
 have hA1:=k2_1
 have g0:=hA1.f0;have g5:=hA1.f5;have g6:=hA1.f6;have lp:=hA1.lp;have ln:=hA1.ln
 have o6:s.H pb=some (.own 6 [.agg [vi p.left,vR,vi q,.str p.code,.sl 1 true [],vi p.at_]] false):=hA1.h6
 have GR:Gr s.H s.next 1 (p.right.map (V.int .i64)) vR:=hA1.gR
 by_cases hk:k<p.right.length
 · rw [List.drop_eq_getElem_cons hk,xE]at k2_2
   by_cases hx:p.right[k]<1000
   · rw[if_pos hx]at k2_2
     repeat' with_reducible first
      |refine s_ ?_
      |simp -implicitDefEqProofs only[wZZ,seval,g0,g5,g6,g9,g0,g5,g6,o6,GR.len]
      |apply qa<;>intro h h_<;>(try simp only[wD,reduceCtorEq]at h_)<;>(try exact wb_)<;>(try simp only[h])
      |apply Gr.iaQ GR;omega;(focus(first|assumption|exact ge_ o_))
      |refine t_ ?_
      |simp -implicitDefEqProofs (disch:=omega) only[w64,if_neg]
     exact⟨o_,(k+1,p.right[k]),by dsimp only;omega,f0.symm,f5.symm,f6.symm,rfl,by dsimp only;omega,hA1.qx3 wl_ wl_ wl_ wh_ wi_ (fun j g g'=>by simp only[wM];repeat(first|rw[if_pos trivial]|rw[if_pos rfl]|rw[if_neg o_])),k2_2⟩
   · rw[if_neg hx]at k2_2
     repeat' with_reducible first
      |refine s_ ?_
      |simp -implicitDefEqProofs only[wZZ,seval,g0,g5,g6,g9,g0,g5,g6,o6,GR.len]
      |apply qa<;>intro h h_<;>(try simp only[wD,reduceCtorEq]at h_)<;>(try exact wb_)<;>(try simp only[h])
      |apply Gr.iaQ GR;omega;(focus(first|assumption|exact ge_ o_))
      |refine t_ ?_
      |simp -implicitDefEqProofs (disch:=omega) only[w64,if_neg]
     exact⟨o_,(k+1,q),by dsimp only;omega,f0.symm,f5.symm,f6.symm,rfl,by dsimp only;omega,hA1.mono wl_ wl_ wl_ wh_ (fun j hj=>by simp only[wM]),k2_2⟩
 · rw[List.drop_eq_nil_of_le o_,xE]at k2_2
   subst k2_2
   repeat' with_reducible first
    |refine s_ ?_
    |simp -implicitDefEqProofs only[wZZ,seval,g0,g5,g6,g9,g0,g5,g6,o6,GR.len]
    |apply qa<;>intro h h_<;>(try simp only[wD,reduceCtorEq]at h_)<;>(try exact wb_)<;>(try simp only[h])
    |refine t_ ?_
   exact hQ _ (hA1.mono wl_ wl_ wl_ wh_ (fun j hj=>by simp only[wM]))
def XA (M:Mk) (x:Sym) (q:Int):Mk×Int:=
 if x.name≠[]then(if x.lit=true∨qC x.name M.lefts 0<0 then xY M x else(qU M x.at_ x.name,-1))else(M,q)
theorem qAb (M:Mk) (x:Sym) (q:Int):(XA M x q).1.lefts=M.lefts∧(XA M x q).1.prods=M.prods∧(XA M x q).1.types=M.types∧(XA M x q).1.nons=M.nons∧(XA M x q).1.inner=M.inner∧M.toks.length≤(XA M x q).1.toks.length∧(XA M x q).1.toks.length≤M.toks.length+1:=by
 obtain ⟨ff1,ff2,ff3,ff4,ff5,ff6,ff7,ff8⟩:=zf M x.at_ x.name
 obtain ⟨y1,y2,y3,y4,y5,y6,y7,y8⟩:=Qp M x
 unfold XA;split
 · split
   · exact⟨y2,y3,y1,y4,y6,y7,y8⟩
   · exact⟨ff3,ff5,ff4,ff6,ff8,by dsimp only;rw[ff1];exact Nat.le_refl _,by dsimp only;rw[ff1];omega⟩
 · exact⟨rfl,rfl,rfl,rfl,rfl,Nat.le_refl _,by dsimp only;omega⟩
theorem AAt.callP {s s':St} {H:Nat→Option MObj} {next m ti gi pb:Nat} {vN vP vT vL vR:V} {ps:List V} {a:Alt} {ti1 gi1 ti2 gi2:Nat} {M M':Mk} {p:GPr} {q:Int} (h:AAt s H next m ti gi pb vN vP vT vL vR ps a ti1 gi1 M p)
 (hA:MkAt s'.H s'.next m ti2 gi2 vN vP vT vL M') (it:ti2=ti1∨s.next≤ti2) (ig:gi2=gi1∨s.next≤gi2) (hpr:M'.prods=M.prods) (h0:s'.f 0=s.f 0) (h5:s'.f 5=s.f 5) (h6:s'.f 6=s.f 6) (hn:s.next≤s'.next)
 (hp:s'.H pb=some (.own 6 [prC {p with prec:=q} vR] false)) (hH: ∀j,j<s.next→j≠m→j≠ti1→j≠gi1→j≠pb→s'.H j=s.H j):AAt s' H next m ti gi pb vN vP vT vL vR ps a ti2 gi2 M' (qdK p q):=by
 obtain ⟨b1,b2,b3,b4,b5⟩:=h.ap pb _ h.h6
 obtain ⟨c1,c2,c3⟩:=h.at_.nt
 exact h.upd hA it ig h0 h5 h6 hn hp (h.gR.mono hn fun id g1 g2=>hH id g2 (fun e=>h.gR.ne c1 (by rw[← e];exact g1)) (fun e=>h.gR.ne c2 (by rw[← e];exact g1)) (fun e=>h.gR.ne c3 (by rw[← e];exact g1)) (fun e=>b4 (by rw[← e];exact g1)))
  (h.gP.mono hn fun id g1 g2=>hH id g2 (fun e=>h.gP.ne c1 (by rw[← e];exact g1)) (fun e=>h.gP.ne c2 (by rw[← e];exact g1)) (fun e=>h.gP.ne c3 (by rw[← e];exact g1)) (fun e=>b5 (by rw[← e];exact g1))) (by rw[hpr];exact h.eP) h.sp fun j g1 g2 g3 g4 g5 _ _=>hH j g1 g2 g3 g4 g5
theorem quu {s0:St} {H:Nat→Option MObj} {next m ti gi pb:Nat} {vN vP vT vL vR:V} {ps:List V} {a:Alt} {ti1 gi1:Nat} {M:Mk} {p:GPr} {E:EC} {Q:Exit→St→Prop} (h:AAt s0 H next m ti gi pb vN vP vT vL vR ps a ti1 gi1 M p) (b1:M.toks.length≤1099511627776) (b2:M.lefts.length≤1099511627776) (hx:a.prec.lit=true→a.prec.name≠[])
 (hQ: ∀s' ti2 gi2,AAt s' H next m ti gi pb vN vP vT vL vR ps a ti2 gi2 (XA M a.prec p.prec).1 (qdK p (XA M a.prec p.prec).2)→ewp Tryz.prog E Q s'):ewp Tryz.prog (.seq Yd E) Q s0:=by
 have hA0:=h
 have hM:=h.at_
 have f0:=h.f0;have f5:=h.f5;have f6:=h.f6;have h5:=h.h5;have h6:=h.h6;have hm:=hM.hm;have lp:=h.lp;have ln:=h.ln
 have lm:=hM.lm;have lt:=hM.lt;have lg:=hM.lg
 obtain ⟨p1,p2,p3,p4,p5⟩:=h.ap pb _ h6
 obtain ⟨n1,n2,n3⟩:=hM.mt
 by_cases hn:a.prec.name=[]
 · have e:XA M a.prec p.prec=(M,p.prec):=by unfold XA;rw[if_neg (by simp[hn])]
   rw[e]at hQ
   repeat' with_reducible first
    |refine s_ ?_
    |simp -implicitDefEqProofs only[wZZ,seval,f0,f5,f6,h5,h6]
    |apply qa<;>intro h h_<;>(try simp only[wD,reduceCtorEq]at h_)<;>(try exact wb_)<;>(try simp only[h])
    |refine t_ ?_
   exact hQ _ ti1 gi1 (hA0.mono wl_ wl_ wl_ wh_ (fun j hj=>by simp only[wM]))
 · by_cases hC:a.prec.lit=true∨qC a.prec.name M.lefts 0<0
   · have e:XA M a.prec p.prec=xY M a.prec:=by unfold XA;rw[if_pos hn,if_pos hC]
     rw[e]at hQ
     repeat' with_reducible first
      |refine s_ ?_
      |simp -implicitDefEqProofs only[wZZ,seval,f0,f5,f6,h5,h6,hm]
      |(first|apply qa|apply qw|apply qp)<;>intro h h_<;>(try simp only[wD,reduceCtorEq]at h_)<;>(try exact wb_)<;>(try simp only[h])
      |apply qI (hp:=qy ?_);exact(hM.mono3 (Nat.le_refl _) (by(try simp only[wM]);(repeat rw[if_neg o_])) (by(try simp only[wM]);(repeat rw[if_neg o_])) (by(try simp only[wM]);(repeat rw[if_neg o_]))).er;exact qf;exact wu_;exact Flat.int _ _;rotate_left;exact wf_
      |(refine zk rfl rfl rfl ((qYw (hM.mono3 wh_ (by(try simp only[wM]);(repeat rw[if_neg o_])) (by(try simp only[wM]);(repeat rw[if_neg o_])) (by(try simp only[wM]);(repeat rw[if_neg o_]))) b1 b2 hx).mono ?_);rintro v1 H1 n1 ⟨q1,rfl,⟨ti',gi',q3,q4,q5⟩,q6⟩;(try simp only[wN]at q1);(try simp only[wN]at q3);(try simp only[wN]at q4);(try simp only[wM,wN]at q6))
      |apply Zn;exact wu_;exact wu_;(focus((try simp -implicitDefEqProofs only[wE,Nat.reduceAdd]);rfl))
      |refine t_ ?_
      |simp -implicitDefEqProofs (disch:=omega) only[w64,if_neg]
     · have h61:H1 pb=some (.own 6 [.agg [vi p.left,vR,vi (-1),.str p.code,.sl 1 true [],vi p.at_]] false):=by rw[q6 pb o_ p1 p2 p3,if_pos rfl]
       obtain ⟨y1,y2,y3,y4,y5,y6,y7,y8⟩:=Qp M a.prec
       repeat' with_reducible first
        |refine qx2 ?_
        |simp -implicitDefEqProofs only[wZZ,seval,f6,h61]
        |refine t_ ?_
       exact hQ _ ti' gi' (hA0.callP (q5.mono3 wh_ wi_ wi_ wi_) o_ o_ y3 wl_ wl_ wl_ wh_ wi_ (fun j g1 g2 g3 g4 g5=>by simp only[wM];repeat(first|rw[if_pos trivial]|rw[if_pos rfl]|rw[if_neg o_]);rw[q6 j o_ g2 g3 g4,if_neg g5]))
     · exact absurd hC (by simp[*])
     · have h61:H1 pb=some (.own 6 [.agg [vi p.left,vR,vi (-1),.str p.code,.sl 1 true [],vi p.at_]] false):=by rw[q6 pb o_ p1 p2 p3,if_pos rfl]
       obtain ⟨y1,y2,y3,y4,y5,y6,y7,y8⟩:=Qp M a.prec
       repeat' with_reducible first
        |refine qx2 ?_
        |simp -implicitDefEqProofs only[wZZ,seval,f6,h61]
        |refine t_ ?_
       exact hQ _ ti' gi' (hA0.callP (q5.mono3 wh_ wi_ wi_ wi_) o_ o_ y3 wl_ wl_ wl_ wh_ wi_ (fun j g1 g2 g3 g4 g5=>by simp only[wM];repeat(first|rw[if_pos trivial]|rw[if_pos rfl]|rw[if_neg o_]);rw[q6 j o_ g2 g3 g4,if_neg g5]))
   · have e:XA M a.prec p.prec=(qU M a.prec.at_ a.prec.name,-1):=by unfold XA;rw[if_pos hn,if_neg hC]
     rw[e]at hQ
     have c1:a.prec.lit=false:=by cases hl:a.prec.lit with|true=>exact absurd (Or.inl hl) hC|false=>rfl
     have c2: ¬ qC a.prec.name M.lefts 0<0:=fun e=>hC (Or.inr e)
     repeat' with_reducible first
      |refine s_ ?_
      |simp -implicitDefEqProofs only[wZZ,seval,f0,f5,f6,h5,h6,hm]
      |(first|apply qa|apply qw|apply qp)<;>intro h h_<;>(try simp only[wD,reduceCtorEq]at h_)<;>(try exact wb_)<;>(try simp only[h])
      |apply qI (hp:=qy ?_);exact(hM.mono3 (Nat.le_refl _) (by(try simp only[wM]);(repeat rw[if_neg o_])) (by(try simp only[wM]);(repeat rw[if_neg o_])) (by(try simp only[wM]);(repeat rw[if_neg o_]))).er;exact qf;exact wu_;exact Flat.int _ _;rotate_left;exact wf_
      |(refine zk rfl rfl rfl ((Yl (hM.mono3 wh_ (by(try simp only[wM]);(repeat rw[if_neg o_])) (by(try simp only[wM]);(repeat rw[if_neg o_])) (by(try simp only[wM]);(repeat rw[if_neg o_])))).mono ?_);rintro v1 H1 n1 ⟨q1,q2,q6⟩;(try simp only[wN]at q1);(try simp only[wN]at q3);(try simp only[wN]at q4);(try simp only[wM,wN]at q6))
      |refine t_ ?_
      |simp -implicitDefEqProofs (disch:=omega) only[w64,if_neg]
     exact hQ _ ti1 gi1 (hA0.callP (q2.mono3 wh_ (by simp only[wM]) (by simp only[wM]) (by simp only[wM])) (Or.inl rfl) (Or.inl rfl) (zf M a.prec.at_ a.prec.name).2.2.2.2.1 wl_ wl_ wl_ wh_ (by simp only[wM];rw[q6 pb o_ p1,if_pos rfl]) (fun j g1 g2 g3 g4 g5=>by simp only[wM];rw[q6 j o_ g2,if_neg g5]))

abbrev qf6 (M:Mk) (p:GPr):Mk:={M with prods:=M.prods++[{p with args:=p.right}]}
theorem qie {s0:St} {H:Nat→Option MObj} {next m ti gi pb:Nat} {vN vP vT vL vR:V} {ps:List V} {a:Alt} {ti1 gi1:Nat} {M:Mk} {p:GPr} {Q:Exit→St→Prop} (h:AAt s0 H next m ti gi pb vN vP vT vL vR ps a ti1 gi1 M p) (hbr:p.right.length≤549755813888) (hbp:ps.length≤549755813888)
 (hQ: ∀s' vP' ps',MkAt s'.H s'.next m ti1 gi1 vN vP' vT vL (qf6 M p)→Gr s'.H s'.next 6 ps' vP'→ZM ps' ((qf6 M p).prods.map GPr.V)→ps'.length=ps.length+1→s0.next≤s'.next→FrO H s'.H next m ti gi→Q .normal s'):ewp Tryz.prog Xk Q s0:=by
 have hM:=h.at_
 have f0:=h.f0;have f5:=h.f5;have f6:=h.f6;have h5:=h.h5;have h6:=h.h6;have hm:=hM.hm;have lp:=h.lp;have ln:=h.ln
 have lm:=hM.lm;have lt:=hM.lt;have lg:=hM.lg
 obtain ⟨p1,p2,p3,p4,p5⟩:=h.ap pb _ h6
 obtain ⟨n1,n2,n3⟩:=hM.mt
 obtain ⟨c1,c2,c3⟩:=hM.nt
 have d5:=h.gP.ne c1
 have hneP: ∀id,gid vP=some id→id≠m∧id≠pb:=fun id h1=>⟨fun e=>d5 (by rw[← e];exact h1),fun e=>p5 (by rw[← e];exact h1)⟩
 repeat' with_reducible first
  |refine s_ ?_
  |simp -implicitDefEqProofs only[wZZ,seval,f0,f5,f6,h5,h6,hm,qb d5,qb p5]
  |apply XW (qP.gr h.gR);(focus(simp only[wZ]<;>omega));(focus(unfold maxLen;simp only[wZ]<;>omega))
  |apply qZ rfl (h.gP.mono (Nat.le_refl _) (fun id h1 h2=>by have hne:=hneP id h1;(try simp only[wM]);(repeat rw[if_neg o_])));exact qP.sl;(focus(simp only[wZ]<;>omega));(focus(unfold maxLen;simp only[wZ]<;>omega))
  |refine t_ ?_
  |simp -implicitDefEqProofs (disch:=omega) only[w64,if_neg]
 have hv:Er false (fun _=>none) (.agg [vi p.left,vR,vi p.prec,.str p.code,.asl (s0.next+3) p.right.length 1 (p.right.map (V.int .i64)),vi p.at_]) (GPr.V {p with args:=p.right}):=
  ErL.agg (.cons (.int _ _) (.cons (h.gR.er rfl) (.cons (.int _ _) (.cons (.str _) (.cons Jg (.cons (.int _ _) .nil))))))
 have heP:ZM (ps++[(.agg [vi p.left,vR,vi p.prec,.str p.code,.asl (s0.next+3) p.right.length 1 (p.right.map (V.int .i64)),vi p.at_])]) ((qf6 M p).prods.map GPr.V):=by
  show ZM _ ((M.prods++[({p with args:=p.right}:GPr)]).map GPr.V)
  rw[List.map_append];exact h.eP.snoc hv
 have e2:=h.gP.ne c2;have e3:=h.gP.ne c3
 refine hQ _ (.asl (s0.next+6+8) (ps.length+1) 6 (ps++[(.agg [vi p.left,vR,vi p.prec,.str p.code,.asl (s0.next+3) p.right.length 1 (p.right.map (V.int .i64)),vi p.at_])])) (ps++[(.agg [vi p.left,vR,vi p.prec,.str p.code,.asl (s0.next+3) p.right.length 1 (p.right.map (V.int .i64)),vi p.at_])]) ⟨?_,?_,?_,hM.eN,ErL.asl heP,hM.eT,hM.eL,by simp only[wN]<;>omega,by simp only[wN]<;>omega,by simp only[wN]<;>omega,hM.len,hM.len3⟩ (Gr.tok ?_ wh_) heP (by simp) wh_ (fun j g1 g2 g3 g4 g5=>?_)
 · simp only[wM]
   repeat first|rw[if_pos trivial]|rw[if_pos rfl]|rw[if_neg o_]|simp only[wM]|rw[qb d5]
 · simp only[wM]
   repeat first|rw[if_pos trivial]|rw[if_pos rfl]|rw[if_neg o_]|simp only[wM]|rw[qb e2]
   exact hM.ht
 · simp only[wM]
   repeat first|rw[if_pos trivial]|rw[if_pos rfl]|rw[if_neg o_]|simp only[wM]|rw[qb e3]
   exact hM.hg
 · simp only[wM]
   repeat first|rw[if_pos trivial]|rw[if_pos rfl]|rw[if_neg o_]|simp only[wM]
 · have e:=h.fr j g1 g2 g3 g4 g5
   have e5:=h.gP.ne (j:=j) (fun f q=>g5 f (by rw[← e];exact q))
   simp only[wM]
   repeat first|rw[if_pos trivial]|rw[if_pos rfl]|rw[if_neg o_]|simp only[wM]|rw[qb e5]
   exact e
theorem XL: ∀(l:List Part) (M:Mk) (p:GPr),(zq l (M,p)).1.lefts=M.lefts∧(zq l (M,p)).1.types=M.types∧(zq l (M,p)).1.nons=M.nons∧(zq l (M,p)).2.prec=p.prec∧(zq l (M,p)).2.left=p.left∧M.toks.length≤(zq l (M,p)).1.toks.length∧(zq l (M,p)).1.toks.length≤M.toks.length+l.length∧
 (zq l (M,p)).2.right.length≤p.right.length+l.length∧M.inner≤(zq l (M,p)).1.inner∧(zq l (M,p)).1.inner≤M.inner+l.length
 |[],M,p=>by rw[JP];exact⟨rfl,rfl,rfl,rfl,rfl,Nat.le_refl _,Nat.le_refl _,Nat.le_refl _,Int.le_refl _,by simp⟩
 | w ::r,M,p=>by
   rw[Qa]
   obtain ⟨y1,y2,y3,y4,y5,y6,y7,y8⟩:=Qp M w.sym
   split
   · obtain ⟨h1,h2,h3,h4,h5,h6,h7,h8,h9,h10⟩:=XL r (xY M w.sym).1 {p with right:=p.right++[(xY M w.sym).2]}
     refine⟨h1.trans y2,h2.trans y1,h3.trans y4,h4,h5,o_,by rw[List.length_cons];omega,?_,o_,by rw[List.length_cons];omega⟩
     simp at h8 ⊢;omega
   · split
     · dsimp only
       exact⟨rfl,rfl,rfl,rfl,rfl,Nat.le_refl _,o_,o_,o_,by simp;omega⟩
     · obtain ⟨h1,h2,h3,h4,h5,h6,h7,h8,h9,h10⟩:=XL r {M with inner:=M.inner+1,prods:=M.prods++[{left:=M.lefts.length+(M.inner+1),prec:= -1,code:=w.code,args:=p.right,at_:=w.at_}]} {p with right:=p.right++[1000+M.lefts.length+(M.inner+1)]}
       dsimp only at h1 h2 h3 h4 h5 h6 h7 h8 h9 h10
       refine⟨h1,h2,h3,h4,h5,o_,by rw[List.length_cons];omega,?_,o_,by rw[List.length_cons];omega⟩
       simp at h8 ⊢;omega
theorem qfJ (M:Mk) (n:List UInt8) (a:Alt) (q:Mk×GPr) (P:GPr) (hq:q=zq a.parts (M,{left:=1+qC n M.lefts 0,prec:= -1,at_:=a.at_})) (hP:P={q.2 with prec:=xE q.2.right (-1)}):
 Yi M n a=qf6 (XA q.1 a.prec P.prec).1 (qdK P (XA q.1 a.prec P.prec).2):=by
 subst hq hP
 obtain ⟨ff1,ff2,ff3,ff4,ff5,ff6,ff7,ff8⟩:=zf (zq a.parts (M,{left:=1+qC n M.lefts 0,prec:= -1,at_:=a.at_})).1 a.prec.at_ a.prec.name
 unfold Yi XA qf6 qdK
 dsimp only
 split
 · split
   · rfl
   · rw[ff5]
 · rfl
theorem qYI {H:Nat→Option MObj} {next m ti gi:Nat} {vN vP vT vL:V} {M:Mk} {ps:List V} {n:List UInt8} {a:Alt} (hM:MkAt H next m ti gi vN vP vT vL M) (hP:Gr H next 6 ps vP) (heP:ZM ps (M.prods.map GPr.V)) (b1:M.toks.length+a.parts.length≤274877906944) (b2:M.lefts.length≤274877906944) (b3:a.parts.length≤137438953472) (b4:ps.length+a.parts.length≤137438953472) (b5:0≤M.inner) (b6:M.inner+a.parts.length≤274877906944) (hx: ∀w∈a.parts,w.sym.lit=true→w.sym.name≠[]) (hxp:a.prec.lit=true→a.prec.name≠[]):zl Tryz.prog 103 [.ptr m 0 0,.str n,a.V] H next (fun _ H' next'=>next≤next'∧(∃ti' gi' vP' ps',(ti'=ti∨next≤ti')∧(gi'=gi∨next≤gi')∧MkAt H' next' m ti' gi' vN vP' vT vL (Yi M n a)∧Gr H' next' 6 ps' vP'∧ZM ps' ((Yi M n a).prods.map GPr.V)∧ps'.length≤ps.length+a.parts.length+1)∧FrO H H' next m ti gi):=by
 refine zh Tryz.func103 nm_ qfV (by show 3≤173;decide) ?_
 show ewp _ qgw _ _
 have hm:=hM.hm;have lm:=hM.lm;have lt:=hM.lt;have lg:=hM.lg
 have hbd:=jI n M.lefts 0
 have hz:IntKind.i64.wrap (1+qC n M.lefts 0)=1+qC n M.lefts 0:=wrap64 o_ o_
 show ewp _ (.seq (.reg qiF) (.seq (.reg qjz) (.seq XY (.seq JW (.seq Yd Xk))))) _ _
 have tail: ∀(s:St) (pb:Nat),AAt s H next m ti gi pb vN vP vT vL (.sl 1 true []) ps a ti gi M {left:=1+qC n M.lefts 0,prec:= -1,at_:=a.at_}→ewp Tryz.prog (.seq XY (.seq JW (.seq Yd Xk))) (yM qXn fun _ H' next'=>next≤next'∧(∃ti' gi' vP' ps',(ti'=ti∨next≤ti')∧(gi'=gi∨next≤gi')∧MkAt H' next' m ti' gi' vN vP' vT vL (Yi M n a)∧Gr H' next' 6 ps' vP'∧ZM ps' ((Yi M n a).prods.map GPr.V)∧ps'.length≤ps.length+a.parts.length+1)∧FrO H H' next m ti gi) s:=by
  intro s pb hA
  generalize hp0:({left:=1+qC n M.lefts 0,prec:= -1,at_:=a.at_}:GPr)=p0 at hA
  have hr0:p0.right=[]:=by rw[← hp0]
  have hc0:p0.prec= -1:=by rw[← hp0]
  obtain ⟨h1,h2,h3,h4,h5,h6,h7,h8,h9,h10⟩:=XL a.parts M p0
  rw[hr0,List.length_nil]at h8
  have hpr:(zq a.parts (M,p0)).1.lefts=M.lefts:=h1
  refine qe1 hA o_ o_ (by rw[hr0,List.length_nil];omega) o_ b5 o_ hx fun s1 vP1 vR1 ps1 ti1 gi1 hA1 hl1=>?_
  refine qhO hA1 o_ fun s2 hA2=>?_
  refine quu hA2 o_ (by rw[h1];omega) hxp fun s3 ti3 gi3 hA3=>?_
  refine qie hA3 (by show (zq a.parts (M,p0)).2.right.length≤_;omega) o_ fun s4 vP4 ps4 k1 k2 k3 k4 k5 k6=>?_
  have he:=qfJ M n a (zq a.parts (M,p0)) {(zq a.parts (M,p0)).2 with prec:=xE (zq a.parts (M,p0)).2.right (zq a.parts (M,p0)).2.prec} (by rw[hp0]) (by rw[h4,hc0])
  refine qa8 rfl (Or.inl rfl) ⟨by have:=hA3.ln;have:=hA3.lp;omega,⟨ti3,gi3,vP4,ps4,hA3.it,hA3.ig,?_,k2,?_,o_⟩,k6⟩
  · rw[he];exact k1
  · rw[he];exact k3
 generalize (EC.seq XY (.seq JW (.seq Yd Xk)))=F at tail
 repeat' with_reducible first
  |refine zN ?_
  |simp -implicitDefEqProofs only[wZZ,seval,hm,hz]
  |apply qI (hp:=qy ?_);(focus(refine(hM.mono (Nat.le_refl _) (fun j hj=>?_)).er;(try simp only[wM]);(repeat rw[if_neg o_])));exact qf;exact wu_;exact Flat.int _ _;rotate_left;exact wf_
  |refine t_ ?_
 refine tail _ (next+1+7) ⟨hM.mono wh_ (fun j hj=>by simp only[wM];repeat(first|rw[if_pos trivial]|rw[if_pos rfl]|rw[if_neg o_])),Or.inl rfl,Or.inl rfl,by simp -implicitDefEqProofs only[wL,seval],by simp -implicitDefEqProofs only[wL,seval],by simp -implicitDefEqProofs only[wL,seval],by simp only[wM];repeat(first|rw[if_pos trivial]|rw[if_pos rfl]|rw[if_neg o_]),by simp only[wM];repeat(first|rw[if_pos trivial]|rw[if_pos rfl]|rw[if_neg o_]),Gr.nil,hP.mono wh_ (fun id g1 g2=>by simp only[wM];repeat(first|rw[if_pos trivial]|rw[if_pos rfl]|rw[if_neg o_])),heP,Sep.slL,o_,by simp only[wN]<;>omega,fun j g1 g2 g3 g4 g5=>by simp only[wM];repeat(first|rw[if_pos trivial]|rw[if_pos rfl]|rw[if_neg o_])⟩

structure Small (x:Source):Prop where
 dl:x.decls.length≤1000
 ds: ∀d∈x.decls,d.syms.length≤1000
 dk: ∀d∈x.decls,1≤d.kind∧d.kind≤6
 dx: ∀d∈x.decls,∀y∈d.syms,y.lit=true→y.name≠[]
 rl:x.rules.length≤1000
 ra: ∀r∈x.rules,r.alts.length≤1000
 rp: ∀r∈x.rules,∀a∈r.alts,a.parts.length≤1000
 rx: ∀r∈x.rules,∀a∈r.alts,∀w∈a.parts,w.sym.lit=true→w.sym.name≠[]
 rq: ∀r∈x.rules,∀a∈r.alts,a.prec.lit=true→a.prec.name≠[]
abbrev qVL:V:= .agg [.sl 6 true [],.sl 2 true [],.sl 6 true [],.str [],.str []]
structure OfAt (s:St) (m:Nat) (src:Source) (ti gi:Nat) (vN vP vT vL:V) (M:Mk):Prop where
 at_:MkAt s.H s.next m ti gi vN vP vT vL M
 f1:s.f 1=.ptr 0 0 0
 f2:s.f 2=.ptr 1 0 0
 f6:s.f 6=.ptr m 0 0
 h0:s.H 0=some (.own 4 [src.V] false)
 h1:s.H 1=some (.own 5 [qVL] false)
 ln:1<s.next
theorem MkAt.far {H:Nat→Option MObj} {next m ti gi:Nat} {vN vP vT vL:V} {M:Mk} (h:MkAt H next m ti gi vN vP vT vL M) {j z:Nat} {e:V} (hj:H j=some (.own z [e] false)) (hz:z≠13) (hz1:z≠1):j≠m∧j≠ti∧j≠gi∧ ∀f,H j≠some (.tok f):=by
 refine⟨fun q=>?_,fun q=>?_,fun q=>?_,fun f q=>?_⟩
 · rw[q,h.hm]at hj;cases hj;exact hz rfl
 · rw[q,h.ht]at hj
   have:=h.len3
   injection hj with hj;injection hj with _ hj
   have:=congrArg List.length hj
   simp at this;omega
 · rw[q,h.hg]at hj
   injection hj with hj;injection hj with hj
   exact hz1 hj.symm
 · rw[hj]at q;cases q
theorem OfAt.upd {s s':St} {m:Nat} {src:Source} {ti gi ti' gi':Nat} {vN vP vT vL vN' vP' vT' vL':V} {M M':Mk} (h:OfAt s m src ti gi vN vP vT vL M) (hA:MkAt s'.H s'.next m ti' gi' vN' vP' vT' vL' M')
 (f1:s'.f 1=s.f 1) (f2:s'.f 2=s.f 2) (f6:s'.f 6=s.f 6) (hn:s.next≤s'.next) (hH:FrO s.H s'.H s.next m ti gi):OfAt s' m src ti' gi' vN' vP' vT' vL' M':=by
 have ln:=h.ln
 obtain ⟨a1,a2,a3,a4⟩:=h.at_.far h.h0 (by decide) (by decide)
 obtain ⟨b1,b2,b3,b4⟩:=h.at_.far h.h1 (by decide) (by decide)
 exact⟨hA,f1.trans h.f1,f2.trans h.f2,f6.trans h.f6,by rw[hH 0 o_ a1 a2 a3 a4];exact h.h0,by rw[hH 1 o_ b1 b2 b3 b4];exact h.h1,o_⟩
theorem OfAt.mono {s s':St} {m:Nat} {src:Source} {ti gi:Nat} {vN vP vT vL:V} {M:Mk} (h:OfAt s m src ti gi vN vP vT vL M) (f1:s'.f 1=s.f 1) (f2:s'.f 2=s.f 2) (f6:s'.f 6=s.f 6) (hn:s.next≤s'.next) (hH: ∀j,j<s.next→s'.H j=s.H j):OfAt s' m src ti gi vN vP vT vL M:=
 h.upd (h.at_.mono hn hH) f1 f2 f6 hn fun j g _ _ _ _=>hH j g
abbrev yZ (M M':Mk):Prop:=M'.lefts=M.lefts∧M'.prods=M.prods∧M'.nons=M.nons∧M'.inner=M.inner
theorem qfe (M:Mk) (d:Decl) (x:Sym):yZ M (vJ M d x)∧(vJ M d x).level=M.level∧M.toks.length≤(vJ M d x).toks.length∧(vJ M d x).toks.length≤M.toks.length+1∧(vJ M d x).types.length≤M.types.length+1:=by
 obtain ⟨ff1,ff2,ff3,ff4,ff5,ff6,ff7,ff8⟩:=zf M x.at_ x.name
 obtain ⟨p1,p2,p3,p4,p5,p6,p7,p8⟩:=qff M x
 unfold vJ
 split
 · dsimp only
   split
   · exact⟨⟨rfl,rfl,rfl,rfl⟩,rfl,Nat.le_refl _,by dsimp only;omega,by simp⟩
   · split
     · exact⟨⟨ff3,ff5,ff6,ff8⟩,ff7,by rw[ff1];omega,by rw[ff1];omega,by rw[ff4];omega⟩
     · exact⟨⟨rfl,rfl,rfl,rfl⟩,rfl,Nat.le_refl _,o_,o_⟩
 · dsimp only
   generalize Zz M x=P at *
   have hA:yZ P.1 (xh P.1 d.kind x P.2)∧(xh P.1 d.kind x P.2).level=P.1.level:=by
    obtain ⟨gg1,gg2,gg3,gg4,gg5,gg6,gg7,gg8⟩:=zf P.1 x.at_ x.name
    unfold xh;split
    · exact⟨⟨rfl,rfl,rfl,rfl⟩,rfl⟩
    · dsimp only;split<;>simp[yF,yZ,gg3,gg5,gg6,gg7,gg8]
   have hB: ∀M:Mk,yZ M (jh M x P.2)∧(jh M x P.2).level=M.level:=fun M=>by
    obtain ⟨gg1,gg2,gg3,gg4,gg5,gg6,gg7,gg8⟩:=zf M x.at_ x.name
    unfold jh;split
    · dsimp only;split<;>simp[yF,yZ,gg3,gg5,gg6,gg7,gg8]
    · exact⟨⟨rfl,rfl,rfl,rfl⟩,rfl⟩
   have hC: ∀M:Mk,yZ M (kU M d.tag x P.2)∧(kU M d.tag x P.2).level=M.level:=fun M=>by
    obtain ⟨gg1,gg2,gg3,gg4,gg5,gg6,gg7,gg8⟩:=zf M x.at_ x.name
    unfold kU;split
    · dsimp only;split<;>simp[yF,yZ,gg3,gg5,gg6,gg7,gg8]
    · exact⟨⟨rfl,rfl,rfl,rfl⟩,rfl⟩
   obtain ⟨⟨a1,a2,a3,a4⟩,a5⟩:=hA
   obtain ⟨⟨b1,b2,b3,b4⟩,b5⟩:=hB (xh P.1 d.kind x P.2)
   obtain ⟨⟨c1,c2,c3,c4⟩,c5⟩:=hC (jh (xh P.1 d.kind x P.2) x P.2)
   have e1:=(qbJ P.1 d.kind x P.2);have e2:=qct (xh P.1 d.kind x P.2) x P.2;have e3:=qb5 (jh (xh P.1 d.kind x P.2) x P.2) d.tag x P.2
   refine⟨⟨by rw[c1,b1,a1,p2],by rw[c2,b2,a2,p3],by rw[c3,b3,a3,p4],by rw[c4,b4,a4,p6]⟩,by rw[c5,b5,a5,p5],by rw[e3.2,e2.2,e1.2];exact p7,by rw[e3.2,e2.2,e1.2];exact p8,by rw[e3.1,e2.1,e1.1,p1];omega⟩
theorem qfZ (d:Decl) (q:Mk×List UInt8):zI d [] q=q:=rfl
theorem YO (d:Decl) (x:Sym) (r:List Sym) (M:Mk) (st:List UInt8):zI d (x::r) (M,st)=if d.kind≠6 then zI d r (vJ M d x,st)else zI d r (if st≠[]then qU M x.at_ x.name else M,x.name):=by rw[zI]
theorem qfj (q:Mk×List UInt8):jL [] q=q:=rfl
theorem Y6 (d:Decl) (r:List Decl) (M:Mk) (st:List UInt8):jL (d::r) (M,st)=jL r (zI d d.syms (if 2≤d.kind∧d.kind≤4 then {M with level:=M.level+1} else M,st)):=by rw[jL]
abbrev Xy (M:Mk) (d:Decl):Mk:=if 2≤d.kind∧d.kind≤4 then {M with level:=M.level+1} else M
theorem qmF {s0:St} {m ti gi db:Nat} {src:Source} {vN vP vT vL:V} {M:Mk} {st:List UInt8} {d:Decl} {Q:Exit→St→Prop} (h:OfAt s0 m src ti gi vN vP vT vL M) (hT:Gr s0.H s0.next 2 (M.types.map Non.V) vT) (f7:s0.f 7=.str st) (f9:s0.f 9=.ptr db 0 0) (hd:s0.H db=some (.own 4 [d.V] false)) (ld:db<s0.next)
 (b1:M.toks.length+d.syms.length≤10000000000) (b2:M.types.length+d.syms.length≤10000000000) (hk:1≤d.kind∧d.kind≤6) (hx: ∀y∈d.syms,y.lit=true→y.name≠[])
 (hQ: ∀s' ti' gi' vT',OfAt s' m src ti' gi' vN vP vT' vL (zI d d.syms (M,st)).1→Gr s'.H s'.next 2 ((zI d d.syms (M,st)).1.types.map Non.V) vT'→s'.f 7=.str (zI d d.syms (M,st)).2→s'.f 8=s0.f 8→s0.next≤s'.next→yZ M (zI d d.syms (M,st)).1→(zI d d.syms (M,st)).1.level=M.level→(zI d d.syms (M,st)).1.toks.length≤M.toks.length+d.syms.length→(zI d d.syms (M,st)).1.types.length≤M.types.length+d.syms.length→Q .normal s'):ewp Tryz.prog K9 Q s0:=by
 generalize hR:zI d d.syms (M,st)=R at hQ
 have f1:=h.f1;have f2:=h.f2;have f6:=h.f6
 have hA0:=h
 repeat' with_reducible first
  |refine s_ ?_
  |simp -implicitDefEqProofs only[wZZ,seval,f1,f2,f6,f7]
 refine qc ?nx2 (fun(z:Nat×Mk×List UInt8) s=>s.f 1=?v2_1∧s.f 2=?v2_2∧s.f 6=?v2_6∧s.f 8=?v2_8∧s.f 9=?v2_9∧s.f 10=vi z.1∧(z.1≤d.syms.length)∧((∃ti gi vT,OfAt s m src ti gi vN vP vT vL z.2.1∧Gr s.H s.next 2 (z.2.1.types.map Non.V) vT))∧(zI d (d.syms.drop z.1) z.2=R)∧((yZ M z.2.1))∧((z.2.1.toks.length≤M.toks.length+z.1))∧((z.2.1.types.length≤M.types.length+z.1))∧((z.2.1.level=M.level))∧((s.H db=some (.own 4 [d.V] false)))∧(s.f 7=.str z.2.2)) (fun z=>d.syms.length - z.1) ((0,M,st)) wj_ (by refine⟨?_,?_,?_,?_,?_,?_,wo_,(by exact⟨ti,gi,vT,hA0.mono wl_ wl_ wl_ wh_ (fun j hj=>by simp only[wM]),hT.mono wh_ (fun j h1 hj=>by simp only[wM])⟩),(by exact hR),(by exact⟨rfl,rfl,rfl,rfl⟩),(by dsimp only;omega),(by dsimp only;omega),(by rfl),(by simp only[wM];exact hd),(by(try simp -implicitDefEqProofs only[wL,wM,wN,seval]);exact f7)⟩<;>first|(simp -implicitDefEqProofs only[wL,wM,wN,wX,seval,Option.some.injEq]<;>exact wt_)|rfl|exact⟨_,rfl⟩) ?_
 intro z s hnx ⟨g1,g2,g6,g8,g9,g10,k2_0,k2_1,k2_2,k2_3,k2_4,k2_5,k2_6,k2_7,g7⟩
 obtain ⟨k,M1,st1⟩:=z
 dsimp only at g7 g10 k2_0 k2_1 k2_2 k2_3 k2_4 k2_5 k2_6
 obtain ⟨ti1,gi1,vT1,hA1,hT1⟩:=k2_1
 have od:=k2_7
 have g1:=hA1.f1;have g2:=hA1.f2;have g6:=hA1.f6;have o0:=hA1.h0;have o1:=hA1.h1;have ln:=hA1.ln
 have hM:=hA1.at_;have hm:=hM.hm;have lm:=hM.lm;have lt:=hM.lt;have lg:=hM.lg
 obtain ⟨a1,a2,a3,a4⟩:=hM.far od (by decide) (by decide)
 have g9':=g9.trans f9
 by_cases hk2:k<d.syms.length
 · rw [List.drop_eq_getElem_cons hk2,YO]at k2_2
   have hxk:=hx _ (List.getElem_mem hk2)
   by_cases h6:d.kind=6
   · rw [if_neg (by simp[h6])]at k2_2
     by_cases hst:st1=[]
     · rw[if_neg (by simp[hst])]at k2_2
       repeat' with_reducible first
        |refine s_ ?_
        |simp -implicitDefEqProofs only[wZZ,seval,g1,g2,g6,g8,g9,g10,g7,g1,g2,g6,g7,f9,g10,od,hm,hst]
        |apply qa<;>intro h h_<;>(try simp only[wD,reduceCtorEq]at h_)<;>(try exact wb_)<;>(try simp only[h])
        |refine t_ ?_
        |simp -implicitDefEqProofs (disch:=omega) only[w64,if_neg]
       refine⟨by(try simp only[wN])<;>omega,(k+1,M1,d.syms[k].name),by dsimp only;omega,f1.symm,f2.symm,f6.symm,by first|trivial|rfl,by first|trivial|rfl,rfl,by dsimp only;omega,⟨ti1,gi1,vT1,hA1.mono wl_ wl_ wl_ wg_ (fun j hj=>by first|rfl|simp only[wM]),hT1.mono wg_ (fun j h1 hj=>by first|rfl|simp only[wM])⟩,k2_2,k2_3,by dsimp only;omega,by dsimp only;omega,k2_6,by first|trivial|exact od|(simp only[wM];exact od),rfl⟩
     · rw[if_pos hst]at k2_2
       repeat' with_reducible first
        |refine s_ ?_
        |simp -implicitDefEqProofs only[wZZ,seval,g1,g2,g6,g8,g9,g10,g7,g1,g2,g6,g7,f9,g10,od,hm]
        |apply qa<;>intro h h_<;>(try simp only[wD,reduceCtorEq]at h_)<;>(try exact wb_)<;>(try simp only[h])
        |(refine zk rfl rfl rfl ((Yl (hM.mono wh_ (fun j hj=>by(try simp only[wM]);(repeat rw[if_neg o_])))).mono ?_);rintro v1 H1 n1 ⟨q1,q2,q3⟩;(try simp only[wN]at q1);(try simp only[wM]at q3))
        |refine t_ ?_
       (try simp only[wN]at q1);(try simp only[wM,wN]at q3)
       have od1:H1 db=some (.own 4 [d.V] false):=by rw[q3 db o_ a1];exact od
       obtain ⟨ff1,ff2,ff3,ff4,ff5,ff6,ff7,ff8⟩:=zf M1 d.syms[k].at_ d.syms[k].name
       obtain ⟨sm1,sm2,sm3,sm4⟩:=k2_3
       repeat' with_reducible first
        |refine s_ ?_
        |simp -implicitDefEqProofs only[wZZ,seval,g1,g2,g6,g8,g9,g10,g7,f9,g10,od1]
        |refine t_ ?_
        |simp -implicitDefEqProofs (disch:=omega) only[w64,if_neg]
       refine⟨by(try simp only[wN])<;>omega,(k+1,(qU M1 d.syms[k].at_ d.syms[k].name),d.syms[k].name),by dsimp only;omega,f1.symm,f2.symm,f6.symm,by first|trivial|rfl,by first|trivial|rfl,rfl,by dsimp only;omega,⟨ti1,gi1,vT1,hA1.upd (q2.mono wg_ (fun j hj=>by first|rfl|simp only[wM])) wl_ wl_ wl_ wg_ (fun j h1 h2 h3 h4 h5=>by(try simp only[wM]);exact q3 j o_ h2),by rw[ff4];exact hT1.stay hM wg_ (fun j h1 h2 h3 h4=>by(try simp only[wM]);exact q3 j o_ h2)⟩,k2_2,⟨ff3.trans sm1,ff5.trans sm2,ff6.trans sm3,ff8.trans sm4⟩,by dsimp only;rw[ff1];omega,by dsimp only;rw[ff4];omega,ff7.trans k2_6,by first|trivial|exact od1|(simp only[wM];exact od1),rfl⟩
   · rw[if_pos h6]at k2_2
     obtain ⟨⟨dm1,dm2,dm3,dm4⟩,dm5,dm6,dm7,dm8⟩:=qfe M1 d d.syms[k]
     obtain ⟨sm1,sm2,sm3,sm4⟩:=k2_3
     repeat' with_reducible first
      |refine s_ ?_
      |simp -implicitDefEqProofs only[wZZ,seval,g1,g2,g6,g8,g9,g10,g7,g1,g2,g6,g7,f9,g10,od,hm]
      |apply qa<;>intro h h_<;>(try simp only[wD,reduceCtorEq]at h_)<;>(try exact wb_)<;>(try simp only[h])
      |(refine zk rfl rfl rfl ((qWu (hM.mono wg_ (fun j hj=>by first|rfl|simp only[wM])) (hT1.mono wg_ (fun j h1 hj=>by first|rfl|simp only[wM])) o_ o_ hxk hk).mono ?_);rintro v1 H1 n1 ⟨q1,⟨ti',gi',vT',q2,q3,q4,q5⟩,q6⟩;(try simp only[wN]at q1))
      |refine t_ ?_
      |simp -implicitDefEqProofs (disch:=omega) only[w64,if_neg]
     have q6': ∀j,j<s.next→j≠m→j≠ti1→j≠gi1→(∀f,s.H j≠some (.tok f))→H1 j=s.H j:=fun j h1 h2 h3 h4 h5=>q6 j wg_ h2 h3 h4 (by(try simp only[wM]);exact h5)
     refine⟨by(try simp only[wN])<;>omega,(k+1,(vJ M1 d d.syms[k]),st1),by dsimp only;omega,f1.symm,f2.symm,f6.symm,by first|trivial|rfl,by first|trivial|rfl,rfl,by dsimp only;omega,⟨ti',gi',vT',hA1.upd (q4.mono wg_ (fun j hj=>by first|rfl|simp only[wM])) wl_ wl_ wl_ wg_ (fun j h1 h2 h3 h4 h5=>by(try simp only[wM]);exact q6' j h1 h2 h3 h4 h5),q5.mono wg_ (fun j h1 h2=>by first|rfl|simp only[wM])⟩,k2_2,⟨dm1.trans sm1,dm2.trans sm2,dm3.trans sm3,dm4.trans sm4⟩,by dsimp only;omega,by dsimp only;omega,dm5.trans k2_6,by(try simp only[wM]);rw[q6' db o_ a1 a2 a3 a4];exact od,rfl⟩
 · rw[List.drop_eq_nil_of_le o_,qfZ]at k2_2
   subst k2_2
   repeat' with_reducible first
    |refine s_ ?_
    |simp -implicitDefEqProofs only[wZZ,seval,g1,g2,g6,g8,g9,g10,g7,g1,g2,g6,g7,f9,g10,od]
    |apply qa<;>intro h h_<;>(try simp only[wD,reduceCtorEq]at h_)<;>(try exact wb_)<;>(try simp only[h])
    |refine t_ ?_
   exact hQ _ ti1 gi1 vT1 (hA1.mono wl_ wl_ wl_ wg_ (fun j hj=>by first|rfl|simp only[wM])) (hT1.mono wg_ (fun j h1 hj=>by first|rfl|simp only[wM])) (by simp -implicitDefEqProofs only[wL,seval];exact g7) (by simp -implicitDefEqProofs only[wL,seval];exact g8) wg_ k2_3 k2_6 (by dsimp only at *;omega) (by dsimp only at *;omega)
theorem qwF {s0:St} {m ti gi:Nat} {src:Source} {vN vP vT vL:V} {M:Mk} {st:List UInt8} {E:EC} {Q:Exit→St→Prop} (h:OfAt s0 m src ti gi vN vP vT vL M) (hT:Gr s0.H s0.next 2 (M.types.map Non.V) vT) (f7:s0.f 7=.str st) (hS:Small src)
 (b1:M.toks.length≤1000000000) (b2:M.types.length≤1000000000) (b3:0≤M.level) (b4:M.level≤1000000000)
 (hQ: ∀s' ti' gi' vT',OfAt s' m src ti' gi' vN vP vT' vL (jL src.decls (M,st)).1→s'.f 7=.str (jL src.decls (M,st)).2→yZ M (jL src.decls (M,st)).1→(jL src.decls (M,st)).1.toks.length≤M.toks.length+1000000→(jL src.decls (M,st)).1.types.length≤M.types.length+1000000→ewp Tryz.prog E Q s'):ewp Tryz.prog (.seq qaC E) Q s0:=by
 generalize hR:jL src.decls (M,st)=R at hQ
 have f1:=h.f1;have f2:=h.f2;have f6:=h.f6
 have hA0:=h
 repeat' with_reducible first
  |refine s_ ?_
  |simp -implicitDefEqProofs only[wZZ,seval,f1,f2,f6,f7]
 refine qc ?nx1 (fun(z:Nat×Mk×List UInt8) s=>s.f 1=?v1_1∧s.f 2=?v1_2∧s.f 6=?v1_6∧s.f 8=vi z.1∧(z.1≤src.decls.length)∧((∃ti gi vT,OfAt s m src ti gi vN vP vT vL z.2.1∧Gr s.H s.next 2 (z.2.1.types.map Non.V) vT))∧(jL (src.decls.drop z.1) z.2=R)∧((yZ M z.2.1))∧((z.2.1.toks.length≤M.toks.length+1000 *z.1))∧((z.2.1.types.length≤M.types.length+1000 *z.1))∧((0≤z.2.1.level∧z.2.1.level≤M.level+z.1))∧(s.f 7=.str z.2.2)) (fun z=>src.decls.length - z.1) ((0,M,st)) wj_ (by refine⟨?_,?_,?_,?_,wo_,(by exact⟨ti,gi,vT,hA0.mono wl_ wl_ wl_ wh_ (fun j hj=>by simp only[wM]),hT.mono wh_ (fun j h1 hj=>by simp only[wM])⟩),(by exact hR),(by exact⟨rfl,rfl,rfl,rfl⟩),(by dsimp only;omega),(by dsimp only;omega),(by dsimp only;omega),(by(try simp -implicitDefEqProofs only[wL,wM,wN,seval]);exact f7)⟩<;>first|(simp -implicitDefEqProofs only[wL,wM,wN,wX,seval,Option.some.injEq]<;>exact wt_)|rfl|exact⟨_,rfl⟩) ?_
 intro z s hnx ⟨g1,g2,g6,g8,k1_0,k1_1,k1_2,k1_3,k1_4,k1_5,k1_6,g7⟩
 obtain ⟨i,M1,st1⟩:=z
 dsimp only at g7 g8 k1_0 k1_1 k1_2 k1_3 k1_4 k1_5 k1_6
 obtain ⟨ti1,gi1,vT1,hA1,hT1⟩:=k1_1
 have g1:=hA1.f1;have g2:=hA1.f2;have g6:=hA1.f6;have o0:=hA1.h0;have o1:=hA1.h1;have ln:=hA1.ln
 have hM:=hA1.at_;have hm:=hM.hm;have lm:=hM.lm;have lt:=hM.lt;have lg:=hM.lg
 obtain ⟨n1,n2,n3⟩:=hM.mt
 obtain ⟨c1,c2,c3⟩:=hM.nt
 by_cases hi:i<src.decls.length
 · rw [List.drop_eq_getElem_cons hi,Y6]at k1_2
   have hd1:=hS.ds _ (List.getElem_mem hi);have hd2:=hS.dk _ (List.getElem_mem hi);have hd3:=hS.dx _ (List.getElem_mem hi)
   have hl:=hS.dl
   have hl:=hS.dl
   have hz:IntKind.i64.wrap (M1.level+1)=M1.level+1:=wrap64 o_ o_
   show ewp _ (.seq qke (.seq (.block 1 (.seq (.reg qji) (.seq qiH K9))) (.reg qkU))) _ _
   have T: ∀(s':St) (Q:Exit→St→Prop) (db:Nat),OfAt s' m src ti1 gi1 vN vP vT1 vL (Xy M1 src.decls[i])→Gr s'.H s'.next 2 (M1.types.map Non.V) vT1→s'.f 7=.str st1→s'.f 9=.ptr db 0 0→s'.H db=some (.own 4 [src.decls[i].V] false)→db<s'.next→
    (∀s2 ti' gi' vT',OfAt s2 m src ti' gi' vN vP vT' vL (zI src.decls[i] src.decls[i].syms (Xy M1 src.decls[i],st1)).1→Gr s2.H s2.next 2 ((zI src.decls[i] src.decls[i].syms (Xy M1 src.decls[i],st1)).1.types.map Non.V) vT'→s2.f 7=.str (zI src.decls[i] src.decls[i].syms (Xy M1 src.decls[i],st1)).2→s2.f 8=s'.f 8→s'.next≤s2.next→yZ (Xy M1 src.decls[i]) (zI src.decls[i] src.decls[i].syms (Xy M1 src.decls[i],st1)).1→(zI src.decls[i] src.decls[i].syms (Xy M1 src.decls[i],st1)).1.level=(Xy M1 src.decls[i]).level→(zI src.decls[i] src.decls[i].syms (Xy M1 src.decls[i],st1)).1.toks.length≤M1.toks.length+src.decls[i].syms.length→(zI src.decls[i] src.decls[i].syms (Xy M1 src.decls[i],st1)).1.types.length≤M1.types.length+src.decls[i].syms.length→Q .normal s2)→ewp Tryz.prog K9 Q s':=by
    intro s' Q db q1 q2 q3 q4 q5 q6 q7
    have et:(Xy M1 src.decls[i]).types=M1.types:=by unfold Xy;split<;>rfl
    have ek:(Xy M1 src.decls[i]).toks=M1.toks:=by unfold Xy;split<;>rfl
    refine qmF q1 (by rw[et];exact q2) q3 q4 q5 q6 (by rw[ek];omega) (by rw[et];omega) hd2 hd3 fun s2 ti' gi' vT' r1 r2 r3 r4 r5 r6 r7 r8 r9=>q7 s2 ti' gi' vT' r1 r2 r3 r4 r5 r6 r7 (by rw[ek]at r8;exact r8) (by rw[et]at r9;exact r9)
   generalize K9=E40 at T
   generalize hG:zI src.decls[i] src.decls[i].syms (Xy M1 src.decls[i],st1)=G at T
   have hGk:jL (src.decls.drop (i+1)) G=R:=by rw[← hG];exact k1_2
   have hlv:M1.level≤(Xy M1 src.decls[i]).level∧(Xy M1 src.decls[i]).level≤M1.level+1:=by unfold Xy;split<;>(try dsimp only)<;>omega
   have hsm:yZ M1 (Xy M1 src.decls[i]):=by unfold Xy;split<;>exact⟨rfl,rfl,rfl,rfl⟩
   obtain ⟨sm1,sm2,sm3,sm4⟩:=k1_3
   obtain ⟨tm1,tm2,tm3,tm4⟩:=hsm
   by_cases hv:2≤src.decls[i].kind∧src.decls[i].kind≤4
   · have hlm:Xy M1 src.decls[i]={M1 with level:=M1.level+1}:=if_pos hv
     repeat' with_reducible first
      |refine s_ ?_
      |simp -implicitDefEqProofs only[wZZ,seval,g1,g2,g6,g8,g7,g1,g2,g6,g7,g8,o0,o1,hm,hz]
      |(first|apply qa|apply qw|apply qp)<;>intro h h_<;>(try simp only[wD,reduceCtorEq]at h_)<;>(try exact wb_)<;>(try simp only[h])
      |refine t_ ?_
      |simp -implicitDefEqProofs (disch:=omega) only[w64,if_neg]
     refine T _ _ (s.next+5+5) (hA1.upd (MkAt.keep hM (M':=Xy M1 src.decls[i]) wh_ ?_ ?_ ?_).2.1 wl_ wl_ wl_ wh_ (fun j h1 h2 h3 h4 h5=>?_)) (hT1.mono wh_ (fun j h1 hj=>?_)) (by simp -implicitDefEqProofs only[wL,seval];exact g7) wl_ ?_ wh_ (fun s2 ti' gi' vT' r1 r2 r3 r4 r5 r6 r7 r8 r9=>?_)
     · simp only[wM]
       repeat(first|rw[if_pos trivial]|rw[if_pos rfl]|rw[if_neg o_])
       rw[hlm]
     · intro j h1 h2
       simp only[wM]
       repeat(first|rw[if_pos trivial]|rw[if_pos rfl]|rw[if_neg o_])
     · rw[hlm];exact⟨rfl,rfl,rfl,rfl,rfl,rfl⟩
     · simp only[wM]
       repeat(first|rw[if_pos trivial]|rw[if_pos rfl]|rw[if_neg o_])
     · have hne:j≠m:=fun e=>hT1.ne c1 (by rw[← e];exact h1)
       simp only[wM]
       repeat(first|rw[if_pos trivial]|rw[if_pos rfl]|rw[if_neg o_])
     · simp only[wM]
       repeat(first|rw[if_pos trivial]|rw[if_pos rfl]|rw[if_neg o_])
     · have h8:s2.f 8=vi i:=r4.trans (by simp -implicitDefEqProofs only[wL,seval,g8])
       simp only[wN]at r5
       obtain ⟨um1,um2,um3,um4⟩:=r6
       repeat' with_reducible first
        |refine s_ ?_
        |simp -implicitDefEqProofs only[wZZ,seval,g1,g2,g6,g8,g7,h8]
        |simp -implicitDefEqProofs (disch:=omega) only[w64,if_neg]
       refine⟨by(try simp only[wN])<;>omega,(i+1,G),by dsimp only;omega,by rw[f1];exact r1.f1,by rw[f2];exact r1.f2,by rw[f6];exact r1.f6,rfl,by dsimp only;omega,⟨ti',gi',vT',r1.mono wl_ wl_ wl_ wg_ (fun j hj=>by first|rfl|simp only[wM]),r2.mono wg_ (fun j h1 hj=>by first|rfl|simp only[wM])⟩,hGk,⟨um1.trans (tm1.trans sm1),um2.trans (tm2.trans sm2),um3.trans (tm3.trans sm3),um4.trans (tm4.trans sm4)⟩,by dsimp only;omega,by dsimp only;omega,by dsimp only;omega,r3⟩
   · have hlm:Xy M1 src.decls[i]=M1:=if_neg hv
     repeat' with_reducible first
      |refine s_ ?_
      |simp -implicitDefEqProofs only[wZZ,seval,g1,g2,g6,g8,g7,g1,g2,g6,g7,g8,o0,o1,hm,hz]
      |(first|apply qa|apply qw|apply qp)<;>intro h h_<;>(try simp only[wD,reduceCtorEq]at h_)<;>(try exact wb_)<;>(try simp only[h])
      |refine t_ ?_
     all_goals(refine T _ _ (s.next+5+5) (by rw[hlm];exact hA1.mono wl_ wl_ wl_ wh_ (fun j h1=>wi_)) (hT1.mono wh_ (fun j h1 hj=>wi_)) (by simp -implicitDefEqProofs only[wL,seval];exact g7) wl_ wi_ wh_ (fun s2 ti' gi' vT' r1 r2 r3 r4 r5 r6 r7 r8 r9=>?_))
     · have h8:s2.f 8=vi i:=r4.trans (by simp -implicitDefEqProofs only[wL,seval,g8])
       simp only[wN]at r5
       obtain ⟨um1,um2,um3,um4⟩:=r6
       repeat' with_reducible first
        |refine s_ ?_
        |simp -implicitDefEqProofs only[wZZ,seval,g1,g2,g6,g8,g7,h8]
        |simp -implicitDefEqProofs (disch:=omega) only[w64,if_neg]
       refine⟨by(try simp only[wN])<;>omega,(i+1,G),by dsimp only;omega,by rw[f1];exact r1.f1,by rw[f2];exact r1.f2,by rw[f6];exact r1.f6,rfl,by dsimp only;omega,⟨ti',gi',vT',r1.mono wl_ wl_ wl_ wg_ (fun j hj=>by first|rfl|simp only[wM]),r2.mono wg_ (fun j h1 hj=>by first|rfl|simp only[wM])⟩,hGk,⟨um1.trans (tm1.trans sm1),um2.trans (tm2.trans sm2),um3.trans (tm3.trans sm3),um4.trans (tm4.trans sm4)⟩,by dsimp only;omega,by dsimp only;omega,by dsimp only;omega,r3⟩
     · have h8:s2.f 8=vi i:=r4.trans (by simp -implicitDefEqProofs only[wL,seval,g8])
       simp only[wN]at r5
       obtain ⟨um1,um2,um3,um4⟩:=r6
       repeat' with_reducible first
        |refine s_ ?_
        |simp -implicitDefEqProofs only[wZZ,seval,g1,g2,g6,g8,g7,h8]
        |simp -implicitDefEqProofs (disch:=omega) only[w64,if_neg]
       refine⟨by(try simp only[wN])<;>omega,(i+1,G),by dsimp only;omega,by rw[f1];exact r1.f1,by rw[f2];exact r1.f2,by rw[f6];exact r1.f6,rfl,by dsimp only;omega,⟨ti',gi',vT',r1.mono wl_ wl_ wl_ wg_ (fun j hj=>by first|rfl|simp only[wM]),r2.mono wg_ (fun j h1 hj=>by first|rfl|simp only[wM])⟩,hGk,⟨um1.trans (tm1.trans sm1),um2.trans (tm2.trans sm2),um3.trans (tm3.trans sm3),um4.trans (tm4.trans sm4)⟩,by dsimp only;omega,by dsimp only;omega,by dsimp only;omega,r3⟩
 · rw[List.drop_eq_nil_of_le o_,qfj]at k1_2
   subst k1_2
   have hl:=hS.dl
   repeat' with_reducible first
    |refine s_ ?_
    |simp -implicitDefEqProofs only[wZZ,seval,g1,g2,g6,g8,g7,g1,g2,g6,g7,g8,o0]
    |apply qa<;>intro h h_<;>(try simp only[wD,reduceCtorEq]at h_)<;>(try exact wb_)<;>(try simp only[h])
    |refine t_ ?_
   exact hQ _ ti1 gi1 vT1 (hA1.mono wl_ wl_ wl_ wh_ (fun j hj=>by simp only[wM])) (by simp -implicitDefEqProofs only[wL,seval];exact g7) k1_3 (by dsimp only;omega) (by dsimp only;omega)

abbrev Ye (M:Mk) (l:List UInt8):Mk:=if qC l M.lefts 0<0 then {M with lefts:=M.lefts++[l]} else M
abbrev Qk (M:Mk) (r:Rule):Mk:=if 0≤Kg M.toks {name:=r.left} then qU M r.at_ r.left else M
theorem qf1 (M:Mk) (r:Rule):(Qk M r).toks=M.toks∧(Qk M r).lefts=M.lefts∧(Qk M r).types=M.types∧(Qk M r).prods=M.prods∧(Qk M r).nons=M.nons∧(Qk M r).inner=M.inner:=by
 obtain ⟨ff1,ff2,ff3,ff4,ff5,ff6,ff7,ff8⟩:=zf M r.at_ r.left
 unfold Qk;split
 · exact⟨ff1,ff3,ff4,ff5,ff6,ff8⟩
 · exact⟨rfl,rfl,rfl,rfl,rfl,rfl⟩
theorem qeB (M:Mk):xL [] M=M:=rfl
theorem YB (r:Rule) (l:List Rule) (M:Mk):xL (r::l) M=xL l (Ye (Qk M r) r.left):=by
 rw[xL]
 have:=(qf1 M r).2.1
 unfold Ye
 rw[this]
theorem qim {s:St} {m ti gi rb:Nat} {src:Source} {vN vP vT vL:V} {M:Mk} {r:Rule} {Q:Exit→St→Prop} (hO:OfAt s m src ti gi vN vP vT vL M) (hL:Gr s.H s.next 1 (M.lefts.map V.str) vL) (f12:s.f 12=.ptr rb 0 0) (hr:s.H rb=some (.own 3 [r.V] false)) (lr:rb<s.next) (b1:M.lefts.length≤1000000000)
 (hQ: ∀s' vL',OfAt s' m src ti gi vN vP vT vL' (Ye M r.left)→Gr s'.H s'.next 1 ((Ye M r.left).lefts.map V.str) vL'→s'.f 11=s.f 11→s'.f 7=s.f 7→s.next≤s'.next→Q .normal s'):ewp Tryz.prog KO Q s:=by
 have f1:=hO.f1;have f2:=hO.f2;have f6:=hO.f6
 have hM:=hO.at_;have hm:=hM.hm;have lm:=hM.lm;have lt:=hM.lt;have lg:=hM.lg;have ln:=hO.ln
 obtain ⟨n1,n2,n3⟩:=hM.mt
 obtain ⟨c1,c2,c3⟩:=hM.nt
 have d1:=hL.ne c1;have d2:=hL.ne c2;have d3:=hL.ne c3
 by_cases hl:qC r.left M.lefts 0<0
 · have e:Ye M r.left={M with lefts:=M.lefts++[r.left]}:=if_pos hl
   rw[e]at hQ
   repeat' with_reducible first
    |refine s_ ?_
    |simp -implicitDefEqProofs only[wZZ,seval,f1,f2,f6,f12,hr,hm,qb d1]
    |apply qa<;>intro h h_<;>(try simp only[wD,reduceCtorEq]at h_)<;>(try exact wb_)<;>(try simp only[h])
    |apply qI (hp:=qy ?_);(focus(refine(hM.mono (Nat.le_refl _) (fun j hj=>?_)).er;(try simp only[wM]);(repeat rw[if_neg o_])));exact qf;exact wu_;exact Flat.int _ _;rotate_left;exact wf_
    |apply qZ rfl (hL.mono (Nat.le_refl _) (fun id h1 h2=>by(try simp only[wM]);(repeat rw[if_neg o_])));(focus(first|exact qP.sl|exact qP.asl));(focus(simp only[wZ]<;>omega));(focus(unfold maxLen;simp only[wZ]<;>omega))
    |refine t_ ?_
    |simp -implicitDefEqProofs (disch:=omega) only[w64,if_neg]
   refine hQ _ (.asl (s.next+5+8) (M.lefts.length+1) 1 ((M.lefts++[r.left]).map V.str)) (hO.upd ⟨?_,?_,?_,hM.eN,hM.eP,hM.eT,Jg,by simp only[wN]<;>omega,by simp only[wN]<;>omega,by simp only[wN]<;>omega,hM.len,hM.len3⟩ wl_ wl_ wl_ wh_ (fun j g1 g2 g3 g4 g5=>?_)) (Gr.tok ?_ wh_) wl_ wl_ wh_
   · simp only[wM]
     repeat first|rw[if_pos trivial]|rw[if_pos rfl]|rw[if_neg o_]|simp only[wM]|rw[qb d1]
     try simp
   · simp only[wM]
     repeat first|rw[if_pos trivial]|rw[if_pos rfl]|rw[if_neg o_]|simp only[wM]|rw[qb d2]
     exact hM.ht
   · simp only[wM]
     repeat first|rw[if_pos trivial]|rw[if_pos rfl]|rw[if_neg o_]|simp only[wM]|rw[qb d3]
     exact hM.hg
   · have d5:=hL.ne g5
     simp only[wM]
     repeat first|rw[if_pos trivial]|rw[if_pos rfl]|rw[if_neg o_]|simp only[wM]|rw[qb d5]
   · simp only[wM]
     repeat first|rw[if_pos trivial]|rw[if_pos rfl]|rw[if_neg o_]|simp only[wM]
 · have e:Ye M r.left=M:=if_neg hl
   rw[e]at hQ
   repeat' with_reducible first
    |refine s_ ?_
    |simp -implicitDefEqProofs only[wZZ,seval,f1,f2,f6,f12,hr,hm]
    |apply qa<;>intro h h_<;>(try simp only[wD,reduceCtorEq]at h_)<;>(try exact wb_)<;>(try simp only[h])
    |apply qI (hp:=qy ?_);(focus(refine(hM.mono (Nat.le_refl _) (fun j hj=>?_)).er;(try simp only[wM]);(repeat rw[if_neg o_])));exact qf;exact wu_;exact Flat.int _ _;rotate_left;exact wf_
    |refine t_ ?_
   exact hQ _ vL (hO.mono wl_ wl_ wl_ wh_ (fun j hj=>by simp only[wM])) (hL.mono wh_ (fun j h1 hj=>by simp only[wM])) wl_ wl_ wh_
theorem qpL {s0:St} {m ti gi:Nat} {src:Source} {vN vP vT vL:V} {M:Mk} {E:EC} {Q:Exit→St→Prop} (h:OfAt s0 m src ti gi vN vP vT vL M) (hL:Gr s0.H s0.next 1 (M.lefts.map V.str) vL) (hS:Small src)
 (b1:M.toks.length≤1000000000) (b2:M.lefts.length≤1000000)
 (hQ: ∀s' vL',OfAt s' m src ti gi vN vP vT vL' (xL src.rules M)→s'.f 7=s0.f 7→s0.next≤s'.next→(xL src.rules M).toks.length=M.toks.length→(xL src.rules M).types.length=M.types.length→(xL src.rules M).lefts.length≤M.lefts.length+1000→(xL src.rules M).prods=M.prods→(xL src.rules M).nons=M.nons→(xL src.rules M).inner=M.inner→ewp Tryz.prog E Q s'):ewp Tryz.prog (.seq KM E) Q s0:=by
 generalize hR:xL src.rules M=R at hQ
 have f1:=h.f1;have f2:=h.f2;have f6:=h.f6
 have hA0:=h
 repeat' with_reducible first
  |refine s_ ?_
  |simp -implicitDefEqProofs only[wZZ,seval,f1,f2,f6]
 refine qc ?nx3 (fun(z:Nat×Mk) s=>s.f 1=?v3_1∧s.f 2=?v3_2∧s.f 6=?v3_6∧s.f 7=?v3_7∧s.f 11=vi z.1∧(z.1≤src.rules.length)∧((∃vL,OfAt s m src ti gi vN vP vT vL z.2∧Gr s.H s.next 1 (z.2.lefts.map V.str) vL))∧(xL (src.rules.drop z.1) z.2=R)∧((z.2.toks.length=M.toks.length))∧((z.2.types.length=M.types.length))∧((z.2.lefts.length≤M.lefts.length+z.1))∧((z.2.prods=M.prods))∧((z.2.nons=M.nons))∧((z.2.inner=M.inner))) (fun z=>src.rules.length - z.1) ((0,M)) wj_ (by refine⟨?_,?_,?_,?_,?_,wo_,(by exact⟨vL,hA0.mono wl_ wl_ wl_ wh_ (fun j hj=>by simp only[wM]),hL.mono wh_ (fun j h1 hj=>by simp only[wM])⟩),(by exact hR),(by rfl),(by rfl),(by dsimp only;omega),(by rfl),(by rfl),(by rfl)⟩<;>first|(simp -implicitDefEqProofs only[wL,wM,wN,wX,seval,Option.some.injEq]<;>exact wt_)|rfl|exact⟨_,rfl⟩) ?_
 intro z s hnx ⟨g1,g2,g6,g7,g11,k3_0,k3_1,k3_2,k3_3,k3_4,k3_5,k3_6,k3_7,k3_8⟩
 obtain ⟨i,M1⟩:=z
 dsimp only at g11 k3_0 k3_1 k3_2 k3_3 k3_4 k3_5 k3_6 k3_7 k3_8
 obtain ⟨vL1,hA1,hL1⟩:=k3_1
 have hrl:=hS.rl
 have g1:=hA1.f1;have g2:=hA1.f2;have g6:=hA1.f6;have o0:=hA1.h0;have o1:=hA1.h1;have ln:=hA1.ln
 have hM:=hA1.at_;have hm:=hM.hm;have lm:=hM.lm;have lt:=hM.lt;have lg:=hM.lg
 obtain ⟨n1,n2,n3⟩:=hM.mt
 by_cases hi:i<src.rules.length
 · rw [List.drop_eq_getElem_cons hi,YB]at k3_2
   obtain ⟨u1,u2,u3,u4,u5,u6⟩:=qf1 M1 src.rules[i]
   have hadd:(Ye (Qk M1 src.rules[i]) src.rules[i].left).toks=(Qk M1 src.rules[i]).toks∧(Ye (Qk M1 src.rules[i]) src.rules[i].left).types=(Qk M1 src.rules[i]).types∧(Ye (Qk M1 src.rules[i]) src.rules[i].left).prods=(Qk M1 src.rules[i]).prods∧(Ye (Qk M1 src.rules[i]) src.rules[i].left).nons=(Qk M1 src.rules[i]).nons∧(Ye (Qk M1 src.rules[i]) src.rules[i].left).inner=(Qk M1 src.rules[i]).inner∧(Ye (Qk M1 src.rules[i]) src.rules[i].left).lefts.length≤(Qk M1 src.rules[i]).lefts.length+1:=by
    unfold Ye;split
    · exact⟨rfl,rfl,rfl,rfl,rfl,by simp⟩
    · exact⟨rfl,rfl,rfl,rfl,rfl,o_⟩
   obtain ⟨w1,w2,w3,w4,w5,w6⟩:=hadd
   show ewp _ (.seq qk1 (.seq (.block 5 (.seq (.reg qjm) (.seq qkK KO))) (.reg qkz))) _ _
   have T: ∀(s':St) (Q:Exit→St→Prop) (rb:Nat),OfAt s' m src ti gi vN vP vT vL1 (Qk M1 src.rules[i])→Gr s'.H s'.next 1 ((Qk M1 src.rules[i]).lefts.map V.str) vL1→s'.f 12=.ptr rb 0 0→s'.H rb=some (.own 3 [src.rules[i].V] false)→rb<s'.next→(∀s2 vL',OfAt s2 m src ti gi vN vP vT vL' (Ye (Qk M1 src.rules[i]) src.rules[i].left)→Gr s2.H s2.next 1 ((Ye (Qk M1 src.rules[i]) src.rules[i].left).lefts.map V.str) vL'→s2.f 11=s'.f 11→s2.f 7=s'.f 7→s'.next≤s2.next→Q .normal s2)→ewp Tryz.prog KO Q s':=
    fun s' Q rb q1 q2 q3 q4 q5 q6=>qim q1 q2 q3 q4 q5 (by rw[u2];omega) q6
   generalize KO=E62 at T
   have hbt:M1.toks.length≤1099511627776:=o_
   by_cases hd:0≤Kg M1.toks {name:=src.rules[i].left}
   · have hdu:Qk M1 src.rules[i]=qU M1 src.rules[i].at_ src.rules[i].left:=if_pos hd
     repeat' with_reducible first
      |refine s_ ?_
      |simp -implicitDefEqProofs only[wZZ,seval,g1,g2,g6,g7,g11,g1,g2,g6,g11,o0,hm]
      |apply qa<;>intro h h_<;>(try simp only[wD,reduceCtorEq]at h_)<;>(try exact wb_)<;>(try simp only[h])
      |apply qI (hp:=qM (x:={name:=src.rules[i].left}) hbt);(focus(refine(hM.mono (Nat.le_refl _) (fun j hj=>?_)).er;(try simp only[wM]);(repeat rw[if_neg o_])));exact qf;exact wu_;exact Flat.int _ _
      |(refine zk rfl rfl rfl ((Yl (hM.mono wh_ (fun j hj=>by(try simp only[wM]);(repeat rw[if_neg o_])))).mono ?_);rintro v1 H1 n1 ⟨q1,q2,q3⟩;(try simp only[wN]at q1);(try simp only[wM]at q3))
      |refine t_ ?_
     (try simp only[wN]at q1);(try simp only[wM,wN]at q3)
     have orr:H1 (s.next+5+5)=some (.own 3 [src.rules[i].V] false):=by rw[q3 _ o_ o_,if_pos rfl]
     have hlf:(Qk M1 src.rules[i]).lefts=M1.lefts:=u2
     have hst: ∀j,j<s.next→j≠m→H1 j=s.H j:=fun j h1 h2=>by rw[q3 j o_ h2];repeat(first|rw[if_pos trivial]|rw[if_pos rfl]|rw[if_neg o_])
     refine T _ _ (s.next+5+5) (by rw[hdu];exact hA1.upd (q2.mono wh_ (fun j hj=>by simp only[wM])) wl_ wl_ wl_ wh_ (fun j h1 h2 h3 h4 h5=>(by simp only[wM];exact hst j h1 h2))) (by rw[hlf];exact hL1.stay hM wh_ (fun j h1 h2 h3 h4=>(by simp only[wM];exact hst j h1 h2))) wl_ (by simp only[wM];exact orr) wh_ (fun s2 vL2 r1 r2 r3 r4 r5=>?_)
     have h11:s2.f 11=vi i:=r3.trans (by simp -implicitDefEqProofs only[wL,seval,g11])
     have h7:s2.f 7=s0.f 7:=r4.trans (by simp -implicitDefEqProofs only[wL,seval,g7])
     (try simp only[wN]at r5)
     repeat' with_reducible first
      |refine s_ ?_
      |simp -implicitDefEqProofs only[wZZ,seval,g1,g2,g6,g7,g11,h11]
      |simp -implicitDefEqProofs (disch:=omega) only[w64,if_neg]
     refine⟨by(try simp only[wN])<;>omega,(i+1,Ye (Qk M1 src.rules[i]) src.rules[i].left),by dsimp only;omega,by rw[f1];exact r1.f1,by rw[f2];exact r1.f2,by rw[f6];exact r1.f6,h7,rfl,by dsimp only;omega,⟨vL2,r1.mono wl_ wl_ wl_ wg_ (fun j hj=>by first|rfl|simp only[wM]),r2.mono wg_ (fun j h1 hj=>by first|rfl|simp only[wM])⟩,k3_2,by dsimp only;rw[w1,u1];exact k3_3,by dsimp only;rw[w2,u3];exact k3_4,by dsimp only;rw[u2]at w6;omega,by dsimp only;rw[w3,u4];exact k3_6,by dsimp only;rw[w4,u5];exact k3_7,by dsimp only;rw[w5,u6];exact k3_8⟩
   · have hdu:Qk M1 src.rules[i]=M1:=if_neg hd
     repeat' with_reducible first
      |refine s_ ?_
      |simp -implicitDefEqProofs only[wZZ,seval,g1,g2,g6,g7,g11,g1,g2,g6,g11,o0,hm]
      |apply qa<;>intro h h_<;>(try simp only[wD,reduceCtorEq]at h_)<;>(try exact wb_)<;>(try simp only[h])
      |apply qI (hp:=qM (x:={name:=src.rules[i].left}) hbt);(focus(refine(hM.mono (Nat.le_refl _) (fun j hj=>?_)).er;(try simp only[wM]);(repeat rw[if_neg o_])));exact qf;exact wu_;exact Flat.int _ _
      |refine t_ ?_
     refine T _ _ (s.next+5+5) (by rw[hdu];exact hA1.mono wl_ wl_ wl_ wh_ (fun j h1=>wi_)) (by rw[hdu];exact hL1.mono wh_ (fun j h1 hj=>wi_)) wl_ wi_ wh_ (fun s2 vL2 r1 r2 r3 r4 r5=>?_)
     have h11:s2.f 11=vi i:=r3.trans (by simp -implicitDefEqProofs only[wL,seval,g11])
     have h7:s2.f 7=s0.f 7:=r4.trans (by simp -implicitDefEqProofs only[wL,seval,g7])
     (try simp only[wN]at r5)
     repeat' with_reducible first
      |refine s_ ?_
      |simp -implicitDefEqProofs only[wZZ,seval,g1,g2,g6,g7,g11,h11]
      |simp -implicitDefEqProofs (disch:=omega) only[w64,if_neg]
     refine⟨by(try simp only[wN])<;>omega,(i+1,Ye (Qk M1 src.rules[i]) src.rules[i].left),by dsimp only;omega,by rw[f1];exact r1.f1,by rw[f2];exact r1.f2,by rw[f6];exact r1.f6,h7,rfl,by dsimp only;omega,⟨vL2,r1.mono wl_ wl_ wl_ wg_ (fun j hj=>by first|rfl|simp only[wM]),r2.mono wg_ (fun j h1 hj=>by first|rfl|simp only[wM])⟩,k3_2,by dsimp only;rw[w1,u1];exact k3_3,by dsimp only;rw[w2,u3];exact k3_4,by dsimp only;rw[u2]at w6;omega,by dsimp only;rw[w3,u4];exact k3_6,by dsimp only;rw[w4,u5];exact k3_7,by dsimp only;rw[w5,u6];exact k3_8⟩
 · rw[List.drop_eq_nil_of_le o_,qeB]at k3_2
   subst k3_2
   repeat' with_reducible first
    |refine s_ ?_
    |simp -implicitDefEqProofs only[wZZ,seval,g1,g2,g6,g7,g11,g1,g2,g6,g11,o0]
    |apply qa<;>intro h h_<;>(try simp only[wD,reduceCtorEq]at h_)<;>(try exact wb_)<;>(try simp only[h])
    |refine t_ ?_
   exact hQ _ vL1 (hA1.mono wl_ wl_ wl_ wh_ (fun j hj=>by simp only[wM])) (by simp -implicitDefEqProofs only[wL,seval];exact g7) wh_ k3_3 k3_4 o_ k3_6 k3_7 k3_8

abbrev j5 (M M':Mk):Prop:=M'.toks=M.toks∧M'.given=M.given∧M'.lefts=M.lefts∧M'.types=M.types∧M'.prods=M.prods∧M'.nons=M.nons∧M'.inner=M.inner
theorem j5.rfl' (M:Mk):j5 M M:=⟨rfl,rfl,rfl,rfl,rfl,rfl,rfl⟩
theorem j5.fail (M:Mk) (a:Int) (n:List UInt8):j5 M (qU M a n):=let ⟨f1,f2,f3,f4,f5,f6,_,f8⟩:=zf M a n;⟨f1,f2,f3,f4,f5,f6,f8⟩
theorem j5.trans' {A B C:Mk} (h:j5 A B) (k:j5 B C):j5 A C:=⟨k.1.trans h.1,k.2.1.trans h.2.1,k.2.2.1.trans h.2.2.1,k.2.2.2.1.trans h.2.2.2.1,k.2.2.2.2.1.trans h.2.2.2.2.1,k.2.2.2.2.2.1.trans h.2.2.2.2.2.1,k.2.2.2.2.2.2.trans h.2.2.2.2.2.2⟩
abbrev qLP (M:Mk) (kind:Int) (x:Sym):Mk:=if 5≤kind∧qC x.name M.lefts 0<0 then qU M x.at_ x.name else M
theorem qyH (M:Mk) (kind:Int) (x:Sym):j5 M (qLP M kind x):=by
 unfold qLP;split
 · exact j5.fail M _ _
 · exact j5.rfl' M
theorem qcS (kind:Int) (M:Mk):jZ kind [] M=M:=rfl
theorem Xi (kind:Int) (x:Sym) (r:List Sym) (M:Mk):jZ kind (x::r) M=jZ kind r (qLP M kind x):=by rw[jZ]
theorem qgP (M:Mk):Ql [] M=M:=rfl
theorem Y9 (d:Decl) (r:List Decl) (M:Mk):Ql (d::r) M=Ql r (jZ d.kind d.syms M):=by rw[Ql]
theorem qit {s0:St} {m ti gi i:Nat} {src:Source} {vN vP vT vL:V} {M:Mk} {Q:Exit→St→Prop} (h:OfAt s0 m src ti gi vN vP vT vL M) (hi:i<src.decls.length) (f13:s0.f 13=vi i) (hdl:src.decls.length≤1000) (hsl:src.decls[i].syms.length≤1000) (b2:M.lefts.length≤1000000000)
 (hQ: ∀s',OfAt s' m src ti gi vN vP vT vL (jZ src.decls[i].kind src.decls[i].syms M)→s'.f 7=s0.f 7→s'.f 13=s0.f 13→s0.next≤s'.next→j5 M (jZ src.decls[i].kind src.decls[i].syms M)→Q .normal s'):ewp Tryz.prog qav Q s0:=by
 generalize hR:jZ src.decls[i].kind src.decls[i].syms M=R at hQ
 have f1:=h.f1;have f2:=h.f2;have f6:=h.f6
 have hA0:=h
 repeat' with_reducible first
  |refine s_ ?_
  |simp -implicitDefEqProofs only[wZZ,seval,f1,f2,f6]
 refine qc ?nx5 (fun(z:Nat×Mk) s=>s.f 1=?v5_1∧s.f 2=?v5_2∧s.f 6=?v5_6∧s.f 7=?v5_7∧s.f 13=?v5_13∧s.f 14=vi z.1∧(z.1≤src.decls[i].syms.length)∧((OfAt s m src ti gi vN vP vT vL z.2))∧(jZ src.decls[i].kind (src.decls[i].syms.drop z.1) z.2=R)∧((j5 M z.2))) (fun z=>src.decls[i].syms.length - z.1) ((0,M)) wj_ (by refine⟨?_,?_,?_,?_,?_,?_,wo_,(by exact hA0.mono wl_ wl_ wl_ wg_ (fun j hj=>by first|rfl|simp only[wM])),(by exact hR),(by exact j5.rfl' M)⟩<;>first|(simp -implicitDefEqProofs only[wL,wM,wN,wX,seval,Option.some.injEq]<;>exact wt_)|rfl|exact⟨_,rfl⟩) ?_
 intro z s hnx ⟨g1,g2,g6,g7,g13,g14,k5_0,k5_1,k5_2,k5_3⟩
 obtain ⟨k,M1⟩:=z
 dsimp only at g14 k5_0 k5_1 k5_2 k5_3
 have hA1:=k5_1
 have g1:=hA1.f1;have g2:=hA1.f2;have g6:=hA1.f6;have o0:=hA1.h0;have ln:=hA1.ln
 have hM:=hA1.at_;have hm:=hM.hm;have lm:=hM.lm;have lt:=hM.lt;have lg:=hM.lg
 obtain ⟨n1,n2,n3⟩:=hM.mt
 have hgd:src.decls[i]?=some src.decls[i]:=ge_ hi
 have hbt:M1.lefts.length≤1099511627776:=by rw[k5_3.2.2.1];omega
 by_cases hk:k<src.decls[i].syms.length
 · rw [List.drop_eq_getElem_cons hk,Xi]at k5_2
   by_cases hu:5≤src.decls[i].kind∧qC src.decls[i].syms[k].name M1.lefts 0<0
   · have e:qLP M1 src.decls[i].kind src.decls[i].syms[k]=qU M1 src.decls[i].syms[k].at_ src.decls[i].syms[k].name:=if_pos hu
     rw[e]at k5_2
     repeat' with_reducible first
      |refine s_ ?_
      |simp -implicitDefEqProofs only[wZZ,seval,g1,g2,g6,g7,g13,g14,g1,g2,g6,f13,g14,o0,hm]
      |(first|apply qa|apply qw|apply qp)<;>intro h h_<;>(try simp only[wD,reduceCtorEq]at h_)<;>(try exact wb_)<;>(try simp only[h])
      |apply qI (hp:=qy ?_);(focus(refine(hM.mono (Nat.le_refl _) (fun j hj=>?_)).er;(try simp only[wM]);(repeat rw[if_neg o_])));exact qf;exact wu_;exact Flat.int _ _;rotate_left;exact wf_
      |(refine zk rfl rfl rfl ((Yl (hM.mono wh_ (fun j hj=>by(try simp only[wM]);(repeat rw[if_neg o_])))).mono ?_);rintro v1 H1 n1 ⟨q1,q2,q3⟩;(try simp only[wN]at q1);(try simp only[wM]at q3))
      |refine t_ ?_
      |simp -implicitDefEqProofs (disch:=omega) only[w64,if_neg]
     (try simp only[wN]at q1);(try simp only[wM,wN]at q3)
     have hst: ∀j,j<s.next→j≠m→H1 j=s.H j:=fun j h1 h2=>by rw[q3 j o_ h2];repeat(first|rw[if_pos trivial]|rw[if_pos rfl]|rw[if_neg o_])
     refine⟨by(try simp only[wN])<;>omega,(k+1,qU M1 src.decls[i].syms[k].at_ src.decls[i].syms[k].name),by dsimp only;omega,f1.symm,f2.symm,f6.symm,by first|trivial|rfl,by first|trivial|rfl,rfl,by dsimp only;omega,hA1.upd (q2.mono wg_ (fun j hj=>by first|rfl|simp only[wM])) wl_ wl_ wl_ wg_ (fun j h1 h2 h3 h4 h5=>(by(try simp only[wM]);exact hst j h1 h2)),k5_2,k5_3.trans' (j5.fail M1 _ _)⟩
   · have e:qLP M1 src.decls[i].kind src.decls[i].syms[k]=M1:=if_neg hu
     rw[e]at k5_2
     repeat' with_reducible first
      |refine s_ ?_
      |simp -implicitDefEqProofs only[wZZ,seval,g1,g2,g6,g7,g13,g14,g1,g2,g6,f13,g14,o0,hm]
      |(first|apply qa|apply qw|apply qp)<;>intro h h_<;>(try simp only[wD,reduceCtorEq]at h_)<;>(try exact wb_)<;>(try simp only[h])
      |apply qI (hp:=qy ?_);(focus(refine(hM.mono (Nat.le_refl _) (fun j hj=>?_)).er;(try simp only[wM]);(repeat rw[if_neg o_])));exact qf;exact wu_;exact Flat.int _ _;rotate_left;exact wf_
      |refine t_ ?_
      |simp -implicitDefEqProofs (disch:=omega) only[w64,if_neg]
     all_goals(refine⟨by(try simp only[wN])<;>omega,(k+1,M1),by dsimp only;omega,f1.symm,f2.symm,f6.symm,by first|trivial|rfl,by first|trivial|rfl,rfl,by dsimp only;omega,hA1.mono wl_ wl_ wl_ wg_ (fun j hj=>(by(try simp only[wM]);repeat(first|rw[if_pos trivial]|rw[if_pos rfl]|rw[if_neg o_]))),k5_2,k5_3⟩)
 · rw[List.drop_eq_nil_of_le o_,qcS]at k5_2
   subst k5_2
   repeat' with_reducible first
    |refine s_ ?_
    |simp -implicitDefEqProofs only[wZZ,seval,g1,g2,g6,g7,g13,g14,g1,g2,g6,f13,g14,o0]
    |apply qa<;>intro h h_<;>(try simp only[wD,reduceCtorEq]at h_)<;>(try exact wb_)<;>(try simp only[h])
    |refine t_ ?_
   exact hQ _ (hA1.mono wl_ wl_ wl_ wg_ (fun j hj=>by first|rfl|simp only[wM])) (by simp -implicitDefEqProofs only[wL,seval];exact g7) (by simp -implicitDefEqProofs only[wL,seval];exact g13) wh_ k5_3
theorem qqd {s0:St} {m ti gi:Nat} {src:Source} {vN vP vT vL:V} {M:Mk} {E:EC} {Q:Exit→St→Prop} (h:OfAt s0 m src ti gi vN vP vT vL M) (hS:Small src) (b2:M.lefts.length≤1000000000)
 (hQ: ∀s',OfAt s' m src ti gi vN vP vT vL (Ql src.decls M)→s'.f 7=s0.f 7→s0.next≤s'.next→j5 M (Ql src.decls M)→ewp Tryz.prog E Q s'):ewp Tryz.prog (.seq qaq E) Q s0:=by
 generalize hR:Ql src.decls M=R at hQ
 have f1:=h.f1;have f2:=h.f2;have f6:=h.f6
 have hA0:=h
 have hdl:=hS.dl
 repeat' with_reducible first
  |refine s_ ?_
  |simp -implicitDefEqProofs only[wZZ,seval,f1,f2,f6]
 refine qc ?nx4 (fun(z:Nat×Mk) s=>s.f 1=?v4_1∧s.f 2=?v4_2∧s.f 6=?v4_6∧s.f 7=?v4_7∧s.f 13=vi z.1∧(z.1≤src.decls.length)∧((OfAt s m src ti gi vN vP vT vL z.2))∧(Ql (src.decls.drop z.1) z.2=R)∧((j5 M z.2))) (fun z=>src.decls.length - z.1) ((0,M)) wj_ (by refine⟨?_,?_,?_,?_,?_,wo_,(by exact hA0.mono wl_ wl_ wl_ wg_ (fun j hj=>by first|rfl|simp only[wM])),(by exact hR),(by exact j5.rfl' M)⟩<;>first|(simp -implicitDefEqProofs only[wL,wM,wN,wX,seval,Option.some.injEq]<;>exact wt_)|rfl|exact⟨_,rfl⟩) ?_
 intro z s hnx ⟨g1,g2,g6,g7,g13,k4_0,k4_1,k4_2,k4_3⟩
 obtain ⟨i,M1⟩:=z
 dsimp only at g13 k4_0 k4_1 k4_2 k4_3
 have hA1:=k4_1
 have g1:=hA1.f1;have g2:=hA1.f2;have g6:=hA1.f6;have o0:=hA1.h0;have ln:=hA1.ln
 by_cases hi:i<src.decls.length
 · rw[List.drop_eq_getElem_cons hi,Y9]at k4_2
   have hgd:src.decls[i]?=some src.decls[i]:=ge_ hi
   have T: ∀(s':St) (Q:Exit→St→Prop),OfAt s' m src ti gi vN vP vT vL M1→s'.f 13=vi i→(∀s2,OfAt s2 m src ti gi vN vP vT vL (jZ src.decls[i].kind src.decls[i].syms M1)→s2.f 7=s'.f 7→s2.f 13=s'.f 13→s'.next≤s2.next→j5 M1 (jZ src.decls[i].kind src.decls[i].syms M1)→Q .normal s2)→ewp Tryz.prog qav Q s':=
    fun s' Q q1 q2 q3=>qit q1 hi q2 hdl (hS.ds _ (List.getElem_mem hi)) (by rw[k4_3.2.2.1];omega) q3
   show ewp _ (.seq qiA (.seq (.block 7 qav) (.reg qjj))) _ _
   generalize qav=E92 at T
   generalize hG:jZ src.decls[i].kind src.decls[i].syms M1=G at T k4_2
   repeat' with_reducible first
    |refine s_ ?_
    |simp -implicitDefEqProofs only[wZZ,seval,g1,g2,g6,g7,g13,g1,g2,g6,g13,o0]
    |apply qa<;>intro h h_<;>(try simp only[wD,reduceCtorEq]at h_)<;>(try exact wb_)<;>(try simp only[h])
    |refine t_ ?_
   refine T _ _ (hA1.mono wl_ wl_ wl_ wg_ (fun j hj=>by first|rfl|simp only[wM])) (by simp -implicitDefEqProofs only[wL,seval,g13]) (fun s2 r1 r2 r3 r4 r5=>?_)
   have h13:s2.f 13=vi i:=r3.trans (by simp -implicitDefEqProofs only[wL,seval,g13])
   have h7:s2.f 7=s0.f 7:=r2.trans (by simp -implicitDefEqProofs only[wL,seval,g7])
   (try simp only[wN]at r4)
   repeat' with_reducible first
    |refine s_ ?_
    |simp -implicitDefEqProofs only[wZZ,seval,g1,g2,g6,g7,g13,h13]
    |simp -implicitDefEqProofs (disch:=omega) only[w64,if_neg]
   refine⟨by(try simp only[wN])<;>omega,(i+1,G),by dsimp only;omega,by rw[f1];exact r1.f1,by rw[f2];exact r1.f2,by rw[f6];exact r1.f6,h7,rfl,by dsimp only;omega,r1.mono wl_ wl_ wl_ wg_ (fun j hj=>by first|rfl|simp only[wM]),k4_2,k4_3.trans' r5⟩
 · rw[List.drop_eq_nil_of_le o_,qgP]at k4_2
   subst k4_2
   repeat' with_reducible first
    |refine s_ ?_
    |simp -implicitDefEqProofs only[wZZ,seval,g1,g2,g6,g7,g13,g1,g2,g6,g13,o0]
    |apply qa<;>intro h h_<;>(try simp only[wD,reduceCtorEq]at h_)<;>(try exact wb_)<;>(try simp only[h])
    |refine t_ ?_
   exact hQ _ (hA1.mono wl_ wl_ wl_ wg_ (fun j hj=>by first|rfl|simp only[wM])) (by simp -implicitDefEqProofs only[wL,seval];exact g7) wh_ k4_3
end Go.Proofs
