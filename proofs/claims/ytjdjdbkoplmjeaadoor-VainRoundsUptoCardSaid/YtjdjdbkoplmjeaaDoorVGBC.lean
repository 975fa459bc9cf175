/- Part of a proof that a law of the given program answers true. -/
import Derived.Test.YtjdjdbkoplmjeaaDoorVGAC
import Derived.Test.YtjdjdbkoplmjeaaDoorVPAC
set_option linter.unusedSimpArgs false
set_option linter.unusedVariables false
set_option maxHeartbeats 4000000
namespace Go.Proofs
open Go.E
theorem AAt.mono {s s':St} {H:Nat→Option MObj} {next m ti gi pb:Nat} {vN vP vT vL vR:V} {ps:List V} {a:Alt} {ti1 gi1:Nat} {M:Mk} {p:GPr} (h:AAt s H next m ti gi pb vN vP vT vL vR ps a ti1 gi1 M p)
 (h0:s'.f 0=s.f 0) (h5:s'.f 5=s.f 5) (h6:s'.f 6=s.f 6) (hn:s.next≤s'.next) (hH: ∀j,j<s.next→s'.H j=s.H j):AAt s' H next m ti gi pb vN vP vT vL vR ps a ti1 gi1 M p:=
 h.upd (h.at_.mono hn hH) (Or.inl rfl) (Or.inl rfl) h0 h5 h6 hn (by rw[hH pb h.lp];exact h.h6) (h.gR.mono hn fun id _ g=>hH id g) (h.gP.mono hn fun id _ g=>hH id g) h.eP h.sp fun j g _ _ _ _ _ _=>hH j g
theorem Jd (q:Mk×GPr):jb [] q=q:=rfl
theorem kX (w:Part) (r:List Part) (M:Mk) (p:GPr):jb (w::r) (M,p)=if w.code=[]then jb r ((yT M w.sym).1,{p with right:=p.right++[(yT M w.sym).2]})
 else if r=[]then(M,{p with code:=w.code,at_:=w.at_})
 else jb r ({M with inner:=M.inner+1,prods:=M.prods++[{left:=M.lefts.length+(M.inner+1),prec:= -1,code:=w.code,args:=p.right,at_:=w.at_}]},
  {p with right:=p.right++[1000+M.lefts.length+(M.inner+1)]}):=by rw[jb]
theorem qcS {s0:St} {H:Nat→Option MObj} {next m ti gi pb:Nat} {vN vP vT vL vR:V} {ps:List V} {a:Alt} {ti1 gi1:Nat} {M:Mk} {p:GPr} {E:EC} {Q:Exit→St→Prop} (h:AAt s0 H next m ti gi pb vN vP vT vL vR ps a ti1 gi1 M p)
 (b1:M.toks.length+a.parts.length≤549755813888) (b2:M.lefts.length≤549755813888) (b3:p.right.length+a.parts.length≤274877906944) (b4:ps.length+a.parts.length≤274877906944) (b5:0≤M.inner) (b6:M.inner+a.parts.length≤549755813888)
 (hx: ∀w∈a.parts,w.sym.lit=true→w.sym.name≠[])
 (hQ: ∀s' vP' vR' ps' ti2 gi2,AAt s' H next m ti gi pb vN vP' vT vL vR' ps' a ti2 gi2 (jb a.parts (M,p)).1 (jb a.parts (M,p)).2→ps'.length≤ps.length+a.parts.length→ewp Tryd.prog E Q s'):ewp Tryd.prog (.seq YZ E) Q s0:=by
 generalize hR:jb a.parts (M,p)=R at hQ
 have f0:=h.f0;have f5:=h.f5;have f6:=h.f6
 repeat' with_reducible first
  |refine s_ ?_
  |simp only[wZZ,seval,f0,f5,f6]
 refine qw ?nx1 (fun(k:Nat) s=>s.f 0=?v1_0∧s.f 5=?v1_5∧s.f 6=?v1_6∧s.f 7=vi k∧(k≤a.parts.length)∧((∃vP vR ps1 ti1 gi1 M1 p1,AAt s H next m ti gi pb vN vP vT vL vR ps1 a ti1 gi1 M1 p1∧jb (a.parts.drop k) (M1,p1)=R∧M1.toks.length≤M.toks.length+k∧M1.lefts.length=M.lefts.length∧p1.right.length≤p.right.length+k∧ps1.length≤ps.length+k∧0≤M1.inner∧M1.inner≤M.inner+k))) (fun k=>a.parts.length - k) (0) wj_ (by refine⟨?_,?_,?_,?_,wo_,(by exact⟨vP,vR,ps,ti1,gi1,M,p,h.mono wl_ wl_ wl_ wh_ (fun j hj=>by simp only[wM]),hR,o_,rfl,o_,o_,b5,o_⟩)⟩<;>first|(simp only[wL,wM,wN,wX,seval,Option.some.injEq]<;>exact wt_)|rfl|exact⟨_,rfl⟩) ?_
 intro k s hnx ⟨g0,g5,g6,g7,k1_0,k1_1⟩
 obtain ⟨vP,vR,ps1,ti1,gi1,M1,p1,hA1,hal,t1,t2,t3,t4,t5,t6⟩:=k1_1
 have g0:=hA1.f0;have g5:=hA1.f5;have g6:=hA1.f6;have o5:=hA1.h5;have lp:=hA1.lp;have ln:=hA1.ln
 by_cases hk:k<a.parts.length
 · have hd:a.parts.drop k=a.parts[k]::a.parts.drop (k+1):=List.drop_eq_getElem_cons hk
   have hxk:=hx a.parts[k] (List.getElem_mem hk)
   rw[hd,kX]at hal
   have hwf: ∃wb,wb=s.next+5+5:=⟨_,rfl⟩
   show ewp _ (.seq qlb (.seq (.block 1 (.seq (.reg qnY) (.block 2 (.seq (.reg qoL) (.cond (.t 82) (.reg qc7) (.seq (.reg qms) (.cond (.t 95) (.reg Vu) Vw))))))) (.reg qfz))) _ _
   have T8: ∀(s':St) (Q:Exit→St→Prop) (wb:Nat),AAt s' H next m ti gi pb vN vP vT vL vR ps1 a ti1 gi1 M1 p1→s'.f 8=.ptr wb 0 0→s'.H wb=some (.own 6 [a.parts[k].V] false)→(∀s2 ti2 gi2 vR',s2.f 7=s'.f 7→s'.next≤s2.next→AAt s2 H next m ti gi pb vN vP vT vL vR' ps1 a ti2 gi2 (yT M1 a.parts[k].sym).1 {p1 with right:=p1.right++[(yT M1 a.parts[k].sym).2]}→Q .normal s2)→ewp Tryd.prog (.reg qc7) Q s':=
    fun s' Q wb q1 q2 q3 q4=>qf9 q1 q2 q3 o_ o_ o_ hxk q4
   have T10: ∀(s':St) (Q:Exit→St→Prop) (wb:Nat),AAt s' H next m ti gi pb vN vP vT vL vR ps1 a ti1 gi1 M1 p1→s'.f 8=.ptr wb 0 0→s'.H wb=some (.own 6 [a.parts[k].V] false)→(∀s2,s2.f 7=s'.f 7→s'.next≤s2.next→AAt s2 H next m ti gi pb vN vP vT vL vR ps1 a ti1 gi1 M1 {p1 with code:=a.parts[k].code,at_:=a.parts[k].at_}→Q .normal s2)→ewp Tryd.prog (.reg Vu) Q s':=
    fun s' Q wb q1 q2 q3 q4=>qeI q1 q2 q3 q4
   have T15: ∀(s':St) (Q:Exit→St→Prop) (wb:Nat),AAt s' H next m ti gi pb vN vP vT vL vR ps1 a ti1 gi1 M1 p1→s'.f 8=.ptr wb 0 0→s'.H wb=some (.own 6 [a.parts[k].V] false)→wb<s'.next→(∀s2 vP' vR' ps',s2.f 7=s'.f 7→s'.next≤s2.next→ps'.length=ps1.length+1→AAt s2 H next m ti gi pb vN vP' vT vL vR' ps' a ti1 gi1 {M1 with inner:=M1.inner+1,prods:=M1.prods++[{left:=M1.lefts.length+(M1.inner+1),prec:= -1,code:=a.parts[k].code,args:=p1.right,at_:=a.parts[k].at_}]} {p1 with right:=p1.right++[1000+M1.lefts.length+(M1.inner+1)]}→Q .normal s2)→ewp Tryd.prog Vw Q s':=
    fun s' Q wb q1 q2 q3 q5 q4=>qc9 q1 q2 q3 q5 o_ o_ o_ t5 o_ q4
   generalize (EC.reg qc7)=E8 at T8
   generalize (EC.reg Vu)=E10 at T10
   generalize Vw=E15 at T15
   by_cases hc:a.parts[k].code=[]
   · rw[if_pos hc]at hal
     obtain ⟨y1,y2,y3,y4,y5,y6,y7,y8⟩:=Qk M1 a.parts[k].sym
     repeat' with_reducible first
      |refine s_ ?_
      |simp only[wZZ,seval,g0,g5,g6,g7,g0,g5,g6,o5]
      |apply qc<;>intro h h_<;>(try simp only[wD,reduceCtorEq]at h_)<;>(try exact wb_)<;>(try simp only[h])
      |refine t_ ?_
     refine T8 _ _ (s.next+5+5) (hA1.mono wl_ wl_ wl_ wh_ (fun j hj=>by simp only[wM];repeat(first|rw[if_pos trivial]|rw[if_pos rfl]|rw[if_neg o_]))) wl_ wi_ (fun s2 ti2 gi2 vR2 h7a h7b hA=>?_)
     have h7:s2.f 7=vi k:=h7a.trans (by simp only[wL,seval,g0,g5,g6,g7])
     simp only[wN]at h7b
     have hA2:=hA.mono (s':=(((s2.bump 3).put (some 22) (vi k)).put (some 23) (.int .i64 ((k+1:Nat):Int))).put (some 7) (.int .i64 ((k+1:Nat):Int))) wl_ wl_ wl_ wh_ (fun j hj=>by simp only[wM])
     repeat' with_reducible first
      |refine s_ ?_
      |simp only[wZZ,seval,g0,g5,g6,g7,h7]
      |simp(disch:=omega) only[w64,if_neg]
     refine⟨by(try simp only[wN])<;>omega,k+1,o_,by rw[f0];exact hA2.f0,by rw[f5];exact hA2.f5,by rw[f6];exact hA2.f6,by simp only[wL,seval],o_,vP,vR2,ps1,ti2,gi2,_,_,hA2,hal,o_,by rw[y2];exact t2,by simp;omega,o_,by rw[y6];exact t5,by rw[y6];omega⟩
   · rw [if_neg hc]at hal
     by_cases hl:k+1=a.parts.length
     · rw[if_pos (List.drop_eq_nil_of_le o_)]at hal
       have hal:jb (a.parts.drop (k+1)) (M1,{p1 with code:=a.parts[k].code,at_:=a.parts[k].at_})=R:=by rw[List.drop_eq_nil_of_le o_];exact hal
       repeat' with_reducible first
        |refine s_ ?_
        |simp only[wZZ,seval,g0,g5,g6,g7,g0,g5,g6,o5]
        |apply qc<;>intro h h_<;>(try simp only[wD,reduceCtorEq]at h_)<;>(try exact wb_)<;>(try simp only[h])
        |refine t_ ?_
        |simp(disch:=omega) only[w64,if_neg]
       refine T10 _ _ (s.next+5+5) (hA1.mono wl_ wl_ wl_ wh_ (fun j hj=>by simp only[wM];repeat(first|rw[if_pos trivial]|rw[if_pos rfl]|rw[if_neg o_]))) wl_ wi_ (fun s2 h7a h7b hA=>?_)
       have h7:s2.f 7=vi k:=h7a.trans (by simp only[wL,seval,g0,g5,g6,g7])
       simp only[wN]at h7b
       have hA2:=hA.mono (s':=(((s2.bump 3).put (some 22) (vi k)).put (some 23) (.int .i64 ((k+1:Nat):Int))).put (some 7) (.int .i64 ((k+1:Nat):Int))) wl_ wl_ wl_ wh_ (fun j hj=>by simp only[wM])
       repeat' with_reducible first
        |refine s_ ?_
        |simp only[wZZ,seval,g0,g5,g6,g7,h7]
        |simp(disch:=omega) only[w64,if_neg]
       refine⟨by(try simp only[wN])<;>omega,k+1,o_,by rw[f0];exact hA2.f0,by rw[f5];exact hA2.f5,by rw[f6];exact hA2.f6,by simp only[wL,seval],o_,vP,vR,ps1,ti1,gi1,_,_,hA2,hal,o_,t2,by dsimp only;omega,o_,t5,o_⟩
     · rw[if_neg (by rw[List.drop_eq_getElem_cons (show k+1<a.parts.length by omega)];exact List.cons_ne_nil _ _)]at hal
       repeat' with_reducible first
        |refine s_ ?_
        |simp only[wZZ,seval,g0,g5,g6,g7,g0,g5,g6,o5]
        |apply qc<;>intro h h_<;>(try simp only[wD,reduceCtorEq]at h_)<;>(try exact wb_)<;>(try simp only[h])
        |refine t_ ?_
        |simp(disch:=omega) only[w64,if_neg]
       refine T15 _ _ (s.next+5+5) (hA1.mono wl_ wl_ wl_ wh_ (fun j hj=>by simp only[wM];repeat(first|rw[if_pos trivial]|rw[if_pos rfl]|rw[if_neg o_]))) wl_ wi_ wh_ (fun s2 vP2 vR2 ps2 h7a h7b h7c hA=>?_)
       have h7:s2.f 7=vi k:=h7a.trans (by simp only[wL,seval,g0,g5,g6,g7])
       simp only[wN]at h7b
       have hA2:=hA.mono (s':=(((s2.bump 3).put (some 22) (vi k)).put (some 23) (.int .i64 ((k+1:Nat):Int))).put (some 7) (.int .i64 ((k+1:Nat):Int))) wl_ wl_ wl_ wh_ (fun j hj=>by simp only[wM])
       repeat' with_reducible first
        |refine s_ ?_
        |simp only[wZZ,seval,g0,g5,g6,g7,h7]
        |simp(disch:=omega) only[w64,if_neg]
       refine⟨by(try simp only[wN])<;>omega,k+1,o_,by rw[f0];exact hA2.f0,by rw[f5];exact hA2.f5,by rw[f6];exact hA2.f6,by simp only[wL,seval],o_,vP2,vR2,ps2,ti1,gi1,_,_,hA2,hal,by dsimp only;omega,t2,by simp;omega,o_,by dsimp only;omega,by dsimp only;omega⟩
 · rw[List.drop_eq_nil_of_le o_,Jd]at hal
   subst hal
   repeat' with_reducible first
    |refine s_ ?_
    |simp only[wZZ,seval,g0,g5,g6,g7,g0,g5,g6,o5]
    |apply qc<;>intro h h_<;>(try simp only[wD,reduceCtorEq]at h_)<;>(try exact wb_)<;>(try simp only[h])
    |refine t_ ?_
   exact hQ _ vP vR ps1 ti1 gi1 (hA1.mono wl_ wl_ wl_ wh_ (fun j hj=>by simp only[wM];repeat(first|rw[if_pos trivial]|rw[if_pos rfl]|rw[if_neg o_]))) o_

abbrev qcp (p:GPr) (q:Int):GPr:={p with prec:=q}
theorem AAt.qff {s s':St} {H:Nat→Option MObj} {next m ti gi pb:Nat} {vN vP vT vL vR:V} {ps:List V} {a:Alt} {ti1 gi1:Nat} {M:Mk} {p:GPr} {q:Int} (h:AAt s H next m ti gi pb vN vP vT vL vR ps a ti1 gi1 M p)
 (h0:s'.f 0=s.f 0) (h5:s'.f 5=s.f 5) (h6:s'.f 6=s.f 6) (hn:s.next≤s'.next) (hp:s'.H pb=some (.own 6 [prC {p with prec:=q} vR] false)) (hH: ∀j,j<s.next→j≠pb→s'.H j=s.H j):AAt s' H next m ti gi pb vN vP vT vL vR ps a ti1 gi1 M {p with prec:=q}:=by
 obtain ⟨b1,b2,b3,b4,b5⟩:=h.ap pb _ h.h6
 have hM:=h.at_
 exact h.upd (hM.mono3 hn (hH m hM.lm (Ne.symm b1)) (hH ti1 hM.lt (Ne.symm b2)) (hH gi1 hM.lg (Ne.symm b3))) (Or.inl rfl) (Or.inl rfl) h0 h5 h6 hn hp (h.gR.mono hn fun id g1 g2=>hH id g2 fun e=>b4 (by rw[← e];exact g1)) (h.gP.mono hn fun id g1 g2=>hH id g2 fun e=>b5 (by rw[← e];exact g1)) h.eP h.sp fun j g _ _ _ g5 _ _=>hH j g g5
theorem qes {s0:St} {H:Nat→Option MObj} {next m ti gi pb:Nat} {vN vP vT vL vR:V} {ps:List V} {a:Alt} {ti1 gi1:Nat} {M:Mk} {p:GPr} {E:EC} {Q:Exit→St→Prop} (h:AAt s0 H next m ti gi pb vN vP vT vL vR ps a ti1 gi1 M p) (hbr:p.right.length≤549755813888)
 (hQ: ∀s',AAt s' H next m ti gi pb vN vP vT vL vR ps a ti1 gi1 M {p with prec:=yg p.right p.prec}→ewp Tryd.prog E Q s'):ewp Tryd.prog (.seq Y4 E) Q s0:=by
 generalize hR:yg p.right p.prec=R at hQ
 have f0:=h.f0;have f5:=h.f5;have f6:=h.f6
 repeat' with_reducible first
  |refine s_ ?_
  |simp only[wZZ,seval,f0,f5,f6]
 refine qw ?nx2 (fun(z:Nat×Int) s=>s.f 0=?v2_0∧s.f 5=?v2_5∧s.f 6=?v2_6∧s.f 9=vi z.1∧(z.1≤p.right.length)∧((AAt s H next m ti gi pb vN vP vT vL vR ps a ti1 gi1 M (qcp p z.2)))∧(yg (p.right.drop z.1) z.2=R)) (fun z=>p.right.length - z.1) ((0,p.prec)) wj_ (by refine⟨?_,?_,?_,?_,wo_,(by exact h.mono wl_ wl_ wl_ wh_ (fun j hj=>by simp only[wM])),(by exact hR)⟩<;>first|(simp only[wL,wM,wN,wX,seval,Option.some.injEq]<;>exact wt_)|rfl|exact⟨_,rfl⟩) ?_
 intro z s hnx ⟨g0,g5,g6,g9,k2_0,k2_1,k2_2⟩
 obtain ⟨k,q⟩:=z
 dsimp only at g9 k2_0 k2_1 k2_2
 have hA1:=k2_1
 have g0:=hA1.f0;have g5:=hA1.f5;have g6:=hA1.f6;have lp:=hA1.lp;have ln:=hA1.ln
 have o6:s.H pb=some (.own 6 [.agg [vi p.left,vR,vi q,.str p.code,.sl 1 true [],vi p.at_]] false):=hA1.h6
 have GR:Gr s.H s.next 1 (p.right.map (V.int .i64)) vR:=hA1.gR
 by_cases hk:k<p.right.length
 · rw [List.drop_eq_getElem_cons hk,yg]at k2_2
   by_cases hx:p.right[k]<1000
   · rw[if_pos hx]at k2_2
     repeat' with_reducible first
      |refine s_ ?_
      |simp only[wZZ,seval,g0,g5,g6,g9,g0,g5,g6,o6,GR.len]
      |apply qc<;>intro h h_<;>(try simp only[wD,reduceCtorEq]at h_)<;>(try exact wb_)<;>(try simp only[h])
      |apply Gr.iaQ GR;omega;(focus(first|assumption|exact ge_ o_))
      |refine t_ ?_
      |simp(disch:=omega) only[w64,if_neg]
     exact⟨o_,(k+1,p.right[k]),by dsimp only;omega,f0.symm,f5.symm,f6.symm,rfl,by dsimp only;omega,hA1.qff wl_ wl_ wl_ wh_ wi_ (fun j g g'=>by simp only[wM];repeat(first|rw[if_pos trivial]|rw[if_pos rfl]|rw[if_neg o_])),k2_2⟩
   · rw[if_neg hx]at k2_2
     repeat' with_reducible first
      |refine s_ ?_
      |simp only[wZZ,seval,g0,g5,g6,g9,g0,g5,g6,o6,GR.len]
      |apply qc<;>intro h h_<;>(try simp only[wD,reduceCtorEq]at h_)<;>(try exact wb_)<;>(try simp only[h])
      |apply Gr.iaQ GR;omega;(focus(first|assumption|exact ge_ o_))
      |refine t_ ?_
      |simp(disch:=omega) only[w64,if_neg]
     exact⟨o_,(k+1,q),by dsimp only;omega,f0.symm,f5.symm,f6.symm,rfl,by dsimp only;omega,hA1.mono wl_ wl_ wl_ wh_ (fun j hj=>by simp only[wM]),k2_2⟩
 · rw[List.drop_eq_nil_of_le o_,yg]at k2_2
   subst k2_2
   repeat' with_reducible first
    |refine s_ ?_
    |simp only[wZZ,seval,g0,g5,g6,g9,g0,g5,g6,o6,GR.len]
    |apply qc<;>intro h h_<;>(try simp only[wD,reduceCtorEq]at h_)<;>(try exact wb_)<;>(try simp only[h])
    |refine t_ ?_
   exact hQ _ (hA1.mono wl_ wl_ wl_ wh_ (fun j hj=>by simp only[wM]))
def JI (M:Mk) (x:Sym) (q:Int):Mk×Int:=
 if x.name≠[]then(if x.lit=true∨qU x.name M.lefts 0<0 then yT M x else(zD M x.at_ x.name,-1))else(M,q)
theorem qtC (M:Mk) (x:Sym) (q:Int):(JI M x q).1.lefts=M.lefts∧(JI M x q).1.prods=M.prods∧(JI M x q).1.types=M.types∧(JI M x q).1.nons=M.nons∧(JI M x q).1.inner=M.inner∧M.toks.length≤(JI M x q).1.toks.length∧(JI M x q).1.toks.length≤M.toks.length+1:=by
 obtain ⟨ff1,ff2,ff3,ff4,ff5,ff6,ff7,ff8⟩:=zP M x.at_ x.name
 obtain ⟨y1,y2,y3,y4,y5,y6,y7,y8⟩:=Qk M x
 unfold JI;split
 · split
   · exact⟨y2,y3,y1,y4,y6,y7,y8⟩
   · exact⟨ff3,ff5,ff4,ff6,ff8,by dsimp only;rw[ff1];exact Nat.le_refl _,by dsimp only;rw[ff1];omega⟩
 · exact⟨rfl,rfl,rfl,rfl,rfl,Nat.le_refl _,by dsimp only;omega⟩
theorem AAt.callP {s s':St} {H:Nat→Option MObj} {next m ti gi pb:Nat} {vN vP vT vL vR:V} {ps:List V} {a:Alt} {ti1 gi1 ti2 gi2:Nat} {M M':Mk} {p:GPr} {q:Int} (h:AAt s H next m ti gi pb vN vP vT vL vR ps a ti1 gi1 M p)
 (hA:MkAt s'.H s'.next m ti2 gi2 vN vP vT vL M') (it:ti2=ti1∨s.next≤ti2) (ig:gi2=gi1∨s.next≤gi2) (hpr:M'.prods=M.prods) (h0:s'.f 0=s.f 0) (h5:s'.f 5=s.f 5) (h6:s'.f 6=s.f 6) (hn:s.next≤s'.next)
 (hp:s'.H pb=some (.own 6 [prC {p with prec:=q} vR] false)) (hH: ∀j,j<s.next→j≠m→j≠ti1→j≠gi1→j≠pb→s'.H j=s.H j):AAt s' H next m ti gi pb vN vP vT vL vR ps a ti2 gi2 M' (qcp p q):=by
 obtain ⟨b1,b2,b3,b4,b5⟩:=h.ap pb _ h.h6
 obtain ⟨c1,c2,c3⟩:=h.at_.nt
 exact h.upd hA it ig h0 h5 h6 hn hp (h.gR.mono hn fun id g1 g2=>hH id g2 (fun e=>h.gR.ne c1 (by rw[← e];exact g1)) (fun e=>h.gR.ne c2 (by rw[← e];exact g1)) (fun e=>h.gR.ne c3 (by rw[← e];exact g1)) (fun e=>b4 (by rw[← e];exact g1)))
  (h.gP.mono hn fun id g1 g2=>hH id g2 (fun e=>h.gP.ne c1 (by rw[← e];exact g1)) (fun e=>h.gP.ne c2 (by rw[← e];exact g1)) (fun e=>h.gP.ne c3 (by rw[← e];exact g1)) (fun e=>b5 (by rw[← e];exact g1))) (by rw[hpr];exact h.eP) h.sp fun j g1 g2 g3 g4 g5 _ _=>hH j g1 g2 g3 g4 g5
theorem qhM {s0:St} {H:Nat→Option MObj} {next m ti gi pb:Nat} {vN vP vT vL vR:V} {ps:List V} {a:Alt} {ti1 gi1:Nat} {M:Mk} {p:GPr} {E:EC} {Q:Exit→St→Prop} (h:AAt s0 H next m ti gi pb vN vP vT vL vR ps a ti1 gi1 M p) (b1:M.toks.length≤1099511627776) (b2:M.lefts.length≤1099511627776) (hx:a.prec.lit=true→a.prec.name≠[])
 (hQ: ∀s' ti2 gi2,AAt s' H next m ti gi pb vN vP vT vL vR ps a ti2 gi2 (JI M a.prec p.prec).1 (qcp p (JI M a.prec p.prec).2)→ewp Tryd.prog E Q s'):ewp Tryd.prog (.seq Vv E) Q s0:=by
 have hA0:=h
 have hM:=h.at_
 have f0:=h.f0;have f5:=h.f5;have f6:=h.f6;have h5:=h.h5;have h6:=h.h6;have hm:=hM.hm;have lp:=h.lp;have ln:=h.ln
 have lm:=hM.lm;have lt:=hM.lt;have lg:=hM.lg
 obtain ⟨p1,p2,p3,p4,p5⟩:=h.ap pb _ h6
 obtain ⟨n1,n2,n3⟩:=hM.mt
 by_cases hn:a.prec.name=[]
 · have e:JI M a.prec p.prec=(M,p.prec):=by unfold JI;rw[if_neg (by simp[hn])]
   rw[e]at hQ
   repeat' with_reducible first
    |refine s_ ?_
    |simp only[wZZ,seval,f0,f5,f6,h5,h6]
    |apply qc<;>intro h h_<;>(try simp only[wD,reduceCtorEq]at h_)<;>(try exact wb_)<;>(try simp only[h])
    |refine t_ ?_
   exact hQ _ ti1 gi1 (hA0.mono wl_ wl_ wl_ wh_ (fun j hj=>by simp only[wM]))
 · by_cases hC:a.prec.lit=true∨qU a.prec.name M.lefts 0<0
   · have e:JI M a.prec p.prec=yT M a.prec:=by unfold JI;rw[if_pos hn,if_pos hC]
     rw[e]at hQ
     repeat' with_reducible first
      |refine s_ ?_
      |simp only[wZZ,seval,f0,f5,f6,h5,h6,hm]
      |(first|apply qc|apply zu|apply zo)<;>intro h h_<;>(try simp only[wD,reduceCtorEq]at h_)<;>(try exact wb_)<;>(try simp only[h])
      |apply ze (hp:=qL ?_);exact(hM.mono3 (Nat.le_refl _) (by(try simp only[wM]);(repeat rw[if_neg o_])) (by(try simp only[wM]);(repeat rw[if_neg o_])) (by(try simp only[wM]);(repeat rw[if_neg o_]))).er;exact qI;exact wu_;exact Flat.int _ _;rotate_left;exact wf_
      |(refine zl rfl rfl rfl ((qCh (hM.mono3 wh_ (by(try simp only[wM]);(repeat rw[if_neg o_])) (by(try simp only[wM]);(repeat rw[if_neg o_])) (by(try simp only[wM]);(repeat rw[if_neg o_]))) b1 b2 hx).mono ?_);rintro v1 H1 n1 ⟨q1,rfl,⟨ti',gi',q3,q4,q5⟩,q6⟩;(try simp only[wN]at q1);(try simp only[wN]at q3);(try simp only[wN]at q4);(try simp only[wM,wN]at q6))
      |apply qf;exact wu_;exact wu_;(focus((try simp only[wE,Nat.reduceAdd]);rfl))
      |refine t_ ?_
      |simp(disch:=omega) only[w64,if_neg]
     · have h61:H1 pb=some (.own 6 [.agg [vi p.left,vR,vi (-1),.str p.code,.sl 1 true [],vi p.at_]] false):=by rw[q6 pb o_ p1 p2 p3,if_pos rfl]
       obtain ⟨y1,y2,y3,y4,y5,y6,y7,y8⟩:=Qk M a.prec
       repeat' with_reducible first
        |refine qcj ?_
        |simp only[wZZ,seval,f6,h61]
        |refine t_ ?_
       exact hQ _ ti' gi' (hA0.callP (q5.mono3 wh_ wi_ wi_ wi_) o_ o_ y3 wl_ wl_ wl_ wh_ wi_ (fun j g1 g2 g3 g4 g5=>by simp only[wM];repeat(first|rw[if_pos trivial]|rw[if_pos rfl]|rw[if_neg o_]);rw[q6 j o_ g2 g3 g4,if_neg g5]))
     · exact absurd hC (by simp[*])
     · have h61:H1 pb=some (.own 6 [.agg [vi p.left,vR,vi (-1),.str p.code,.sl 1 true [],vi p.at_]] false):=by rw[q6 pb o_ p1 p2 p3,if_pos rfl]
       obtain ⟨y1,y2,y3,y4,y5,y6,y7,y8⟩:=Qk M a.prec
       repeat' with_reducible first
        |refine qcj ?_
        |simp only[wZZ,seval,f6,h61]
        |refine t_ ?_
       exact hQ _ ti' gi' (hA0.callP (q5.mono3 wh_ wi_ wi_ wi_) o_ o_ y3 wl_ wl_ wl_ wh_ wi_ (fun j g1 g2 g3 g4 g5=>by simp only[wM];repeat(first|rw[if_pos trivial]|rw[if_pos rfl]|rw[if_neg o_]);rw[q6 j o_ g2 g3 g4,if_neg g5]))
   · have e:JI M a.prec p.prec=(zD M a.prec.at_ a.prec.name,-1):=by unfold JI;rw[if_pos hn,if_neg hC]
     rw[e]at hQ
     have c1:a.prec.lit=false:=by cases hl:a.prec.lit with|true=>exact absurd (Or.inl hl) hC|false=>rfl
     have c2: ¬ qU a.prec.name M.lefts 0<0:=fun e=>hC (Or.inr e)
     repeat' with_reducible first
      |refine s_ ?_
      |simp only[wZZ,seval,f0,f5,f6,h5,h6,hm]
      |(first|apply qc|apply zu|apply zo)<;>intro h h_<;>(try simp only[wD,reduceCtorEq]at h_)<;>(try exact wb_)<;>(try simp only[h])
      |apply ze (hp:=qL ?_);exact(hM.mono3 (Nat.le_refl _) (by(try simp only[wM]);(repeat rw[if_neg o_])) (by(try simp only[wM]);(repeat rw[if_neg o_])) (by(try simp only[wM]);(repeat rw[if_neg o_]))).er;exact qI;exact wu_;exact Flat.int _ _;rotate_left;exact wf_
      |(refine zl rfl rfl rfl ((Xe (hM.mono3 wh_ (by(try simp only[wM]);(repeat rw[if_neg o_])) (by(try simp only[wM]);(repeat rw[if_neg o_])) (by(try simp only[wM]);(repeat rw[if_neg o_])))).mono ?_);rintro v1 H1 n1 ⟨q1,q2,q6⟩;(try simp only[wN]at q1);(try simp only[wN]at q3);(try simp only[wN]at q4);(try simp only[wM,wN]at q6))
      |refine t_ ?_
      |simp(disch:=omega) only[w64,if_neg]
     exact hQ _ ti1 gi1 (hA0.callP (q2.mono3 wh_ (by simp only[wM]) (by simp only[wM]) (by simp only[wM])) (Or.inl rfl) (Or.inl rfl) (zP M a.prec.at_ a.prec.name).2.2.2.2.1 wl_ wl_ wl_ wh_ (by simp only[wM];rw[q6 pb o_ p1,if_pos rfl]) (fun j g1 g2 g3 g4 g5=>by simp only[wM];rw[q6 j o_ g2,if_neg g5]))

abbrev qc0 (M:Mk) (p:GPr):Mk:={M with prods:=M.prods++[{p with args:=p.right}]}
theorem qeL {s0:St} {H:Nat→Option MObj} {next m ti gi pb:Nat} {vN vP vT vL vR:V} {ps:List V} {a:Alt} {ti1 gi1:Nat} {M:Mk} {p:GPr} {Q:Exit→St→Prop} (h:AAt s0 H next m ti gi pb vN vP vT vL vR ps a ti1 gi1 M p) (hbr:p.right.length≤549755813888) (hbp:ps.length≤549755813888)
 (hQ: ∀s' vP' ps',MkAt s'.H s'.next m ti1 gi1 vN vP' vT vL (qc0 M p)→Gr s'.H s'.next 6 ps' vP'→QR ps' ((qc0 M p).prods.map GPr.V)→ps'.length=ps.length+1→s0.next≤s'.next→FrO H s'.H next m ti gi→Q .normal s'):ewp Tryd.prog Va Q s0:=by
 have hM:=h.at_
 have f0:=h.f0;have f5:=h.f5;have f6:=h.f6;have h5:=h.h5;have h6:=h.h6;have hm:=hM.hm;have lp:=h.lp;have ln:=h.ln
 have lm:=hM.lm;have lt:=hM.lt;have lg:=hM.lg
 obtain ⟨p1,p2,p3,p4,p5⟩:=h.ap pb _ h6
 obtain ⟨n1,n2,n3⟩:=hM.mt
 obtain ⟨c1,c2,c3⟩:=hM.nt
 have d5:=h.gP.ne c1
 have hneP: ∀id,gid vP=some id→id≠m∧id≠pb:=fun id h1=>⟨fun e=>d5 (by rw[← e];exact h1),fun e=>p5 (by rw[← e];exact h1)⟩
 repeat' with_reducible first
  |refine s_ ?_
  |simp only[wZZ,seval,f0,f5,f6,h5,h6,hm,qx d5,qx p5]
  |apply qJ (qd.gr h.gR);(focus(simp only[wZ]<;>omega));(focus(unfold maxLen;simp only[wZ]<;>omega))
  |apply zy rfl (h.gP.mono (Nat.le_refl _) (fun id h1 h2=>by have hne:=hneP id h1;(try simp only[wM]);(repeat rw[if_neg o_])));exact qd.sl;(focus(simp only[wZ]<;>omega));(focus(unfold maxLen;simp only[wZ]<;>omega))
  |refine t_ ?_
  |simp(disch:=omega) only[w64,if_neg]
 have hv:Er false (fun _=>none) (.agg [vi p.left,vR,vi p.prec,.str p.code,.asl (s0.next+3) p.right.length 1 (p.right.map (V.int .i64)),vi p.at_]) (GPr.V {p with args:=p.right}):=
  ErL.agg (.cons (.int _ _) (.cons (h.gR.er rfl) (.cons (.int _ _) (.cons (.str _) (.cons zZ (.cons (.int _ _) .nil))))))
 have heP:QR (ps++[(.agg [vi p.left,vR,vi p.prec,.str p.code,.asl (s0.next+3) p.right.length 1 (p.right.map (V.int .i64)),vi p.at_])]) ((qc0 M p).prods.map GPr.V):=by
  show QR _ ((M.prods++[({p with args:=p.right}:GPr)]).map GPr.V)
  rw[List.map_append];exact h.eP.snoc hv
 have e2:=h.gP.ne c2;have e3:=h.gP.ne c3
 refine hQ _ (.asl (s0.next+6+8) (ps.length+1) 6 (ps++[(.agg [vi p.left,vR,vi p.prec,.str p.code,.asl (s0.next+3) p.right.length 1 (p.right.map (V.int .i64)),vi p.at_])])) (ps++[(.agg [vi p.left,vR,vi p.prec,.str p.code,.asl (s0.next+3) p.right.length 1 (p.right.map (V.int .i64)),vi p.at_])]) ⟨?_,?_,?_,hM.eN,ErL.asl heP,hM.eT,hM.eL,by simp only[wN]<;>omega,by simp only[wN]<;>omega,by simp only[wN]<;>omega,hM.len,hM.len3⟩ (Gr.tok ?_ wh_) heP (by simp) wh_ (fun j g1 g2 g3 g4 g5=>?_)
 · simp only[wM]
   repeat first|rw[if_pos trivial]|rw[if_pos rfl]|rw[if_neg o_]|simp only[wM]|rw[qx d5]
 · simp only[wM]
   repeat first|rw[if_pos trivial]|rw[if_pos rfl]|rw[if_neg o_]|simp only[wM]|rw[qx e2]
   exact hM.ht
 · simp only[wM]
   repeat first|rw[if_pos trivial]|rw[if_pos rfl]|rw[if_neg o_]|simp only[wM]|rw[qx e3]
   exact hM.hg
 · simp only[wM]
   repeat first|rw[if_pos trivial]|rw[if_pos rfl]|rw[if_neg o_]|simp only[wM]
 · have e:=h.fr j g1 g2 g3 g4 g5
   have e5:=h.gP.ne (j:=j) (fun f q=>g5 f (by rw[← e];exact q))
   simp only[wM]
   repeat first|rw[if_pos trivial]|rw[if_pos rfl]|rw[if_neg o_]|simp only[wM]|rw[qx e5]
   exact e
theorem Js: ∀(l:List Part) (M:Mk) (p:GPr),(jb l (M,p)).1.lefts=M.lefts∧(jb l (M,p)).1.types=M.types∧(jb l (M,p)).1.nons=M.nons∧(jb l (M,p)).2.prec=p.prec∧(jb l (M,p)).2.left=p.left∧M.toks.length≤(jb l (M,p)).1.toks.length∧(jb l (M,p)).1.toks.length≤M.toks.length+l.length∧
 (jb l (M,p)).2.right.length≤p.right.length+l.length∧M.inner≤(jb l (M,p)).1.inner∧(jb l (M,p)).1.inner≤M.inner+l.length
 |[],M,p=>by rw[Jd];exact⟨rfl,rfl,rfl,rfl,rfl,Nat.le_refl _,Nat.le_refl _,Nat.le_refl _,Int.le_refl _,by simp⟩
 | w ::r,M,p=>by
   rw[kX]
   obtain ⟨y1,y2,y3,y4,y5,y6,y7,y8⟩:=Qk M w.sym
   split
   · obtain ⟨h1,h2,h3,h4,h5,h6,h7,h8,h9,h10⟩:=Js r (yT M w.sym).1 {p with right:=p.right++[(yT M w.sym).2]}
     refine⟨h1.trans y2,h2.trans y1,h3.trans y4,h4,h5,o_,by rw[List.length_cons];omega,?_,o_,by rw[List.length_cons];omega⟩
     simp at h8 ⊢;omega
   · split
     · dsimp only
       exact⟨rfl,rfl,rfl,rfl,rfl,Nat.le_refl _,o_,o_,o_,by simp;omega⟩
     · obtain ⟨h1,h2,h3,h4,h5,h6,h7,h8,h9,h10⟩:=Js r {M with inner:=M.inner+1,prods:=M.prods++[{left:=M.lefts.length+(M.inner+1),prec:= -1,code:=w.code,args:=p.right,at_:=w.at_}]} {p with right:=p.right++[1000+M.lefts.length+(M.inner+1)]}
       dsimp only at h1 h2 h3 h4 h5 h6 h7 h8 h9 h10
       refine⟨h1,h2,h3,h4,h5,o_,by rw[List.length_cons];omega,?_,o_,by rw[List.length_cons];omega⟩
       simp at h8 ⊢;omega
theorem qcq (M:Mk) (n:List UInt8) (a:Alt) (q:Mk×GPr) (P:GPr) (hq:q=jb a.parts (M,{left:=1+qU n M.lefts 0,prec:= -1,at_:=a.at_})) (hP:P={q.2 with prec:=yg q.2.right (-1)}):
 Xc M n a=qc0 (JI q.1 a.prec P.prec).1 (qcp P (JI q.1 a.prec P.prec).2):=by
 subst hq hP
 obtain ⟨ff1,ff2,ff3,ff4,ff5,ff6,ff7,ff8⟩:=zP (jb a.parts (M,{left:=1+qU n M.lefts 0,prec:= -1,at_:=a.at_})).1 a.prec.at_ a.prec.name
 unfold Xc JI qc0 qcp
 dsimp only
 split
 · split
   · rfl
   · rw[ff5]
 · rfl
theorem qCL {H:Nat→Option MObj} {next m ti gi:Nat} {vN vP vT vL:V} {M:Mk} {ps:List V} {n:List UInt8} {a:Alt} (hM:MkAt H next m ti gi vN vP vT vL M) (hP:Gr H next 6 ps vP) (heP:QR ps (M.prods.map GPr.V)) (b1:M.toks.length+a.parts.length≤274877906944) (b2:M.lefts.length≤274877906944) (b3:a.parts.length≤137438953472) (b4:ps.length+a.parts.length≤137438953472) (b5:0≤M.inner) (b6:M.inner+a.parts.length≤274877906944) (hx: ∀w∈a.parts,w.sym.lit=true→w.sym.name≠[]) (hxp:a.prec.lit=true→a.prec.name≠[]):zT Tryd.prog 37 [.ptr m 0 0,.str n,a.V] H next (fun _ H' next'=>next≤next'∧(∃ti' gi' vP' ps',(ti'=ti∨next≤ti')∧(gi'=gi∨next≤gi')∧MkAt H' next' m ti' gi' vN vP' vT vL (Xc M n a)∧Gr H' next' 6 ps' vP'∧QR ps' ((Xc M n a).prods.map GPr.V)∧ps'.length≤ps.length+a.parts.length+1)∧FrO H H' next m ti gi):=by
 refine zU Tryd.func37 nm_ qnG (by show 3≤173;decide) ?_
 show ewp _ qfR _ _
 have hm:=hM.hm;have lm:=hM.lm;have lt:=hM.lt;have lg:=hM.lg
 have hbd:=xq n M.lefts 0
 have hz:IntKind.i64.wrap (1+qU n M.lefts 0)=1+qU n M.lefts 0:=wrap64 o_ o_
 show ewp _ (.seq (.reg qup) (.seq (.reg qsJ) (.seq YZ (.seq Y4 (.seq Vv Va))))) _ _
 have tail: ∀(s:St) (pb:Nat),AAt s H next m ti gi pb vN vP vT vL (.sl 1 true []) ps a ti gi M {left:=1+qU n M.lefts 0,prec:= -1,at_:=a.at_}→ewp Tryd.prog (.seq YZ (.seq Y4 (.seq Vv Va))) (vB e37 fun _ H' next'=>next≤next'∧(∃ti' gi' vP' ps',(ti'=ti∨next≤ti')∧(gi'=gi∨next≤gi')∧MkAt H' next' m ti' gi' vN vP' vT vL (Xc M n a)∧Gr H' next' 6 ps' vP'∧QR ps' ((Xc M n a).prods.map GPr.V)∧ps'.length≤ps.length+a.parts.length+1)∧FrO H H' next m ti gi) s:=by
  intro s pb hA
  generalize hp0:({left:=1+qU n M.lefts 0,prec:= -1,at_:=a.at_}:GPr)=p0 at hA
  have hr0:p0.right=[]:=by rw[← hp0]
  have hc0:p0.prec= -1:=by rw[← hp0]
  obtain ⟨h1,h2,h3,h4,h5,h6,h7,h8,h9,h10⟩:=Js a.parts M p0
  rw[hr0,List.length_nil]at h8
  have hpr:(jb a.parts (M,p0)).1.lefts=M.lefts:=h1
  refine qcS hA o_ o_ (by rw[hr0,List.length_nil];omega) o_ b5 o_ hx fun s1 vP1 vR1 ps1 ti1 gi1 hA1 hl1=>?_
  refine qes hA1 o_ fun s2 hA2=>?_
  refine qhM hA2 o_ (by rw[h1];omega) hxp fun s3 ti3 gi3 hA3=>?_
  refine qeL hA3 (by show (jb a.parts (M,p0)).2.right.length≤_;omega) o_ fun s4 vP4 ps4 k1 k2 k3 k4 k5 k6=>?_
  have he:=qcq M n a (jb a.parts (M,p0)) {(jb a.parts (M,p0)).2 with prec:=yg (jb a.parts (M,p0)).2.right (jb a.parts (M,p0)).2.prec} (by rw[hp0]) (by rw[h4,hc0])
  refine J9 rfl (Or.inl rfl) ⟨by have:=hA3.ln;have:=hA3.lp;omega,⟨ti3,gi3,vP4,ps4,hA3.it,hA3.ig,?_,k2,?_,o_⟩,k6⟩
  · rw[he];exact k1
  · rw[he];exact k3
 generalize (EC.seq YZ (.seq Y4 (.seq Vv Va)))=F at tail
 repeat' with_reducible first
  |refine zI ?_
  |simp only[wZZ,seval,hm,hz]
  |apply ze (hp:=qL ?_);(focus(refine(hM.mono (Nat.le_refl _) (fun j hj=>?_)).er;(try simp only[wM]);(repeat rw[if_neg o_])));exact qI;exact wu_;exact Flat.int _ _;rotate_left;exact wf_
  |refine t_ ?_
 refine tail _ (next+1+7) ⟨hM.mono wh_ (fun j hj=>by simp only[wM];repeat(first|rw[if_pos trivial]|rw[if_pos rfl]|rw[if_neg o_])),Or.inl rfl,Or.inl rfl,by simp only[wL,seval],by simp only[wL,seval],by simp only[wL,seval],by simp only[wM];repeat(first|rw[if_pos trivial]|rw[if_pos rfl]|rw[if_neg o_]),by simp only[wM];repeat(first|rw[if_pos trivial]|rw[if_pos rfl]|rw[if_neg o_]),Gr.nil,hP.mono wh_ (fun id g1 g2=>by simp only[wM];repeat(first|rw[if_pos trivial]|rw[if_pos rfl]|rw[if_neg o_])),heP,Sep.slL,o_,by simp only[wN]<;>omega,fun j g1 g2 g3 g4 g5=>by simp only[wM];repeat(first|rw[if_pos trivial]|rw[if_pos rfl]|rw[if_neg o_])⟩

structure Small (x:Source):Prop where
 dl:x.decls.length≤1000
 ds: ∀d∈x.decls,d.syms.length≤1000
 dk: ∀d∈x.decls,1≤d.kind∧d.kind≤6
 dx: ∀d∈x.decls,∀y∈d.syms,y.lit=true→y.name≠[]
 rl:x.rules.length≤1000
 ra: ∀r∈x.rules,r.alts.length≤1000
 rp: ∀r∈x.rules,∀a∈r.alts,a.parts.length≤1000
 rx: ∀r∈x.rules,∀a∈r.alts,∀w∈a.parts,w.sym.lit=true→w.sym.name≠[]
 rq: ∀r∈x.rules,∀a∈r.alts,a.prec.lit=true→a.prec.name≠[]
abbrev qeb:V:= .agg [.sl 6 true [],.sl 2 true [],.sl 6 true [],.str [],.str []]
structure OfAt (s:St) (m:Nat) (src:Source) (ti gi:Nat) (vN vP vT vL:V) (M:Mk):Prop where
 at_:MkAt s.H s.next m ti gi vN vP vT vL M
 f1:s.f 1=.ptr 0 0 0
 f2:s.f 2=.ptr 1 0 0
 f6:s.f 6=.ptr m 0 0
 h0:s.H 0=some (.own 4 [src.V] false)
 h1:s.H 1=some (.own 5 [qeb] false)
 ln:1<s.next
theorem MkAt.far {H:Nat→Option MObj} {next m ti gi:Nat} {vN vP vT vL:V} {M:Mk} (h:MkAt H next m ti gi vN vP vT vL M) {j z:Nat} {e:V} (hj:H j=some (.own z [e] false)) (hz:z≠13) (hz1:z≠1):j≠m∧j≠ti∧j≠gi∧ ∀f,H j≠some (.tok f):=by
 refine⟨fun q=>?_,fun q=>?_,fun q=>?_,fun f q=>?_⟩
 · rw[q,h.hm]at hj;cases hj;exact hz rfl
 · rw[q,h.ht]at hj
   have:=h.len3
   injection hj with hj;injection hj with _ hj
   have:=congrArg List.length hj
   simp at this;omega
 · rw[q,h.hg]at hj
   injection hj with hj;injection hj with hj
   exact hz1 hj.symm
 · rw[hj]at q;cases q
theorem OfAt.upd {s s':St} {m:Nat} {src:Source} {ti gi ti' gi':Nat} {vN vP vT vL vN' vP' vT' vL':V} {M M':Mk} (h:OfAt s m src ti gi vN vP vT vL M) (hA:MkAt s'.H s'.next m ti' gi' vN' vP' vT' vL' M')
 (f1:s'.f 1=s.f 1) (f2:s'.f 2=s.f 2) (f6:s'.f 6=s.f 6) (hn:s.next≤s'.next) (hH:FrO s.H s'.H s.next m ti gi):OfAt s' m src ti' gi' vN' vP' vT' vL' M':=by
 have ln:=h.ln
 obtain ⟨a1,a2,a3,a4⟩:=h.at_.far h.h0 (by decide) (by decide)
 obtain ⟨b1,b2,b3,b4⟩:=h.at_.far h.h1 (by decide) (by decide)
 exact⟨hA,f1.trans h.f1,f2.trans h.f2,f6.trans h.f6,by rw[hH 0 o_ a1 a2 a3 a4];exact h.h0,by rw[hH 1 o_ b1 b2 b3 b4];exact h.h1,o_⟩
theorem OfAt.mono {s s':St} {m:Nat} {src:Source} {ti gi:Nat} {vN vP vT vL:V} {M:Mk} (h:OfAt s m src ti gi vN vP vT vL M) (f1:s'.f 1=s.f 1) (f2:s'.f 2=s.f 2) (f6:s'.f 6=s.f 6) (hn:s.next≤s'.next) (hH: ∀j,j<s.next→s'.H j=s.H j):OfAt s' m src ti gi vN vP vT vL M:=
 h.upd (h.at_.mono hn hH) f1 f2 f6 hn fun j g _ _ _ _=>hH j g
abbrev yV (M M':Mk):Prop:=M'.lefts=M.lefts∧M'.prods=M.prods∧M'.nons=M.nons∧M'.inner=M.inner
theorem qcy (M:Mk) (d:Decl) (x:Sym):yV M (ko M d x)∧(ko M d x).level=M.level∧M.toks.length≤(ko M d x).toks.length∧(ko M d x).toks.length≤M.toks.length+1∧(ko M d x).types.length≤M.types.length+1:=by
 obtain ⟨ff1,ff2,ff3,ff4,ff5,ff6,ff7,ff8⟩:=zP M x.at_ x.name
 obtain ⟨p1,p2,p3,p4,p5,p6,p7,p8⟩:=qcc M x
 unfold ko
 split
 · dsimp only
   split
   · exact⟨⟨rfl,rfl,rfl,rfl⟩,rfl,Nat.le_refl _,by dsimp only;omega,by simp⟩
   · split
     · exact⟨⟨ff3,ff5,ff6,ff8⟩,ff7,by rw[ff1];omega,by rw[ff1];omega,by rw[ff4];omega⟩
     · exact⟨⟨rfl,rfl,rfl,rfl⟩,rfl,Nat.le_refl _,o_,o_⟩
 · dsimp only
   generalize Zi M x=P at *
   have hA:yV P.1 (xP P.1 d.kind x P.2)∧(xP P.1 d.kind x P.2).level=P.1.level:=by
    obtain ⟨gg1,gg2,gg3,gg4,gg5,gg6,gg7,gg8⟩:=zP P.1 x.at_ x.name
    unfold xP;split
    · exact⟨⟨rfl,rfl,rfl,rfl⟩,rfl⟩
    · dsimp only;split<;>simp[Qb,yV,gg3,gg5,gg6,gg7,gg8]
   have hB: ∀M:Mk,yV M (jN M x P.2)∧(jN M x P.2).level=M.level:=fun M=>by
    obtain ⟨gg1,gg2,gg3,gg4,gg5,gg6,gg7,gg8⟩:=zP M x.at_ x.name
    unfold jN;split
    · dsimp only;split<;>simp[Qb,yV,gg3,gg5,gg6,gg7,gg8]
    · exact⟨⟨rfl,rfl,rfl,rfl⟩,rfl⟩
   have hC: ∀M:Mk,yV M (kS M d.tag x P.2)∧(kS M d.tag x P.2).level=M.level:=fun M=>by
    obtain ⟨gg1,gg2,gg3,gg4,gg5,gg6,gg7,gg8⟩:=zP M x.at_ x.name
    unfold kS;split
    · dsimp only;split<;>simp[Qb,yV,gg3,gg5,gg6,gg7,gg8]
    · exact⟨⟨rfl,rfl,rfl,rfl⟩,rfl⟩
   obtain ⟨⟨a1,a2,a3,a4⟩,a5⟩:=hA
   obtain ⟨⟨b1,b2,b3,b4⟩,b5⟩:=hB (xP P.1 d.kind x P.2)
   obtain ⟨⟨c1,c2,c3,c4⟩,c5⟩:=hC (jN (xP P.1 d.kind x P.2) x P.2)
   have e1:=(qa2 P.1 d.kind x P.2);have e2:=qaE (xP P.1 d.kind x P.2) x P.2;have e3:=qaL (jN (xP P.1 d.kind x P.2) x P.2) d.tag x P.2
   refine⟨⟨by rw[c1,b1,a1,p2],by rw[c2,b2,a2,p3],by rw[c3,b3,a3,p4],by rw[c4,b4,a4,p6]⟩,by rw[c5,b5,a5,p5],by rw[e3.2,e2.2,e1.2];exact p7,by rw[e3.2,e2.2,e1.2];exact p8,by rw[e3.1,e2.1,e1.1,p1];omega⟩
theorem qcG (d:Decl) (q:Mk×List UInt8):jm d [] q=q:=rfl
theorem Xp (d:Decl) (x:Sym) (r:List Sym) (M:Mk) (st:List UInt8):jm d (x::r) (M,st)=if d.kind≠6 then jm d r (ko M d x,st)else jm d r (if st≠[]then zD M x.at_ x.name else M,x.name):=by rw[jm]
theorem qcf (q:Mk×List UInt8):xE [] q=q:=rfl
theorem Xz (d:Decl) (r:List Decl) (M:Mk) (st:List UInt8):xE (d::r) (M,st)=xE r (jm d d.syms (if 2≤d.kind∧d.kind≤4 then {M with level:=M.level+1} else M,st)):=by rw[xE]
abbrev Jq (M:Mk) (d:Decl):Mk:=if 2≤d.kind∧d.kind≤4 then {M with level:=M.level+1} else M
theorem qiG {s0:St} {m ti gi db:Nat} {src:Source} {vN vP vT vL:V} {M:Mk} {st:List UInt8} {d:Decl} {Q:Exit→St→Prop} (h:OfAt s0 m src ti gi vN vP vT vL M) (hT:Gr s0.H s0.next 2 (M.types.map Non.V) vT) (f7:s0.f 7=.str st) (f9:s0.f 9=.ptr db 0 0) (hd:s0.H db=some (.own 4 [d.V] false)) (ld:db<s0.next)
 (b1:M.toks.length+d.syms.length≤10000000000) (b2:M.types.length+d.syms.length≤10000000000) (hk:1≤d.kind∧d.kind≤6) (hx: ∀y∈d.syms,y.lit=true→y.name≠[])
 (hQ: ∀s' ti' gi' vT',OfAt s' m src ti' gi' vN vP vT' vL (jm d d.syms (M,st)).1→Gr s'.H s'.next 2 ((jm d d.syms (M,st)).1.types.map Non.V) vT'→s'.f 7=.str (jm d d.syms (M,st)).2→s'.f 8=s0.f 8→s0.next≤s'.next→yV M (jm d d.syms (M,st)).1→(jm d d.syms (M,st)).1.level=M.level→(jm d d.syms (M,st)).1.toks.length≤M.toks.length+d.syms.length→(jm d d.syms (M,st)).1.types.length≤M.types.length+d.syms.length→Q .normal s'):ewp Tryd.prog Vh Q s0:=by
 generalize hR:jm d d.syms (M,st)=R at hQ
 have f1:=h.f1;have f2:=h.f2;have f6:=h.f6
 have hA0:=h
 repeat' with_reducible first
  |refine s_ ?_
  |simp only[wZZ,seval,f1,f2,f6,f7]
 refine qw ?nx2 (fun(z:Nat×Mk×List UInt8) s=>s.f 1=?v2_1∧s.f 2=?v2_2∧s.f 6=?v2_6∧s.f 8=?v2_8∧s.f 9=?v2_9∧s.f 10=vi z.1∧(z.1≤d.syms.length)∧((∃ti gi vT,OfAt s m src ti gi vN vP vT vL z.2.1∧Gr s.H s.next 2 (z.2.1.types.map Non.V) vT))∧(jm d (d.syms.drop z.1) z.2=R)∧((yV M z.2.1))∧((z.2.1.toks.length≤M.toks.length+z.1))∧((z.2.1.types.length≤M.types.length+z.1))∧((z.2.1.level=M.level))∧((s.H db=some (.own 4 [d.V] false)))∧(s.f 7=.str z.2.2)) (fun z=>d.syms.length - z.1) ((0,M,st)) wj_ (by refine⟨?_,?_,?_,?_,?_,?_,wo_,(by exact⟨ti,gi,vT,hA0.mono wl_ wl_ wl_ wh_ (fun j hj=>by simp only[wM]),hT.mono wh_ (fun j h1 hj=>by simp only[wM])⟩),(by exact hR),(by exact⟨rfl,rfl,rfl,rfl⟩),(by dsimp only;omega),(by dsimp only;omega),(by rfl),(by simp only[wM];exact hd),(by(try simp only[wL,wM,wN,seval]);exact f7)⟩<;>first|(simp only[wL,wM,wN,wX,seval,Option.some.injEq]<;>exact wt_)|rfl|exact⟨_,rfl⟩) ?_
 intro z s hnx ⟨g1,g2,g6,g8,g9,g10,k2_0,k2_1,k2_2,k2_3,k2_4,k2_5,k2_6,k2_7,g7⟩
 obtain ⟨k,M1,st1⟩:=z
 dsimp only at g7 g10 k2_0 k2_1 k2_2 k2_3 k2_4 k2_5 k2_6
 obtain ⟨ti1,gi1,vT1,hA1,hT1⟩:=k2_1
 have od:=k2_7
 have g1:=hA1.f1;have g2:=hA1.f2;have g6:=hA1.f6;have o0:=hA1.h0;have o1:=hA1.h1;have ln:=hA1.ln
 have hM:=hA1.at_;have hm:=hM.hm;have lm:=hM.lm;have lt:=hM.lt;have lg:=hM.lg
 obtain ⟨a1,a2,a3,a4⟩:=hM.far od (by decide) (by decide)
 have g9':=g9.trans f9
 by_cases hk2:k<d.syms.length
 · rw [List.drop_eq_getElem_cons hk2,Xp]at k2_2
   have hxk:=hx _ (List.getElem_mem hk2)
   by_cases h6:d.kind=6
   · rw [if_neg (by simp[h6])]at k2_2
     by_cases hst:st1=[]
     · rw[if_neg (by simp[hst])]at k2_2
       repeat' with_reducible first
        |refine s_ ?_
        |simp only[wZZ,seval,g1,g2,g6,g8,g9,g10,g7,g1,g2,g6,g7,f9,g10,od,hm,hst]
        |apply qc<;>intro h h_<;>(try simp only[wD,reduceCtorEq]at h_)<;>(try exact wb_)<;>(try simp only[h])
        |refine t_ ?_
        |simp(disch:=omega) only[w64,if_neg]
       refine⟨by(try simp only[wN])<;>omega,(k+1,M1,d.syms[k].name),by dsimp only;omega,f1.symm,f2.symm,f6.symm,by first|trivial|rfl,by first|trivial|rfl,rfl,by dsimp only;omega,⟨ti1,gi1,vT1,hA1.mono wl_ wl_ wl_ wg_ (fun j hj=>by first|rfl|simp only[wM]),hT1.mono wg_ (fun j h1 hj=>by first|rfl|simp only[wM])⟩,k2_2,k2_3,by dsimp only;omega,by dsimp only;omega,k2_6,by first|trivial|exact od|(simp only[wM];exact od),rfl⟩
     · rw[if_pos hst]at k2_2
       repeat' with_reducible first
        |refine s_ ?_
        |simp only[wZZ,seval,g1,g2,g6,g8,g9,g10,g7,g1,g2,g6,g7,f9,g10,od,hm]
        |apply qc<;>intro h h_<;>(try simp only[wD,reduceCtorEq]at h_)<;>(try exact wb_)<;>(try simp only[h])
        |(refine zl rfl rfl rfl ((Xe (hM.mono wh_ (fun j hj=>by(try simp only[wM]);(repeat rw[if_neg o_])))).mono ?_);rintro v1 H1 n1 ⟨q1,q2,q3⟩;(try simp only[wN]at q1);(try simp only[wM]at q3))
        |refine t_ ?_
       (try simp only[wN]at q1);(try simp only[wM,wN]at q3)
       have od1:H1 db=some (.own 4 [d.V] false):=by rw[q3 db o_ a1];exact od
       obtain ⟨ff1,ff2,ff3,ff4,ff5,ff6,ff7,ff8⟩:=zP M1 d.syms[k].at_ d.syms[k].name
       obtain ⟨sm1,sm2,sm3,sm4⟩:=k2_3
       repeat' with_reducible first
        |refine s_ ?_
        |simp only[wZZ,seval,g1,g2,g6,g8,g9,g10,g7,f9,g10,od1]
        |refine t_ ?_
        |simp(disch:=omega) only[w64,if_neg]
       refine⟨by(try simp only[wN])<;>omega,(k+1,(zD M1 d.syms[k].at_ d.syms[k].name),d.syms[k].name),by dsimp only;omega,f1.symm,f2.symm,f6.symm,by first|trivial|rfl,by first|trivial|rfl,rfl,by dsimp only;omega,⟨ti1,gi1,vT1,hA1.upd (q2.mono wg_ (fun j hj=>by first|rfl|simp only[wM])) wl_ wl_ wl_ wg_ (fun j h1 h2 h3 h4 h5=>by(try simp only[wM]);exact q3 j o_ h2),by rw[ff4];exact hT1.stay hM wg_ (fun j h1 h2 h3 h4=>by(try simp only[wM]);exact q3 j o_ h2)⟩,k2_2,⟨ff3.trans sm1,ff5.trans sm2,ff6.trans sm3,ff8.trans sm4⟩,by dsimp only;rw[ff1];omega,by dsimp only;rw[ff4];omega,ff7.trans k2_6,by first|trivial|exact od1|(simp only[wM];exact od1),rfl⟩
   · rw[if_pos h6]at k2_2
     obtain ⟨⟨dm1,dm2,dm3,dm4⟩,dm5,dm6,dm7,dm8⟩:=qcy M1 d d.syms[k]
     obtain ⟨sm1,sm2,sm3,sm4⟩:=k2_3
     repeat' with_reducible first
      |refine s_ ?_
      |simp only[wZZ,seval,g1,g2,g6,g8,g9,g10,g7,g1,g2,g6,g7,f9,g10,od,hm]
      |apply qc<;>intro h h_<;>(try simp only[wD,reduceCtorEq]at h_)<;>(try exact wb_)<;>(try simp only[h])
      |(refine zl rfl rfl rfl ((qzU (hM.mono wg_ (fun j hj=>by first|rfl|simp only[wM])) (hT1.mono wg_ (fun j h1 hj=>by first|rfl|simp only[wM])) o_ o_ hxk hk).mono ?_);rintro v1 H1 n1 ⟨q1,⟨ti',gi',vT',q2,q3,q4,q5⟩,q6⟩;(try simp only[wN]at q1))
      |refine t_ ?_
      |simp(disch:=omega) only[w64,if_neg]
     have q6': ∀j,j<s.next→j≠m→j≠ti1→j≠gi1→(∀f,s.H j≠some (.tok f))→H1 j=s.H j:=fun j h1 h2 h3 h4 h5=>q6 j wg_ h2 h3 h4 (by(try simp only[wM]);exact h5)
     refine⟨by(try simp only[wN])<;>omega,(k+1,(ko M1 d d.syms[k]),st1),by dsimp only;omega,f1.symm,f2.symm,f6.symm,by first|trivial|rfl,by first|trivial|rfl,rfl,by dsimp only;omega,⟨ti',gi',vT',hA1.upd (q4.mono wg_ (fun j hj=>by first|rfl|simp only[wM])) wl_ wl_ wl_ wg_ (fun j h1 h2 h3 h4 h5=>by(try simp only[wM]);exact q6' j h1 h2 h3 h4 h5),q5.mono wg_ (fun j h1 h2=>by first|rfl|simp only[wM])⟩,k2_2,⟨dm1.trans sm1,dm2.trans sm2,dm3.trans sm3,dm4.trans sm4⟩,by dsimp only;omega,by dsimp only;omega,dm5.trans k2_6,by(try simp only[wM]);rw[q6' db o_ a1 a2 a3 a4];exact od,rfl⟩
 · rw[List.drop_eq_nil_of_le o_,qcG]at k2_2
   subst k2_2
   repeat' with_reducible first
    |refine s_ ?_
    |simp only[wZZ,seval,g1,g2,g6,g8,g9,g10,g7,g1,g2,g6,g7,f9,g10,od]
    |apply qc<;>intro h h_<;>(try simp only[wD,reduceCtorEq]at h_)<;>(try exact wb_)<;>(try simp only[h])
    |refine t_ ?_
   exact hQ _ ti1 gi1 vT1 (hA1.mono wl_ wl_ wl_ wg_ (fun j hj=>by first|rfl|simp only[wM])) (hT1.mono wg_ (fun j h1 hj=>by first|rfl|simp only[wM])) (by simp only[wL,seval];exact g7) (by simp only[wL,seval];exact g8) wg_ k2_3 k2_6 (by dsimp only at *;omega) (by dsimp only at *;omega)
theorem qgF {s0:St} {m ti gi:Nat} {src:Source} {vN vP vT vL:V} {M:Mk} {st:List UInt8} {E:EC} {Q:Exit→St→Prop} (h:OfAt s0 m src ti gi vN vP vT vL M) (hT:Gr s0.H s0.next 2 (M.types.map Non.V) vT) (f7:s0.f 7=.str st) (hS:Small src)
 (b1:M.toks.length≤1000000000) (b2:M.types.length≤1000000000) (b3:0≤M.level) (b4:M.level≤1000000000)
 (hQ: ∀s' ti' gi' vT',OfAt s' m src ti' gi' vN vP vT' vL (xE src.decls (M,st)).1→s'.f 7=.str (xE src.decls (M,st)).2→yV M (xE src.decls (M,st)).1→(xE src.decls (M,st)).1.toks.length≤M.toks.length+1000000→(xE src.decls (M,st)).1.types.length≤M.types.length+1000000→ewp Tryd.prog E Q s'):ewp Tryd.prog (.seq Y5 E) Q s0:=by
 generalize hR:xE src.decls (M,st)=R at hQ
 have f1:=h.f1;have f2:=h.f2;have f6:=h.f6
 have hA0:=h
 repeat' with_reducible first
  |refine s_ ?_
  |simp only[wZZ,seval,f1,f2,f6,f7]
 refine qw ?nx1 (fun(z:Nat×Mk×List UInt8) s=>s.f 1=?v1_1∧s.f 2=?v1_2∧s.f 6=?v1_6∧s.f 8=vi z.1∧(z.1≤src.decls.length)∧((∃ti gi vT,OfAt s m src ti gi vN vP vT vL z.2.1∧Gr s.H s.next 2 (z.2.1.types.map Non.V) vT))∧(xE (src.decls.drop z.1) z.2=R)∧((yV M z.2.1))∧((z.2.1.toks.length≤M.toks.length+1000 *z.1))∧((z.2.1.types.length≤M.types.length+1000 *z.1))∧((0≤z.2.1.level∧z.2.1.level≤M.level+z.1))∧(s.f 7=.str z.2.2)) (fun z=>src.decls.length - z.1) ((0,M,st)) wj_ (by refine⟨?_,?_,?_,?_,wo_,(by exact⟨ti,gi,vT,hA0.mono wl_ wl_ wl_ wh_ (fun j hj=>by simp only[wM]),hT.mono wh_ (fun j h1 hj=>by simp only[wM])⟩),(by exact hR),(by exact⟨rfl,rfl,rfl,rfl⟩),(by dsimp only;omega),(by dsimp only;omega),(by dsimp only;omega),(by(try simp only[wL,wM,wN,seval]);exact f7)⟩<;>first|(simp only[wL,wM,wN,wX,seval,Option.some.injEq]<;>exact wt_)|rfl|exact⟨_,rfl⟩) ?_
 intro z s hnx ⟨g1,g2,g6,g8,k1_0,k1_1,k1_2,k1_3,k1_4,k1_5,k1_6,g7⟩
 obtain ⟨i,M1,st1⟩:=z
 dsimp only at g7 g8 k1_0 k1_1 k1_2 k1_3 k1_4 k1_5 k1_6
 obtain ⟨ti1,gi1,vT1,hA1,hT1⟩:=k1_1
 have g1:=hA1.f1;have g2:=hA1.f2;have g6:=hA1.f6;have o0:=hA1.h0;have o1:=hA1.h1;have ln:=hA1.ln
 have hM:=hA1.at_;have hm:=hM.hm;have lm:=hM.lm;have lt:=hM.lt;have lg:=hM.lg
 obtain ⟨n1,n2,n3⟩:=hM.mt
 obtain ⟨c1,c2,c3⟩:=hM.nt
 by_cases hi:i<src.decls.length
 · rw [List.drop_eq_getElem_cons hi,Xz]at k1_2
   have hd1:=hS.ds _ (List.getElem_mem hi);have hd2:=hS.dk _ (List.getElem_mem hi);have hd3:=hS.dx _ (List.getElem_mem hi)
   have hl:=hS.dl
   have hl:=hS.dl
   have hz:IntKind.i64.wrap (M1.level+1)=M1.level+1:=wrap64 o_ o_
   show ewp _ (.seq qeY (.seq (.block 1 (.seq (.reg qeW) (.seq qfV Vh))) (.reg qe1))) _ _
   have T: ∀(s':St) (Q:Exit→St→Prop) (db:Nat),OfAt s' m src ti1 gi1 vN vP vT1 vL (Jq M1 src.decls[i])→Gr s'.H s'.next 2 (M1.types.map Non.V) vT1→s'.f 7=.str st1→s'.f 9=.ptr db 0 0→s'.H db=some (.own 4 [src.decls[i].V] false)→db<s'.next→
    (∀s2 ti' gi' vT',OfAt s2 m src ti' gi' vN vP vT' vL (jm src.decls[i] src.decls[i].syms (Jq M1 src.decls[i],st1)).1→Gr s2.H s2.next 2 ((jm src.decls[i] src.decls[i].syms (Jq M1 src.decls[i],st1)).1.types.map Non.V) vT'→s2.f 7=.str (jm src.decls[i] src.decls[i].syms (Jq M1 src.decls[i],st1)).2→s2.f 8=s'.f 8→s'.next≤s2.next→yV (Jq M1 src.decls[i]) (jm src.decls[i] src.decls[i].syms (Jq M1 src.decls[i],st1)).1→(jm src.decls[i] src.decls[i].syms (Jq M1 src.decls[i],st1)).1.level=(Jq M1 src.decls[i]).level→(jm src.decls[i] src.decls[i].syms (Jq M1 src.decls[i],st1)).1.toks.length≤M1.toks.length+src.decls[i].syms.length→(jm src.decls[i] src.decls[i].syms (Jq M1 src.decls[i],st1)).1.types.length≤M1.types.length+src.decls[i].syms.length→Q .normal s2)→ewp Tryd.prog Vh Q s':=by
    intro s' Q db q1 q2 q3 q4 q5 q6 q7
    have et:(Jq M1 src.decls[i]).types=M1.types:=by unfold Jq;split<;>rfl
    have ek:(Jq M1 src.decls[i]).toks=M1.toks:=by unfold Jq;split<;>rfl
    refine qiG q1 (by rw[et];exact q2) q3 q4 q5 q6 (by rw[ek];omega) (by rw[et];omega) hd2 hd3 fun s2 ti' gi' vT' r1 r2 r3 r4 r5 r6 r7 r8 r9=>q7 s2 ti' gi' vT' r1 r2 r3 r4 r5 r6 r7 (by rw[ek]at r8;exact r8) (by rw[et]at r9;exact r9)
   generalize Vh=E40 at T
   generalize hG:jm src.decls[i] src.decls[i].syms (Jq M1 src.decls[i],st1)=G at T
   have hGk:xE (src.decls.drop (i+1)) G=R:=by rw[← hG];exact k1_2
   have hlv:M1.level≤(Jq M1 src.decls[i]).level∧(Jq M1 src.decls[i]).level≤M1.level+1:=by unfold Jq;split<;>(try dsimp only)<;>omega
   have hsm:yV M1 (Jq M1 src.decls[i]):=by unfold Jq;split<;>exact⟨rfl,rfl,rfl,rfl⟩
   obtain ⟨sm1,sm2,sm3,sm4⟩:=k1_3
   obtain ⟨tm1,tm2,tm3,tm4⟩:=hsm
   by_cases hv:2≤src.decls[i].kind∧src.decls[i].kind≤4
   · have hlm:Jq M1 src.decls[i]={M1 with level:=M1.level+1}:=if_pos hv
     repeat' with_reducible first
      |refine s_ ?_
      |simp only[wZZ,seval,g1,g2,g6,g8,g7,g1,g2,g6,g7,g8,o0,o1,hm,hz]
      |(first|apply qc|apply zu|apply zo)<;>intro h h_<;>(try simp only[wD,reduceCtorEq]at h_)<;>(try exact wb_)<;>(try simp only[h])
      |refine t_ ?_
      |simp(disch:=omega) only[w64,if_neg]
     refine T _ _ (s.next+5+5) (hA1.upd (MkAt.keep hM (M':=Jq M1 src.decls[i]) wh_ ?_ ?_ ?_).2.1 wl_ wl_ wl_ wh_ (fun j h1 h2 h3 h4 h5=>?_)) (hT1.mono wh_ (fun j h1 hj=>?_)) (by simp only[wL,seval];exact g7) wl_ ?_ wh_ (fun s2 ti' gi' vT' r1 r2 r3 r4 r5 r6 r7 r8 r9=>?_)
     · simp only[wM]
       repeat(first|rw[if_pos trivial]|rw[if_pos rfl]|rw[if_neg o_])
       rw[hlm]
     · intro j h1 h2
       simp only[wM]
       repeat(first|rw[if_pos trivial]|rw[if_pos rfl]|rw[if_neg o_])
     · rw[hlm];exact⟨rfl,rfl,rfl,rfl,rfl,rfl⟩
     · simp only[wM]
       repeat(first|rw[if_pos trivial]|rw[if_pos rfl]|rw[if_neg o_])
     · have hne:j≠m:=fun e=>hT1.ne c1 (by rw[← e];exact h1)
       simp only[wM]
       repeat(first|rw[if_pos trivial]|rw[if_pos rfl]|rw[if_neg o_])
     · simp only[wM]
       repeat(first|rw[if_pos trivial]|rw[if_pos rfl]|rw[if_neg o_])
     · have h8:s2.f 8=vi i:=r4.trans (by simp only[wL,seval,g8])
       simp only[wN]at r5
       obtain ⟨um1,um2,um3,um4⟩:=r6
       repeat' with_reducible first
        |refine s_ ?_
        |simp only[wZZ,seval,g1,g2,g6,g8,g7,h8]
        |simp(disch:=omega) only[w64,if_neg]
       refine⟨by(try simp only[wN])<;>omega,(i+1,G),by dsimp only;omega,by rw[f1];exact r1.f1,by rw[f2];exact r1.f2,by rw[f6];exact r1.f6,rfl,by dsimp only;omega,⟨ti',gi',vT',r1.mono wl_ wl_ wl_ wg_ (fun j hj=>by first|rfl|simp only[wM]),r2.mono wg_ (fun j h1 hj=>by first|rfl|simp only[wM])⟩,hGk,⟨um1.trans (tm1.trans sm1),um2.trans (tm2.trans sm2),um3.trans (tm3.trans sm3),um4.trans (tm4.trans sm4)⟩,by dsimp only;omega,by dsimp only;omega,by dsimp only;omega,r3⟩
   · have hlm:Jq M1 src.decls[i]=M1:=if_neg hv
     repeat' with_reducible first
      |refine s_ ?_
      |simp only[wZZ,seval,g1,g2,g6,g8,g7,g1,g2,g6,g7,g8,o0,o1,hm,hz]
      |(first|apply qc|apply zu|apply zo)<;>intro h h_<;>(try simp only[wD,reduceCtorEq]at h_)<;>(try exact wb_)<;>(try simp only[h])
      |refine t_ ?_
     all_goals(refine T _ _ (s.next+5+5) (by rw[hlm];exact hA1.mono wl_ wl_ wl_ wh_ (fun j h1=>wi_)) (hT1.mono wh_ (fun j h1 hj=>wi_)) (by simp only[wL,seval];exact g7) wl_ wi_ wh_ (fun s2 ti' gi' vT' r1 r2 r3 r4 r5 r6 r7 r8 r9=>?_))
     · have h8:s2.f 8=vi i:=r4.trans (by simp only[wL,seval,g8])
       simp only[wN]at r5
       obtain ⟨um1,um2,um3,um4⟩:=r6
       repeat' with_reducible first
        |refine s_ ?_
        |simp only[wZZ,seval,g1,g2,g6,g8,g7,h8]
        |simp(disch:=omega) only[w64,if_neg]
       refine⟨by(try simp only[wN])<;>omega,(i+1,G),by dsimp only;omega,by rw[f1];exact r1.f1,by rw[f2];exact r1.f2,by rw[f6];exact r1.f6,rfl,by dsimp only;omega,⟨ti',gi',vT',r1.mono wl_ wl_ wl_ wg_ (fun j hj=>by first|rfl|simp only[wM]),r2.mono wg_ (fun j h1 hj=>by first|rfl|simp only[wM])⟩,hGk,⟨um1.trans (tm1.trans sm1),um2.trans (tm2.trans sm2),um3.trans (tm3.trans sm3),um4.trans (tm4.trans sm4)⟩,by dsimp only;omega,by dsimp only;omega,by dsimp only;omega,r3⟩
     · have h8:s2.f 8=vi i:=r4.trans (by simp only[wL,seval,g8])
       simp only[wN]at r5
       obtain ⟨um1,um2,um3,um4⟩:=r6
       repeat' with_reducible first
        |refine s_ ?_
        |simp only[wZZ,seval,g1,g2,g6,g8,g7,h8]
        |simp(disch:=omega) only[w64,if_neg]
       refine⟨by(try simp only[wN])<;>omega,(i+1,G),by dsimp only;omega,by rw[f1];exact r1.f1,by rw[f2];exact r1.f2,by rw[f6];exact r1.f6,rfl,by dsimp only;omega,⟨ti',gi',vT',r1.mono wl_ wl_ wl_ wg_ (fun j hj=>by first|rfl|simp only[wM]),r2.mono wg_ (fun j h1 hj=>by first|rfl|simp only[wM])⟩,hGk,⟨um1.trans (tm1.trans sm1),um2.trans (tm2.trans sm2),um3.trans (tm3.trans sm3),um4.trans (tm4.trans sm4)⟩,by dsimp only;omega,by dsimp only;omega,by dsimp only;omega,r3⟩
 · rw[List.drop_eq_nil_of_le o_,qcf]at k1_2
   subst k1_2
   have hl:=hS.dl
   repeat' with_reducible first
    |refine s_ ?_
    |simp only[wZZ,seval,g1,g2,g6,g8,g7,g1,g2,g6,g7,g8,o0]
    |apply qc<;>intro h h_<;>(try simp only[wD,reduceCtorEq]at h_)<;>(try exact wb_)<;>(try simp only[h])
    |refine t_ ?_
   exact hQ _ ti1 gi1 vT1 (hA1.mono wl_ wl_ wl_ wh_ (fun j hj=>by simp only[wM])) (by simp only[wL,seval];exact g7) k1_3 (by dsimp only;omega) (by dsimp only;omega)

abbrev JY (M:Mk) (l:List UInt8):Mk:=if qU l M.lefts 0<0 then {M with lefts:=M.lefts++[l]} else M
abbrev Qa (M:Mk) (r:Rule):Mk:=if 0≤YQ M.toks {name:=r.left} then zD M r.at_ r.left else M
theorem qdp (M:Mk) (r:Rule):(Qa M r).toks=M.toks∧(Qa M r).lefts=M.lefts∧(Qa M r).types=M.types∧(Qa M r).prods=M.prods∧(Qa M r).nons=M.nons∧(Qa M r).inner=M.inner:=by
 obtain ⟨ff1,ff2,ff3,ff4,ff5,ff6,ff7,ff8⟩:=zP M r.at_ r.left
 unfold Qa;split
 · exact⟨ff1,ff3,ff4,ff5,ff6,ff8⟩
 · exact⟨rfl,rfl,rfl,rfl,rfl,rfl⟩
theorem qcn (M:Mk):yu [] M=M:=rfl
theorem XP (r:Rule) (l:List Rule) (M:Mk):yu (r::l) M=yu l (JY (Qa M r) r.left):=by
 rw[yu]
 have:=(qdp M r).2.1
 unfold JY
 rw[this]
theorem qel {s:St} {m ti gi rb:Nat} {src:Source} {vN vP vT vL:V} {M:Mk} {r:Rule} {Q:Exit→St→Prop} (hO:OfAt s m src ti gi vN vP vT vL M) (hL:Gr s.H s.next 1 (M.lefts.map V.str) vL) (f12:s.f 12=.ptr rb 0 0) (hr:s.H rb=some (.own 3 [r.V] false)) (lr:rb<s.next) (b1:M.lefts.length≤1000000000)
 (hQ: ∀s' vL',OfAt s' m src ti gi vN vP vT vL' (JY M r.left)→Gr s'.H s'.next 1 ((JY M r.left).lefts.map V.str) vL'→s'.f 11=s.f 11→s'.f 7=s.f 7→s.next≤s'.next→Q .normal s'):ewp Tryd.prog VJ Q s:=by
 have f1:=hO.f1;have f2:=hO.f2;have f6:=hO.f6
 have hM:=hO.at_;have hm:=hM.hm;have lm:=hM.lm;have lt:=hM.lt;have lg:=hM.lg;have ln:=hO.ln
 obtain ⟨n1,n2,n3⟩:=hM.mt
 obtain ⟨c1,c2,c3⟩:=hM.nt
 have d1:=hL.ne c1;have d2:=hL.ne c2;have d3:=hL.ne c3
 by_cases hl:qU r.left M.lefts 0<0
 · have e:JY M r.left={M with lefts:=M.lefts++[r.left]}:=if_pos hl
   rw[e]at hQ
   repeat' with_reducible first
    |refine s_ ?_
    |simp only[wZZ,seval,f1,f2,f6,f12,hr,hm,qx d1]
    |apply qc<;>intro h h_<;>(try simp only[wD,reduceCtorEq]at h_)<;>(try exact wb_)<;>(try simp only[h])
    |apply ze (hp:=qL ?_);(focus(refine(hM.mono (Nat.le_refl _) (fun j hj=>?_)).er;(try simp only[wM]);(repeat rw[if_neg o_])));exact qI;exact wu_;exact Flat.int _ _;rotate_left;exact wf_
    |apply zy rfl (hL.mono (Nat.le_refl _) (fun id h1 h2=>by(try simp only[wM]);(repeat rw[if_neg o_])));(focus(first|exact qd.sl|exact qd.asl));(focus(simp only[wZ]<;>omega));(focus(unfold maxLen;simp only[wZ]<;>omega))
    |refine t_ ?_
    |simp(disch:=omega) only[w64,if_neg]
   refine hQ _ (.asl (s.next+5+8) (M.lefts.length+1) 1 ((M.lefts++[r.left]).map V.str)) (hO.upd ⟨?_,?_,?_,hM.eN,hM.eP,hM.eT,zZ,by simp only[wN]<;>omega,by simp only[wN]<;>omega,by simp only[wN]<;>omega,hM.len,hM.len3⟩ wl_ wl_ wl_ wh_ (fun j g1 g2 g3 g4 g5=>?_)) (Gr.tok ?_ wh_) wl_ wl_ wh_
   · simp only[wM]
     repeat first|rw[if_pos trivial]|rw[if_pos rfl]|rw[if_neg o_]|simp only[wM]|rw[qx d1]
     try simp
   · simp only[wM]
     repeat first|rw[if_pos trivial]|rw[if_pos rfl]|rw[if_neg o_]|simp only[wM]|rw[qx d2]
     exact hM.ht
   · simp only[wM]
     repeat first|rw[if_pos trivial]|rw[if_pos rfl]|rw[if_neg o_]|simp only[wM]|rw[qx d3]
     exact hM.hg
   · have d5:=hL.ne g5
     simp only[wM]
     repeat first|rw[if_pos trivial]|rw[if_pos rfl]|rw[if_neg o_]|simp only[wM]|rw[qx d5]
   · simp only[wM]
     repeat first|rw[if_pos trivial]|rw[if_pos rfl]|rw[if_neg o_]|simp only[wM]
 · have e:JY M r.left=M:=if_neg hl
   rw[e]at hQ
   repeat' with_reducible first
    |refine s_ ?_
    |simp only[wZZ,seval,f1,f2,f6,f12,hr,hm]
    |apply qc<;>intro h h_<;>(try simp only[wD,reduceCtorEq]at h_)<;>(try exact wb_)<;>(try simp only[h])
    |apply ze (hp:=qL ?_);(focus(refine(hM.mono (Nat.le_refl _) (fun j hj=>?_)).er;(try simp only[wM]);(repeat rw[if_neg o_])));exact qI;exact wu_;exact Flat.int _ _;rotate_left;exact wf_
    |refine t_ ?_
   exact hQ _ vL (hO.mono wl_ wl_ wl_ wh_ (fun j hj=>by simp only[wM])) (hL.mono wh_ (fun j h1 hj=>by simp only[wM])) wl_ wl_ wh_
theorem qif {s0:St} {m ti gi:Nat} {src:Source} {vN vP vT vL:V} {M:Mk} {E:EC} {Q:Exit→St→Prop} (h:OfAt s0 m src ti gi vN vP vT vL M) (hL:Gr s0.H s0.next 1 (M.lefts.map V.str) vL) (hS:Small src)
 (b1:M.toks.length≤1000000000) (b2:M.lefts.length≤1000000)
 (hQ: ∀s' vL',OfAt s' m src ti gi vN vP vT vL' (yu src.rules M)→s'.f 7=s0.f 7→s0.next≤s'.next→(yu src.rules M).toks.length=M.toks.length→(yu src.rules M).types.length=M.types.length→(yu src.rules M).lefts.length≤M.lefts.length+1000→(yu src.rules M).prods=M.prods→(yu src.rules M).nons=M.nons→(yu src.rules M).inner=M.inner→ewp Tryd.prog E Q s'):ewp Tryd.prog (.seq Ve E) Q s0:=by
 generalize hR:yu src.rules M=R at hQ
 have f1:=h.f1;have f2:=h.f2;have f6:=h.f6
 have hA0:=h
 repeat' with_reducible first
  |refine s_ ?_
  |simp only[wZZ,seval,f1,f2,f6]
 refine qw ?nx3 (fun(z:Nat×Mk) s=>s.f 1=?v3_1∧s.f 2=?v3_2∧s.f 6=?v3_6∧s.f 7=?v3_7∧s.f 11=vi z.1∧(z.1≤src.rules.length)∧((∃vL,OfAt s m src ti gi vN vP vT vL z.2∧Gr s.H s.next 1 (z.2.lefts.map V.str) vL))∧(yu (src.rules.drop z.1) z.2=R)∧((z.2.toks.length=M.toks.length))∧((z.2.types.length=M.types.length))∧((z.2.lefts.length≤M.lefts.length+z.1))∧((z.2.prods=M.prods))∧((z.2.nons=M.nons))∧((z.2.inner=M.inner))) (fun z=>src.rules.length - z.1) ((0,M)) wj_ (by refine⟨?_,?_,?_,?_,?_,wo_,(by exact⟨vL,hA0.mono wl_ wl_ wl_ wh_ (fun j hj=>by simp only[wM]),hL.mono wh_ (fun j h1 hj=>by simp only[wM])⟩),(by exact hR),(by rfl),(by rfl),(by dsimp only;omega),(by rfl),(by rfl),(by rfl)⟩<;>first|(simp only[wL,wM,wN,wX,seval,Option.some.injEq]<;>exact wt_)|rfl|exact⟨_,rfl⟩) ?_
 intro z s hnx ⟨g1,g2,g6,g7,g11,k3_0,k3_1,k3_2,k3_3,k3_4,k3_5,k3_6,k3_7,k3_8⟩
 obtain ⟨i,M1⟩:=z
 dsimp only at g11 k3_0 k3_1 k3_2 k3_3 k3_4 k3_5 k3_6 k3_7 k3_8
 obtain ⟨vL1,hA1,hL1⟩:=k3_1
 have hrl:=hS.rl
 have g1:=hA1.f1;have g2:=hA1.f2;have g6:=hA1.f6;have o0:=hA1.h0;have o1:=hA1.h1;have ln:=hA1.ln
 have hM:=hA1.at_;have hm:=hM.hm;have lm:=hM.lm;have lt:=hM.lt;have lg:=hM.lg
 obtain ⟨n1,n2,n3⟩:=hM.mt
 by_cases hi:i<src.rules.length
 · rw [List.drop_eq_getElem_cons hi,XP]at k3_2
   obtain ⟨u1,u2,u3,u4,u5,u6⟩:=qdp M1 src.rules[i]
   have hadd:(JY (Qa M1 src.rules[i]) src.rules[i].left).toks=(Qa M1 src.rules[i]).toks∧(JY (Qa M1 src.rules[i]) src.rules[i].left).types=(Qa M1 src.rules[i]).types∧(JY (Qa M1 src.rules[i]) src.rules[i].left).prods=(Qa M1 src.rules[i]).prods∧(JY (Qa M1 src.rules[i]) src.rules[i].left).nons=(Qa M1 src.rules[i]).nons∧(JY (Qa M1 src.rules[i]) src.rules[i].left).inner=(Qa M1 src.rules[i]).inner∧(JY (Qa M1 src.rules[i]) src.rules[i].left).lefts.length≤(Qa M1 src.rules[i]).lefts.length+1:=by
    unfold JY;split
    · exact⟨rfl,rfl,rfl,rfl,rfl,by simp⟩
    · exact⟨rfl,rfl,rfl,rfl,rfl,o_⟩
   obtain ⟨w1,w2,w3,w4,w5,w6⟩:=hadd
   show ewp _ (.seq qfH (.seq (.block 5 (.seq (.reg qfU) (.seq qfZ VJ))) (.reg qfm))) _ _
   have T: ∀(s':St) (Q:Exit→St→Prop) (rb:Nat),OfAt s' m src ti gi vN vP vT vL1 (Qa M1 src.rules[i])→Gr s'.H s'.next 1 ((Qa M1 src.rules[i]).lefts.map V.str) vL1→s'.f 12=.ptr rb 0 0→s'.H rb=some (.own 3 [src.rules[i].V] false)→rb<s'.next→(∀s2 vL',OfAt s2 m src ti gi vN vP vT vL' (JY (Qa M1 src.rules[i]) src.rules[i].left)→Gr s2.H s2.next 1 ((JY (Qa M1 src.rules[i]) src.rules[i].left).lefts.map V.str) vL'→s2.f 11=s'.f 11→s2.f 7=s'.f 7→s'.next≤s2.next→Q .normal s2)→ewp Tryd.prog VJ Q s':=
    fun s' Q rb q1 q2 q3 q4 q5 q6=>qel q1 q2 q3 q4 q5 (by rw[u2];omega) q6
   generalize VJ=E62 at T
   have hbt:M1.toks.length≤1099511627776:=o_
   by_cases hd:0≤YQ M1.toks {name:=src.rules[i].left}
   · have hdu:Qa M1 src.rules[i]=zD M1 src.rules[i].at_ src.rules[i].left:=if_pos hd
     repeat' with_reducible first
      |refine s_ ?_
      |simp only[wZZ,seval,g1,g2,g6,g7,g11,g1,g2,g6,g11,o0,hm]
      |apply qc<;>intro h h_<;>(try simp only[wD,reduceCtorEq]at h_)<;>(try exact wb_)<;>(try simp only[h])
      |apply ze (hp:=zk (x:={name:=src.rules[i].left}) hbt);(focus(refine(hM.mono (Nat.le_refl _) (fun j hj=>?_)).er;(try simp only[wM]);(repeat rw[if_neg o_])));exact qI;exact wu_;exact Flat.int _ _
      |(refine zl rfl rfl rfl ((Xe (hM.mono wh_ (fun j hj=>by(try simp only[wM]);(repeat rw[if_neg o_])))).mono ?_);rintro v1 H1 n1 ⟨q1,q2,q3⟩;(try simp only[wN]at q1);(try simp only[wM]at q3))
      |refine t_ ?_
     (try simp only[wN]at q1);(try simp only[wM,wN]at q3)
     have orr:H1 (s.next+5+5)=some (.own 3 [src.rules[i].V] false):=by rw[q3 _ o_ o_,if_pos rfl]
     have hlf:(Qa M1 src.rules[i]).lefts=M1.lefts:=u2
     have hst: ∀j,j<s.next→j≠m→H1 j=s.H j:=fun j h1 h2=>by rw[q3 j o_ h2];repeat(first|rw[if_pos trivial]|rw[if_pos rfl]|rw[if_neg o_])
     refine T _ _ (s.next+5+5) (by rw[hdu];exact hA1.upd (q2.mono wh_ (fun j hj=>by simp only[wM])) wl_ wl_ wl_ wh_ (fun j h1 h2 h3 h4 h5=>(by simp only[wM];exact hst j h1 h2))) (by rw[hlf];exact hL1.stay hM wh_ (fun j h1 h2 h3 h4=>(by simp only[wM];exact hst j h1 h2))) wl_ (by simp only[wM];exact orr) wh_ (fun s2 vL2 r1 r2 r3 r4 r5=>?_)
     have h11:s2.f 11=vi i:=r3.trans (by simp only[wL,seval,g11])
     have h7:s2.f 7=s0.f 7:=r4.trans (by simp only[wL,seval,g7])
     (try simp only[wN]at r5)
     repeat' with_reducible first
      |refine s_ ?_
      |simp only[wZZ,seval,g1,g2,g6,g7,g11,h11]
      |simp(disch:=omega) only[w64,if_neg]
     refine⟨by(try simp only[wN])<;>omega,(i+1,JY (Qa M1 src.rules[i]) src.rules[i].left),by dsimp only;omega,by rw[f1];exact r1.f1,by rw[f2];exact r1.f2,by rw[f6];exact r1.f6,h7,rfl,by dsimp only;omega,⟨vL2,r1.mono wl_ wl_ wl_ wg_ (fun j hj=>by first|rfl|simp only[wM]),r2.mono wg_ (fun j h1 hj=>by first|rfl|simp only[wM])⟩,k3_2,by dsimp only;rw[w1,u1];exact k3_3,by dsimp only;rw[w2,u3];exact k3_4,by dsimp only;rw[u2]at w6;omega,by dsimp only;rw[w3,u4];exact k3_6,by dsimp only;rw[w4,u5];exact k3_7,by dsimp only;rw[w5,u6];exact k3_8⟩
   · have hdu:Qa M1 src.rules[i]=M1:=if_neg hd
     repeat' with_reducible first
      |refine s_ ?_
      |simp only[wZZ,seval,g1,g2,g6,g7,g11,g1,g2,g6,g11,o0,hm]
      |apply qc<;>intro h h_<;>(try simp only[wD,reduceCtorEq]at h_)<;>(try exact wb_)<;>(try simp only[h])
      |apply ze (hp:=zk (x:={name:=src.rules[i].left}) hbt);(focus(refine(hM.mono (Nat.le_refl _) (fun j hj=>?_)).er;(try simp only[wM]);(repeat rw[if_neg o_])));exact qI;exact wu_;exact Flat.int _ _
      |refine t_ ?_
     refine T _ _ (s.next+5+5) (by rw[hdu];exact hA1.mono wl_ wl_ wl_ wh_ (fun j h1=>wi_)) (by rw[hdu];exact hL1.mono wh_ (fun j h1 hj=>wi_)) wl_ wi_ wh_ (fun s2 vL2 r1 r2 r3 r4 r5=>?_)
     have h11:s2.f 11=vi i:=r3.trans (by simp only[wL,seval,g11])
     have h7:s2.f 7=s0.f 7:=r4.trans (by simp only[wL,seval,g7])
     (try simp only[wN]at r5)
     repeat' with_reducible first
      |refine s_ ?_
      |simp only[wZZ,seval,g1,g2,g6,g7,g11,h11]
      |simp(disch:=omega) only[w64,if_neg]
     refine⟨by(try simp only[wN])<;>omega,(i+1,JY (Qa M1 src.rules[i]) src.rules[i].left),by dsimp only;omega,by rw[f1];exact r1.f1,by rw[f2];exact r1.f2,by rw[f6];exact r1.f6,h7,rfl,by dsimp only;omega,⟨vL2,r1.mono wl_ wl_ wl_ wg_ (fun j hj=>by first|rfl|simp only[wM]),r2.mono wg_ (fun j h1 hj=>by first|rfl|simp only[wM])⟩,k3_2,by dsimp only;rw[w1,u1];exact k3_3,by dsimp only;rw[w2,u3];exact k3_4,by dsimp only;rw[u2]at w6;omega,by dsimp only;rw[w3,u4];exact k3_6,by dsimp only;rw[w4,u5];exact k3_7,by dsimp only;rw[w5,u6];exact k3_8⟩
 · rw[List.drop_eq_nil_of_le o_,qcn]at k3_2
   subst k3_2
   repeat' with_reducible first
    |refine s_ ?_
    |simp only[wZZ,seval,g1,g2,g6,g7,g11,g1,g2,g6,g11,o0]
    |apply qc<;>intro h h_<;>(try simp only[wD,reduceCtorEq]at h_)<;>(try exact wb_)<;>(try simp only[h])
    |refine t_ ?_
   exact hQ _ vL1 (hA1.mono wl_ wl_ wl_ wh_ (fun j hj=>by simp only[wM])) (by simp only[wL,seval];exact g7) wh_ k3_3 k3_4 o_ k3_6 k3_7 k3_8

abbrev xN (M M':Mk):Prop:=M'.toks=M.toks∧M'.given=M.given∧M'.lefts=M.lefts∧M'.types=M.types∧M'.prods=M.prods∧M'.nons=M.nons∧M'.inner=M.inner
theorem xN.rfl' (M:Mk):xN M M:=⟨rfl,rfl,rfl,rfl,rfl,rfl,rfl⟩
theorem xN.fail (M:Mk) (a:Int) (n:List UInt8):xN M (zD M a n):=let ⟨f1,f2,f3,f4,f5,f6,_,f8⟩:=zP M a n;⟨f1,f2,f3,f4,f5,f6,f8⟩
theorem xN.trans' {A B C:Mk} (h:xN A B) (k:xN B C):xN A C:=⟨k.1.trans h.1,k.2.1.trans h.2.1,k.2.2.1.trans h.2.2.1,k.2.2.2.1.trans h.2.2.2.1,k.2.2.2.2.1.trans h.2.2.2.2.1,k.2.2.2.2.2.1.trans h.2.2.2.2.2.1,k.2.2.2.2.2.2.trans h.2.2.2.2.2.2⟩
abbrev qsu (M:Mk) (kind:Int) (x:Sym):Mk:=if 5≤kind∧qU x.name M.lefts 0<0 then zD M x.at_ x.name else M
theorem qtI (M:Mk) (kind:Int) (x:Sym):xN M (qsu M kind x):=by
 unfold qsu;split
 · exact xN.fail M _ _
 · exact xN.rfl' M
theorem qbK (kind:Int) (M:Mk):xU kind [] M=M:=rfl
theorem JJ (kind:Int) (x:Sym) (r:List Sym) (M:Mk):xU kind (x::r) M=xU kind r (qsu M kind x):=by rw[xU]
theorem qcz (M:Mk):Qh [] M=M:=rfl
theorem XA (d:Decl) (r:List Decl) (M:Mk):Qh (d::r) M=Qh r (xU d.kind d.syms M):=by rw[Qh]
theorem qeu {s0:St} {m ti gi i:Nat} {src:Source} {vN vP vT vL:V} {M:Mk} {Q:Exit→St→Prop} (h:OfAt s0 m src ti gi vN vP vT vL M) (hi:i<src.decls.length) (f13:s0.f 13=vi i) (hdl:src.decls.length≤1000) (hsl:src.decls[i].syms.length≤1000) (b2:M.lefts.length≤1000000000)
 (hQ: ∀s',OfAt s' m src ti gi vN vP vT vL (xU src.decls[i].kind src.decls[i].syms M)→s'.f 7=s0.f 7→s'.f 13=s0.f 13→s0.next≤s'.next→xN M (xU src.decls[i].kind src.decls[i].syms M)→Q .normal s'):ewp Tryd.prog VG Q s0:=by
 generalize hR:xU src.decls[i].kind src.decls[i].syms M=R at hQ
 have f1:=h.f1;have f2:=h.f2;have f6:=h.f6
 have hA0:=h
 repeat' with_reducible first
  |refine s_ ?_
  |simp only[wZZ,seval,f1,f2,f6]
 refine qw ?nx5 (fun(z:Nat×Mk) s=>s.f 1=?v5_1∧s.f 2=?v5_2∧s.f 6=?v5_6∧s.f 7=?v5_7∧s.f 13=?v5_13∧s.f 14=vi z.1∧(z.1≤src.decls[i].syms.length)∧((OfAt s m src ti gi vN vP vT vL z.2))∧(xU src.decls[i].kind (src.decls[i].syms.drop z.1) z.2=R)∧((xN M z.2))) (fun z=>src.decls[i].syms.length - z.1) ((0,M)) wj_ (by refine⟨?_,?_,?_,?_,?_,?_,wo_,(by exact hA0.mono wl_ wl_ wl_ wg_ (fun j hj=>by first|rfl|simp only[wM])),(by exact hR),(by exact xN.rfl' M)⟩<;>first|(simp only[wL,wM,wN,wX,seval,Option.some.injEq]<;>exact wt_)|rfl|exact⟨_,rfl⟩) ?_
 intro z s hnx ⟨g1,g2,g6,g7,g13,g14,k5_0,k5_1,k5_2,k5_3⟩
 obtain ⟨k,M1⟩:=z
 dsimp only at g14 k5_0 k5_1 k5_2 k5_3
 have hA1:=k5_1
 have g1:=hA1.f1;have g2:=hA1.f2;have g6:=hA1.f6;have o0:=hA1.h0;have ln:=hA1.ln
 have hM:=hA1.at_;have hm:=hM.hm;have lm:=hM.lm;have lt:=hM.lt;have lg:=hM.lg
 obtain ⟨n1,n2,n3⟩:=hM.mt
 have hgd:src.decls[i]?=some src.decls[i]:=ge_ hi
 have hbt:M1.lefts.length≤1099511627776:=by rw[k5_3.2.2.1];omega
 by_cases hk:k<src.decls[i].syms.length
 · rw [List.drop_eq_getElem_cons hk,JJ]at k5_2
   by_cases hu:5≤src.decls[i].kind∧qU src.decls[i].syms[k].name M1.lefts 0<0
   · have e:qsu M1 src.decls[i].kind src.decls[i].syms[k]=zD M1 src.decls[i].syms[k].at_ src.decls[i].syms[k].name:=if_pos hu
     rw[e]at k5_2
     repeat' with_reducible first
      |refine s_ ?_
      |simp only[wZZ,seval,g1,g2,g6,g7,g13,g14,g1,g2,g6,f13,g14,o0,hm]
      |(first|apply qc|apply zu|apply zo)<;>intro h h_<;>(try simp only[wD,reduceCtorEq]at h_)<;>(try exact wb_)<;>(try simp only[h])
      |apply ze (hp:=qL ?_);(focus(refine(hM.mono (Nat.le_refl _) (fun j hj=>?_)).er;(try simp only[wM]);(repeat rw[if_neg o_])));exact qI;exact wu_;exact Flat.int _ _;rotate_left;exact wf_
      |(refine zl rfl rfl rfl ((Xe (hM.mono wh_ (fun j hj=>by(try simp only[wM]);(repeat rw[if_neg o_])))).mono ?_);rintro v1 H1 n1 ⟨q1,q2,q3⟩;(try simp only[wN]at q1);(try simp only[wM]at q3))
      |refine t_ ?_
      |simp(disch:=omega) only[w64,if_neg]
     (try simp only[wN]at q1);(try simp only[wM,wN]at q3)
     have hst: ∀j,j<s.next→j≠m→H1 j=s.H j:=fun j h1 h2=>by rw[q3 j o_ h2];repeat(first|rw[if_pos trivial]|rw[if_pos rfl]|rw[if_neg o_])
     refine⟨by(try simp only[wN])<;>omega,(k+1,zD M1 src.decls[i].syms[k].at_ src.decls[i].syms[k].name),by dsimp only;omega,f1.symm,f2.symm,f6.symm,by first|trivial|rfl,by first|trivial|rfl,rfl,by dsimp only;omega,hA1.upd (q2.mono wg_ (fun j hj=>by first|rfl|simp only[wM])) wl_ wl_ wl_ wg_ (fun j h1 h2 h3 h4 h5=>(by(try simp only[wM]);exact hst j h1 h2)),k5_2,k5_3.trans' (xN.fail M1 _ _)⟩
   · have e:qsu M1 src.decls[i].kind src.decls[i].syms[k]=M1:=if_neg hu
     rw[e]at k5_2
     repeat' with_reducible first
      |refine s_ ?_
      |simp only[wZZ,seval,g1,g2,g6,g7,g13,g14,g1,g2,g6,f13,g14,o0,hm]
      |(first|apply qc|apply zu|apply zo)<;>intro h h_<;>(try simp only[wD,reduceCtorEq]at h_)<;>(try exact wb_)<;>(try simp only[h])
      |apply ze (hp:=qL ?_);(focus(refine(hM.mono (Nat.le_refl _) (fun j hj=>?_)).er;(try simp only[wM]);(repeat rw[if_neg o_])));exact qI;exact wu_;exact Flat.int _ _;rotate_left;exact wf_
      |refine t_ ?_
      |simp(disch:=omega) only[w64,if_neg]
     all_goals(refine⟨by(try simp only[wN])<;>omega,(k+1,M1),by dsimp only;omega,f1.symm,f2.symm,f6.symm,by first|trivial|rfl,by first|trivial|rfl,rfl,by dsimp only;omega,hA1.mono wl_ wl_ wl_ wg_ (fun j hj=>(by(try simp only[wM]);repeat(first|rw[if_pos trivial]|rw[if_pos rfl]|rw[if_neg o_]))),k5_2,k5_3⟩)
 · rw[List.drop_eq_nil_of_le o_,qbK]at k5_2
   subst k5_2
   repeat' with_reducible first
    |refine s_ ?_
    |simp only[wZZ,seval,g1,g2,g6,g7,g13,g14,g1,g2,g6,f13,g14,o0]
    |apply qc<;>intro h h_<;>(try simp only[wD,reduceCtorEq]at h_)<;>(try exact wb_)<;>(try simp only[h])
    |refine t_ ?_
   exact hQ _ (hA1.mono wl_ wl_ wl_ wg_ (fun j hj=>by first|rfl|simp only[wM])) (by simp only[wL,seval];exact g7) (by simp only[wL,seval];exact g13) wh_ k5_3
theorem qiF {s0:St} {m ti gi:Nat} {src:Source} {vN vP vT vL:V} {M:Mk} {E:EC} {Q:Exit→St→Prop} (h:OfAt s0 m src ti gi vN vP vT vL M) (hS:Small src) (b2:M.lefts.length≤1000000000)
 (hQ: ∀s',OfAt s' m src ti gi vN vP vT vL (Qh src.decls M)→s'.f 7=s0.f 7→s0.next≤s'.next→xN M (Qh src.decls M)→ewp Tryd.prog E Q s'):ewp Tryd.prog (.seq VD E) Q s0:=by
 generalize hR:Qh src.decls M=R at hQ
 have f1:=h.f1;have f2:=h.f2;have f6:=h.f6
 have hA0:=h
 have hdl:=hS.dl
 repeat' with_reducible first
  |refine s_ ?_
  |simp only[wZZ,seval,f1,f2,f6]
 refine qw ?nx4 (fun(z:Nat×Mk) s=>s.f 1=?v4_1∧s.f 2=?v4_2∧s.f 6=?v4_6∧s.f 7=?v4_7∧s.f 13=vi z.1∧(z.1≤src.decls.length)∧((OfAt s m src ti gi vN vP vT vL z.2))∧(Qh (src.decls.drop z.1) z.2=R)∧((xN M z.2))) (fun z=>src.decls.length - z.1) ((0,M)) wj_ (by refine⟨?_,?_,?_,?_,?_,wo_,(by exact hA0.mono wl_ wl_ wl_ wg_ (fun j hj=>by first|rfl|simp only[wM])),(by exact hR),(by exact xN.rfl' M)⟩<;>first|(simp only[wL,wM,wN,wX,seval,Option.some.injEq]<;>exact wt_)|rfl|exact⟨_,rfl⟩) ?_
 intro z s hnx ⟨g1,g2,g6,g7,g13,k4_0,k4_1,k4_2,k4_3⟩
 obtain ⟨i,M1⟩:=z
 dsimp only at g13 k4_0 k4_1 k4_2 k4_3
 have hA1:=k4_1
 have g1:=hA1.f1;have g2:=hA1.f2;have g6:=hA1.f6;have o0:=hA1.h0;have ln:=hA1.ln
 by_cases hi:i<src.decls.length
 · rw[List.drop_eq_getElem_cons hi,XA]at k4_2
   have hgd:src.decls[i]?=some src.decls[i]:=ge_ hi
   have T: ∀(s':St) (Q:Exit→St→Prop),OfAt s' m src ti gi vN vP vT vL M1→s'.f 13=vi i→(∀s2,OfAt s2 m src ti gi vN vP vT vL (xU src.decls[i].kind src.decls[i].syms M1)→s2.f 7=s'.f 7→s2.f 13=s'.f 13→s'.next≤s2.next→xN M1 (xU src.decls[i].kind src.decls[i].syms M1)→Q .normal s2)→ewp Tryd.prog VG Q s':=
    fun s' Q q1 q2 q3=>qeu q1 hi q2 hdl (hS.ds _ (List.getElem_mem hi)) (by rw[k4_3.2.2.1];omega) q3
   show ewp _ (.seq qe5 (.seq (.block 7 VG) (.reg qeP))) _ _
   generalize VG=E92 at T
   generalize hG:xU src.decls[i].kind src.decls[i].syms M1=G at T k4_2
   repeat' with_reducible first
    |refine s_ ?_
    |simp only[wZZ,seval,g1,g2,g6,g7,g13,g1,g2,g6,g13,o0]
    |apply qc<;>intro h h_<;>(try simp only[wD,reduceCtorEq]at h_)<;>(try exact wb_)<;>(try simp only[h])
    |refine t_ ?_
   refine T _ _ (hA1.mono wl_ wl_ wl_ wg_ (fun j hj=>by first|rfl|simp only[wM])) (by simp only[wL,seval,g13]) (fun s2 r1 r2 r3 r4 r5=>?_)
   have h13:s2.f 13=vi i:=r3.trans (by simp only[wL,seval,g13])
   have h7:s2.f 7=s0.f 7:=r2.trans (by simp only[wL,seval,g7])
   (try simp only[wN]at r4)
   repeat' with_reducible first
    |refine s_ ?_
    |simp only[wZZ,seval,g1,g2,g6,g7,g13,h13]
    |simp(disch:=omega) only[w64,if_neg]
   refine⟨by(try simp only[wN])<;>omega,(i+1,G),by dsimp only;omega,by rw[f1];exact r1.f1,by rw[f2];exact r1.f2,by rw[f6];exact r1.f6,h7,rfl,by dsimp only;omega,r1.mono wl_ wl_ wl_ wg_ (fun j hj=>by first|rfl|simp only[wM]),k4_2,k4_3.trans' r5⟩
 · rw[List.drop_eq_nil_of_le o_,qcz]at k4_2
   subst k4_2
   repeat' with_reducible first
    |refine s_ ?_
    |simp only[wZZ,seval,g1,g2,g6,g7,g13,g1,g2,g6,g13,o0]
    |apply qc<;>intro h h_<;>(try simp only[wD,reduceCtorEq]at h_)<;>(try exact wb_)<;>(try simp only[h])
    |refine t_ ?_
   exact hQ _ (hA1.mono wl_ wl_ wl_ wg_ (fun j hj=>by first|rfl|simp only[wM])) (by simp only[wL,seval];exact g7) wh_ k4_3

abbrev Ql (src:Source) (st:List UInt8):List UInt8:=if st=[]then(src.rules.headD {}).left else st
abbrev firstM (M:Mk) (start:List UInt8):Mk:={M with prods:=[{left:=0,right:=[1001+qU start M.lefts 0],prec:= -1}]}
abbrev qe0 (M:Mk) (start:List UInt8):V:= .agg [vi 0,.sl 1 true [vi (1001+qU start M.lefts 0)],vi (-1),.str [],.sl 1 true [],vi 0]
theorem qb1 {s0:St} {m ti gi:Nat} {src:Source} {vN vP vT vL:V} {M:Mk} {start:List UInt8} {E:EC} {Q:Exit→St→Prop} (h:OfAt s0 m src ti gi vN vP vT vL M) (f7:s0.f 7=.str start) (b2:M.lefts.length≤1000000000)
 (hQ: ∀s',OfAt s' m src ti gi vN (.sl 6 true [qe0 M start]) vT vL (firstM M start)→s0.next≤s'.next→ewp Tryd.prog E Q s'):ewp Tryd.prog (.seq (.reg JU) E) Q s0:=by
 have hA0:=h
 have f1:=h.f1;have f2:=h.f2;have f6:=h.f6
 have hM:=h.at_;have hm:=hM.hm;have lm:=hM.lm;have lt:=hM.lt;have lg:=hM.lg;have ln:=h.ln
 obtain ⟨n1,n2,n3⟩:=hM.mt
 have hbd:=xq start M.lefts 0
 have hz:IntKind.i64.wrap (1001+qU start M.lefts 0)=1001+qU start M.lefts 0:=wrap64 o_ o_
 repeat' with_reducible first
  |refine zI ?_
  |simp only[wZZ,seval,f1,f2,f6,f7,hm,hz]
  |apply ze (hp:=qL ?_);(focus(refine(hM.mono (Nat.le_refl _) (fun j hj=>?_)).er;(try simp only[wM]);(repeat rw[if_neg o_])));exact qI;exact wu_;exact Flat.int _ _;rotate_left;exact wf_
  |refine t_ ?_
 refine hQ _ (hA0.upd ⟨?_,?_,?_,hM.eN,?_,hM.eT,hM.eL,by simp only[wN]<;>omega,by simp only[wN]<;>omega,by simp only[wN]<;>omega,hM.len,hM.len3⟩ wl_ wl_ wl_ wh_ (fun j g1 g2 g3 g4 g5=>?_)) wh_
 · simp only[wM]
   repeat(first|rw[if_pos trivial]|rw[if_pos rfl]|rw[if_neg o_])
 · simp only[wM]
   repeat(first|rw[if_pos trivial]|rw[if_pos rfl]|rw[if_neg o_])
   exact hM.ht
 · simp only[wM]
   repeat(first|rw[if_pos trivial]|rw[if_pos rfl]|rw[if_neg o_])
   exact hM.hg
 · exact ErL.sl (.cons (ErL.agg (.cons (.int _ _) (.cons (ErL.sl (.cons (.int _ _) .nil)) (.cons (.int _ _) (.cons (.str _) (.cons (ErL.sl .nil) (.cons (.int _ _) .nil))))))) .nil)
 · simp only[wM]
   repeat(first|rw[if_pos trivial]|rw[if_pos rfl]|rw[if_neg o_])
theorem qce {s0:St} {m ti gi:Nat} {src:Source} {vN vP vT vL:V} {M:Mk} {st:List UInt8} {E:EC} {Q:Exit→St→Prop} (h:OfAt s0 m src ti gi vN vP vT vL M) (f7:s0.f 7=.str st) (hr:0<src.rules.length)
 (hQ: ∀s',OfAt s' m src ti gi vN vP vT vL M→s'.f 7=.str (Ql src st)→s0.next≤s'.next→ewp Tryd.prog E Q s'):ewp Tryd.prog (.seq Jg E) Q s0:=by
 have hA0:=h
 have f1:=h.f1;have f2:=h.f2;have f6:=h.f6;have o0:=h.h0;have ln:=h.ln
 by_cases hs:st=[]
 · have hg:src.rules[(0:Int).toNat]?=some (src.rules.headD {}):=by
    cases hrs:src.rules with
    |nil=>rw[hrs]at hr;simp at hr
    |cons a r=>rfl
   have e:Ql src st=(src.rules.headD {}).left:=if_pos hs
   rw[e]at hQ
   repeat' with_reducible first
    |refine s_ ?_
    |simp only[wZZ,seval,f1,f2,f6,f7,o0,hs]
    |refine t_ ?_
   exact hQ _ (hA0.mono wl_ wl_ wl_ wg_ (fun j hj=>by first|rfl|simp only[wM])) wl_ wh_
 · have e:Ql src st=st:=if_neg hs
   rw[e]at hQ
   repeat' with_reducible first
    |refine s_ ?_
    |simp only[wZZ,seval,f1,f2,f6,f7,o0]
    |apply qc<;>intro h h_<;>(try simp only[wD,reduceCtorEq]at h_)<;>(try exact wb_)<;>(try simp only[h])
   exact hQ _ (hA0.mono wl_ wl_ wl_ wg_ (fun j hj=>by first|rfl|simp only[wM])) (by simp only[wL,seval];exact f7) wh_
theorem qfp (M:Mk) (n:List UInt8) (a:Alt):(Xc M n a).lefts=M.lefts∧(Xc M n a).types=M.types∧(Xc M n a).nons=M.nons∧(Xc M n a).toks.length≤M.toks.length+a.parts.length+1∧M.toks.length≤(Xc M n a).toks.length∧M.inner≤(Xc M n a).inner∧(Xc M n a).inner≤M.inner+a.parts.length:=by
 rw[qcq M n a _ _ rfl rfl]
 obtain ⟨h1,h2,h3,h4,h5,h6,h7,h8,h9,h10⟩:=Js a.parts M {left:=1+qU n M.lefts 0,prec:= -1,at_:=a.at_}
 generalize jb a.parts (M,{left:=1+qU n M.lefts 0,prec:= -1,at_:=a.at_})=q at *
 generalize ({q.2 with prec:=yg q.2.right (-1)}:GPr).prec=pr
 obtain ⟨k1,k2,k3,k4,k5,k6,k7⟩:=qtC q.1 a.prec pr
 exact⟨k1.trans h1,k3.trans h2,k4.trans h3,by show (JI q.1 a.prec pr).1.toks.length≤_;omega,by show _≤(JI q.1 a.prec pr).1.toks.length;omega,by show _≤(JI q.1 a.prec pr).1.inner;omega,by show (JI q.1 a.prec pr).1.inner≤_;omega⟩
theorem qbz (n:List UInt8) (M:Mk):jg n [] M=M:=rfl
theorem vJ (n:List UInt8) (a:Alt) (r:List Alt) (M:Mk):jg n (a::r) M=jg n r (Xc M n a):=by rw[jg]
theorem qb8 (M:Mk):yY [] M=M:=rfl
theorem kY (r:Rule) (l:List Rule) (M:Mk):yY (r::l) M=yY l (jg r.left r.alts M):=by rw[yY]

abbrev qdv (M M':Mk):Prop:=M'.lefts=M.lefts∧M'.types=M.types∧M'.nons=M.nons∧M.inner≤M'.inner∧M.toks.length≤M'.toks.length
theorem qeE {s0:St} {m ti gi i:Nat} {src:Source} {vN vP vT vL:V} {ps:List V} {M:Mk} {Q:Exit→St→Prop} (h:OfAt s0 m src ti gi vN vP vT vL M) (hP:Gr s0.H s0.next 6 ps vP) (heP:QR ps (M.prods.map GPr.V)) (hi:i<src.rules.length) (f16:s0.f 16=vi i) (hS:Small src)
 (b1:M.toks.length≤10000000000) (b2:M.lefts.length≤1000000000) (b3:ps.length≤10000000000) (b4:0≤M.inner) (b5:M.inner≤10000000000)
 (hQ: ∀s' ti' gi' vP' ps',OfAt s' m src ti' gi' vN vP' vT vL (jg src.rules[i].left src.rules[i].alts M)→Gr s'.H s'.next 6 ps' vP'→QR ps' ((jg src.rules[i].left src.rules[i].alts M).prods.map GPr.V)→s'.f 16=s0.f 16→s0.next≤s'.next→qdv M (jg src.rules[i].left src.rules[i].alts M)→(jg src.rules[i].left src.rules[i].alts M).toks.length≤M.toks.length+1001000→ps'.length≤ps.length+1001000→(jg src.rules[i].left src.rules[i].alts M).inner≤M.inner+1000000→Q .normal s'):ewp Tryd.prog Je Q s0:=by
 generalize hR:jg src.rules[i].left src.rules[i].alts M=R at hQ
 have f1:=h.f1;have f2:=h.f2;have f6:=h.f6
 have hA0:=h
 have hrl:=hS.rl;have hal:=hS.ra _ (List.getElem_mem hi);have hpl:=hS.rp _ (List.getElem_mem hi);have hxl:=hS.rx _ (List.getElem_mem hi);have hql:=hS.rq _ (List.getElem_mem hi)
 repeat' with_reducible first
  |refine s_ ?_
  |simp only[wZZ,seval,f1,f2,f6]
 refine qw ?nx7 (fun(z:Nat×Mk) s=>s.f 1=?v7_1∧s.f 2=?v7_2∧s.f 6=?v7_6∧s.f 16=?v7_16∧s.f 17=vi z.1∧(z.1≤src.rules[i].alts.length)∧((∃ti gi vP ps1,OfAt s m src ti gi vN vP vT vL z.2∧Gr s.H s.next 6 ps1 vP∧QR ps1 (z.2.prods.map GPr.V)∧ps1.length≤ps.length+1001 *z.1))∧(jg src.rules[i].left (src.rules[i].alts.drop z.1) z.2=R)∧((qdv M z.2))∧((z.2.toks.length≤M.toks.length+1001 *z.1))∧((z.2.inner≤M.inner+1000 *z.1))) (fun z=>src.rules[i].alts.length - z.1) ((0,M)) wj_ (by refine⟨?_,?_,?_,?_,?_,wo_,(by exact⟨ti,gi,vP,ps,hA0.mono wl_ wl_ wl_ wg_ (fun j hj=>by first|rfl|simp only[wM]),hP.mono wg_ (fun j h1 hj=>by first|rfl|simp only[wM]),heP,by dsimp only;omega⟩),(by exact hR),(by exact⟨rfl,rfl,rfl,Int.le_refl _,Nat.le_refl _⟩),(by dsimp only;omega),(by dsimp only;omega)⟩<;>first|(simp only[wL,wM,wN,wX,seval,Option.some.injEq]<;>exact wt_)|rfl|exact⟨_,rfl⟩) ?_
 intro z s hnx ⟨g1,g2,g6,g16,g17,k7_0,k7_1,k7_2,k7_3,k7_4,k7_5⟩
 obtain ⟨k,M1⟩:=z
 dsimp only at g17 k7_0 k7_1 k7_2 k7_3 k7_4 k7_5
 obtain ⟨ti1,gi1,vP1,ps1,hA1,hP1,heP1,hl1⟩:=k7_1
 have g1:=hA1.f1;have g2:=hA1.f2;have g6:=hA1.f6;have o0:=hA1.h0;have ln:=hA1.ln
 have hM:=hA1.at_;have hm:=hM.hm;have lm:=hM.lm;have lt:=hM.lt;have lg:=hM.lg
 have hgd:src.rules[i]?=some src.rules[i]:=ge_ hi
 obtain ⟨sm1,sm2,sm3,sm4,sm5⟩:=k7_3
 by_cases hk:k<src.rules[i].alts.length
 · rw[List.drop_eq_getElem_cons hk,vJ]at k7_2
   have hm1:=hpl _ (List.getElem_mem hk);have hm2:=hxl _ (List.getElem_mem hk);have hm3:=hql _ (List.getElem_mem hk)
   obtain ⟨y1,y2,y3,y4,y5,y6,y7⟩:=qfp M1 src.rules[i].left src.rules[i].alts[k]
   have hlf:M1.lefts.length≤274877906944:=by rw[sm1];omega
   repeat' with_reducible first
    |refine s_ ?_
    |simp only[wZZ,seval,g1,g2,g6,g16,g17,g1,g2,g6,f16,g17,o0,hm]
    |apply qc<;>intro h h_<;>(try simp only[wD,reduceCtorEq]at h_)<;>(try exact wb_)<;>(try simp only[h])
    |(refine zl rfl rfl rfl ((qCL (hM.mono wh_ (fun j hj=>by simp only[wM])) (hP1.mono wh_ (fun j h1 hj=>by simp only[wM])) heP1 o_ hlf o_ o_ o_ o_ hm2 hm3).mono ?_);rintro v1 H1 n1 ⟨q1,⟨ti',gi',vP',ps',q2,q3,q4,q5,q7,q8⟩,q6⟩;(try simp only[wN]at q1))
    |refine t_ ?_
    |simp(disch:=omega) only[w64,if_neg]
   have q6': ∀j,j<s.next→j≠m→j≠ti1→j≠gi1→(∀f,s.H j≠some (.tok f))→H1 j=s.H j:=fun j h1 h2 h3 h4 h5=>q6 j wh_ h2 h3 h4 (by simp only[wM];exact h5)
   refine⟨by(try simp only[wN])<;>omega,(k+1,Xc M1 src.rules[i].left src.rules[i].alts[k]),by dsimp only;omega,f1.symm,f2.symm,f6.symm,by first|trivial|rfl,rfl,by dsimp only;omega,⟨ti',gi',vP',ps',hA1.upd (q4.mono wg_ (fun j hj=>by first|rfl|simp only[wM])) wl_ wl_ wl_ wg_ (fun j h1 h2 h3 h4 h5=>(by(try simp only[wM]);exact q6' j h1 h2 h3 h4 h5)),q5.mono wg_ (fun j h1 hj=>by first|rfl|simp only[wM]),q7,by dsimp only;omega⟩,k7_2,⟨y1.trans sm1,y2.trans sm2,y3.trans sm3,Int.le_trans sm4 y6,Nat.le_trans sm5 y5⟩,by dsimp only;omega,by dsimp only;omega⟩
 · rw[List.drop_eq_nil_of_le o_,qbz]at k7_2
   subst k7_2
   repeat' with_reducible first
    |refine s_ ?_
    |simp only[wZZ,seval,g1,g2,g6,g16,g17,g1,g2,g6,f16,g17,o0]
    |apply qc<;>intro h h_<;>(try simp only[wD,reduceCtorEq]at h_)<;>(try exact wb_)<;>(try simp only[h])
    |refine t_ ?_
   exact hQ _ ti1 gi1 vP1 ps1 (hA1.mono wl_ wl_ wl_ wg_ (fun j hj=>by first|rfl|simp only[wM])) (hP1.mono wg_ (fun j h1 hj=>by first|rfl|simp only[wM])) heP1 (by simp only[wL,seval];exact g16) wh_ ⟨sm1,sm2,sm3,sm4,sm5⟩ o_ o_ o_
theorem qgm {s0:St} {m ti gi:Nat} {src:Source} {vN vP vT vL:V} {ps:List V} {M:Mk} {E:EC} {Q:Exit→St→Prop} (h:OfAt s0 m src ti gi vN vP vT vL M) (hP:Gr s0.H s0.next 6 ps vP) (heP:QR ps (M.prods.map GPr.V)) (hS:Small src)
 (b1:M.toks.length≤1000000000) (b2:M.lefts.length≤1000000000) (b3:ps.length≤1000000000) (b4:0≤M.inner) (b5:M.inner≤1000000000)
 (hQ: ∀s' ti' gi' vP',OfAt s' m src ti' gi' vN vP' vT vL (yY src.rules M)→s0.next≤s'.next→qdv M (yY src.rules M)→(yY src.rules M).toks.length≤M.toks.length+1001000000→(yY src.rules M).prods.length≤ps.length+1001000000→(yY src.rules M).inner≤M.inner+1000000000→ewp Tryd.prog E Q s'):ewp Tryd.prog (.seq Jk E) Q s0:=by
 generalize hR:yY src.rules M=R at hQ
 have f1:=h.f1;have f2:=h.f2;have f6:=h.f6
 have hA0:=h
 have hrl:=hS.rl
 repeat' with_reducible first
  |refine s_ ?_
  |simp only[wZZ,seval,f1,f2,f6]
 refine qw ?nx6 (fun(z:Nat×Mk) s=>s.f 1=?v6_1∧s.f 2=?v6_2∧s.f 6=?v6_6∧s.f 16=vi z.1∧(z.1≤src.rules.length)∧((∃ti gi vP ps1,OfAt s m src ti gi vN vP vT vL z.2∧Gr s.H s.next 6 ps1 vP∧QR ps1 (z.2.prods.map GPr.V)∧ps1.length≤ps.length+z.1 *1001000))∧(yY (src.rules.drop z.1) z.2=R)∧((qdv M z.2))∧((z.2.toks.length≤M.toks.length+z.1 *1001000))∧((z.2.inner≤M.inner+1000 *(1000 *z.1)))) (fun z=>src.rules.length - z.1) ((0,M)) wj_ (by refine⟨?_,?_,?_,?_,wo_,(by exact⟨ti,gi,vP,ps,hA0.mono wl_ wl_ wl_ wg_ (fun j hj=>by first|rfl|simp only[wM]),hP.mono wg_ (fun j h1 hj=>by first|rfl|simp only[wM]),heP,by dsimp only;omega⟩),(by exact hR),(by exact⟨rfl,rfl,rfl,Int.le_refl _,Nat.le_refl _⟩),(by dsimp only;omega),(by dsimp only;omega)⟩<;>first|(simp only[wL,wM,wN,wX,seval,Option.some.injEq]<;>exact wt_)|rfl|exact⟨_,rfl⟩) ?_
 intro z s hnx ⟨g1,g2,g6,g16,k6_0,k6_1,k6_2,k6_3,k6_4,k6_5⟩
 obtain ⟨i,M1⟩:=z
 dsimp only at g16 k6_0 k6_1 k6_2 k6_3 k6_4 k6_5
 obtain ⟨ti1,gi1,vP1,ps1,hA1,hP1,heP1,hl1⟩:=k6_1
 have g1:=hA1.f1;have g2:=hA1.f2;have g6:=hA1.f6;have o0:=hA1.h0;have ln:=hA1.ln
 obtain ⟨sm1,sm2,sm3,sm4,sm5⟩:=k6_3
 by_cases hi:i<src.rules.length
 · rw[List.drop_eq_getElem_cons hi,kY]at k6_2
   have hgd:src.rules[i]?=some src.rules[i]:=ge_ hi
   have T: ∀(s':St) (Q:Exit→St→Prop),OfAt s' m src ti1 gi1 vN vP1 vT vL M1→Gr s'.H s'.next 6 ps1 vP1→s'.f 16=vi i→(∀s2 ti' gi' vP' ps',OfAt s2 m src ti' gi' vN vP' vT vL (jg src.rules[i].left src.rules[i].alts M1)→Gr s2.H s2.next 6 ps' vP'→QR ps' ((jg src.rules[i].left src.rules[i].alts M1).prods.map GPr.V)→s2.f 16=s'.f 16→s'.next≤s2.next→qdv M1 (jg src.rules[i].left src.rules[i].alts M1)→(jg src.rules[i].left src.rules[i].alts M1).toks.length≤M1.toks.length+1001000→ps'.length≤ps1.length+1001000→(jg src.rules[i].left src.rules[i].alts M1).inner≤M1.inner+1000000→Q .normal s2)→ewp Tryd.prog Je Q s':=
    fun s' Q q1 q2 q3 q4=>qeE q1 q2 heP1 hi q3 hS o_ (by rw[sm1];omega) o_ o_ o_ q4
   show ewp _ (.seq qdt (.seq (.block 11 Je) (.reg qbV))) _ _
   generalize Je=E120 at T
   generalize hG:jg src.rules[i].left src.rules[i].alts M1=G at T k6_2
   repeat' with_reducible first
    |refine s_ ?_
    |simp only[wZZ,seval,g1,g2,g6,g16,g1,g2,g6,g16,o0]
    |apply qc<;>intro h h_<;>(try simp only[wD,reduceCtorEq]at h_)<;>(try exact wb_)<;>(try simp only[h])
    |refine t_ ?_
   refine T _ _ (hA1.mono wl_ wl_ wl_ wg_ (fun j hj=>by first|rfl|simp only[wM])) (hP1.mono wg_ (fun j h1 hj=>by first|rfl|simp only[wM])) (by simp only[wL,seval,g16]) (fun s2 ti' gi' vP' ps' r1 r2 r3 r4 r5 r6 r7 r8 r9=>?_)
   have h16:s2.f 16=vi i:=r4.trans (by simp only[wL,seval,g16])
   (try simp only[wN]at r5)
   obtain ⟨y1,y2,y3,y6,y5⟩:=r6
   repeat' with_reducible first
    |refine s_ ?_
    |simp only[wZZ,seval,g1,g2,g6,g16,h16]
    |simp(disch:=omega) only[w64,if_neg]
   refine⟨by(try simp only[wN])<;>omega,(i+1,G),by dsimp only;omega,by rw[f1];exact r1.f1,by rw[f2];exact r1.f2,by rw[f6];exact r1.f6,rfl,by dsimp only;omega,⟨ti',gi',vP',ps',r1.mono wl_ wl_ wl_ wg_ (fun j hj=>by first|rfl|simp only[wM]),r2.mono wg_ (fun j h1 hj=>by first|rfl|simp only[wM]),r3,by dsimp only;omega⟩,k6_2,⟨y1.trans sm1,y2.trans sm2,y3.trans sm3,Int.le_trans sm4 y6,Nat.le_trans sm5 y5⟩,by dsimp only;omega,by dsimp only;omega⟩
 · rw[List.drop_eq_nil_of_le o_,qb8]at k6_2
   subst k6_2
   have hlp:=heP1.len
   rw[List.length_map]at hlp
   repeat' with_reducible first
    |refine s_ ?_
    |simp only[wZZ,seval,g1,g2,g6,g16,g1,g2,g6,g16,o0]
    |apply qc<;>intro h h_<;>(try simp only[wD,reduceCtorEq]at h_)<;>(try exact wb_)<;>(try simp only[h])
    |refine t_ ?_
   exact hQ _ ti1 gi1 vP1 (hA1.mono wl_ wl_ wl_ wg_ (fun j hj=>by first|rfl|simp only[wM])) wh_ ⟨sm1,sm2,sm3,sm4,sm5⟩ o_ o_ o_

set_option maxRecDepth 10000
def J8:Nat→Nat→List UInt8→List UInt8
 |0,_,s=>s
 |f+1,u,s=>if 0<u∨s=[]then J8 f (u / 10) (UInt8.ofNat (48+u % 10)::s)else s
def qm0:Nat→Nat
 |0=>1
 |n+1=>10 *qm0 n
def qdx (n:Nat):List UInt8:=J8 25 n []
theorem Vm: ∀(f u:Nat) (s:List UInt8),(J8 f u s).length≤s.length+f
 |0,_,s=>by unfold J8;omega
 | f +1,u,s=>by
   unfold J8;split
   · have:=Vm f (u / 10) (UInt8.ofNat (48+u % 10)::s)
     rw[List.length_cons]at this;omega
   · omega
theorem xG {n:Nat} (hn:n≤4611686018427387904):Pure Tryd.prog 25 [vi n] (.str (qdx n)):=by
 refine pure_intro Tryd.func25 nm_ qqY (by show 1≤32;decide) ?_
 show ewp _ qfq _ _
 have e:qdx n=J8 25 n []:=rfl
 rw[e]
 generalize hR:J8 25 n []=R
 have hz:IntKind.u64.wrap (n:Int)=(n:Int):=KA o_ o_
 repeat' with_reducible first
  |refine s_ ?_
  |simp only[wZZ,seval,hz]
  |apply qc<;>intro h h_<;>(try simp only[wD,reduceCtorEq]at h_)<;>(try exact wb_)<;>(try simp only[h])
 refine qw ?nx1 (fun(z:Nat×List UInt8) s=>s.f 0=?v1_0∧s.f 3=.int .u64 z.1∧s.f 4=.str z.2∧(z.1≤n)∧((∃f,J8 f z.1 z.2=R∧z.1<qm0 f∧(z.2=[]→0<f)∧z.2.length+f≤25))) (fun z=>(if z.2=[]then z.1+1 else z.1)) ((n,[])) wj_ (by refine⟨?_,?_,?_,wo_,(by exact⟨25,hR,by have e:qm0 25=10000000000000000000000000:=(by decide);rw[e];dsimp only;omega,fun _=>by omega,by simp⟩)⟩<;>first|(simp only[wL,wM,wN,wX,seval,Option.some.injEq]<;>exact wt_)|rfl|exact⟨_,rfl⟩) ?_
 intro z s hnx ⟨g0,g3,g4,k1_0,k1_1⟩
 · obtain ⟨u,t⟩:=z
   dsimp only at *
   obtain ⟨f,hf,hu,h0,hl⟩:=k1_1
   by_cases hc:0<u∨t=[]
   · obtain ⟨f,rfl⟩: ∃m,f=m+1:=⟨f - 1,by
      rcases hc with hc|hc
      · cases f with
        |zero=>simp[qm0]at hu;omega
        |succ f=>omega
      · have:=h0 hc;omega⟩
     rw[qm0]at hu
     rw[J8,if_pos hc]at hf
     have hm:(u:Int).tmod 10=((u % 10:Nat):Int):=by rw[Int.tmod_eq_emod_of_nonneg o_];omega
     have hd:(u:Int).tdiv 10=((u / 10:Nat):Int):=by rw[Int.tdiv_eq_ediv_of_nonneg o_];omega
     have hd2:IntKind.u64.wrap ((u / 10:Nat):Int)=((u / 10:Nat):Int):=KA o_ o_
     have ha:IntKind.u64.wrap (48+((u % 10:Nat):Int))=((48+u % 10:Nat):Int):=by rw[KA o_ o_];omega
     have hb:IntKind.u8.wrap ((48+u % 10:Nat):Int)=((48+u % 10:Nat):Int):=by
      unfold IntKind.wrap
      have e1:((2:Int) ^ IntKind.bits .u8)=256:=by decide
      have e3:IntKind.signed .u8=false:=rfl
      simp only[e1,e3,Bool.false_and]
      simp;omega
     repeat' with_reducible first
      |refine s_ ?_
      |simp only[wZZ,seval,g0,g3,g4,hm,hd,hd2,ha,hb]
      |(first|apply qc|apply zu|apply zo)<;>intro h h_<;>(try simp only[wD,reduceCtorEq]at h_)<;>(try exact wb_)<;>(try simp only[h])
      |apply qy;(focus(first|omega|(simp only[wZ]<;>omega)))
      |apply qA5;omega;omega
     · refine⟨by(try simp only[wN])<;>omega,(u / 10,UInt8.ofNat (48+u % 10)::t),?_,trivial,rfl,rfl,by dsimp only;omega,f,hf,by dsimp only;omega,(fun h=>by cases h),by simp;omega⟩
       rw[if_neg (by simp)]
       dsimp only
       split
       · omega
       · rename_i ht
         rcases hc with hc|hc
         · omega
         · exact absurd hc ht
     · exfalso
       rcases hc with hc|hc
       · omega
       · exact absurd hc (by assumption)
     · refine⟨by(try simp only[wN])<;>omega,(u / 10,UInt8.ofNat (48+u % 10)::t),?_,trivial,rfl,rfl,by dsimp only;omega,f,hf,by dsimp only;omega,(fun h=>by cases h),by simp;omega⟩
       rw[if_neg (by simp)]
       dsimp only
       split
       · omega
       · rename_i ht
         rcases hc with hc|hc
         · omega
         · exact absurd hc ht
   · have hu0:u=0:=o_
     have ht:t≠[]:=fun e=>hc (Or.inr e)
     have hR2:t=R:=by
      rw[← hf]
      cases f with
      |zero=>rfl
      |succ f=>rw[J8,if_neg hc]
     subst hu0
     repeat' with_reducible first
      |refine s_ ?_
      |simp only[wZZ,seval,g0,g3,g4]
      |apply qc<;>intro h h_<;>(try simp only[wD,reduceCtorEq]at h_)<;>(try exact wb_)<;>(try simp only[h])
     refine qP rfl (Or.inr rfl) ?_
     simp only[wL,seval,g0,g3,g4]
     refine er_ ?_
     try(with_reducible rfl)
     exact hR2
theorem Jl {b:Bool} {H:Nat→Option MObj} {v v':V} (h:Er b H v v'):Flat v'→v=v':=by
 induction h with
 |bool b=>intro _;rfl
 |int k n=>intro _;rfl
 |str s=>intro _;rfl
 | agg cs cs' hl h ih=>
   intro hf
   cases hf with
   | agg _ hf=>
     refine congrArg V.agg (List.ext_getElem? fun i=>?_)
     by_cases hi:i<cs.length
     · have hi2:i<cs'.length:=o_
       rw[ge_ hi,ge_ hi2]
       exact congrArg some (ih i _ _ (ge_ hi) (ge_ hi2) (hf _ (List.getElem_mem hi2)))
     · rw[List.getElem?_eq_none o_,List.getElem?_eq_none o_]
 | tup cs cs' hl h ih=>
   intro hf
   cases hf with
   | tup _ hf=>
     refine congrArg V.tup (List.ext_getElem? fun i=>?_)
     by_cases hi:i<cs.length
     · have hi2:i<cs'.length:=o_
       rw[ge_ hi,ge_ hi2]
       exact congrArg some (ih i _ _ (ge_ hi) (ge_ hi2) (hf _ (List.getElem_mem hi2)))
     · rw[List.getElem?_eq_none o_,List.getElem?_eq_none o_]
 |sl=>intro hf;cases hf
 |asl=>intro hf;cases hf
 |iptr=>intro hf;cases hf
 |msl=>intro hf;cases hf
 |ptr=>intro hf;cases hf
 |nilp=>intro _;rfl
 |nilfn=>intro _;rfl
 |nilmap=>intro _;rfl
 |nilifc=>intro _;rfl
 |fn=>intro hf;cases hf
 |ifc=>intro hf;cases hf
theorem qg5 {α:Type} {f:α→V} {z:Nat} {l:List α} {v:V} {k:IntKind} {i:Int} {x:α} {K:V→Prop} (h:ErP v (.sl z false (l.map f))) (hf: ∀a,Flat (f a)) (h0:0≤i) (hx:l[i.toNat]?=some x) (hk:K (.iptr z (f x) 0)):onS (jo z v (.int k i)) K:=by
 obtain ⟨es,h1,h2,h3⟩:=ErP.shape h
 rw[List.length_map]at h1
 have hi:i.toNat<l.length:=(List.getElem?_eq_some_iff.1 hx).1
 have he:es[i.toNat]?=some (f x):=by
  rw[ge_ o_]
  have:=h2 i.toNat _ _ (ge_ (show i.toNat<es.length by omega)) (by rw[List.getElem?_map,hx];rfl)
  exact congrArg some (Jl this (hf x))
 rcases h3 with ⟨b,rfl⟩|⟨id,fin,rfl⟩
 · simp only[jo,idxOf,if_pos h0,he,↓reduceIte,Option.map_some,zw];exact hk
 · simp only[jo,idxOf,if_pos h0,he,↓reduceIte,Option.map_some,zw];exact hk

abbrev qdX (M:Mk) (x:Non):Mk:={M with nons:=M.nons++[x]}
theorem qam (s:List UInt8):Flat (.str s):= .str s
theorem qeg (x:Non):Flat (Non.V x):= .agg _ (fun c hc=>by
 simp at hc;rcases hc with rfl|rfl<;>exact .str _)
theorem OfAt.non {s s':St} {m:Nat} {src:Source} {ti gi id:Nat} {vN vP vT vL:V} {M:Mk} {x:Non} (h:OfAt s m src ti gi vN vP vT vL M) (hN:Gr s.H s.next 2 (M.nons.map Non.V) vN)
 (f1:s'.f 1=s.f 1) (f2:s'.f 2=s.f 2) (f6:s'.f 6=s.f 6) (hn:s.next≤s'.next) (hid:s.next≤id) (hid2:id<s'.next)
 (hm:s'.H m=some (.own 13 [mkC ti gi (.asl id (M.nons.length+1) 2 ((M.nons++[x]).map Non.V)) vP vT vL (qdX M x)] false)) (ht:s'.H id=some (.tok (M.nons.length+1))) (hH: ∀j,j<s.next→j≠m→gid vN≠some j→s'.H j=s.H j):
 OfAt s' m src ti gi (.asl id (M.nons.length+1) 2 ((M.nons++[x]).map Non.V)) vP vT vL (qdX M x)∧Gr s'.H s'.next 2 ((qdX M x).nons.map Non.V) (.asl id (M.nons.length+1) 2 ((M.nons++[x]).map Non.V)):=by
 have hM:=h.at_;have lm:=hM.lm;have lt:=hM.lt;have lg:=hM.lg
 obtain ⟨n1,n2,n3⟩:=hM.mt
 obtain ⟨c1,c2,c3⟩:=hM.nt
 refine⟨h.upd ⟨hm,by rw[hH ti lt n1 (hN.ne c2)];exact hM.ht,by rw[hH gi lg n2 (hN.ne c3)];exact hM.hg,zZ,hM.eP,hM.eT,hM.eL,o_,o_,o_,hM.len,hM.len3⟩ f1 f2 f6 hn (fun j h1 h2 h3 h4 h5=>hH j h1 h2 (hN.ne h5)),Gr.tok ht hid2⟩
theorem Kj (t:List Non):yJ t []=[]:=rfl
abbrev qeS (types:List Non) (n:List UInt8):Non:={name:=n,tag:=if 0≤yD n types 0 then(types.getD (yD n types 0).toNat {}).tag else[]}
theorem qbJ (t:List Non) (l:List (List UInt8)) (n:List UInt8):yJ t (l++[n])=yJ t l++[qeS t n]:=by
 induction l with
 |nil=>rfl
 |cons a r ih=>rw[List.cons_append,yJ,ih];rfl
theorem JH (t:List Non) (l:List (List UInt8)):(yJ t l).length=l.length:=by
 induction l with
 |nil=>rfl
 |cons a r ih=>rw[yJ,List.length_cons,ih,List.length_cons]
abbrev XT (M:Mk) (i:Nat):Mk:={M with nons:=M.nons++yJ M.types (M.lefts.take i)}
theorem qih {s0:St} {m ti gi:Nat} {src:Source} {vN vP vT vL:V} {M:Mk} {E:EC} {Q:Exit→St→Prop} (h:OfAt s0 m src ti gi vN vP vT vL M) (hN:Gr s0.H s0.next 2 (M.nons.map Non.V) vN) (b1:M.lefts.length≤1000000000) (b2:M.types.length≤1000000000) (b3:M.nons.length≤10)
 (hQ: ∀s' vN',OfAt s' m src ti gi vN' vP vT vL {M with nons:=M.nons++yJ M.types M.lefts}→Gr s'.H s'.next 2 ((M.nons++yJ M.types M.lefts).map Non.V) vN'→ewp Tryd.prog E Q s'):ewp Tryd.prog (.seq y9 E) Q s0:=by
 have hA0:=h
 have f1:=h.f1;have f2:=h.f2;have f6:=h.f6
 have hLl:ZB vL=some (.int .i64 (M.lefts.length:Int)):=by have:=ErP.ZB h.at_.eL;rwa [List.length_map]at this
 have eL:=h.at_.eL;have eT:=h.at_.eT
 repeat' with_reducible first
  |refine s_ ?_
  |simp -implicitDefEqProofs only[wZZ,seval,f1,f2,f6]
 refine qw ?nx8 (fun(i:Nat) s=>s.f 1=?v8_1∧s.f 2=?v8_2∧s.f 6=?v8_6∧s.f 18=vi i∧(i≤M.lefts.length)∧((∃vN,OfAt s m src ti gi vN vP vT vL (XT M i)∧Gr s.H s.next 2 ((M.nons++yJ M.types (M.lefts.take i)).map Non.V) vN))) (fun i=>M.lefts.length - i) (0) wj_ (by refine⟨?_,?_,?_,?_,wo_,(by exact⟨vN,(by have e:XT M 0=M:=(by unfold XT;rw[List.take_zero,Kj,List.append_nil]);rw[e];exact hA0.mono wl_ wl_ wl_ wg_ (fun j hj=>by first|rfl|simp only[wM])),(by rw[List.take_zero,Kj,List.append_nil];exact hN.mono wg_ (fun j h1 hj=>by first|rfl|simp only[wM]))⟩)⟩<;>first|(simp -implicitDefEqProofs only[wL,wM,wN,wX,seval,Option.some.injEq]<;>exact wt_)|rfl|exact⟨_,rfl⟩) ?_
 intro i s hnx ⟨g1,g2,g6,g18,k8_0,k8_1⟩
 obtain ⟨vN1,hA1,hN1⟩:=k8_1
 have g1:=hA1.f1;have g2:=hA1.f2;have g6:=hA1.f6;have ln:=hA1.ln
 have hM:=hA1.at_;have lm:=hM.lm;have lt:=hM.lt;have lg:=hM.lg
 have hm:s.H m=some (.own 13 [mkC ti gi vN1 vP vT vL M] false):=hM.hm
 obtain ⟨n1,n2,n3⟩:=hM.mt
 obtain ⟨c1,c2,c3⟩:=hM.nt
 have d1:=hN1.ne c1
 have hlen:(yJ M.types (M.lefts.take i)).length=i:=by rw[JH,List.length_take];omega
 by_cases hi:i<M.lefts.length
 · have ht2:yJ M.types (M.lefts.take (i+1))=yJ M.types (M.lefts.take i)++[qeS M.types M.lefts[i]]:=by rw[List.take_add_one,ge_ hi];exact qbJ _ _ _
   have hnx2:XT M (i+1)=qdX (XT M i) (qeS M.types M.lefts[i]):=by unfold XT qdX;rw[ht2,List.append_assoc]
   have hnl2:M.nons++yJ M.types (M.lefts.take (i+1))=(qdX (XT M i) (qeS M.types M.lefts[i])).nons:=by rw[ht2,← List.append_assoc]
   by_cases hk:0≤yD M.lefts[i] M.types 0
   · have hbd:=qaP M.lefts[i] M.types 0
     obtain ⟨k,hk2⟩: ∃k:Nat,yD M.lefts[i] M.types 0=k:=⟨(yD M.lefts[i] M.types 0).toNat,o_⟩
     have hkl:k<M.types.length:=o_
     have hxe:qeS M.types M.lefts[i]={name:=M.lefts[i],tag:=M.types[k].tag}:=by
      unfold qeS;rw[if_pos hk,hk2];simp[List.getD,hkl]
     rw[hxe]at hnx2 hnl2
     repeat' with_reducible first
      |refine s_ ?_
      |simp -implicitDefEqProofs only[wZZ,seval,g1,g2,g6,g18,g1,g2,g6,g18,hm,hLl,hk2,qx d1]
      |apply qc<;>intro h h_<;>(try simp only[wD,reduceCtorEq]at h_)<;>(try exact wb_)<;>(try simp only[h])
      |apply ze (hp:=zL ?_);(focus(refine(hM.mono (Nat.le_refl _) (fun j hj=>?_)).er;(try simp only[wM]);(repeat rw[if_neg o_])));exact qI;exact wu_;exact Flat.int _ _;rotate_left;exact wf_
      |apply zy rfl (hN1.mono (Nat.le_refl _) (fun id h1 h2=>by(try simp only[wM]);(repeat rw[if_neg o_])));(focus(first|exact qd.sl|exact qd.asl));(focus(simp only[wZ]<;>omega));(focus(unfold maxLen;simp only[wZ]<;>omega))
      |apply qg5 eL qam;omega;(focus(first|assumption|exact ge_ o_))
      |apply qg5 eT qeg;omega;(focus(first|assumption|exact ge_ o_))
      |refine t_ ?_
      |simp -implicitDefEqProofs (disch:=omega) only[w64,if_neg]
     refine⟨by(try simp only[wN])<;>omega,i+1,o_,f1.symm,f2.symm,f6.symm,rfl,o_,?_⟩
     rw[hnx2,hnl2]
     refine⟨_,hA1.non (id:=s.next+7+10+5+2+10+8) hN1 wl_ wl_ wl_ wg_ o_ wg_ ?_ ?_ (fun j h1 h2 h3=>?_)⟩
     · simp only[wM]
       repeat(first|rw[if_pos trivial]|rw[if_pos rfl]|rw[if_neg o_]|simp only[wM]|rw[qx d1])
       simp
     · simp only[wM]
       repeat(first|rw[if_pos trivial]|rw[if_pos rfl]|rw[if_neg o_]|simp only[wM])
     · simp only[wM]
       repeat(first|rw[if_pos trivial]|rw[if_pos rfl]|rw[if_neg o_]|simp only[wM]|rw[qx h3])
   · have hxe:qeS M.types M.lefts[i]={name:=M.lefts[i]}:=by
      unfold qeS;rw[if_neg hk]
     rw[hxe]at hnx2 hnl2
     repeat' with_reducible first
      |refine s_ ?_
      |simp -implicitDefEqProofs only[wZZ,seval,g1,g2,g6,g18,g1,g2,g6,g18,hm,hLl,qx d1]
      |apply qc<;>intro h h_<;>(try simp only[wD,reduceCtorEq]at h_)<;>(try exact wb_)<;>(try simp only[h])
      |apply ze (hp:=zL ?_);(focus(refine(hM.mono (Nat.le_refl _) (fun j hj=>?_)).er;(try simp only[wM]);(repeat rw[if_neg o_])));exact qI;exact wu_;exact Flat.int _ _;rotate_left;exact wf_
      |apply zy rfl (hN1.mono (Nat.le_refl _) (fun id h1 h2=>by(try simp only[wM]);(repeat rw[if_neg o_])));(focus(first|exact qd.sl|exact qd.asl));(focus(simp only[wZ]<;>omega));(focus(unfold maxLen;simp only[wZ]<;>omega))
      |apply qg5 eL qam;omega;(focus(first|assumption|exact ge_ o_))
      |refine t_ ?_
      |simp -implicitDefEqProofs (disch:=omega) only[w64,if_neg]
     refine⟨by(try simp only[wN])<;>omega,i+1,o_,f1.symm,f2.symm,f6.symm,rfl,o_,?_⟩
     rw[hnx2,hnl2]
     refine⟨_,hA1.non (id:=s.next+7+10+5+2+8) hN1 wl_ wl_ wl_ wg_ o_ wg_ ?_ ?_ (fun j h1 h2 h3=>?_)⟩
     · simp only[wM]
       repeat(first|rw[if_pos trivial]|rw[if_pos rfl]|rw[if_neg o_]|simp only[wM]|rw[qx d1])
       simp
     · simp only[wM]
       repeat(first|rw[if_pos trivial]|rw[if_pos rfl]|rw[if_neg o_]|simp only[wM])
     · simp only[wM]
       repeat(first|rw[if_pos trivial]|rw[if_pos rfl]|rw[if_neg o_]|simp only[wM]|rw[qx h3])
 · have e:XT M i={M with nons:=M.nons++yJ M.types M.lefts}:=by unfold XT;rw[List.take_of_length_le o_]
   rw[e]at hA1
   rw[List.take_of_length_le o_]at hN1
   repeat' with_reducible first
    |refine s_ ?_
    |simp -implicitDefEqProofs only[wZZ,seval,g1,g2,g6,g18,g1,g2,g6,g18,hm,hLl]
    |apply qc<;>intro h h_<;>(try simp only[wD,reduceCtorEq]at h_)<;>(try exact wb_)<;>(try simp only[h])
    |refine t_ ?_
   exact hQ _ vN1 (hA1.mono wl_ wl_ wl_ wg_ (fun j hj=>by first|rfl|simp only[wM])) (hN1.mono wg_ (fun j h1 hj=>by first|rfl|simp only[wM]))

def qaq (n:Nat):List Non:=(List.range n).map fun k=>{name:=64::qdx (k+1)}
theorem Vn (n:Nat):qaq (n+1)=qaq n++[{name:=64::qdx (n+1)}]:=by unfold qaq;rw[List.range_succ,List.map_append];rfl
theorem qat (n:Nat):(qaq n).length=n:=by simp[qaq]
theorem XU (n:Nat):(qdx n).length≤25:=by have:=Vm 25 n [];simpa[qdx]using this
abbrev qdA (M:Mk) (i:Nat):Mk:={M with nons:=M.nons++qaq i}
theorem qhc {s0:St} {m ti gi n:Nat} {src:Source} {vN vP vT vL:V} {M:Mk} {E:EC} {Q:Exit→St→Prop} (h:OfAt s0 m src ti gi vN vP vT vL M) (hN:Gr s0.H s0.next 2 (M.nons.map Non.V) vN) (b1:M.nons.length≤1000000000) (hi:M.inner=n) (b2:n≤2000000000)
 (hQ: ∀s' vN',OfAt s' m src ti gi vN' vP vT vL (qdA M n)→ewp Tryd.prog E Q s'):ewp Tryd.prog (.seq vv E) Q s0:=by
 have hA0:=h
 have f1:=h.f1;have f2:=h.f2;have f6:=h.f6
 repeat' with_reducible first
  |refine s_ ?_
  |simp only[wZZ,seval,f1,f2,f6]
 refine qw ?nx9 (fun(i:Nat) s=>s.f 1=?v9_1∧s.f 2=?v9_2∧s.f 6=?v9_6∧s.f 21=vi i∧(1≤i)∧(i≤n+1)∧((∃vN,OfAt s m src ti gi vN vP vT vL (qdA M (i - 1))∧Gr s.H s.next 2 ((M.nons++qaq (i - 1)).map Non.V) vN))) (fun i=>n+1 - i) (1) wj_ (by refine⟨?_,?_,?_,?_,wo_,wo_,(by exact⟨vN,(by have e:qdA M (1 - 1)=M:=(by show {M with nons:=M.nons++qaq 0}=M;unfold qaq;simp);rw[e];exact hA0.mono wl_ wl_ wl_ wg_ (fun j hj=>by first|rfl|simp only[wM])),(by have e:M.nons++qaq (1 - 1)=M.nons:=(by unfold qaq;simp);rw[e];exact hN.mono wg_ (fun j h1 hj=>by first|rfl|simp only[wM]))⟩)⟩<;>first|(simp only[wL,wM,wN,wX,seval,Option.some.injEq]<;>exact wt_)|rfl|exact⟨_,rfl⟩) ?_
 intro i s hnx ⟨g1,g2,g6,g21,k9_0,k9_1,k9_2⟩
 obtain ⟨vN1,hA1,hN1⟩:=k9_2
 have g1:=hA1.f1;have g2:=hA1.f2;have g6:=hA1.f6;have ln:=hA1.ln
 have hM:=hA1.at_;have lm:=hM.lm;have lt:=hM.lt;have lg:=hM.lg
 have hm:s.H m=some (.own 13 [mkC ti gi vN1 vP vT vL M] false):=hM.hm
 obtain ⟨n1,n2,n3⟩:=hM.mt
 obtain ⟨c1,c2,c3⟩:=hM.nt
 have d1:=hN1.ne c1
 have hlen:=qat (i - 1)
 by_cases hk:i≤n
 · obtain ⟨j,rfl⟩: ∃j,i=j+1:=⟨i - 1,o_⟩
   have ej:j+1 - 1=j:=rfl
   rw[ej]at hA1 hN1 hlen
   have hdl:=XU (j+1)
   have hnx2:qdA M (j+1+1 - 1)=qdX (qdA M j) {name:=64::qdx (j+1)}:=by
    show ({M with nons:=M.nons++qaq (j+1)}:Mk)=_
    unfold qdX qdA;rw[Vn,List.append_assoc]
   have hnl2:M.nons++qaq (j+1+1 - 1)=(qdX (qdA M j) {name:=64::qdx (j+1)}).nons:=by
    show M.nons++qaq (j+1)=_
    rw[Vn,← List.append_assoc]
   have hz:IntKind.i64.wrap ((j+1+1:Nat):Int)=((j+1+1:Nat):Int):=wrap64 o_ o_
   repeat' with_reducible first
    |refine s_ ?_
    |simp only[wZZ,seval,g1,g2,g6,g21,g1,g2,g6,g21,hm,hi,qx d1,hz]
    |apply qc<;>intro h h_<;>(try simp only[wD,reduceCtorEq]at h_)<;>(try exact wb_)<;>(try simp only[h])
    |apply zy rfl (hN1.mono (Nat.le_refl _) (fun id h1 h2=>by(try simp only[wM]);(repeat rw[if_neg o_])));(focus(first|exact qd.sl|exact qd.asl));(focus(simp only[wZ]<;>omega));(focus(unfold maxLen;simp only[wZ]<;>omega))
    |refine t_ ?_
    |apply qy;(focus(first|omega|(simp only[wZ]<;>omega)))
    |refine qN we_ (xG wf_) ?_
    |simp(disch:=omega) only[w64,if_neg]
   refine⟨by(try simp only[wN])<;>omega,j+1+1,o_,f1.symm,f2.symm,f6.symm,rfl,o_,o_,?_⟩
   rw[hnx2,hnl2]
   refine⟨_,hA1.non (id:=s.next+6+11) hN1 wl_ wl_ wl_ wg_ o_ wg_ ?_ ?_ (fun j h1 h2 h3=>?_)⟩
   · simp only[wM]
     repeat(first|rw[if_pos trivial]|rw[if_pos rfl]|rw[if_neg o_]|simp only[wM]|rw[qx d1])
     simp[hi]
   · simp only[wM]
     repeat(first|rw[if_pos trivial]|rw[if_pos rfl]|rw[if_neg o_]|simp only[wM])
   · simp only[wM]
     repeat(first|rw[if_pos trivial]|rw[if_pos rfl]|rw[if_neg o_]|simp only[wM]|rw[qx h3])
 · have e:i - 1=n:=o_
   rw[e]at hA1
   repeat' with_reducible first
    |refine s_ ?_
    |simp only[wZZ,seval,g1,g2,g6,g21,g1,g2,g6,g21,hm,hi]
    |apply qc<;>intro h h_<;>(try simp only[wD,reduceCtorEq]at h_)<;>(try exact wb_)<;>(try simp only[h])
    |refine t_ ?_
   exact hQ _ vN1 (hA1.mono wl_ wl_ wl_ wg_ (fun j hj=>by first|rfl|simp only[wM]))
def YL (given:List Bool):Nat→Nat→List Tok×Int→List Tok×Int
 |0,_,q=>q
 |f+1,i,(l,n)=>YL given f (i+1) (if given.getD i false=true then(l,n)else(l.set i {l.getD i {} with num:=n},n+1))
theorem Xj (given:List Bool) (f i:Nat) (l:List Tok) (n:Int):YL given (f+1) i (l,n)=YL given f (i+1) (if given.getD i false=true then(l,n)else(l.set i {l.getD i {} with num:=n},n+1)):=rfl
abbrev qby (M:Mk) (l:List Tok):Mk:={M with toks:=l}
theorem qiX {s0:St} {m ti gi:Nat} {src:Source} {vN vP vT vL:V} {M:Mk} {E:EC} {Q:Exit→St→Prop} (h:OfAt s0 m src ti gi vN vP vT vL M) (f22:s0.f 22=vi 57346) (b1:M.toks.length≤10000000000)
 (hQ: ∀s',OfAt s' m src ti gi vN vP vT vL (qby M (YL M.given (M.toks.length - 3) 3 (M.toks,57346)).1)→ewp Tryd.prog E Q s'):ewp Tryd.prog (.seq xO E) Q s0:=by
 generalize hR:YL M.given (M.toks.length - 3) 3 (M.toks,57346)=R at hQ
 have hA0:=h
 have f1:=h.f1;have f2:=h.f2;have f6:=h.f6
 have hl3:=h.at_.len3;have hgl:=h.at_.len
 repeat' with_reducible first
  |refine s_ ?_
  |simp only[wZZ,seval,f1,f2,f6]
 refine qw ?nx10 (fun(z:Nat×List Tok×Int) s=>s.f 1=?v10_1∧s.f 2=?v10_2∧s.f 6=?v10_6∧s.f 23=vi z.1∧(3≤z.1)∧(z.1≤M.toks.length)∧((OfAt s m src ti gi vN vP vT vL (qby M z.2.1)))∧(YL M.given (M.toks.length - z.1) z.1 z.2=R)∧((z.2.1.length=M.toks.length))∧((57346≤z.2.2∧z.2.2≤57346+z.1))∧(s.f 22=vi z.2.2)) (fun z=>M.toks.length - z.1) ((3,M.toks,57346)) wj_ (by refine⟨?_,?_,?_,?_,wo_,wo_,(by exact hA0.mono wl_ wl_ wl_ wg_ (fun j hj=>by first|rfl|simp only[wM])),(by exact hR),(by rfl),(by dsimp only;omega),(by(try simp only[wL,wM,wN,seval]);exact f22)⟩<;>first|(simp only[wL,wM,wN,wX,seval,Option.some.injEq]<;>exact wt_)|rfl|exact⟨_,rfl⟩) ?_
 intro z s hnx ⟨g1,g2,g6,g23,k10_0,k10_1,k10_2,k10_3,k10_4,k10_5,g22⟩
 obtain ⟨i,l,n⟩:=z
 dsimp only at g22 g23 k10_0 k10_1 k10_2 k10_3 k10_4 k10_5
 have hA1:=k10_2
 have g1:=hA1.f1;have g2:=hA1.f2;have g6:=hA1.f6;have ln:=hA1.ln
 have hM:=hA1.at_;have lm:=hM.lm;have lt:=hM.lt;have lg:=hM.lg
 have hm:s.H m=some (.own 13 [.agg [.msl ti 6 0 l.length,vN,vP,.str [],.str [],.msl gi 1 0 M.given.length,vT,vL,vi M.e,vi M.at_,.str M.name,vi M.level,vi M.inner]] false):=hM.hm
 have ht:s.H ti=some (.own 6 (l.map Tok.V) false):=hM.ht
 have hg:s.H gi=some (.own 1 (M.given.map V.bool) false):=hM.hg
 obtain ⟨n1,n2,n3⟩:=hM.mt
 by_cases hk:i<M.toks.length
 · rw [show M.toks.length - i=(M.toks.length - (i+1))+1 by omega,Xj]at k10_3
   have hgt:M.given[i]?=some (M.given.getD i false):=by
    rw[ge_ o_];simp[List.getD,show i<M.given.length by omega]
   generalize hgb:M.given.getD i false=gb at hgt k10_3
   have hlt:l[i]?=some (l.getD i {}):=by
    rw[ge_ o_];simp[List.getD,show i<l.length by omega]
   generalize hkt:l.getD i {}=kt at hlt k10_3
   cases gb
   · rw[if_neg (by simp)]at k10_3
     have hz:IntKind.i64.wrap (n+1)=n+1:=wrap64 o_ o_
     have hs0:Qb (qby M l) i {kt with num:=n}=qby M (l.set i {kt with num:=n}):=rfl
     repeat' with_reducible first
      |refine s_ ?_
      |simp only[wZZ,seval,g1,g2,g6,g23,g22,g1,g2,g6,g22,g23,hm,ht,hg,hz]
      |apply qc<;>intro h h_<;>(try simp only[wD,reduceCtorEq]at h_)<;>(try exact wb_)<;>(try simp only[h])
      |apply stT ({kt with num:=n});(focus(first|assumption|exact List.getElem?_set_self (by first|omega|(simp only[List.length_set];omega))));exact wu_;exact wu_;exact wu_;decide;exact wu_
      |refine t_ ?_
      |apply qg;exact wd_;exact wu_
      |simp(disch:=omega) only[w64,if_neg]
     refine⟨by(try simp only[wN])<;>omega,(i+1,l.set i {kt with num:=n},n+1),by dsimp only;omega,f1.symm,f2.symm,f6.symm,rfl,by dsimp only;omega,by dsimp only;omega,?_,k10_3,by dsimp only;rw[List.length_set];exact k10_4,by dsimp only;omega,rfl⟩
     dsimp only
     rw[← hs0]
     refine hA1.upd (hM.Qb wg_ ?_ (fun j h1 h2=>?_)) wl_ wl_ wl_ wg_ (fun j h1 h2 h3 h4 h5=>?_)
     · simp only[wM]
       repeat(first|rw[if_pos trivial]|rw[if_pos rfl]|rw[if_neg o_])
     · simp only[wM]
       repeat(first|rw[if_pos trivial]|rw[if_pos rfl]|rw[if_neg o_])
     · simp only[wM]
       repeat(first|rw[if_pos trivial]|rw[if_pos rfl]|rw[if_neg o_])
   · rw[if_pos rfl]at k10_3
     repeat' with_reducible first
      |refine s_ ?_
      |simp only[wZZ,seval,g1,g2,g6,g23,g22,g1,g2,g6,g22,g23,hm,ht,hg]
      |apply qc<;>intro h h_<;>(try simp only[wD,reduceCtorEq]at h_)<;>(try exact wb_)<;>(try simp only[h])
      |refine t_ ?_
      |apply qg;exact wd_;exact wu_
      |simp(disch:=omega) only[w64,if_neg]
     exact⟨by(try simp only[wN])<;>omega,(i+1,l,n),by dsimp only;omega,f1.symm,f2.symm,f6.symm,rfl,by dsimp only;omega,by dsimp only;omega,hA1.mono wl_ wl_ wl_ wg_ (fun j hj=>by first|rfl|simp only[wM]),k10_3,k10_4,by dsimp only;omega,rfl⟩
 · have e:M.toks.length - i=0:=o_
   rw[e]at k10_3
   subst k10_3
   repeat' with_reducible first
    |refine s_ ?_
    |simp only[wZZ,seval,g1,g2,g6,g23,g22,g1,g2,g6,g22,g23,hm]
    |apply qc<;>intro h h_<;>(try simp only[wD,reduceCtorEq]at h_)<;>(try exact wb_)<;>(try simp only[h])
    |refine t_ ?_
   exact hQ _ (hA1.mono wl_ wl_ wl_ wg_ (fun j hj=>by first|rfl|simp only[wM]))

theorem qll {vP:V} {l:List GPr} {i:Nat} {p:GPr} (h:ErP vP (.sl 6 false (l.map GPr.V))) (hp:l[i]?=some p): ∃w1 w2,jo 6 vP (vi i)=some (.iptr 6 (.agg [vi p.left,w1,vi p.prec,.str p.code,w2,vi p.at_]) 0)∧ErP w1 (.sl 1 false (p.right.map (V.int .i64)))∧ErP w2 (.sl 1 false (p.args.map (V.int .i64))):=by
 obtain ⟨es,h1,h2,h3⟩:=ErP.shape h
 rw[List.length_map]at h1
 have hi:i<l.length:=(List.getElem?_eq_some_iff.1 hp).1
 have he:es[i]?=some es[i]:=ge_ o_
 have hE:=h2 i _ _ he (by rw[List.getElem?_map,hp];rfl)
 generalize es[i]=e at he hE
 unfold ErP at hE
 cases hE with
 | agg cs _ hl hc=>
   match cs,hl with
   | [c0,c1,c2,c3,c4,c5],_=>
     have e0:=Jl (hc 0 _ _ rfl rfl) (.int _ _);have e2:=Jl (hc 2 _ _ rfl rfl) (.int _ _);have e3:=Jl (hc 3 _ _ rfl rfl) (.str _);have e5:=Jl (hc 5 _ _ rfl rfl) (.int _ _)
     subst e0 e2 e3 e5
     refine⟨c1,c4,?_,hc 1 _ _ rfl rfl,hc 4 _ _ rfl rfl⟩
     rcases h3 with ⟨b,rfl⟩|⟨id,fin,rfl⟩
     · simp[jo,idxOf,he]
     · simp[jo,idxOf,he]
def J6 (M:Mk):Bool:=decide (40<M.toks.length) || decide (24<M.nons.length) || decide (60<M.prods.length) || M.prods.any fun p=>decide (8<p.right.length)
theorem qey {s0:St} {m ti gi:Nat} {src:Source} {vN vP vT vL:V} {M:Mk} {E:EC} {Q:Exit→St→Prop} (h:OfAt s0 m src ti gi vN vP vT vL M) (b1:M.prods.length≤10000000000)
 (hQ: ∀s',OfAt s' m src ti gi vN vP vT vL M→s'.f 24=.bool (J6 M)→ewp Tryd.prog E Q s'):ewp Tryd.prog (.seq (.reg xV) (.seq j3 E)) Q s0:=by
 have hA0:=h
 have f1:=h.f1;have f2:=h.f2;have f6:=h.f6
 have hM:=h.at_;have hm:=hM.hm
 have hNl:ZB vN=some (.int .i64 (M.nons.length:Int)):=by have:=ErP.ZB hM.eN;rwa [List.length_map]at this
 have hPl:ZB vP=some (.int .i64 (M.prods.length:Int)):=by have:=ErP.ZB hM.eP;rwa [List.length_map]at this
 generalize hB:(decide (40<M.toks.length) || decide (24<M.nons.length) || decide (60<M.prods.length))=B
 have hR:J6 M=(B || M.prods.any fun p=>decide (8<p.right.length)):=by unfold J6;rw[hB]
 rw[hR]at hQ
 have tail: ∀s1,OfAt s1 m src ti gi vN vP vT vL M→s1.f 24=.bool B→ewp Tryd.prog (.seq j3 E) Q s1:=by
  intro s1 hA f24
  have f1:=hA.f1;have f2:=hA.f2;have f6:=hA.f6
  generalize hRR:(B || M.prods.any fun p=>decide (8<p.right.length))=R at hQ
  repeat' with_reducible first
   |refine s_ ?_
   |simp only[wZZ,seval,f1,f2,f6,f24]
  refine qw ?nx11 (fun(z:Nat×Bool) s=>s.f 1=?v11_1∧s.f 2=?v11_2∧s.f 6=?v11_6∧s.f 25=vi z.1∧(z.1≤M.prods.length)∧((OfAt s m src ti gi vN vP vT vL M))∧(((z.2 || (M.prods.drop z.1).any fun p=>decide (8<p.right.length))=R))∧(s.f 24=.bool z.2)) (fun z=>M.prods.length - z.1) ((0,B)) wj_ (by refine⟨?_,?_,?_,?_,wo_,(by exact hA.mono wl_ wl_ wl_ wg_ (fun j hj=>by first|rfl|simp only[wM])),(by exact hRR),(by(try simp only[wL,wM,wN,seval]);exact f24)⟩<;>first|(simp only[wL,wM,wN,wX,seval,Option.some.injEq]<;>exact wt_)|rfl|exact⟨_,rfl⟩) ?_
  intro z s hnx ⟨g1,g2,g6,g25,k11_0,k11_1,k11_2,g24⟩
  obtain ⟨i,b⟩:=z
  dsimp only at g24 g25 k11_0 k11_1 k11_2
  have hA1:=k11_1
  have g1:=hA1.f1;have g2:=hA1.f2;have g6:=hA1.f6;have ln:=hA1.ln
  have hM1:=hA1.at_;have hm1:=hM1.hm
  by_cases hk:i<M.prods.length
  · obtain ⟨w1,w2,hia,hw1,hw2⟩:=qll hM.eP (ge_ hk)
    have hwl:ZB w1=some (.int .i64 (M.prods[i].right.length:Int)):=by have:=ErP.ZB hw1;rwa [List.length_map]at this
    rw[List.drop_eq_getElem_cons hk,List.any_cons]at k11_2
    cases b
    · repeat' with_reducible first
       |refine s_ ?_
       |simp only[wZZ,seval,g1,g2,g6,g25,g24,g1,g2,g6,g24,g25,hm1,hPl,hia,hwl]
       |apply qc<;>intro h h_<;>(try simp only[wD,reduceCtorEq]at h_)<;>(try exact wb_)<;>(try simp only[h])
       |refine t_ ?_
       |simp(disch:=omega) only[w64,if_neg]
      exact⟨by(try simp only[wN])<;>omega,(i+1,decide (8<(M.prods[i].right.length:Int))),by dsimp only;omega,f1.symm,f2.symm,f6.symm,rfl,by dsimp only;omega,hA1.mono wl_ wl_ wl_ wg_ (fun j hj=>by first|rfl|simp only[wM]),by rw[← k11_2,Bool.false_or];congr 1;simp;omega,rfl⟩
    · repeat' with_reducible first
       |refine s_ ?_
       |simp only[wZZ,seval,g1,g2,g6,g25,g24,g1,g2,g6,g24,g25,hm1,hPl,hia,hwl]
       |apply qc<;>intro h h_<;>(try simp only[wD,reduceCtorEq]at h_)<;>(try exact wb_)<;>(try simp only[h])
       |refine t_ ?_
       |simp(disch:=omega) only[w64,if_neg]
      exact⟨by(try simp only[wN])<;>omega,(i+1,true),by dsimp only;omega,f1.symm,f2.symm,f6.symm,rfl,by dsimp only;omega,hA1.mono wl_ wl_ wl_ wg_ (fun j hj=>by first|rfl|simp only[wM]),by rw[← k11_2];simp,rfl⟩
  · rw[List.drop_eq_nil_of_le o_,List.any_nil,Bool.or_false]at k11_2
    subst k11_2
    repeat' with_reducible first
     |refine s_ ?_
     |simp only[wZZ,seval,g1,g2,g6,g25,g24,g1,g2,g6,g24,g25,hm1,hPl]
     |apply qc<;>intro h h_<;>(try simp only[wD,reduceCtorEq]at h_)<;>(try exact wb_)<;>(try simp only[h])
     |refine t_ ?_
    exact hQ _ (hA1.mono wl_ wl_ wl_ wg_ (fun j hj=>by first|rfl|simp only[wM])) (by simp only[wL,seval];exact g24)
 generalize (EC.seq j3 E)=F at tail
 skip
 repeat' with_reducible first
  |refine s_ ?_
  |simp only[wZZ,seval,f1,f2,f6,hm,hNl,hPl]
  |(first|apply zu|apply zo)<;>intro h h_<;>(try simp only[wD,reduceCtorEq]at h_)<;>(try exact wb_)<;>(try simp only[h])
  |refine t_ ?_
 all_goals(refine tail _ (hA0.mono wl_ wl_ wl_ wg_ (fun j hj=>by first|rfl|simp only[wM])) ?_)
 all_goals(simp only[wL,seval])
 all_goals(refine congrArg V.bool ?_;rw[← hB])
 all_goals first
  |(rw[show decide (40<M.toks.length)=false from decide_eq_false o_,show decide (24<M.nons.length)=false from decide_eq_false o_];simp only[Bool.false_or,decide_eq_decide];omega)
  |(rw[decide_eq_false o_,decide_eq_true o_];rfl)
  |(rw[decide_eq_true o_];rfl)

theorem qd3 {ef:EF} {t a b c id:Nat} {ro:Bool} {v res:V} {e:Exit} {s:St} (he:ef.res=[.inr (t,true,5),.inl a,.inl b,.inl c]) (hx:e=.normal∨e=.ret) (hp:s.f t=.ptr id 0 0) (hH:s.H id=some (.own 5 [v] ro)) (ha:v.isAgg=true)
 (h:Er true s.H (.tup [v,s.f a,s.f b,s.f c]) res):jU ef res e s:=by
 have hv:zJ s true 5 (s.f t)=some v:=by rw[hp];simp only[zJ,hH,List.getElem?_cons_zero,xI,ha,and_self,if_true]
 exact⟨hx,_,by rw[he];simp[qfu,qdm,hv,one],h⟩
theorem qcR {b:Bool} {H:Nat→Option MObj} (src:Source):Er b H src.V src.V:=ErL.agg (.cons (.str _) (.cons qI (.cons qI (.cons (.str _) .nil))))
def xR (m:Mk):Mk:=
 let m1:Mk:={m with nons:=[{name:=[36,97,99,99,101,112,116]}]}
 let m2:Mk:={m1 with nons:=m1.nons++yJ m1.types m1.lefts}
 let m3:=qdA m2 m.inner.toNat
 qby m3 (YL m3.given (m3.toks.length - 3) 3 (m3.toks,57346)).1
def ofS (src:Source):Grammar×Int×Int×List UInt8:=
 if VQ src=true then
  if (xY src).e≠0 then({},(xY src).e,(xY src).at_,(xY src).name)
  else if J6 (xR (xY src))=true then({},4,0,[])
  else({toks:=(xR (xY src)).toks,nons:=(xR (xY src)).nons,prods:=(xR (xY src)).prods,pro:=src.pro,tail:=src.tail},0,0,[])
 else({},1,0,[])
@[reducible] def ofV (q:Grammar×Int×Int×List UInt8):V:= .tup [q.1.V,vi q.2.1,vi q.2.2.1,.str q.2.2.2]
theorem qhQ {s0:St} {m ti gi:Nat} {src:Source} {vN vP vT vL:V} {M:Mk} (h:OfAt s0 m src ti gi vN vP vT vL M) (hm0:VQ src=true) (hM0:xY src=M)
 (b1:M.toks.length≤5000000000) (b2:M.lefts.length≤1000000) (b3:M.types.length≤1000000000) (b4:M.prods.length≤5000000000) (b5:0≤M.inner) (b6:M.inner≤1000000000) (hnn:M.nons=[]):
 ewp Tryd.prog (.seq Zx (.seq (.reg Zk) (.seq y9 (.seq vv (.seq (.reg kG) (.seq xO (.seq (.reg xV) (.seq j3 (.seq yo (.seq (.reg yx) (.seq (.reg yA) .ret))))))))))) (jU e17 (ofV (ofS src))) s0:=by
 have hA0:=h
 have f1:=h.f1;have f2:=h.f2;have f6:=h.f6;have h1:=h.h1;have ln:=h.ln
 have hM:=h.at_;have hm:=hM.hm;have lm:=hM.lm;have lt:=hM.lt;have lg:=hM.lg
 obtain ⟨n1,n2,n3⟩:=hM.mt
 obtain ⟨z1,z2,z3,z4⟩:=hM.far h1 (by decide) (by decide)
 by_cases he:M.e=0
 · show ewp _ (.seq Zx (.seq (.reg Zk) (.seq y9 (.seq vv (.seq (.reg kG) (.seq xO (.seq (.reg xV) (.seq j3 (.seq yo (.seq (.reg yx) (.seq (.reg yA) .ret))))))))))) _ _
   have hof:ofS src=if J6 (xR M)=true then({},4,0,[])else({toks:=(xR M).toks,nons:=(xR M).nons,prods:=(xR M).prods,pro:=src.pro,tail:=src.tail},0,0,[]):=by
    unfold ofS;rw[if_pos hm0,hM0,if_neg (by simp[he])]
   obtain ⟨n,hn⟩: ∃n:Nat,M.inner=n:=⟨M.inner.toNat,o_⟩
   have tail: ∀s1 vN1,OfAt s1 m src ti gi vN1 vP vT vL {M with nons:=[{name:=[36,97,99,99,101,112,116]}]}→Gr s1.H s1.next 2 ([({name:=[36,97,99,99,101,112,116]}:Non)].map Non.V) vN1→
    ewp Tryd.prog (.seq y9 (.seq vv (.seq (.reg kG) (.seq xO (.seq (.reg xV) (.seq j3 (.seq yo (.seq (.reg yx) (.seq (.reg yA) .ret))))))))) (jU e17 (ofV (ofS src))) s1:=by
    intro s1 vN1 hA1 hN1
    refine qih hA1 hN1 (by dsimp only;omega) b3 (by simp) fun s2 vN2 hA2 hN2=>?_
    have hnl:([({name:=[36,97,99,99,101,112,116]}:Non)]++yJ M.types M.lefts).length=1+M.lefts.length:=by rw[List.length_append,JH];rfl
    refine qhc (n:=n) hA2 hN2 (by dsimp only;rw[hnl];omega) hn o_ fun s3 vN3 hA3=>?_
    have tail2: ∀s4,OfAt s4 m src ti gi vN3 vP vT vL (qdA {M with nons:=[({name:=[36,97,99,99,101,112,116]}:Non)]++yJ M.types M.lefts} n)→s4.f 22=vi 57346→ewp Tryd.prog (.seq xO (.seq (.reg xV) (.seq j3 (.seq yo (.seq (.reg yx) (.seq (.reg yA) .ret)))))) (jU e17 (ofV (ofS src))) s4:=by
     intro s4 hA4 f22
     refine qiX hA4 f22 (by dsimp only;omega) fun s5 hA5=>?_
     have hmn:xR M=qby (qdA {M with nons:=[({name:=[36,97,99,99,101,112,116]}:Non)]++yJ M.types M.lefts} n) (YL M.given (M.toks.length - 3) 3 (M.toks,57346)).1:=by
      unfold xR;rw[hn];rfl
     have hA5':OfAt s5 m src ti gi vN3 vP vT vL (xR M):=by rw[hmn];exact hA5
     refine qey hA5' (by rw[hmn];exact Nat.le_trans b4 (by decide)) fun s6 hA6 f24=>?_
     have f1:=hA6.f1;have f2:=hA6.f2;have f6:=hA6.f6;have h1:=hA6.h1;have h0:=hA6.h0;have ln:=hA6.ln
     have hM:=hA6.at_;have hm:=hM.hm;have lm:=hM.lm;have lt:=hM.lt;have lg:=hM.lg
     obtain ⟨n1,n2,n3⟩:=hM.mt
     obtain ⟨z1,z2,z3,z4⟩:=hM.far h1 (by decide) (by decide)
     obtain ⟨y1,y2,y3,y4⟩:=hM.far h0 (by decide) (by decide)
     by_cases hlo:J6 (xR M)=true
     · rw[hof,if_pos hlo]
       repeat' with_reducible first
        |refine s_ ?_
        |simp only[wZZ,seval,f1,f2,f6,f24,hlo,h1]
        |refine t_ ?_
       refine qd3 (id:=1) rfl (Or.inr rfl) (by simp only[wL,seval,f2]) wi_ rfl ?_
       simp only[wL,seval]
       exact ErL.tup (.cons (ErL.agg (.cons (ErL.sl .nil) (.cons (ErL.sl .nil) (.cons (ErL.sl .nil) (.cons (.str _) (.cons (.str _) .nil)))))) (.cons (.int _ _) (.cons (.int _ _) (.cons (.str _) .nil))))
     · have hlf:J6 (xR M)=false:=by simpa using hlo
       rw[hof,if_neg hlo]
       repeat' with_reducible first
        |refine s_ ?_
        |simp only[wZZ,seval,f1,f2,f6,f24,hlf,h0,h1,hm]
        |(refine And.intro ?_ ?_;(focus(first|with_unfolding_all rfl|exact congrArg some (qaj (by first|omega|(simp only[List.length_set];omega))))))
        |apply qf;exact wu_;exact wu_;(focus((try simp only[wE,Nat.reduceAdd]);rfl))
        |refine t_ ?_
        |simp(disch:=omega) only[w64,if_neg]
       refine qd3 (id:=1) rfl (Or.inr rfl) (by simp only[wL,seval,f2]) wi_ rfl ?_
       simp only[wL,seval]
       refine ErL.tup (.cons (ErL.agg (.cons ?_ (.cons hM.eN.er (.cons hM.eP.er (.cons (.str _) (.cons (.str _) .nil)))))) (.cons (.int _ _) (.cons (.int _ _) (.cons (.str _) .nil))))
       refine jF (es:=(xR M).toks.map Tok.V) (ro:=false) ?_ (by simp) (by rw[List.drop_zero];exact List.take_of_length_le (by simp))
       simp only[wM]
       repeat(first|rw[if_pos trivial]|rw[if_pos rfl]|rw[if_neg o_])
       exact hM.ht
    generalize (EC.seq xO (.seq (.reg xV) (.seq j3 (.seq yo (.seq (.reg yx) (.seq (.reg yA) .ret))))))=F2 at tail2
    have f1:=hA3.f1
    repeat' with_reducible first
     |refine zI ?_
     |simp only[wZZ,seval,f1]
    exact tail2 _ (hA3.mono wl_ wl_ wl_ wg_ (fun j hj=>by first|rfl|simp only[wM])) wl_
   generalize (EC.seq y9 (.seq vv (.seq (.reg kG) (.seq xO (.seq (.reg xV) (.seq j3 (.seq yo (.seq (.reg yx) (.seq (.reg yA) .ret)))))))))=F at tail
   repeat' with_reducible first
    |refine s_ ?_
    |simp only[wZZ,seval,f1,f2,f6,h1,hm,he]
    |refine t_ ?_
   refine tail _ (.sl 2 true [.agg [.str [36,97,99,99,101,112,116],.str []]]) (hA0.upd ⟨?_,?_,?_,?_,hM.eP,hM.eT,hM.eL,by simp only[wN]<;>omega,by simp only[wN]<;>omega,by simp only[wN]<;>omega,hM.len,hM.len3⟩ wl_ wl_ wl_ wh_ (fun j g1 g2 g3 g4 g5=>?_)) Gr.clip
   · simp only[wM]
     repeat(first|rw[if_pos trivial]|rw[if_pos rfl]|rw[if_neg o_])
     simp[he]
   · simp only[wM]
     repeat(first|rw[if_pos trivial]|rw[if_pos rfl]|rw[if_neg o_])
     exact hM.ht
   · simp only[wM]
     repeat(first|rw[if_pos trivial]|rw[if_pos rfl]|rw[if_neg o_])
     exact hM.hg
   · exact jW
   · simp only[wM]
     repeat(first|rw[if_pos trivial]|rw[if_pos rfl]|rw[if_neg o_])
 · have hof:ofS src=({},M.e,M.at_,M.name):=by unfold ofS;rw[if_pos hm0,hM0,if_pos he]
   rw[hof]
   repeat' with_reducible first
    |refine s_ ?_
    |simp only[wZZ,seval,f1,f2,f6,h1,hm]
    |apply qc<;>intro h h_<;>(try simp only[wD,reduceCtorEq]at h_)<;>(try exact wb_)<;>(try simp only[h])
    |(refine And.intro ?_ ?_;(focus(first|with_unfolding_all rfl|exact congrArg some (qaj (by first|omega|(simp only[List.length_set];omega))))))
    |refine t_ ?_
   refine qd3 (id:=1) rfl (Or.inr rfl) (by simp only[wL,seval,f2]) wi_ rfl ?_
   simp only[wL,seval]
   exact ErL.tup (.cons (ErL.agg (.cons (ErL.sl .nil) (.cons (ErL.sl .nil) (.cons (ErL.sl .nil) (.cons (.str _) (.cons (.str _) .nil)))))) (.cons (.int _ _) (.cons (.int _ _) (.cons (.str _) .nil))))
theorem Vp {src:Source} (hf:src.Fits) (hS:VQ src=true→Small src):Pure Tryd.prog 17 [src.V] (ofV (ofS src)):=by
 refine pure_intro Tryd.func17 nm_ qow (by show 1≤435;decide) ?_
 show ewp _ qb9 _ _
 show ewp _ (.seq (.reg qwu) (.seq qjz (.seq (.reg qlI) (.seq (.reg qqf) (.seq (.reg qsi) (.seq Y5 (.seq Ve (.seq VD (.seq Jg (.seq (.reg JU) (.seq Jk (.seq Zx (.seq (.reg Zk) (.seq y9 (.seq vv (.seq (.reg kG) (.seq xO (.seq (.reg xV) (.seq j3 (.seq yo (.seq (.reg yx) (.seq (.reg yA) .ret)))))))))))))))))))))) _ _
 have tail: ∀s m ti gi,VQ src=true→OfAt s m src ti gi (.sl 2 true []) (.sl 6 true []) (.sl 2 true []) (.sl 1 true []) {}→s.f 7=.str []→
  ewp Tryd.prog (.seq Y5 (.seq Ve (.seq VD (.seq Jg (.seq (.reg JU) (.seq Jk (.seq Zx (.seq (.reg Zk) (.seq y9 (.seq vv (.seq (.reg kG) (.seq xO (.seq (.reg xV) (.seq j3 (.seq yo (.seq (.reg yx) (.seq (.reg yA) .ret))))))))))))))))) (jU e17 (ofV (ofS src))) s:=by
  intro s m ti gi hm0 hA f7
  have hSm:=hS hm0
  have hr0:0<src.rules.length:=by
   have:=hm0;unfold VQ at this
   simp only[Bool.and_eq_true,Bool.not_eq_true',decide_eq_false_iff_not]at this
   exact List.length_pos_iff.2 this.2
  refine qgF hA Gr.nil f7 hSm (by decide) (by decide) (by decide) (by decide) fun s1 ti1 gi1 vT1 hA1 f71 hs1 ht1 hy1=>?_
  generalize hq:xE src.decls ({},[])=q at hA1 f71 hs1 ht1 hy1
  obtain ⟨a1,a2,a3,a4⟩:=hs1
  refine qif hA1 (by rw[a1];exact Gr.nil) hSm (Nat.le_trans ht1 (by decide)) (by rw[a1];decide) fun s2 vL2 hA2 f72 hn2 c1 c2 c3 c4 c5 c6=>?_
  generalize hm2:yu src.rules q.1=m2 at hA2 c1 c2 c3 c4 c5 c6
  rw[a1]at c3
  refine qiF hA2 hSm (Nat.le_trans c3 (by decide)) fun s3 hA3 f73 hn3 hs3=>?_
  generalize hm3:Qh src.decls m2=m3 at hA3 hs3
  obtain ⟨d1,d2,d3,d4,d5,d6,d7⟩:=hs3
  refine qce hA3 (f73.trans (f72.trans f71)) hr0 fun s4 hA4 f74 hn4=>?_
  refine qb1 hA4 f74 (by rw[d3];exact Nat.le_trans c3 (by decide)) fun s5 hA5 hn5=>?_
  have hmm:xY src=yY src.rules (firstM m3 (Ql src q.2)):=by
   unfold xY;simp only[hq,hm2,hm3]
  have kt:({}:Mk).toks.length=3:=rfl
  have kl:({}:Mk).lefts.length=0:=rfl
  have ky:({}:Mk).types.length=0:=rfl
  have ki:({}:Mk).inner=0:=rfl
  have kn:({}:Mk).nons=[]:=rfl
  have t3:m3.toks.length≤1000003:=by rw[d1,c1];omega
  have l3:m3.lefts.length≤1000:=by rw[d3];omega
  have y3:m3.types.length≤1000000:=by rw[d4,c2];omega
  have i3:m3.inner=0:=by rw[d7,c6,a4]
  have n3:m3.nons=[]:=by rw[d6,c5,a3]
  have l1:[qe0 m3 (Ql src q.2)].length=1:=rfl
  refine qgm hA5 Gr.clip ?_ hSm ?_ ?_ (by rw[l1];omega) ?_ ?_ fun s6 ti6 gi6 vP6 hA6 hn6 hs6 e1 e2 e3=>?_
  · exact .cons (ErL.agg (.cons (.int _ _) (.cons (ErL.sl (.cons (.int _ _) .nil)) (.cons (.int _ _) (.cons (.str _) (.cons (ErL.sl .nil) (.cons (.int _ _) .nil))))))) .nil
  · show m3.toks.length≤_;omega
  · show m3.lefts.length≤_;omega
  · show 0≤m3.inner;omega
  · show m3.inner≤_;omega
  · obtain ⟨u1,u2,u3,u4,u5⟩:=hs6
    have v1:(firstM m3 (Ql src q.2)).toks.length=m3.toks.length:=rfl
    have v2:(firstM m3 (Ql src q.2)).lefts.length=m3.lefts.length:=rfl
    have v3:(firstM m3 (Ql src q.2)).types.length=m3.types.length:=rfl
    have v4:(firstM m3 (Ql src q.2)).inner=m3.inner:=rfl
    have v5:(firstM m3 (Ql src q.2)).nons=m3.nons:=rfl
    exact qhQ hA6 hm0 hmm o_ (by rw[u1];omega) (by rw[u2];omega) (by rw[l1]at e2;omega) o_ o_ (by rw[u3,v5];exact n3)
 generalize (EC.seq Y5 (.seq Ve (.seq VD (.seq Jg (.seq (.reg JU) (.seq Jk (.seq Zx (.seq (.reg Zk) (.seq y9 (.seq vv (.seq (.reg kG) (.seq xO (.seq (.reg xV) (.seq j3 (.seq yo (.seq (.reg yx) (.seq (.reg yA) .ret)))))))))))))))))=F at tail
 by_cases hm0:VQ src=true
 · repeat' with_reducible first
    |refine s_ ?_
    |simp only[wZZ,seval,hm0]
    |refine cq1 (QD hf) (qcR src) ?_
    |refine t_ ?_
    |apply zC;exact wf_;exact wf_;(focus(unfold maxLen;first|omega|(simp only[wZ]<;>omega)))
   refine tail _ 10 16 8 hm0 ⟨⟨?_,?_,?_,ErL.sl .nil,ErL.sl .nil,ErL.sl .nil,ErL.sl .nil,by simp only[wN]<;>omega,by simp only[wN]<;>omega,by simp only[wN]<;>omega,rfl,by decide⟩,?_,?_,?_,?_,?_,by simp only[wN]<;>omega⟩ ?_
   · simp only[wM,seval]
     rfl
   · simp only[wM,seval]
     rfl
   · simp only[wM,seval]
     rfl
   · simp only[wL,seval]
   · simp only[wL,seval]
   · simp only[wL,seval]
   · simp only[wM,seval]
   · simp only[wM,seval]
   · simp only[wL,seval]
 · have hmf:VQ src=false:=by simpa using hm0
   have hof:ofS src=({},1,0,[]):=by unfold ofS;rw[if_neg hm0]
   rw[hof]
   repeat' with_reducible first
    |refine s_ ?_
    |simp only[wZZ,seval,hmf]
    |refine cq1 (QD hf) (qcR src) ?_
    |refine t_ ?_
   refine qd3 (id:=1) rfl (Or.inr rfl) wl_ (by simp only[wM,seval];rfl) rfl ?_
   simp only[wL,seval]
   exact ErL.tup (.cons (ErL.agg (.cons (ErL.sl .nil) (.cons (ErL.sl .nil) (.cons (ErL.sl .nil) (.cons (.str _) (.cons (.str _) .nil)))))) (.cons (.int _ _) (.cons (.int _ _) (.cons (.str _) .nil))))

theorem qfx {ef:EF} {t a id:Nat} {ro:Bool} {v res:V} {e:Exit} {s:St} (he:ef.res=[.inr (t,true,5),.inl a]) (hx:e=.normal∨e=.ret) (hp:s.f t=.ptr id 0 0) (hH:s.H id=some (.own 5 [v] ro)) (ha:v.isAgg=true)
 (h:Er true s.H (.tup [v,s.f a]) res):jU ef res e s:=by
 have hv:zJ s true 5 (s.f t)=some v:=by rw[hp];simp only[zJ,hH,List.getElem?_cons_zero,xI,ha,and_self,if_true]
 exact⟨hx,_,by rw[he];simp[qfu,qdm,hv,one],h⟩
instance (g:Grammar):Cl g.V:=⟨fun b H=>ErL.agg (.cons qI (.cons qI (.cons qI (.cons (.str _) (.cons (.str _) .nil)))))⟩
abbrev Qv (src:Source):Grammar:=(ofS src).1
abbrev Z9 (src:Source):Bool:=decide ((ofS src).2.1=0)
theorem QE {src:Source} (hf:src.Fits) (hS:VQ src=true→Small src):Pure Tryd.prog 7 [src.V] (.tup [(Qv src).V,.bool (Z9 src)]):=by
 refine pure_intro Tryd.func7 nm_ qy1 (by show 1≤18;decide) ?_
 show ewp _ qCz _ _
 repeat' with_reducible first
  |refine s_ ?_
  |simp only[wZZ,seval]
  |refine cq1 (Vp hf hS) (qcR src) ?_
  |refine t_ ?_
 refine qfx (id:=1) rfl (Or.inr rfl) wl_ (by simp only[wM,seval];rfl) rfl ?_
 simp only[wL,seval]
 exact ErL.tup (.cons qI (.cons (.bool _) .nil))
end Go.Proofs
