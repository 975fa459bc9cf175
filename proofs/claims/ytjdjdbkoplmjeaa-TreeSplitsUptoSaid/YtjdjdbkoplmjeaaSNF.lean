/- Part of a proof that a law of the given program answers true. -/
import Derived.Test.YtjdjdbkoplmjeaaSNE
import Derived.Test.YtjdjdbkoplmjeaaSNC
import Derived.Test.YtjdjdbkoplmjeaaSKA
set_option linter.unusedSimpArgs false
set_option linter.unusedVariables false
set_option maxHeartbeats 4000000
set_option maxRecDepth 20000
namespace Go.Proofs
open Go.E
mutual
theorem VY {L:Nat} {g:Grammar} (hg:GOk g) (hn:NmsOk L g): ∀t:Nd,t.whole g=true→t.NmAll (qiR g)
 | .mk s p a ks,h=>by
   rw[Nd.whole]at h
   by_cases hp:p= -1
   · rw[if_pos hp]at h
     obtain ⟨h1,h2,_,h4⟩:=of_decide_eq_true h
     obtain rfl:=List.length_eq_zero_iff.1 h4
     have ht:=hg.tk2
     have hi:s.toNat<g.toks.length:=o_
     exact⟨Or.inl ⟨s.toNat,g.toks[s.toNat],o_,o_,ge_ hi,(hn.tok _ (List.getElem_mem hi)).1⟩,trivial⟩
   · rw[if_neg hp,Bool.and_eq_true]at h
     cases hpr:g.prods[p.toNat]? with
     |none=>rw[hpr]at h;exact absurd h.2 (by simp)
     | some x=>
       rw[hpr]at h
       obtain ⟨_,h⟩:=h
       rw[Bool.and_eq_true,decide_eq_true_eq]at h
       obtain ⟨lf,hl,hl2⟩:=hg.left x (List.mem_of_getElem? hpr)
       exact⟨Or.inr ⟨lf,g.nons[lf],by rw[h.1,hl],ge_ hl2⟩,XW hg hn x.right ks h.2⟩
theorem XW {L:Nat} {g:Grammar} (hg:GOk g) (hn:NmsOk L g): ∀(l:List Int) (ks:List Nd),Nd.wholes g l ks=true→Nd.NmAlls (qiR g) ks
 |[],[],_=>trivial
 | s::l,k::r,h=>by
   rw[Nd.wholes,Bool.and_eq_true,Bool.and_eq_true]at h
   exact⟨VY hg hn k h.2.1,XW hg hn l r h.2.2⟩
 |[],_::_,h=>by rw[Nd.wholes]at h;cases h
 | _::_,[],h=>by rw[Nd.wholes]at h;cases h
end
mutual
theorem Nd.NmAll.imp {P Q:Int→Prop} (h: ∀s,P s→Q s): ∀t:Nd,t.NmAll P→t.NmAll Q
 |.mk s p a ks,hh=>⟨h s hh.1,Nd.NmAlls.imp h ks hh.2⟩
theorem Nd.NmAlls.imp {P Q:Int→Prop} (h: ∀s,P s→Q s): ∀ks:List Nd,Nd.NmAlls P ks→Nd.NmAlls Q ks
 |[],_=>trivial
 |k::r,hh=>⟨Nd.NmAll.imp h k hh.1,Nd.NmAlls.imp h r hh.2⟩
end
theorem qce {L:Nat} {g:Grammar} (hL:4≤L) (hn:NmsOk L g) (s:Int):(yR g s).length≤L:=by
 unfold yR
 split
 · cases h:g.toks[s.toNat]? with
   |none=>simp
   | some x=>
     have:=(hn.tok x (List.mem_of_getElem? h)).2
     have h4:=qfu (x.name.headD 0)
     show (qcx x).length≤L
     unfold qcx
     split<;>omega
 · cases h:g.nons[(s - 1000).toNat]? with
   |none=>simp
   |some x=>exact hn.non x (List.mem_of_getElem? h)
mutual
theorem qat {L:Nat} {nm:Int→List UInt8} (h: ∀s,(nm s).length≤L): ∀t:Nd,(t.txt nm).length+1≤t.size *(L+4)
 | .mk s p a ks=>by
   have h1:=kT h ks
   have h2:=h s
   rw[Nd.txt,Nd.size,Nat.add_mul]
   split
   · omega
   · simp only[List.length_append,List.length_cons,List.length_nil];omega
theorem kT {L:Nat} {nm:Int→List UInt8} (h: ∀s,(nm s).length≤L): ∀ks:List Nd,(Nd.txts nm ks).length≤Nd.sizes ks *(L+4)
 |[]=>by simp[Nd.txts]
 | k::r=>by
   have h1:=qat h k
   have h2:=kT h r
   rw[Nd.txts,Nd.sizes,Nat.add_mul]
   simp only[List.length_append,List.length_cons];omega
end
def qg7 (g:Grammar) (t:Nd):List UInt8:=if t.zS g 3000 then t.txt (yR g)else[]
theorem Xu {g:Grammar} {t:Nd} (hg:GOk g) (hn:NmsOk 100 g) (h:t.zS g 3000=true):t.NmAll (qiR g)∧(t.txt (yR g)).length≤140737488355328:=by
 unfold Nd.zS at h
 rw[Bool.and_eq_true,decide_eq_true_eq]at h
 refine⟨VY hg hn t h.2,?_⟩
 have h1:=qat (fun s=>qce o_ hn s) t
 have h2:t.size *(100+4)≤3000 *(100+4):=Nat.mul_le_mul_right _ h.1
 omega
theorem XC {g:Grammar} {t:Nd} (hg:GOk g) (hn:NmsOk 100 g) (hb:t.size≤1000000000):Pure Try.prog 27 [g.V,t.V] (.str (qg7 g t)):=by
 have ht:=hg.tk2
 have hnn:=hg.nn2
 exact qbi hb (Zl hg o_) (fun h=>(Xu hg hn h).1.imp (fun s hs=>qaL hs o_ o_) t) (fun h=>(Xu hg hn h).2)
theorem qgq {g:Grammar} {t:Nd} (hg:GOk g) (hn:NmsOk 100 g) (hb:t.size≤1000000000):Pure Try.prog 35 [g.V,t.V] (.str (qg7 g t)):=by
 have ht:=hg.tk2
 have hnn:=hg.nn2
 exact Z0 hg hb (fun h=>(Xu hg hn h).1.imp (fun s hs=>Jm hs o_ o_) t) (fun h=>(Xu hg hn h).2)
theorem Zc {g:Grammar} {t:Nd} (hg:GOk g) (hn:NmsOk 100 g) (hb:t.size≤1000000):Pure Try.prog 11 [g.V,t.V] (.bool true):=by
 refine pure_intro Try.func11 nm_ ql2 (by show 2≤48;decide) ?_
 show ewp _ qjn _ _
 have h1:=Zl hg (t:=t) o_
 have h2:=vK hg (t:=t) o_
 have h3:=XC (t:=t) hg hn o_
 have h4:=qgq (t:=t) hg hn o_
 have h5:=xR (t:=t) o_
 have h6:=jK (t:=t) o_
 have h7:=xJ (t:=t) o_
 have h8:=Yj t.size t (Nat.le_refl _) o_
 have l1:=t.yld_len
 have l2:=t.ats_len
 have l3:=t.prs_len
 have e1:=qz (a:=t.yld) (b:=t.yld) o_ o_
 have e2:=qz (a:=t.ats) (b:=t.ats) o_ o_
 have e3:=qz (a:=t.prs) (b:=t.prs) o_ o_
 rw[decide_eq_true rfl]at e1 e2 e3
 have hkV:t.V=.agg [vi t.sym,vi t.prod,vi t.at_,.sl 4 false (t.kids.map Nd.V)]:=by obtain ⟨q1,q2,q3,q4⟩:=t;rw[Nd.V_mk]
 unfold qaJ at h8
 rw[hkV]at h1 h2 h3 h4 h5 h6 h7 h8 ⊢
 generalize t.zS g 3000=mb at *
 generalize qg7 g t=tx at *
 repeat' with_reducible first
  |refine s_ ?_
  |simp -implicitDefEqProofs only[wZZ,seval]
  |refine cq2 h1 qd qd ?_
  |refine cq2 h2 qd qd ?_
  |refine cq2 h3 qd qd ?_
  |refine cq2 h4 qd qd ?_
  |refine cq1 h5 qd ?_
  |refine cq1 h6 qd ?_
  |refine cq1 h7 qd ?_
  |refine cq1 h8 qd ?_
  |refine cq2 e1 qd qd ?_
  |refine cq2 e2 qd qd ?_
  |refine cq2 e3 qd qd ?_
  |refine t_ ?_
 all_goals refine qo rfl (Or.inr rfl) ?_
 all_goals(try simp -implicitDefEqProofs only[wL,seval])
 all_goals refine er_ ?_
 all_goals(try(with_reducible rfl))

@[reducible] def YP:Source:={rules:=[{left:=[101],alts:=[{parts:=[{sym:={name:=[101]}},{sym:={name:=[43],lit:=true}},{sym:={name:=[101]}}]},{parts:=[{sym:={name:=[120],lit:=true}}]}]}]}
theorem okT:Vd YP=true:=by decide+kernel
theorem qcT:Small YP:=by
 refine⟨by simp,fun d h=>?_,fun d h=>?_,fun d h=>?_,by simp,?_,?_,?_,?_⟩
 · cases h
 · cases h
 · cases h
 · decide
 · decide
 · decide
 · decide
theorem qwu:YP.Fits:=by
 refine⟨by simp,by simp,by simp,fun d h=>?_,by simp,fun r hr=>?_⟩
 · cases h
 · simp only[List.mem_cons,List.not_mem_nil,or_false]at hr
   subst hr
   refine⟨by simp,by simp,fun a ha=>?_⟩
   simp only[List.mem_cons,List.not_mem_nil,or_false]at ha
   rcases ha with rfl|rfl
   · refine⟨by simp,fun p hp=>?_,by simp⟩
     simp only[List.mem_cons,List.not_mem_nil,or_false]at hp
     rcases hp with rfl|rfl|rfl<;>exact⟨by simp,by simp⟩
   · refine⟨by simp,fun p hp=>?_,by simp⟩
     simp only[List.mem_cons,List.not_mem_nil,or_false]at hp
     subst hp;exact⟨by simp,by simp⟩
theorem qyc:SrcL 100 YP:=⟨(fun d h=>by cases h),by decide,by decide,by decide⟩
theorem qu6:Pure Try.prog 8 [YP.V] (.tup [(yE YP).V,.bool true]):=by
 have:=jY qwu (fun _=>qcT)
 rw[okT]at this
 exact this
def jm:Nd:= .mk 1001 1 (-1) [.mk 1001 2 (-1) [.mk 4 (-1) 0 []],.mk 3 (-1) 1 [],.mk 1001 2 (-1) [.mk 4 (-1) 2 []]]
theorem bT1:JU (yE YP) [2,2,1] [4,3,4]=some jm:=by
 have h:(match JU (yE YP) [2,2,1] [4,3,4]with|some t=>t.eqb jm|none=>false)=true:=by decide+kernel
 split at h
 · rename_i t e;rw[e,(Nd.eqb_iff _ _).1 h]
 · cases h
theorem bT2:JU (yE YP) [2,1,2] [4,3,4]=none:=by
 have h:(JU (yE YP) [2,1,2] [4,3,4]).isNone=true:=by decide+kernel
 exact Option.isNone_iff_eq_none.1 h
theorem tT:qg7 (yE YP) jm=[40,101,32,40,101,32,39,120,39,41,32,39,43,39,32,40,101,32,39,120,39,41,41]:=by decide+kernel
theorem tZ:qg7 (yE YP) (.mk 0 0 0 [])=[]:=by decide+kernel
theorem mT:jm.zS (yE YP) 3000=true:=by decide+kernel
theorem mZ:(Nd.mk 0 0 0 []).zS (yE YP) 3000=false:=by decide+kernel
theorem erT {H:Nat→Option MObj}:Er false H (.agg [.str [],.sl 4 true [],.sl 3 true [.agg [.str [101],.sl 6 true [.agg [.sl 6 true [.agg [.str [101],.bool false,vi 0,vi 0,.str [],vi 0],.agg [.str [43],.bool true,vi 0,vi 0,.str [],vi 0],.agg [.str [101],.bool false,vi 0,vi 0,.str [],vi 0]],.str [],.bool false,vi 0,vi 0,vi 0],.agg [.sl 6 true [.agg [.str [120],.bool true,vi 0,vi 0,.str [],vi 0]],.str [],.bool false,vi 0,vi 0,vi 0]],vi 0]],.str []]) YP.V:=by
 refine ErL.agg (.cons (.str _) (.cons (ErL.sl .nil) (.cons (ErL.sl ?_) (.cons (.str _) .nil))))
 refine .cons (ErL.agg (.cons (.str _) (.cons (ErL.sl ?_) (.cons (.int _ _) .nil)))) .nil
 refine .cons (ErL.agg (.cons (ErL.sl ?_) (.cons (.str _) (.cons (.bool _) (.cons (.int _ _) (.cons (.int _ _) (.cons (.int _ _) .nil))))))) (.cons (ErL.agg (.cons (ErL.sl ?_) (.cons (.str _) (.cons (.bool _) (.cons (.int _ _) (.cons (.int _ _) (.cons (.int _ _) .nil))))))) .nil)
 · exact .cons (ErL.agg (.cons (.str _) (.cons (.bool _) (.cons (.int _ _) (.cons (.int _ _) (.cons (.str _) (.cons (.int _ _) .nil))))))) (.cons (ErL.agg (.cons (.str _) (.cons (.bool _) (.cons (.int _ _) (.cons (.int _ _) (.cons (.str _) (.cons (.int _ _) .nil))))))) (.cons (ErL.agg (.cons (.str _) (.cons (.bool _) (.cons (.int _ _) (.cons (.int _ _) (.cons (.str _) (.cons (.int _ _) .nil))))))) .nil))
 · exact .cons (ErL.agg (.cons (.str _) (.cons (.bool _) (.cons (.int _ _) (.cons (.int _ _) (.cons (.str _) (.cons (.int _ _) .nil))))))) .nil
theorem erZ {b:Bool} {H:Nat→Option MObj}:Er b H (.agg [vi 0,vi 0,vi 0,.sl 4 true []]) (Nd.mk 0 0 0 []).V:=ErL.agg (.cons (.int _ _) (.cons (.int _ _) (.cons (.int _ _) (.cons (ErL.sl .nil) .nil))))
theorem yB:Pure Try.prog 7 [] (.bool true):=by
 refine pure_intro Try.func7 nm_ qvJ (by show 0≤98;decide) ?_
 show ewp _ qnE _ _
 have hg:=gok okT
 have hn:=nms (L:=100) o_ (fun _=>qcT) qyc
 have h0:=qu6
 have h1:=JZ (P:=[2,2,1]) (T:=[4,3,4]) hg (by simp) (by simp)
 have h2:=JZ (P:=[2,1,2]) (T:=[4,3,4]) hg (by simp) (by simp)
 rw[bT1]at h1
 rw[bT2]at h2
 have hsz:jm.size=6:=by decide
 have h3:=XC (t:=jm) hg hn o_
 rw[tT]at h3
 have h4:=xA jm.size jm (Nat.le_refl _) o_
 rw[hsz]at h4
 have h5:=xJ (t:=jm) o_
 have h6:=xR (t:=jm) o_
 have h7:=jK (t:=jm) o_
 rw[show jm.prs=[2,2,1] by decide]at h5
 rw[show jm.yld=[4,3,4] by decide]at h6
 rw[show jm.ats=[0,1,2] by decide]at h7
 have e1:=qz (a:=[2,2,1]) (b:=[2,2,1]) (by simp) (by simp)
 have e2:=qz (a:=[4,3,4]) (b:=[4,3,4]) (by simp) (by simp)
 have e3:=qz (a:=[0,1,2]) (b:=[0,1,2]) (by simp) (by simp)
 rw[decide_eq_true rfl]at e1 e2 e3
 have h8:=Zl (t:=jm) hg o_
 rw[mT]at h8
 have h9:=Zl (t:= .mk 0 0 0 []) hg (by decide)
 rw[mZ]at h9
 have h10:=XC (t:= .mk 0 0 0 []) hg hn (by decide)
 rw[tZ]at h10
 clear hg hn hsz
 have hkV:jm.V=.agg [vi jm.sym,vi jm.prod,vi jm.at_,.sl 4 false (jm.kids.map Nd.V)]:=by unfold jm;rw[Nd.V_mk];try rfl
 unfold qtJ at h1 h2
 dsimp only at h1 h2
 have hzV:(Nd.mk 0 0 0 []).V=.agg [vi 0,vi 0,vi 0,.sl 4 false []]:=by rw[Nd.V_mk];try rfl
 rw[hkV]at h1 h3 h4 h5 h6 h7 h8
 rw[hzV]at h2
 simp only[Int.cast_ofNat_Int]at h4
 generalize jm.sym=q1 at *
 generalize jm.prod=q2 at *
 generalize jm.at_=q3 at *
 generalize jm.kids=q4 at *
 generalize yE YP=g at *
 repeat' with_reducible first
  |refine s_ ?_
  |simp -implicitDefEqProofs only[wZZ,seval]
  |apply jG (hp:=h0);with_unfolding_all exact erT
  |apply vO (hp:=h1);exact qd;with_unfolding_all exact kC (l:=[2,2,1]);with_unfolding_all exact kC (l:=[4,3,4])
  |apply vO (hp:=h2);exact qd;with_unfolding_all exact kC (l:=[2,1,2]);with_unfolding_all exact kC (l:=[4,3,4])
  |refine cq2 h3 qd qd ?_
  |refine cq1 h4 qd ?_
  |refine cq1 h5 qd ?_
  |refine cq1 h6 qd ?_
  |refine cq1 h7 qd ?_
  |refine cq2 h8 qd qd ?_
  |apply zy (hp:=h9);exact qd;with_unfolding_all exact erZ
  |apply zy (hp:=h10);exact qd;with_unfolding_all exact erZ
  |apply zy (hp:=e1);with_unfolding_all exact qd;with_unfolding_all exact kC (l:=[2,2,1])
  |apply zy (hp:=e2);with_unfolding_all exact qd;with_unfolding_all exact kC (l:=[4,3,4])
  |apply zy (hp:=e3);with_unfolding_all exact qd;with_unfolding_all exact kC (l:=[0,1,2])
  |refine t_ ?_
 all_goals refine qo rfl (Or.inr rfl) ?_
 all_goals(try simp -implicitDefEqProofs only[wL,seval])
 all_goals refine er_ ?_
 all_goals(try(with_reducible rfl))
end Go.Proofs
