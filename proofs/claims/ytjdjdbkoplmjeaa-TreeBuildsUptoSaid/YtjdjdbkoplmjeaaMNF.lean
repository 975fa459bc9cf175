/- Part of a proof that a law of the given program answers true. -/
import Derived.Test.YtjdjdbkoplmjeaaMNE
import Derived.Test.YtjdjdbkoplmjeaaMNC
import Derived.Test.YtjdjdbkoplmjeaaMKA
set_option linter.unusedSimpArgs false
set_option linter.unusedVariables false
set_option maxHeartbeats 4000000
set_option maxRecDepth 20000
namespace Go.Proofs
open Go.E
mutual
theorem qao {L:Nat} {g:Grammar} (hg:GOk g) (hn:NmsOk L g): ∀t:Nd,t.whole g=true→t.NmAll (qkF g)
 | .mk s p a ks,h=>by
   rw[Nd.whole]at h
   by_cases hp:p= -1
   · rw[if_pos hp]at h
     obtain ⟨h1,h2,_,h4⟩:=of_decide_eq_true h
     obtain rfl:=List.length_eq_zero_iff.1 h4
     have ht:=hg.tk2
     have hi:s.toNat<g.toks.length:=o_
     exact⟨Or.inl ⟨s.toNat,g.toks[s.toNat],o_,o_,ge_ hi,(hn.tok _ (List.getElem_mem hi)).1⟩,trivial⟩
   · rw[if_neg hp,Bool.and_eq_true]at h
     cases hpr:g.prods[p.toNat]? with
     |none=>rw[hpr]at h;exact absurd h.2 (by simp)
     | some x=>
       rw[hpr]at h
       obtain ⟨_,h⟩:=h
       rw[Bool.and_eq_true,decide_eq_true_eq]at h
       obtain ⟨lf,hl,hl2⟩:=hg.left x (List.mem_of_getElem? hpr)
       exact⟨Or.inr ⟨lf,g.nons[lf],by rw[h.1,hl],ge_ hl2⟩,VJ hg hn x.right ks h.2⟩
theorem VJ {L:Nat} {g:Grammar} (hg:GOk g) (hn:NmsOk L g): ∀(l:List Int) (ks:List Nd),Nd.wholes g l ks=true→Nd.NmAlls (qkF g) ks
 |[],[],_=>trivial
 | s::l,k::r,h=>by
   rw[Nd.wholes,Bool.and_eq_true,Bool.and_eq_true]at h
   exact⟨qao hg hn k h.2.1,VJ hg hn l r h.2.2⟩
 |[],_::_,h=>by rw[Nd.wholes]at h;cases h
 | _::_,[],h=>by rw[Nd.wholes]at h;cases h
end
mutual
theorem Nd.NmAll.imp {P Q:Int→Prop} (h: ∀s,P s→Q s): ∀t:Nd,t.NmAll P→t.NmAll Q
 |.mk s p a ks,hh=>⟨h s hh.1,Nd.NmAlls.imp h ks hh.2⟩
theorem Nd.NmAlls.imp {P Q:Int→Prop} (h: ∀s,P s→Q s): ∀ks:List Nd,Nd.NmAlls P ks→Nd.NmAlls Q ks
 |[],_=>trivial
 |k::r,hh=>⟨Nd.NmAll.imp h k hh.1,Nd.NmAlls.imp h r hh.2⟩
end
theorem qew {L:Nat} {g:Grammar} (hL:4≤L) (hn:NmsOk L g) (s:Int):(vF g s).length≤L:=by
 unfold vF
 split
 · cases h:g.toks[s.toNat]? with
   |none=>simp
   | some x=>
     have:=(hn.tok x (List.mem_of_getElem? h)).2
     have h4:=qhd (x.name.headD 0)
     show (qev x).length≤L
     unfold qev
     split<;>omega
 · cases h:g.nons[(s - 1000).toNat]? with
   |none=>simp
   |some x=>exact hn.non x (List.mem_of_getElem? h)
mutual
theorem qdY {L:Nat} {nm:Int→List UInt8} (h: ∀s,(nm s).length≤L): ∀t:Nd,(t.txt nm).length+1≤t.size *(L+4)
 | .mk s p a ks=>by
   have h1:=QT h ks
   have h2:=h s
   rw[Nd.txt,Nd.size,Nat.add_mul]
   split
   · omega
   · simp only[List.length_append,List.length_cons,List.length_nil];omega
theorem QT {L:Nat} {nm:Int→List UInt8} (h: ∀s,(nm s).length≤L): ∀ks:List Nd,(Nd.txts nm ks).length≤Nd.sizes ks *(L+4)
 |[]=>by simp[Nd.txts]
 | k::r=>by
   have h1:=qdY h k
   have h2:=QT h r
   rw[Nd.txts,Nd.sizes,Nat.add_mul]
   simp only[List.length_append,List.length_cons];omega
end
def qmu (g:Grammar) (t:Nd):List UInt8:=if t.z8 g 3000 then t.txt (vF g)else[]
theorem Yv {g:Grammar} {t:Nd} (hg:GOk g) (hn:NmsOk 100 g) (h:t.z8 g 3000=true):t.NmAll (qkF g)∧(t.txt (vF g)).length≤140737488355328:=by
 unfold Nd.z8 at h
 rw[Bool.and_eq_true,decide_eq_true_eq]at h
 refine⟨qao hg hn t h.2,?_⟩
 have h1:=qdY (fun s=>qew o_ hn s) t
 have h2:t.size *(100+4)≤3000 *(100+4):=Nat.mul_le_mul_right _ h.1
 omega
theorem Yz {g:Grammar} {t:Nd} (hg:GOk g) (hn:NmsOk 100 g) (hb:t.size≤1000000000):Pure Try.prog 27 [g.V,t.V] (.str (qmu g t)):=by
 have ht:=hg.tk2
 have hnn:=hg.nn2
 exact qdK hb (Qy hg o_) (fun h=>(Yv hg hn h).1.imp (fun s hs=>qca hs o_ o_) t) (fun h=>(Yv hg hn h).2)
theorem qkd {g:Grammar} {t:Nd} (hg:GOk g) (hn:NmsOk 100 g) (hb:t.size≤1000000000):Pure Try.prog 35 [g.V,t.V] (.str (qmu g t)):=by
 have ht:=hg.tk2
 have hnn:=hg.nn2
 exact Jy hg hb (fun h=>(Yv hg hn h).1.imp (fun s hs=>Xu hs o_ o_) t) (fun h=>(Yv hg hn h).2)
theorem ZP {g:Grammar} {t:Nd} (hg:GOk g) (hn:NmsOk 100 g) (hb:t.size≤1000000):Pure Try.prog 11 [g.V,t.V] (.bool true):=by
 refine pure_intro Try.func11 nm_ ql0 (by show 2≤48;decide) ?_
 show ewp _ qso _ _
 have h1:=Qy hg (t:=t) o_
 have h2:=kY hg (t:=t) o_
 have h3:=Yz (t:=t) hg hn o_
 have h4:=qkd (t:=t) hg hn o_
 have h5:=XV (t:=t) o_
 have h6:=Xb (t:=t) o_
 have h7:=Xy (t:=t) o_
 have h8:=Xp t.size t (Nat.le_refl _) o_
 have l1:=t.yld_len
 have l2:=t.ats_len
 have l3:=t.prs_len
 have e1:=zy (a:=t.yld) (b:=t.yld) o_ o_
 have e2:=zy (a:=t.ats) (b:=t.ats) o_ o_
 have e3:=zy (a:=t.prs) (b:=t.prs) o_ o_
 rw[decide_eq_true rfl]at e1 e2 e3
 have hkV:t.V=.agg [vi t.sym,vi t.prod,vi t.at_,.sl 4 false (t.kids.map Nd.V)]:=by obtain ⟨q1,q2,q3,q4⟩:=t;rw[Nd.V_mk]
 unfold qbs at h8
 rw[hkV]at h1 h2 h3 h4 h5 h6 h7 h8 ⊢
 generalize t.z8 g 3000=mb at *
 generalize qmu g t=tx at *
 repeat' with_reducible first
  |refine s_ ?_
  |simp -implicitDefEqProofs only[wZZ,seval]
  |refine cq2 h1 qc qc ?_
  |refine cq2 h2 qc qc ?_
  |refine cq2 h3 qc qc ?_
  |refine cq2 h4 qc qc ?_
  |refine cq1 h5 qc ?_
  |refine cq1 h6 qc ?_
  |refine cq1 h7 qc ?_
  |refine cq1 h8 qc ?_
  |refine cq2 e1 qc qc ?_
  |refine cq2 e2 qc qc ?_
  |refine cq2 e3 qc qc ?_
  |refine t_ ?_
 all_goals refine qA rfl (Or.inr rfl) ?_
 all_goals(try simp -implicitDefEqProofs only[wL,seval])
 all_goals refine er_ ?_
 all_goals(try(with_reducible rfl))

@[reducible] def Kz:Source:={rules:=[{left:=[101],alts:=[{parts:=[{sym:={name:=[101]}},{sym:={name:=[43],lit:=true}},{sym:={name:=[101]}}]},{parts:=[{sym:={name:=[120],lit:=true}}]}]}]}
theorem okT:VU Kz=true:=by decide+kernel
theorem qgv:Small Kz:=by
 refine⟨by simp,fun d h=>?_,fun d h=>?_,fun d h=>?_,by simp,?_,?_,?_,?_⟩
 · cases h
 · cases h
 · cases h
 · decide
 · decide
 · decide
 · decide
theorem qGA:Kz.Fits:=by
 refine⟨by simp,by simp,by simp,fun d h=>?_,by simp,fun r hr=>?_⟩
 · cases h
 · simp only[List.mem_cons,List.not_mem_nil,or_false]at hr
   subst hr
   refine⟨by simp,by simp,fun a ha=>?_⟩
   simp only[List.mem_cons,List.not_mem_nil,or_false]at ha
   rcases ha with rfl|rfl
   · refine⟨by simp,fun p hp=>?_,by simp⟩
     simp only[List.mem_cons,List.not_mem_nil,or_false]at hp
     rcases hp with rfl|rfl|rfl<;>exact⟨by simp,by simp⟩
   · refine⟨by simp,fun p hp=>?_,by simp⟩
     simp only[List.mem_cons,List.not_mem_nil,or_false]at hp
     subst hp;exact⟨by simp,by simp⟩
theorem qF9:SrcL 100 Kz:=⟨(fun d h=>by cases h),by decide,by decide,by decide⟩
theorem qEG:Pure Try.prog 8 [Kz.V] (.tup [(yo Kz).V,.bool true]):=by
 have:=jo qGA (fun _=>qgv)
 rw[okT]at this
 exact this
def jN:Nd:= .mk 1001 1 (-1) [.mk 1001 2 (-1) [.mk 4 (-1) 0 []],.mk 3 (-1) 1 [],.mk 1001 2 (-1) [.mk 4 (-1) 2 []]]
theorem bT1:yZ (yo Kz) [2,2,1] [4,3,4]=some jN:=by
 have h:(match yZ (yo Kz) [2,2,1] [4,3,4]with|some t=>t.eqb jN|none=>false)=true:=by decide+kernel
 split at h
 · rename_i t e;rw[e,(Nd.eqb_iff _ _).1 h]
 · cases h
theorem bT2:yZ (yo Kz) [2,1,2] [4,3,4]=none:=by
 have h:(yZ (yo Kz) [2,1,2] [4,3,4]).isNone=true:=by decide+kernel
 exact Option.isNone_iff_eq_none.1 h
theorem tT:qmu (yo Kz) jN=[40,101,32,40,101,32,39,120,39,41,32,39,43,39,32,40,101,32,39,120,39,41,41]:=by decide+kernel
theorem tZ:qmu (yo Kz) (.mk 0 0 0 [])=[]:=by decide+kernel
theorem mT:jN.z8 (yo Kz) 3000=true:=by decide+kernel
theorem mZ:(Nd.mk 0 0 0 []).z8 (yo Kz) 3000=false:=by decide+kernel
theorem erT {H:Nat→Option MObj}:Er false H (.agg [.str [],.sl 4 true [],.sl 3 true [.agg [.str [101],.sl 6 true [.agg [.sl 6 true [.agg [.str [101],.bool false,vi 0,vi 0,.str [],vi 0],.agg [.str [43],.bool true,vi 0,vi 0,.str [],vi 0],.agg [.str [101],.bool false,vi 0,vi 0,.str [],vi 0]],.str [],.bool false,vi 0,vi 0,vi 0],.agg [.sl 6 true [.agg [.str [120],.bool true,vi 0,vi 0,.str [],vi 0]],.str [],.bool false,vi 0,vi 0,vi 0]],vi 0]],.str []]) Kz.V:=by
 refine ErL.agg (.cons (.str _) (.cons (ErL.sl .nil) (.cons (ErL.sl ?_) (.cons (.str _) .nil))))
 refine .cons (ErL.agg (.cons (.str _) (.cons (ErL.sl ?_) (.cons (.int _ _) .nil)))) .nil
 refine .cons (ErL.agg (.cons (ErL.sl ?_) (.cons (.str _) (.cons (.bool _) (.cons (.int _ _) (.cons (.int _ _) (.cons (.int _ _) .nil))))))) (.cons (ErL.agg (.cons (ErL.sl ?_) (.cons (.str _) (.cons (.bool _) (.cons (.int _ _) (.cons (.int _ _) (.cons (.int _ _) .nil))))))) .nil)
 · exact .cons (ErL.agg (.cons (.str _) (.cons (.bool _) (.cons (.int _ _) (.cons (.int _ _) (.cons (.str _) (.cons (.int _ _) .nil))))))) (.cons (ErL.agg (.cons (.str _) (.cons (.bool _) (.cons (.int _ _) (.cons (.int _ _) (.cons (.str _) (.cons (.int _ _) .nil))))))) (.cons (ErL.agg (.cons (.str _) (.cons (.bool _) (.cons (.int _ _) (.cons (.int _ _) (.cons (.str _) (.cons (.int _ _) .nil))))))) .nil))
 · exact .cons (ErL.agg (.cons (.str _) (.cons (.bool _) (.cons (.int _ _) (.cons (.int _ _) (.cons (.str _) (.cons (.int _ _) .nil))))))) .nil
theorem erZ {b:Bool} {H:Nat→Option MObj}:Er b H (.agg [vi 0,vi 0,vi 0,.sl 4 true []]) (Nd.mk 0 0 0 []).V:=ErL.agg (.cons (.int _ _) (.cons (.int _ _) (.cons (.int _ _) (.cons (ErL.sl .nil) .nil))))
theorem yV:Pure Try.prog 7 [] (.bool true):=by
 refine pure_intro Try.func7 nm_ qFq (by show 0≤98;decide) ?_
 show ewp _ qy9 _ _
 have hg:=gok okT
 have hn:=nms (L:=100) o_ (fun _=>qgv) qF9
 have h0:=qEG
 have h1:=Zj (P:=[2,2,1]) (T:=[4,3,4]) hg (by simp) (by simp)
 have h2:=Zj (P:=[2,1,2]) (T:=[4,3,4]) hg (by simp) (by simp)
 rw[bT1]at h1
 rw[bT2]at h2
 have hsz:jN.size=6:=by decide
 have h3:=Yz (t:=jN) hg hn o_
 rw[tT]at h3
 have h4:=Jv jN.size jN (Nat.le_refl _) o_
 rw[hsz]at h4
 have h5:=Xy (t:=jN) o_
 have h6:=XV (t:=jN) o_
 have h7:=Xb (t:=jN) o_
 rw[show jN.prs=[2,2,1] by decide]at h5
 rw[show jN.yld=[4,3,4] by decide]at h6
 rw[show jN.ats=[0,1,2] by decide]at h7
 have e1:=zy (a:=[2,2,1]) (b:=[2,2,1]) (by simp) (by simp)
 have e2:=zy (a:=[4,3,4]) (b:=[4,3,4]) (by simp) (by simp)
 have e3:=zy (a:=[0,1,2]) (b:=[0,1,2]) (by simp) (by simp)
 rw[decide_eq_true rfl]at e1 e2 e3
 have h8:=Qy (t:=jN) hg o_
 rw[mT]at h8
 have h9:=Qy (t:= .mk 0 0 0 []) hg (by decide)
 rw[mZ]at h9
 have h10:=Yz (t:= .mk 0 0 0 []) hg hn (by decide)
 rw[tZ]at h10
 clear hg hn hsz
 have hkV:jN.V=.agg [vi jN.sym,vi jN.prod,vi jN.at_,.sl 4 false (jN.kids.map Nd.V)]:=by unfold jN;rw[Nd.V_mk];try rfl
 unfold qkl at h1 h2
 dsimp only at h1 h2
 have hzV:(Nd.mk 0 0 0 []).V=.agg [vi 0,vi 0,vi 0,.sl 4 false []]:=by rw[Nd.V_mk];try rfl
 rw[hkV]at h1 h3 h4 h5 h6 h7 h8
 rw[hzV]at h2
 simp only[Int.cast_ofNat_Int]at h4
 generalize jN.sym=q1 at *
 generalize jN.prod=q2 at *
 generalize jN.at_=q3 at *
 generalize jN.kids=q4 at *
 generalize yo Kz=g at *
 repeat' with_reducible first
  |refine s_ ?_
  |simp -implicitDefEqProofs only[wZZ,seval]
  |apply j5 (hp:=h0);with_unfolding_all exact erT
  |apply yw (hp:=h1);exact qc;with_unfolding_all exact vX (l:=[2,2,1]);with_unfolding_all exact vX (l:=[4,3,4])
  |apply yw (hp:=h2);exact qc;with_unfolding_all exact vX (l:=[2,1,2]);with_unfolding_all exact vX (l:=[4,3,4])
  |refine cq2 h3 qc qc ?_
  |refine cq1 h4 qc ?_
  |refine cq1 h5 qc ?_
  |refine cq1 h6 qc ?_
  |refine cq1 h7 qc ?_
  |refine cq2 h8 qc qc ?_
  |apply zT (hp:=h9);exact qc;with_unfolding_all exact erZ
  |apply zT (hp:=h10);exact qc;with_unfolding_all exact erZ
  |apply zT (hp:=e1);with_unfolding_all exact qc;with_unfolding_all exact vX (l:=[2,2,1])
  |apply zT (hp:=e2);with_unfolding_all exact qc;with_unfolding_all exact vX (l:=[4,3,4])
  |apply zT (hp:=e3);with_unfolding_all exact qc;with_unfolding_all exact vX (l:=[0,1,2])
  |refine t_ ?_
 all_goals refine qA rfl (Or.inr rfl) ?_
 all_goals(try simp -implicitDefEqProofs only[wL,seval])
 all_goals refine er_ ?_
 all_goals(try(with_reducible rfl))
end Go.Proofs
