/- Part of a proof that a law of the given program answers true. -/
import Derived.Test.YtjdjdbkoplmjeaaMNB
import Derived.Test.YtjdjdbkoplmjeaaMJA
import Derived.Test.YtjdjdbkoplmjeaaMNA
set_option maxRecDepth 20000
set_option linter.unusedSimpArgs false
set_option linter.unusedVariables false
set_option maxHeartbeats 4000000
namespace Go.Proofs
open Go.E
def qd8 (lo:Nat) (l:List Int) (H:Nat→Option MObj) (next:Nat):Prop:= ∃v,H lo=some (.own 1 [v] false)∧lo<next∧Gr H next 1 (l.map (V.int .i64)) v
def qcf (l:List Int) (t:Nd):List Int:=if t.prod= -1 then l++[t.sym]else l
mutual
theorem qaS: ∀(t:Nd) (l:List Int),Nd.walkF qcf l t=l++t.yld
 | .mk s p a ks,l=>by
   rw[Nd.walkF,Nd.yld]
   by_cases h:p= -1
   · rw[if_pos h,if_pos h];unfold qcf;rw[if_pos h]
   · rw[if_neg h,if_neg h,Kn ks l];unfold qcf;rw[if_neg h]
theorem Kn: ∀(ks:List Nd) (l:List Int),Nd.walkFs qcf l ks=l++Nd.ylds ks
 |[],l=>by rw[Nd.walkFs,Nd.ylds,List.append_nil]
 |k::r,l=>by rw[Nd.walkFs,qaS k l,Kn r _,Nd.ylds,List.append_assoc]
end
theorem qcF {lo next:Nat} {H:Nat→Option MObj} (h:H lo=some (.own 1 [.sl 1 true []] false)) (hl:lo<next):qd8 lo [] H next:=⟨_,h,hl,Gr.nil⟩
theorem qnQ {H:Nat→Option MObj} {next lo:Nat} {l:List Int} {y p a:Int} {ks:List Nd} (hI:qd8 lo l H next) (hb:l.length≤1000000000000):qO Try.prog 46 [(Nd.mk y p a ks).V,.ptr lo 0 0] H next (fun v H' n'=>next≤n'∧qd8 lo (qcf l (.mk y p a ks)) H' n'∧ ∀j,j<next→j≠lo→YO H j→H' j=H j):=by
 refine qK Try.func46 nm_ qu0 (by show 2≤11;decide) ?_
 show ewp _ qxE _ _
 obtain ⟨v,ho,hlo,hG⟩:=hI
 have hg:gid v≠some lo:=fun e=>by
  rcases hG with rfl|⟨id,fin,rfl,h1,_⟩
  · cases e
  · cases e;rw[ho]at h1;cases h1
 have hok:=(Gr.ok hG).2.2
 rw[Nd.V_mk]
 by_cases hp:p= -1
 · have e:qcf l (.mk y p a ks)=l++[y]:=by unfold qcf;rw[if_pos hp]
   rw[e]
   subst hp
   repeat' with_reducible first
    |refine s_ ?_
    |simp -implicitDefEqProofs only[wZZ,seval,ho,qb hg]
    |apply zh rfl (hG.mono (Nat.le_refl _) (fun id h1 h2=>by(try simp only[wM]);(repeat rw[if_neg o_])));(focus(first|exact qZ.sl|exact qZ.asl));(focus(simp only[wZ]<;>omega));(focus(unfold maxLen;simp only[wZ]<;>omega))
    |apply zN;exact hok
    |apply zI;with_unfolding_all exact hok;exact wu_;exact wu_
    |refine t_ ?_
    |simp -implicitDefEqProofs (disch:=omega) only[w64,if_neg]
   refine kg rfl (Or.inl rfl) ⟨wg_,⟨_,hh_,wg_,Gr.tok (id:=next+1+3+4) (fin:=l.length+1) hh_ wg_⟩,fun j h1 h2 h3=>?_⟩
   have hj:gid v≠some j:=fun e=>by
    obtain ⟨a1,a2,a3,a4⟩:=h3
    rcases hG with rfl|⟨id,fin,rfl,h5,_⟩
    · cases e
    · cases e;rw[h5]at a4;cases a4
   ((try simp only[wM]);(repeat first|rw[if_pos trivial]|rw[if_pos rfl]|rw[if_neg o_]))
   rw[qb hj]
   ((try simp only[wM]);(repeat first|rw[if_pos trivial]|rw[if_pos rfl]|rw[if_neg o_]))
 · have e:qcf l (.mk y p a ks)=l:=by unfold qcf;rw[if_neg hp]
   rw[e]
   repeat' with_reducible first
    |refine s_ ?_
    |simp -implicitDefEqProofs only[wZZ,seval,ho]
    |apply qa<;>intro h h_<;>(try simp only[wD,reduceCtorEq]at h_)<;>(try exact wb_)<;>(try simp only[h])
    |refine t_ ?_
   exact kg rfl (Or.inl rfl) ⟨wg_,⟨v,by((try simp only[wM]);(repeat first|rw[if_pos trivial]|rw[if_pos rfl]|rw[if_neg o_]));exact ho,wg_,hG.mono wg_ (fun j h1 h2=>hh_)⟩,fun j h1 h2 h3=>hh_⟩
theorem qen (lo:Nat):Over 46 [.ptr lo 0 0] lo (qd8 lo) qcf List.length where
 call:=fun l t H next hI hm=>by
  obtain ⟨y,p,a,ks⟩:=t
  exact qnQ hI hm
 mono:=fun l H H' next next' ⟨v,h1,h2,h3⟩ hn hH=>⟨v,(hH lo h2).trans h1,o_,h3.mono hn fun id _ hid=>hH id hid⟩
 m1:=fun l t=>by unfold qcf;split<;>simp
 lo:=fun l H next ⟨_,_,h,_⟩=>h
theorem XV {t:Nd} (hb:t.size≤1000000000):Pure Try.prog 23 [t.V] (.sl 1 false (t.yld.map (V.int .i64))):=by
 refine pure_intro Try.func23 nm_ qyV (by show 1≤7;decide) ?_
 show ewp _ ql5 _ _
 obtain ⟨y,p,a,ks⟩:=t
 have hw:=QH (qen 1) (Nd.mk y p a ks).size (.mk y p a ks) []
 rw[qaS,List.nil_append,Nd.V_mk]at hw
 rw[Nd.V_mk]
 repeat' with_reducible first
  |refine zC ?_
  |simp -implicitDefEqProofs only[wZZ,seval]
  |(refine qU rfl rfl rfl ((hw _ _ (Nat.le_refl _) (qcF hh_ wg_) (by simp;omega)).mono ?_);rintro v1 H1 n1' ⟨q1,q2,q5⟩)
  |refine t_ ?_
 obtain ⟨v,q2,q3,q4⟩:=q2
 have hok:=Gr.ok q4
 have hl:v.cells.length=1:=by rw[hok.1];rfl
 repeat' with_reducible first
  |refine Qb ?_
  |simp -implicitDefEqProofs only[wZZ,seval,q2]
  |apply zN;exact hok.2.2
  |apply zI;rfl;exact hl;exact hok.2.1
 exact vw (t:=2) (id:=1) (n:=1) (ro:=false) (ag:=false) (v:=v) rfl (Or.inr rfl) (by(simp -implicitDefEqProofs only[wL,seval])) hh_ hok.2.2 (Gr.er q4 rfl)
def qch (l:List Int) (t:Nd):List Int:=if t.prod= -1 then l else l++[t.prod]
mutual
theorem qaM: ∀(t:Nd) (l:List Int),Nd.walkF qch l t=l++t.prs
 | .mk s p a ks,l=>by
   rw[Nd.walkF,Nd.prs]
   by_cases h:p= -1
   · rw[if_pos h,if_pos h];unfold qch;rw[if_pos h,List.append_nil]
   · rw[if_neg h,if_neg h,Vm ks l];unfold qch;rw[if_neg h,List.append_assoc]
theorem Vm: ∀(ks:List Nd) (l:List Int),Nd.walkFs qch l ks=l++Nd.prss ks
 |[],l=>by rw[Nd.walkFs,Nd.prss,List.append_nil]
 |k::r,l=>by rw[Nd.walkFs,qaM k l,Vm r _,Nd.prss,List.append_assoc]
end
theorem qnC {H:Nat→Option MObj} {next lo:Nat} {l:List Int} {y p a:Int} {ks:List Nd} (hI:qd8 lo l H next) (hb:l.length≤1000000000000):qO Try.prog 48 [(Nd.mk y p a ks).V,.ptr lo 0 0] H next (fun v H' n'=>next≤n'∧qd8 lo (qch l (.mk y p a ks)) H' n'∧ ∀j,j<next→j≠lo→YO H j→H' j=H j):=by
 refine qK Try.func48 nm_ qvn (by show 2≤11;decide) ?_
 show ewp _ qsc _ _
 obtain ⟨v,ho,hlo,hG⟩:=hI
 have hg:gid v≠some lo:=fun e=>by
  rcases hG with rfl|⟨id,fin,rfl,h1,_⟩
  · cases e
  · cases e;rw[ho]at h1;cases h1
 have hok:=(Gr.ok hG).2.2
 rw[Nd.V_mk]
 by_cases hp:p≠ -1
 · have e:qch l (.mk y p a ks)=l++[p]:=by unfold qch;rw[if_neg hp]
   rw[e]
   repeat' with_reducible first
    |refine s_ ?_
    |simp -implicitDefEqProofs only[wZZ,seval,ho,qb hg]
    |apply qa<;>intro h h_<;>(try simp only[wD,reduceCtorEq]at h_)<;>(try exact wb_)<;>(try simp only[h])
    |apply zh rfl (hG.mono (Nat.le_refl _) (fun id h1 h2=>by(try simp only[wM]);(repeat rw[if_neg o_])));(focus(first|exact qZ.sl|exact qZ.asl));(focus(simp only[wZ]<;>omega));(focus(unfold maxLen;simp only[wZ]<;>omega))
    |apply zN;exact hok
    |apply zI;with_unfolding_all exact hok;exact wu_;exact wu_
    |refine t_ ?_
    |simp -implicitDefEqProofs (disch:=omega) only[w64,if_neg]
   refine kg rfl (Or.inl rfl) ⟨wg_,⟨_,hh_,wg_,Gr.tok (id:=next+1+3+4) (fin:=l.length+1) hh_ wg_⟩,fun j h1 h2 h3=>?_⟩
   have hj:gid v≠some j:=fun e=>by
    obtain ⟨a1,a2,a3,a4⟩:=h3
    rcases hG with rfl|⟨id,fin,rfl,h5,_⟩
    · cases e
    · cases e;rw[h5]at a4;cases a4
   ((try simp only[wM]);(repeat first|rw[if_pos trivial]|rw[if_pos rfl]|rw[if_neg o_]))
   rw[qb hj]
   ((try simp only[wM]);(repeat first|rw[if_pos trivial]|rw[if_pos rfl]|rw[if_neg o_]))
 · have e:qch l (.mk y p a ks)=l:=by unfold qch;rw[if_pos (Classical.not_not.1 hp)]
   rw[e]
   repeat' with_reducible first
    |refine s_ ?_
    |simp -implicitDefEqProofs only[wZZ,seval,ho]
    |apply qa<;>intro h h_<;>(try simp only[wD,reduceCtorEq]at h_)<;>(try exact wb_)<;>(try simp only[h])
    |refine t_ ?_
   exact kg rfl (Or.inl rfl) ⟨wg_,⟨v,by((try simp only[wM]);(repeat first|rw[if_pos trivial]|rw[if_pos rfl]|rw[if_neg o_]));exact ho,wg_,hG.mono wg_ (fun j h1 h2=>hh_)⟩,fun j h1 h2 h3=>hh_⟩
theorem qeZ (lo:Nat):Over 48 [.ptr lo 0 0] lo (qd8 lo) qch List.length where
 call:=fun l t H next hI hm=>by
  obtain ⟨y,p,a,ks⟩:=t
  exact qnC hI hm
 mono:=fun l H H' next next' ⟨v,h1,h2,h3⟩ hn hH=>⟨v,(hH lo h2).trans h1,o_,h3.mono hn fun id _ hid=>hH id hid⟩
 m1:=fun l t=>by unfold qch;split<;>simp
 lo:=fun l H next ⟨_,_,h,_⟩=>h
theorem Xy {t:Nd} (hb:t.size≤1000000000):Pure Try.prog 25 [t.V] (.sl 1 false (t.prs.map (V.int .i64))):=by
 refine pure_intro Try.func25 nm_ qAH (by show 1≤7;decide) ?_
 show ewp _ qrj _ _
 obtain ⟨y,p,a,ks⟩:=t
 have hw:=QH (qeZ 1) (Nd.mk y p a ks).size (.mk y p a ks) []
 rw[qaM,List.nil_append,Nd.V_mk]at hw
 rw[Nd.V_mk]
 repeat' with_reducible first
  |refine zC ?_
  |simp -implicitDefEqProofs only[wZZ,seval]
  |(refine qU rfl rfl rfl ((hw _ _ (Nat.le_refl _) (qcF hh_ wg_) (by simp;omega)).mono ?_);rintro v1 H1 n1' ⟨q1,q2,q5⟩)
  |refine t_ ?_
 obtain ⟨v,q2,q3,q4⟩:=q2
 have hok:=Gr.ok q4
 have hl:v.cells.length=1:=by rw[hok.1];rfl
 repeat' with_reducible first
  |refine Qb ?_
  |simp -implicitDefEqProofs only[wZZ,seval,q2]
  |apply zN;exact hok.2.2
  |apply zI;rfl;exact hl;exact hok.2.1
 exact vw (t:=2) (id:=1) (n:=1) (ro:=false) (ag:=false) (v:=v) rfl (Or.inr rfl) (by(simp -implicitDefEqProofs only[wL,seval])) hh_ hok.2.2 (Gr.er q4 rfl)

theorem VL {g:Grammar} (hg:GOk g) (bi:Nat): ∀(d:Nat) (H:Nat→Option MObj) (next n:Nat) (P T:List Int) (s:Int),n≤d→BIn g H next bi P T n→qO Try.prog 49 [.ptr bi 0 0,vi s] H next (qF6 g H next bi (bld g (d+1) s P T n))
 |0,H,next,n,P,T,s,hn,hI=>XT hg (fun H next n1 P T s h=>by omega) hI
 |d+1,H,next,n,P,T,s,hn,hI=>XT hg (fun H next n1 P T s h hI=>VL hg bi d H next n1 P T s o_ hI) hI
theorem vJ {ef:EF} {t u n id:Nat} {ag ro:Bool} {v w res:V} {e:Exit} {s:St} (he:ef.res=[.inr (t,ag,n),.inl u]) (hx:e=.normal∨e=.ret) (hp:s.f t=.ptr id 0 0) (hH:s.H id=some (.own n [v] ro)) (ha:v.isAgg=ag) (hu:s.f u=w)
 (h:Er true s.H (.tup [v,w]) res):zH ef res e s:=by
 have hv:zk s ag n (s.f t)=some v:=by
  rw[hp]
  simp only[zk,hH,List.getElem?_cons_zero,jH,ha,and_self,if_true]
 exact⟨hx,_,by rw[he];simp[qaZ,Kw,hv,one,hu],h⟩
def qrc (g:Grammar):Int:=((g.prods[0]?).bind fun p=>p.right[0]?).getD 0
def yZ (g:Grammar) (P T:List Int):Option Nd:=match bld g 3001 (qrc g) P T 3000 with
 |some (t,[],[],_)=>some t
 | _=>none
def qkl:Option Nd→V
 |some t=>.tup [t.V,.bool true]
 |none=>.tup [(Nd.mk 0 0 0 []).V,.bool false]
theorem Zk {H:Nat→Option MObj}:Er true H (.tup [ndZ,.bool false]) (qkl none):=by
 unfold qkl
 rw[Nd.V]
 exact ErL.tup (.cons (ErL.agg (.cons (.int _ _) (.cons (.int _ _) (.cons (.int _ _) (.cons (ErL.sl .nil) .nil))))) (.cons (.bool _) .nil))
theorem Zj {g:Grammar} {P T:List Int} (hg:GOk g) (hP:P.length≤1000000000) (hT:T.length≤1000000000):Pure Try.prog 26 [g.V,.sl 1 false (P.map (V.int .i64)),.sl 1 false (T.map (V.int .i64))] (qkl (yZ g P T)):=by
 refine pure_intro Try.func26 nm_ qzC (by show 3≤48;decide) ?_
 show ewp _ qfA _ _
 obtain ⟨p0,rest,hpr,_,k,hpk,hkn⟩:=hg.head
 have hgp:g.prods[0]?=some p0:=by rw[hpr];rfl
 have hs0:qrc g=1000+(k:Int):=by unfold qrc;rw[hgp,Option.bind_some,hpk];rfl
 obtain ⟨pl,pr,pc,pco,pa,pat⟩:=p0
 dsimp only at hpk
 subst hpk
 unfold yZ
 rw[hs0]
 have hb:=VL hg
 cases hr:bld g 3001 (1000+(k:Int)) P T 3000 with
 | none=>
   have IH2: ∀(bi:Nat) (H:Nat→Option MObj) (next:Nat),BIn g H next bi P T 3000→qO Try.prog 49 [.ptr bi 0 0,vi (1000+(k:Int))] H next (fun v H' n'=>next≤n'∧(∀j,j<next→j≠bi→H' j=H j)∧v=.tup [ndZ,.bool false]∧ ∃x,H' bi=some (.own 8 [x] false)):=fun bi H next h=>by
    have:=hb bi 3000 H next 3000 P T (1000+(k:Int)) (Nat.le_refl _) h
    rw[hr]at this;exact this
   repeat' with_reducible first
    |refine s_ ?_
    |simp -implicitDefEqProofs only[wZZ,seval]
    |refine t_ ?_
    |(with_unfolding_all (refine Qx (f:=V.int .i64) (l:=[1000+(k:Int)]) (x:=1000+(k:Int)) o_ rfl ?_))
    |(refine qU rfl rfl rfl ((IH2 _ _ _ ⟨by((try simp only[wM]);(repeat first|rw[if_pos trivial]|rw[if_pos rfl]|rw[if_neg o_]));with_unfolding_all rfl,wg_,hP,hT,o_⟩).mono ?_);rintro v1 H1 n1' ⟨q1,q2,rfl,xv,q3⟩;(try simp only[wN]at q1))
   have o1:H1 1=some (.own 4 [ndZ] false):=(q2 1 wg_ o_).trans hh_
   repeat' with_reducible first
    |refine s_ ?_
    |simp -implicitDefEqProofs only[wZZ,seval,o1]
    |refine t_ ?_
   exact vJ (t:=6) (u:=7) (id:=1) (n:=4) (ro:=false) (ag:=true) (v:=ndZ) rfl (Or.inr rfl) (by(simp -implicitDefEqProofs only[wL,seval])) hh_ rfl (by(simp -implicitDefEqProofs only[wL,seval])) Zk
 | some q=>
   obtain ⟨t,P2,T2,n2⟩:=q
   have IH2: ∀(bi:Nat) (H:Nat→Option MObj) (next:Nat),BIn g H next bi P T 3000→qO Try.prog 49 [.ptr bi 0 0,vi (1000+(k:Int))] H next (fun v H' n'=>next≤n'∧(∀j,j<next→j≠bi→H' j=H j)∧ ∃tv,v=.tup [tv,.bool true]∧zW H' (fun j=>next≤j∧j<n') t tv∧H' bi=some (.own 8 [bdV g P2 T2 n2] false)):=fun bi H next h=>by
    have:=hb bi 3000 H next 3000 P T (1000+(k:Int)) (Nat.le_refl _) h
    rw[hr]at this;exact this
   repeat' with_reducible first
    |refine s_ ?_
    |simp -implicitDefEqProofs only[wZZ,seval]
    |refine t_ ?_
    |(with_unfolding_all (refine Qx (f:=V.int .i64) (l:=[1000+(k:Int)]) (x:=1000+(k:Int)) o_ rfl ?_))
    |(refine qU rfl rfl rfl ((IH2 _ _ _ ⟨by((try simp only[wM]);(repeat first|rw[if_pos trivial]|rw[if_pos rfl]|rw[if_neg o_]));with_unfolding_all rfl,wg_,hP,hT,o_⟩).mono ?_);rintro v1 H1 n1' ⟨q1,q2,tv,rfl,q3,q4⟩;(try simp only[wN]at q1);obtain ⟨kv2,rfl,w1,w2,w3⟩:=q3.shape)
   have o1:H1 1=some (.own 4 [ndZ] false):=(q2 1 wg_ o_).trans hh_
   (try simp only[wN]at q3)
   cases P2 with
   | cons x l=>
     repeat' with_reducible first
      |refine s_ ?_
      |simp -implicitDefEqProofs only[wZZ,seval,o1,q4]
      |(first|apply qh|apply qi)<;>intro h h_<;>(try simp only[wD,reduceCtorEq]at h_)<;>(try exact wb_)<;>(try simp only[h])
      |refine t_ ?_
     all_goals(exact vJ (t:=6) (u:=7) (id:=1) (n:=4) (ro:=false) (ag:=true) (v:=ndZ) rfl (Or.inr rfl) (by(simp -implicitDefEqProofs only[wL,seval])) hh_ rfl (by(simp -implicitDefEqProofs only[wL,seval])) Zk)
   | nil=>
     cases T2 with
     | cons x l=>
       repeat' with_reducible first
        |refine s_ ?_
        |simp -implicitDefEqProofs only[wZZ,seval,o1,q4]
        |apply qa<;>intro h h_<;>(try simp only[wD,reduceCtorEq]at h_)<;>(try exact wb_)<;>(try simp only[h])
        |refine t_ ?_
       all_goals(exact vJ (t:=6) (u:=7) (id:=1) (n:=4) (ro:=false) (ag:=true) (v:=ndZ) rfl (Or.inr rfl) (by(simp -implicitDefEqProofs only[wL,seval])) hh_ rfl (by(simp -implicitDefEqProofs only[wL,seval])) Zk)
     | nil=>
       repeat' with_reducible first
        |refine s_ ?_
        |simp -implicitDefEqProofs only[wZZ,seval,o1,q4]
        |refine t_ ?_
       all_goals(exact vJ (t:=6) (u:=7) (id:=1) (n:=4) (ro:=false) (ag:=true) (v:= .agg [vi t.sym,vi t.prod,vi t.at_,kv2]) rfl (Or.inr rfl) (by(simp -implicitDefEqProofs only[wL,seval])) hh_ rfl (by(simp -implicitDefEqProofs only[wL,seval])) (ErL.tup (.cons (zW.er _ _ (zW.mono (S':=fun _=>True) (fun j ⟨a,b⟩=>⟨trivial,hh_⟩) _ _ q3)) (.cons (.bool _) .nil))))

mutual
def Nd.ats:Nd→List Int
 |.mk _ p a ks=>if p= -1 then[a]else Nd.atss ks
def Nd.atss:List Nd→List Int
 |[]=>[]
 |k::r=>k.ats++Nd.atss r
end
theorem Nd.atss_snoc: ∀(l:List Nd) (k:Nd),Nd.atss (l++[k])=Nd.atss l++k.ats
 |[],k=>by simp[Nd.atss]
 |a::r,k=>by rw[List.cons_append,Nd.atss,Nd.atss_snoc r k,Nd.atss,List.append_assoc]
mutual
theorem Nd.ats_len: ∀t:Nd,t.ats.length≤t.size
 | .mk s p _ ks=>by
   have:=Nd.atss_len ks
   rw[Nd.ats,Nd.size];split
   · simp
   · omega
theorem Nd.atss_len: ∀l:List Nd,(Nd.atss l).length≤Nd.sizes l
 |[]=>by rw[Nd.atss,Nd.sizes];exact Nat.le_refl _
 |k::r=>by have:=Nd.ats_len k;have:=Nd.atss_len r;rw[Nd.atss,Nd.sizes,List.length_append];omega
end
abbrev qbs (t:Nd):V:= .tup [qbQ t.yld,qbQ t.ats,qbQ t.prs]
theorem qgD {ef:EF} {t u w:Nat} {res:V} {e:Exit} {s:St} (he:ef.res=[.inl t,.inl u,.inl w]) (hx:e=.normal∨e=.ret) (h:Er true s.H (.tup [s.f t,s.f u,s.f w]) res):zH ef res e s:=
 ⟨hx,_,by rw[he];simp[qaZ,Kw,one],h⟩
theorem qbG {y p a:Int} {ks:List Nd} (ih: ∀k∈ks,Pure Try.prog 20 [k.V] (qbs k)) (hb:(Nd.mk y p a ks).size≤1000000000):Pure Try.prog 20 [(Nd.mk y p a ks).V] (qbs (.mk y p a ks)):=by
 refine pure_intro Try.func20 nm_ qAX (by show 1≤54;decide) ?_
 show ewp _ qgE _ _
 have hsz:Nd.sizes ks≤1000000000:=by rw[Nd.size]at hb;omega
 have hkl:=Nd.sizes_len ks
 unfold qbs
 rw[Nd.V_mk,Nd.yld,Nd.ats,Nd.prs]
 by_cases hp:p= -1
 · subst hp
   rw[if_pos rfl,if_pos rfl,if_pos rfl]
   repeat' with_reducible first
    |refine s_ ?_
    |simp -implicitDefEqProofs only[wZZ,seval]
    |refine t_ ?_
   exact qgD rfl (Or.inr rfl) (ErL.tup (.cons (ErL.sl (.cons (.int _ _) .nil)) (.cons (ErL.sl (.cons (.int _ _) .nil)) (.cons (ErL.sl .nil) .nil))))
 · rw [if_neg hp,if_neg hp,if_neg hp]
   repeat' with_reducible first
    |refine s_ ?_
    |simp -implicitDefEqProofs only[wZZ,seval]
    |apply qa<;>intro h h_<;>(try simp only[wD,reduceCtorEq]at h_)<;>(try exact wb_)<;>(try simp only[h])
    |refine t_ ?_
   refine qg ?nx1 (fun(i:Nat) s=>s.f 1=?v1_1∧s.H 0=some (.own 4 [.agg [vi y,vi p,vi a,.sl 4 false (ks.map Nd.V)]] false)∧(∃v,s.f 5=v∧Gr s.H s.next 1 ((Nd.ylds (ks.take i)).map (V.int .i64)) v)∧(∃v,s.f 6=v∧Gr s.H s.next 1 ((Nd.atss (ks.take i)).map (V.int .i64)) v)∧(∃v,s.f 7=v∧Gr s.H s.next 1 ((Nd.prss (ks.take i)).map (V.int .i64)) v)∧s.f 8=vi i∧(i≤ks.length)∧(Sep (s.f 5) (s.f 6))∧(Sep (s.f 5) (s.f 7))∧(Sep (s.f 6) (s.f 7))) (fun i=>ks.length - i) (0) wj_ (by refine⟨?_,?_,?_,?_,?_,?_,wo_,(by(try simp -implicitDefEqProofs only[wL,wM,wN,seval]);first|exact Sep.slL|exact Sep.slR|exact Sep.ids o_),(by(try simp -implicitDefEqProofs only[wL,wM,wN,seval]);first|exact Sep.slL|exact Sep.slR|exact Sep.ids o_),(by(try simp -implicitDefEqProofs only[wL,wM,wN,seval]);first|exact Sep.slL|exact Sep.slR|exact Sep.ids o_)⟩<;>first|(simp -implicitDefEqProofs only[wL,wM,wN,wX,seval,Option.some.injEq]<;>exact wt_)|rfl|exact⟨_,rfl⟩) ?_
   intro i s hnx ⟨g1,o0,⟨v5,g5,G5⟩,⟨v6,g6,G6⟩,⟨v7,g7,G7⟩,g8,k1_0,S5_6,S5_7,S6_7⟩
   rw[g5,g6]at S5_6
   rw[g5,g7]at S5_7
   rw[g6,g7]at S6_7
   have hz:=w1_ i
   have d56: ∀i,gid v5=some i→gid v6=some i→False:=fun i a b=>S5_6 i a b
   have d57: ∀i,gid v5=some i→gid v7=some i→False:=fun i a b=>S5_7 i a b
   have d67: ∀i,gid v6=some i→gid v7=some i→False:=fun i a b=>S6_7 i a b
   have hle1:=Nd.sizes_take ks i
   have l1:=Nd.ylds_len (ks.take i)
   have l2:=Nd.atss_len (ks.take i)
   have l3:=Nd.prss_len (ks.take i)
   by_cases hi:i<ks.length
   · have hgi:ks[i]?=some ks[i]:=ge_ hi
     have htk:ks.take (i+1)=ks.take i++[ks[i]]:=by rw[List.take_add_one,hgi];rfl
     have hih:=ih _ (List.getElem_mem hi)
     have hle2:Nd.sizes (ks.take (i+1))≤Nd.sizes ks:=Nd.sizes_take ks (i+1)
     have hst:Nd.sizes (ks.take (i+1))=Nd.sizes (ks.take i)+ks[i].size:=by rw[htk,Nd.sizes_snoc]
     have y1:Nd.ylds (ks.take (i+1))=Nd.ylds (ks.take i)++ks[i].yld:=by rw[htk,Nd.ylds_snoc]
     have y2:Nd.atss (ks.take (i+1))=Nd.atss (ks.take i)++ks[i].ats:=by rw[htk,Nd.atss_snoc]
     have y3:Nd.prss (ks.take (i+1))=Nd.prss (ks.take i)++ks[i].prs:=by rw[htk,Nd.prss_snoc]
     have l4:=Nd.yld_len ks[i]
     have l5:=Nd.ats_len ks[i]
     have l6:=Nd.prs_len ks[i]
     generalize ks[i]=k at *
     have hkV:k.V=.agg [vi k.sym,vi k.prod,vi k.at_,.sl 4 false (k.kids.map Nd.V)]:=by obtain ⟨e1,e2,e3,e4⟩:=k;rw[Nd.V_mk]
     simp only[hkV]at hih
     repeat' with_reducible first
      |refine s_ ?_
      |simp -implicitDefEqProofs only[wZZ,seval,g1,g5,g6,g7,g8,o0,Gr.dropO G5 o0,Gr.dropO G6 o0,Gr.dropO G7 o0,hz,hkV,G5.len,G6.len,G7.len]
      |apply qa<;>intro h h_<;>(try simp only[wD,reduceCtorEq]at h_)<;>(try exact wb_)<;>(try simp only[h])
      |refine t_ ?_
      |refine cq1 hih qc ?_
      |(apply zh rfl (G6.mono (Nat.le_refl _) (fun id h1 h2=>by(try simp only[wM,QI]);(repeat first|rw[if_neg o_]|rw[if_neg (fun e=>d56 id e h1)])));(focus(first|exact qZ.sl|exact qZ.asl));(focus(simp only[wZ]<;>omega));(focus(unfold maxLen;simp only[wZ]<;>omega)))
      |(apply zh rfl (G7.mono (Nat.le_refl _) (fun id h1 h2=>by(try simp only[wM,QI]);(repeat first|rw[if_neg o_]|rw[if_neg (fun e=>d57 id e h1)]|rw[if_neg (fun e=>d67 id e h1)])));(focus(first|exact qZ.sl|exact qZ.asl));(focus(simp only[wZ]<;>omega));(focus(unfold maxLen;simp only[wZ]<;>omega)))
      |apply zh (hg:=G5);(focus(first|rfl|(simp -implicitDefEqProofs only[wM];done)));(focus(first|exact qZ.sl|exact qZ.asl|exact qZ.gr G5|exact qZ.gr G6|exact qZ.gr G7|exact qZ.str));exact wf_;(focus(unfold maxLen;first|omega|(simp only[wZ]<;>omega)))
     have e5: ∀j,(j=0∨s.next≤j)→gid v5≠some j:=fun j hj e=>by
      rcases G5 with rfl|⟨id,fin,rfl,h1,h2⟩
      · cases e
      · cases e
        rcases hj with rfl|hj
        · rw[o0]at h1;cases h1
        · omega
     have e6: ∀j,(j=0∨s.next≤j)→gid v6≠some j:=fun j hj e=>by
      rcases G6 with rfl|⟨id,fin,rfl,h1,h2⟩
      · cases e
      · cases e
        rcases hj with rfl|hj
        · rw[o0]at h1;cases h1
        · omega
     have e7: ∀j,(j=0∨s.next≤j)→gid v7≠some j:=fun j hj e=>by
      rcases G7 with rfl|⟨id,fin,rfl,h1,h2⟩
      · cases e
      · cases e
        rcases hj with rfl|hj
        · rw[o0]at h1;cases h1
        · omega
     exact⟨wg_,i+1,o_,trivial,(by(try simp only[wM,QI]);(repeat first|rw[if_pos trivial]|rw[if_pos rfl]|rw[if_neg o_]|rw[if_neg (e7 _ o_)]|rw[if_neg (e6 _ o_)]|rw[if_neg (e5 _ o_)]);exact o0),⟨_,rfl,(by rw[y1];exact Gr.tok (id:=s.next+5+13+2) (fin:=(Nd.ylds (ks.take i)).length+k.yld.length) (by(try simp only[wM,QI]);(repeat first|rw[if_pos trivial]|rw[if_pos rfl]|rw[if_neg o_]|rw[if_neg (e7 _ o_)]|rw[if_neg (e6 _ o_)]|rw[if_neg (e5 _ o_)])) wg_)⟩,⟨_,rfl,(by rw[y2];exact Gr.tok (id:=s.next+5+13+5) (fin:=(Nd.atss (ks.take i)).length+k.ats.length) (by(try simp only[wM,QI]);(repeat first|rw[if_pos trivial]|rw[if_pos rfl]|rw[if_neg o_]|rw[if_neg (e7 _ o_)]|rw[if_neg (e6 _ o_)]|rw[if_neg (e5 _ o_)])) wg_)⟩,⟨_,rfl,(by rw[y3];exact Gr.tok (id:=s.next+5+13+8) (fin:=(Nd.prss (ks.take i)).length+k.prs.length) (by(try simp only[wM,QI]);(repeat first|rw[if_pos trivial]|rw[if_pos rfl]|rw[if_neg o_]|rw[if_neg (e7 _ o_)]|rw[if_neg (e6 _ o_)]|rw[if_neg (e5 _ o_)])) wg_)⟩,rfl,o_,Sep.ids o_,Sep.ids o_,Sep.ids o_⟩
   · have e:ks.take i=ks:=List.take_of_length_le o_
     rw[e]at G5 G6 G7 l3
     repeat' with_reducible first
      |refine s_ ?_
      |simp -implicitDefEqProofs only[wZZ,seval,g1,g5,g6,g7,g8,o0,Gr.dropO G5 o0,Gr.dropO G6 o0,Gr.dropO G7 o0,G5.len,G6.len,G7.len]
      |apply qa<;>intro h h_<;>(try simp only[wD,reduceCtorEq]at h_)<;>(try exact wb_)<;>(try simp only[h])
      |apply zh (hg:=G7);(focus(first|rfl|(simp -implicitDefEqProofs only[wM];done)));(focus(first|exact qZ.sl|exact qZ.asl|exact qZ.gr G5|exact qZ.gr G6|exact qZ.gr G7|exact qZ.str));exact wf_;(focus(unfold maxLen;first|omega|(simp only[wZ]<;>omega)))
      |refine t_ ?_
     exact qgD rfl (Or.inr rfl) (ErL.tup (.cons (Gr.er G5 rfl) (.cons (Gr.er G6 rfl) (.cons xH .nil))))
theorem Xp: ∀(n:Nat) (t:Nd),t.size≤n→t.size≤1000000000→Pure Try.prog 20 [t.V] (qbs t)
 |0,t,h,_=>by have:=t.size_pos;omega
 |n+1,.mk s p a ks,h,hb=>qbG (fun k hk=>by have:=Nd.size_kid (s:=s) (p:=p) (a:=a) hk;exact Xp n k o_ o_) hb

def qdO (l:List Int) (t:Nd):List Int:=if t.prod= -1 then l++[t.at_]else l
mutual
theorem qaR: ∀(t:Nd) (l:List Int),Nd.walkF qdO l t=l++t.ats
 | .mk s p a ks,l=>by
   rw[Nd.walkF,Nd.ats]
   by_cases h:p= -1
   · rw[if_pos h,if_pos h];unfold qdO;rw[if_pos h]
   · rw[if_neg h,if_neg h,V5 ks l];unfold qdO;rw[if_neg h]
theorem V5: ∀(ks:List Nd) (l:List Int),Nd.walkFs qdO l ks=l++Nd.atss ks
 |[],l=>by rw[Nd.walkFs,Nd.atss,List.append_nil]
 |k::r,l=>by rw[Nd.walkFs,qaR k l,V5 r _,Nd.atss,List.append_assoc]
end
theorem qj7 {H:Nat→Option MObj} {next lo:Nat} {l:List Int} {y p a:Int} {ks:List Nd} (hI:qd8 lo l H next) (hb:l.length≤1000000000000):qO Try.prog 47 [(Nd.mk y p a ks).V,.ptr lo 0 0] H next (fun v H' n'=>next≤n'∧qd8 lo (qdO l (.mk y p a ks)) H' n'∧ ∀j,j<next→j≠lo→YO H j→H' j=H j):=by
 refine qK Try.func47 nm_ qy8 (by show 2≤11;decide) ?_
 show ewp _ qyq _ _
 obtain ⟨v,ho,hlo,hG⟩:=hI
 have hg:gid v≠some lo:=fun e=>by
  rcases hG with rfl|⟨id,fin,rfl,h1,_⟩
  · cases e
  · cases e;rw[ho]at h1;cases h1
 have hok:=(Gr.ok hG).2.2
 rw[Nd.V_mk]
 by_cases hp:p= -1
 · have e:qdO l (.mk y p a ks)=l++[a]:=by unfold qdO;rw[if_pos hp]
   rw[e]
   subst hp
   repeat' with_reducible first
    |refine s_ ?_
    |simp -implicitDefEqProofs only[wZZ,seval,ho,qb hg]
    |apply zh rfl (hG.mono (Nat.le_refl _) (fun id h1 h2=>by(try simp only[wM]);(repeat rw[if_neg o_])));(focus(first|exact qZ.sl|exact qZ.asl));(focus(simp only[wZ]<;>omega));(focus(unfold maxLen;simp only[wZ]<;>omega))
    |apply zN;exact hok
    |apply zI;with_unfolding_all exact hok;exact wu_;exact wu_
    |refine t_ ?_
    |simp -implicitDefEqProofs (disch:=omega) only[w64,if_neg]
   refine kg rfl (Or.inl rfl) ⟨wg_,⟨_,hh_,wg_,Gr.tok (id:=next+1+3+4) (fin:=l.length+1) hh_ wg_⟩,fun j h1 h2 h3=>?_⟩
   have hj:gid v≠some j:=fun e=>by
    obtain ⟨a1,a2,a3,a4⟩:=h3
    rcases hG with rfl|⟨id,fin,rfl,h5,_⟩
    · cases e
    · cases e;rw[h5]at a4;cases a4
   ((try simp only[wM]);(repeat first|rw[if_pos trivial]|rw[if_pos rfl]|rw[if_neg o_]))
   rw[qb hj]
   ((try simp only[wM]);(repeat first|rw[if_pos trivial]|rw[if_pos rfl]|rw[if_neg o_]))
 · have e:qdO l (.mk y p a ks)=l:=by unfold qdO;rw[if_neg hp]
   rw[e]
   repeat' with_reducible first
    |refine s_ ?_
    |simp -implicitDefEqProofs only[wZZ,seval,ho]
    |apply qa<;>intro h h_<;>(try simp only[wD,reduceCtorEq]at h_)<;>(try exact wb_)<;>(try simp only[h])
    |refine t_ ?_
   exact kg rfl (Or.inl rfl) ⟨wg_,⟨v,by((try simp only[wM]);(repeat first|rw[if_pos trivial]|rw[if_pos rfl]|rw[if_neg o_]));exact ho,wg_,hG.mono wg_ (fun j h1 h2=>hh_)⟩,fun j h1 h2 h3=>hh_⟩
theorem qeG (lo:Nat):Over 47 [.ptr lo 0 0] lo (qd8 lo) qdO List.length where
 call:=fun l t H next hI hm=>by
  obtain ⟨y,p,a,ks⟩:=t
  exact qj7 hI hm
 mono:=fun l H H' next next' ⟨v,h1,h2,h3⟩ hn hH=>⟨v,(hH lo h2).trans h1,o_,h3.mono hn fun id _ hid=>hH id hid⟩
 m1:=fun l t=>by unfold qdO;split<;>simp
 lo:=fun l H next ⟨_,_,h,_⟩=>h
theorem Xb {t:Nd} (hb:t.size≤1000000000):Pure Try.prog 24 [t.V] (.sl 1 false (t.ats.map (V.int .i64))):=by
 refine pure_intro Try.func24 nm_ qrr (by show 1≤7;decide) ?_
 show ewp _ qlQ _ _
 obtain ⟨y,p,a,ks⟩:=t
 have hw:=QH (qeG 1) (Nd.mk y p a ks).size (.mk y p a ks) []
 rw[qaR,List.nil_append,Nd.V_mk]at hw
 rw[Nd.V_mk]
 repeat' with_reducible first
  |refine zC ?_
  |simp -implicitDefEqProofs only[wZZ,seval]
  |(refine qU rfl rfl rfl ((hw _ _ (Nat.le_refl _) (qcF hh_ wg_) (by simp;omega)).mono ?_);rintro v1 H1 n1' ⟨q1,q2,q5⟩)
  |refine t_ ?_
 obtain ⟨v,q2,q3,q4⟩:=q2
 have hok:=Gr.ok q4
 have hl:v.cells.length=1:=by rw[hok.1];rfl
 repeat' with_reducible first
  |refine Qb ?_
  |simp -implicitDefEqProofs only[wZZ,seval,q2]
  |apply zN;exact hok.2.2
  |apply zI;rfl;exact hl;exact hok.2.1
 exact vw (t:=2) (id:=1) (n:=1) (ro:=false) (ag:=false) (v:=v) rfl (Or.inr rfl) (by(simp -implicitDefEqProofs only[wL,seval])) hh_ hok.2.2 (Gr.er q4 rfl)

theorem Nd.sizeRs_stop {l:List Nd} {n:Nat} (h:3000<n):Nd.sizeRs n l=n:=by
 cases l with
 |nil=>rw[Nd.sizeRs]
 |cons a r=>rw[Nd.sizeRs,if_neg o_]
theorem qcS {y p a:Int} {ks:List Nd} (ih: ∀k∈ks,Pure Try.prog 13 [k.V] (vi k.sizeR)) (hb:(Nd.mk y p a ks).size≤1000000000000):Pure Try.prog 13 [(Nd.mk y p a ks).V] (vi (Nd.mk y p a ks).sizeR):=by
 refine pure_intro Try.func13 nm_ qlh (by show 1≤25;decide) ?_
 show ewp _ qf7 _ _
 have hsz:Nd.sizes ks≤1000000000000:=by rw[Nd.size]at hb;omega
 have hkl:=Nd.sizes_len ks
 rw[Nd.V_mk,Nd.sizeR]
 repeat' with_reducible first
  |refine s_ ?_
  |simp -implicitDefEqProofs only[wZZ,seval]
  |refine t_ ?_
 refine qg ?nx1 (fun(i:Nat) s=>s.f 1=?v1_1∧s.H 0=some (.own 4 [.agg [vi y,vi p,vi a,.sl 4 false (ks.map Nd.V)]] false)∧s.f 3=vi (Nd.sizeRs 1 (ks.take i))∧s.f 4=vi i∧(i≤ks.length)) (fun i=>ks.length - i) (0) wj_ (by refine⟨?_,?_,?_,?_,wo_⟩<;>first|(simp -implicitDefEqProofs only[wL,wM,wN,wX,seval,Option.some.injEq]<;>exact wt_)|rfl|exact⟨_,rfl⟩) ?_
 intro i s hnx ⟨g1,o0,g3,g4,k1_0⟩
 have hz:=w1_ i
 by_cases hi:i<ks.length
 · have hgi:ks[i]?=some ks[i]:=ge_ hi
   have htk:ks.take (i+1)=ks.take i++[ks[i]]:=by rw[List.take_add_one,hgi];rfl
   have hih:=ih _ (List.getElem_mem hi)
   have hle:=Nd.sizeRs_le (ks.take (i+1)) 1
   have hle2:Nd.sizes (ks.take (i+1))≤Nd.sizes ks:=by
    have h1: ∀(l m:List Nd),Nd.sizes l≤Nd.sizes (l++m):=fun l m=>by
     induction l with
     |nil=>rw[Nd.sizes];exact Nat.zero_le _
     |cons a r ih=>rw[List.cons_append,Nd.sizes,Nd.sizes];omega
    have h2:=h1 (ks.take (i+1)) (ks.drop (i+1))
    rwa [List.take_append_drop]at h2
   rw[htk,Nd.sizeRs_app]at hle
   by_cases hn:Nd.sizeRs 1 (ks.take i)≤3000
   · have hst:Nd.sizeRs 1 (ks.take (i+1))=Nd.sizeRs 1 (ks.take i)+ks[i].sizeR:=by rw[htk,Nd.sizeRs_app,Nd.sizeRs,if_pos hn,Nd.sizeRs]
     rw[Nd.sizeRs,if_pos hn,Nd.sizeRs]at hle
     rw[htk]at hle2
     generalize ks[i]=k at *
     generalize Nd.sizeRs 1 (ks.take i)=n at *
     have hz2:IntKind.i64.wrap ((n:Int)+(k.sizeR:Int))=((n+k.sizeR:Nat):Int):=by rw[wrap64 o_ o_];omega
     obtain ⟨ks',kp,ka,kk⟩:=k
     rw[Nd.V_mk]at hih
     repeat' with_reducible first
      |refine s_ ?_
      |simp -implicitDefEqProofs only[wZZ,seval,g1,g3,g4,o0,hz,hz2,Nd.V_mk]
      |(first|apply qa|apply qh|apply qi)<;>intro h h_<;>(try simp only[wD,reduceCtorEq]at h_)<;>(try exact wb_)<;>(try simp only[h])
      |refine t_ ?_
      |refine cq1 hih qc ?_
     refine⟨wk_,i+1,o_,?_⟩
     refine⟨?_,?_,?_,?_,?_⟩
     iterate 4 (focus(first|(simp -implicitDefEqProofs only[wL,wM,wN,wX,seval,Option.some.injEq,g1,g3,g4,o0,hst]<;>exact wt_)|rfl|exact⟨_,rfl⟩))
     all_goals try omega
   · have e:Nd.sizeRs 1 ks=Nd.sizeRs 1 (ks.take i):=by
      have:=Nd.sizeRs_app (ks.take i) (ks.drop i) 1
      rw[List.take_append_drop]at this
      rw[this,Nd.sizeRs_stop o_]
     rw[e]
     generalize Nd.sizeRs 1 (ks.take i)=n at *
     repeat' with_reducible first
      |refine s_ ?_
      |simp -implicitDefEqProofs only[wZZ,seval,g1,g3,g4,o0]
      |(first|apply qa|apply qh|apply qi)<;>intro h h_<;>(try simp only[wD,reduceCtorEq]at h_)<;>(try exact wb_)<;>(try simp only[h])
      |refine t_ ?_
     all_goals refine qA rfl (Or.inr rfl) ?_
     all_goals(try simp -implicitDefEqProofs only[wL,seval,g1,g3,g4])
     all_goals refine er_ ?_
     all_goals(try(with_reducible rfl))
 · have e:ks.take i=ks:=List.take_of_length_le o_
   rw[e]at g3
   repeat' with_reducible first
    |refine s_ ?_
    |simp -implicitDefEqProofs only[wZZ,seval,g1,g3,g4,o0]
    |(first|apply qh|apply qi)<;>intro h h_<;>(try simp only[wD,reduceCtorEq]at h_)<;>(try exact wb_)<;>(try simp only[h])
    |refine t_ ?_
   all_goals refine qA rfl (Or.inr rfl) ?_
   all_goals(try simp -implicitDefEqProofs only[wL,seval,g1,g3,g4])
   all_goals refine er_ ?_
   all_goals(try(with_reducible rfl))
theorem YC: ∀(n:Nat) (t:Nd),t.size≤n→t.size≤1000000000000→Pure Try.prog 13 [t.V] (vi t.sizeR)
 |0,t,h,_=>by have:=t.size_pos;omega
 |n+1,.mk s p a ks,h,hb=>qcS (fun k hk=>by have:=Nd.size_kid (s:=s) (p:=p) (a:=a) hk;exact YC n k o_ o_) hb
mutual
def Nd.eqb:Nd→Nd→Bool
 |.mk s p a ks,.mk s' p' a' ks'=>decide (s=s') && (decide (p=p') && (decide (a=a') && Nd.eqbs ks ks'))
def Nd.eqbs:List Nd→List Nd→Bool
 |[],[]=>true
 |k::r,k'::r'=>k.eqb k' && Nd.eqbs r r'
 |[],_::_=>false
 | _::_,[]=>false
end
mutual
theorem Nd.eqb_iff: ∀t u:Nd,t.eqb u=true↔t=u
 | .mk s p a ks,.mk s' p' a' ks'=>by
   rw[Nd.eqb]
   simp only[Bool.and_eq_true,decide_eq_true_eq,Nd.mk.injEq,Nd.eqbs_iff ks ks']
theorem Nd.eqbs_iff: ∀l m:List Nd,Nd.eqbs l m=true↔l=m
 |[],[]=>by simp[Nd.eqbs]
 |[],_::_=>by simp[Nd.eqbs]
 | _::_,[]=>by simp[Nd.eqbs]
 |k::r,k'::r'=>by rw[Nd.eqbs];simp only[Bool.and_eq_true,List.cons.injEq,Nd.eqb_iff k k',Nd.eqbs_iff r r']
end
theorem Nd.eqb_no {t u:Nd} (h:t≠u):t.eqb u=false:=by
 cases e:t.eqb u with
 |false=>rfl
 |true=>exact absurd ((Nd.eqb_iff t u).1 e) h
theorem qaf {y p a y' p' a':Int} {ks ks':List Nd} (ih: ∀k∈ks,∀k'∈ks',Pure Try.prog 44 [k.V,k'.V] (.bool (k.eqb k'))) (hb:ks.length≤1099511627776) (hb':ks'.length≤1099511627776):Pure Try.prog 44 [(Nd.mk y p a ks).V,(Nd.mk y' p' a' ks').V] (.bool ((Nd.mk y p a ks).eqb (Nd.mk y' p' a' ks'))):=by
 refine pure_intro Try.func44 nm_ qov (by show 2≤53;decide) ?_
 show ewp _ qfi _ _
 rw[Nd.V_mk,Nd.V_mk]
 by_cases h:y=y'∧p=p'∧a=a'∧ks.length=ks'.length
 · obtain ⟨rfl,rfl,rfl,hl⟩:=h
   repeat' with_reducible first
    |refine s_ ?_
    |simp -implicitDefEqProofs only[wZZ,seval]
    |apply qa<;>intro h h_<;>(try simp only[wD,reduceCtorEq]at h_)<;>(try exact wb_)<;>(try simp only[h])
    |refine t_ ?_
   refine qg ?nx1 (fun(k:Nat) s=>s.f 2=?v1_2∧s.f 3=?v1_3∧s.H 0=some (.own 4 [.agg [vi y,vi p,vi a,.sl 4 false (ks.map Nd.V)]] false)∧s.H 1=some (.own 4 [.agg [vi y,vi p,vi a,.sl 4 false (ks'.map Nd.V)]] false)∧s.f 5=vi k∧(k≤ks.length)∧(∀i,i<k→ks[i]?=ks'[i]?)) (fun k=>ks.length - k) (0) wj_ (by refine⟨?_,?_,?_,?_,?_,wo_,wo_⟩<;>first|(simp -implicitDefEqProofs only[wL,wM,wN,wX,seval,Option.some.injEq]<;>exact wt_)|rfl|exact⟨_,rfl⟩) ?_
   intro k s hnx ⟨g2,g3,o0,o1,g5,k1_0,k1_1⟩
   have hz:=w1_ k
   by_cases hk:k<ks.length
   · have hgi:ks[k]?=some ks[k]:=ge_ hk
     have hgi':ks'[k]?=some ks'[k]:=ge_ o_
     have hih:=ih _ (List.getElem_mem hk) _ (List.getElem_mem (show k<ks'.length by omega))
     by_cases he:ks[k]=ks'[k]
     · have hn: ∀i,i<k+1→ks[i]?=ks'[i]?:=fun i hi=>by
        by_cases e:i=k
        · subst e;rw[hgi,hgi',he]
        · exact k1_1 i o_
       rw[(Nd.eqb_iff _ _).2 he]at hih
       generalize ks[k]=x at *
       generalize ks'[k]=y at *
       obtain ⟨x1,x2,x3,x4⟩:=x
       obtain ⟨y1,y2,y3,y4⟩:=y
       rw[Nd.V_mk,Nd.V_mk]at hih
       repeat' with_reducible first
        |refine s_ ?_
        |simp -implicitDefEqProofs only[wZZ,seval,g2,g3,g5,o0,o1,hz,Nd.V_mk]
        |apply qa<;>intro h h_<;>(try simp only[wD,reduceCtorEq]at h_)<;>(try exact wb_)<;>(try simp only[h])
        |refine t_ ?_
        |refine cq2 hih qc qc ?_
       refine⟨wk_,k+1,o_,?_⟩
       refine⟨?_,?_,?_,?_,?_,?_,?_⟩
       iterate 5 (focus(first|(simp -implicitDefEqProofs only[wL,wM,wN,wX,seval,Option.some.injEq,g2,g3,g5,o0,o1]<;>exact wt_)|rfl|exact⟨_,rfl⟩))
       all_goals try omega
     · have hne:(Nd.mk y p a ks).eqb (Nd.mk y p a ks')=false:=Nd.eqb_no fun e=>he (by
        injection e with _ _ _ e;subst e;rfl)
       rw[hne]
       rw[Nd.eqb_no he]at hih
       generalize ks[k]=x at *
       generalize ks'[k]=y at *
       obtain ⟨x1,x2,x3,x4⟩:=x
       obtain ⟨y1,y2,y3,y4⟩:=y
       rw[Nd.V_mk,Nd.V_mk]at hih
       repeat' with_reducible first
        |refine s_ ?_
        |simp -implicitDefEqProofs only[wZZ,seval,g2,g3,g5,o0,o1,hz,Nd.V_mk]
        |apply qa<;>intro h h_<;>(try simp only[wD,reduceCtorEq]at h_)<;>(try exact wb_)<;>(try simp only[h])
        |refine t_ ?_
        |refine cq2 hih qc qc ?_
       all_goals refine qA rfl (Or.inr rfl) ?_
       all_goals(try simp -implicitDefEqProofs only[wL,seval,g2,g3,g5])
       all_goals refine er_ ?_
       all_goals(try(with_reducible rfl))
   · have e:ks=ks':=List.ext_getElem? fun i=>by
      by_cases hi:i<k
      · exact k1_1 i hi
      · rw[List.getElem?_eq_none o_,List.getElem?_eq_none o_]
     have hne:(Nd.mk y p a ks).eqb (Nd.mk y p a ks')=true:=(Nd.eqb_iff _ _).2 (by rw[e])
     rw[hne]
     repeat' with_reducible first
      |refine s_ ?_
      |simp -implicitDefEqProofs only[wZZ,seval,g2,g3,g5,o0,o1]
      |apply qa<;>intro h h_<;>(try simp only[wD,reduceCtorEq]at h_)<;>(try exact wb_)<;>(try simp only[h])
      |refine t_ ?_
     all_goals refine qA rfl (Or.inr rfl) ?_
     all_goals(try simp -implicitDefEqProofs only[wL,seval,g2,g3,g5])
     all_goals refine er_ ?_
     all_goals(try(with_reducible rfl))
 · have hne:(Nd.mk y p a ks).eqb (Nd.mk y' p' a' ks')=false:=Nd.eqb_no fun e=>h (by
    injection e with h1 h2 h3 h4;subst h4;exact⟨h1,h2,h3,rfl⟩)
   rw[hne]
   skip
   repeat' with_reducible first
    |refine s_ ?_
    |simp -implicitDefEqProofs only[wZZ,seval]
    |(first|apply qa|apply qh|apply qi)<;>intro h h_<;>(try simp only[wD,reduceCtorEq]at h_)<;>(try exact wb_)<;>(try simp only[h])
    |refine t_ ?_
   all_goals refine qA rfl (Or.inr rfl) ?_
   all_goals(try simp -implicitDefEqProofs only[wL,seval])
   all_goals refine er_ ?_
   all_goals(try(with_reducible rfl))
theorem XR: ∀(n:Nat) (t u:Nd),t.size≤n→t.size≤1000000000000→u.size≤1000000000000→Pure Try.prog 44 [t.V,u.V] (.bool (t.eqb u))
 |0,t,_,h,_,_=>by have:=t.size_pos;omega
 | n+1,.mk s p a ks,.mk s' p' a' ks',h,hb,hb'=>by
   have h1:=Nd.sizes_len ks
   have h2:=Nd.sizes_len ks'
   exact qaf (fun k hk k' hk'=>by
    have:=Nd.size_kid (s:=s) (p:=p) (a:=a) hk
    have:=Nd.size_kid (s:=s') (p:=p') (a:=a') hk'
    exact XR n k k' o_ o_ o_) (by rw[Nd.size]at hb;omega) (by rw[Nd.size]at hb';omega)
end Go.Proofs
