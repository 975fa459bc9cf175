/- Part of a proof that a law of the given program answers true. -/
import Derived.Test.YtjdjdbkoplmjeaaSNB
import Derived.Test.YtjdjdbkoplmjeaaSJA
import Derived.Test.YtjdjdbkoplmjeaaSNA
set_option maxRecDepth 20000
set_option linter.unusedSimpArgs false
set_option linter.unusedVariables false
set_option maxHeartbeats 4000000
namespace Go.Proofs
open Go.E
def qbP (lo:Nat) (l:List Int) (H:Nat→Option MObj) (next:Nat):Prop:= ∃v,H lo=some (.own 1 [v] false)∧lo<next∧Gr H next 1 (l.map (V.int .i64)) v
def qby (l:List Int) (t:Nd):List Int:=if t.prod= -1 then l++[t.sym]else l
mutual
theorem VW: ∀(t:Nd) (l:List Int),Nd.walkF qby l t=l++t.yld
 | .mk s p a ks,l=>by
   rw[Nd.walkF,Nd.yld]
   by_cases h:p= -1
   · rw[if_pos h,if_pos h];unfold qby;rw[if_pos h]
   · rw[if_neg h,if_neg h,Yl ks l];unfold qby;rw[if_neg h]
theorem Yl: ∀(ks:List Nd) (l:List Int),Nd.walkFs qby l ks=l++Nd.ylds ks
 |[],l=>by rw[Nd.walkFs,Nd.ylds,List.append_nil]
 |k::r,l=>by rw[Nd.walkFs,VW k l,Yl r _,Nd.ylds,List.append_assoc]
end
theorem qbF {lo next:Nat} {H:Nat→Option MObj} (h:H lo=some (.own 1 [.sl 1 true []] false)) (hl:lo<next):qbP lo [] H next:=⟨_,h,hl,Gr.nil⟩
theorem qj3 {H:Nat→Option MObj} {next lo:Nat} {l:List Int} {y p a:Int} {ks:List Nd} (hI:qbP lo l H next) (hb:l.length≤1000000000000):qP Try.prog 46 [(Nd.mk y p a ks).V,.ptr lo 0 0] H next (fun v H' n'=>next≤n'∧qbP lo (qby l (.mk y p a ks)) H' n'∧ ∀j,j<next→j≠lo→Xt H j→H' j=H j):=by
 refine qK Try.func46 nm_ qlX (by show 2≤11;decide) ?_
 show ewp _ qhy _ _
 obtain ⟨v,ho,hlo,hG⟩:=hI
 have hg:gid v≠some lo:=fun e=>by
  rcases hG with rfl|⟨id,fin,rfl,h1,_⟩
  · cases e
  · cases e;rw[ho]at h1;cases h1
 have hok:=(Gr.ok hG).2.2
 rw[Nd.V_mk]
 by_cases hp:p= -1
 · have e:qby l (.mk y p a ks)=l++[y]:=by unfold qby;rw[if_pos hp]
   rw[e]
   subst hp
   repeat' with_reducible first
    |refine s_ ?_
    |simp -implicitDefEqProofs only[wZZ,seval,ho,qb hg]
    |apply zk rfl (hG.mono (Nat.le_refl _) (fun id h1 h2=>by(try simp only[wM]);(repeat rw[if_neg o_])));(focus(first|exact zf.sl|exact zf.asl));(focus(simp only[wZ]<;>omega));(focus(unfold maxLen;simp only[wZ]<;>omega))
    |apply zq;exact hok
    |apply zm;with_unfolding_all exact hok;exact wu_;exact wu_
    |refine t_ ?_
    |simp -implicitDefEqProofs (disch:=omega) only[w64,if_neg]
   refine yZ rfl (Or.inl rfl) ⟨wg_,⟨_,hh_,wg_,Gr.tok (id:=next+1+3+4) (fin:=l.length+1) hh_ wg_⟩,fun j h1 h2 h3=>?_⟩
   have hj:gid v≠some j:=fun e=>by
    obtain ⟨a1,a2,a3,a4⟩:=h3
    rcases hG with rfl|⟨id,fin,rfl,h5,_⟩
    · cases e
    · cases e;rw[h5]at a4;cases a4
   ((try simp only[wM]);(repeat first|rw[if_pos trivial]|rw[if_pos rfl]|rw[if_neg o_]))
   rw[qb hj]
   ((try simp only[wM]);(repeat first|rw[if_pos trivial]|rw[if_pos rfl]|rw[if_neg o_]))
 · have e:qby l (.mk y p a ks)=l:=by unfold qby;rw[if_neg hp]
   rw[e]
   repeat' with_reducible first
    |refine s_ ?_
    |simp -implicitDefEqProofs only[wZZ,seval,ho]
    |apply qa<;>intro h h_<;>(try simp only[wD,reduceCtorEq]at h_)<;>(try exact wb_)<;>(try simp only[h])
    |refine t_ ?_
   exact yZ rfl (Or.inl rfl) ⟨wg_,⟨v,by((try simp only[wM]);(repeat first|rw[if_pos trivial]|rw[if_pos rfl]|rw[if_neg o_]));exact ho,wg_,hG.mono wg_ (fun j h1 h2=>hh_)⟩,fun j h1 h2 h3=>hh_⟩
theorem qb6 (lo:Nat):Over 46 [.ptr lo 0 0] lo (qbP lo) qby List.length where
 call:=fun l t H next hI hm=>by
  obtain ⟨y,p,a,ks⟩:=t
  exact qj3 hI hm
 mono:=fun l H H' next next' ⟨v,h1,h2,h3⟩ hn hH=>⟨v,(hH lo h2).trans h1,o_,h3.mono hn fun id _ hid=>hH id hid⟩
 m1:=fun l t=>by unfold qby;split<;>simp
 lo:=fun l H next ⟨_,_,h,_⟩=>h
theorem xR {t:Nd} (hb:t.size≤1000000000):Pure Try.prog 23 [t.V] (.sl 1 false (t.yld.map (V.int .i64))):=by
 refine pure_intro Try.func23 nm_ qtC (by show 1≤7;decide) ?_
 show ewp _ qtu _ _
 obtain ⟨y,p,a,ks⟩:=t
 have hw:=kN (qb6 1) (Nd.mk y p a ks).size (.mk y p a ks) []
 rw[VW,List.nil_append,Nd.V_mk]at hw
 rw[Nd.V_mk]
 repeat' with_reducible first
  |refine zG ?_
  |simp -implicitDefEqProofs only[wZZ,seval]
  |(refine qL rfl rfl rfl ((hw _ _ (Nat.le_refl _) (qbF hh_ wg_) (by simp;omega)).mono ?_);rintro v1 H1 n1' ⟨q1,q2,q5⟩)
  |refine t_ ?_
 obtain ⟨v,q2,q3,q4⟩:=q2
 have hok:=Gr.ok q4
 have hl:v.cells.length=1:=by rw[hok.1];rfl
 repeat' with_reducible first
  |refine ku ?_
  |simp -implicitDefEqProofs only[wZZ,seval,q2]
  |apply zq;exact hok.2.2
  |apply zm;rfl;exact hl;exact hok.2.1
 exact Xm (t:=2) (id:=1) (n:=1) (ro:=false) (ag:=false) (v:=v) rfl (Or.inr rfl) (by(simp -implicitDefEqProofs only[wL,seval])) hh_ hok.2.2 (Gr.er q4 rfl)
def qbd (l:List Int) (t:Nd):List Int:=if t.prod= -1 then l else l++[t.prod]
mutual
theorem VP: ∀(t:Nd) (l:List Int),Nd.walkF qbd l t=l++t.prs
 | .mk s p a ks,l=>by
   rw[Nd.walkF,Nd.prs]
   by_cases h:p= -1
   · rw[if_pos h,if_pos h];unfold qbd;rw[if_pos h,List.append_nil]
   · rw[if_neg h,if_neg h,YI ks l];unfold qbd;rw[if_neg h,List.append_assoc]
theorem YI: ∀(ks:List Nd) (l:List Int),Nd.walkFs qbd l ks=l++Nd.prss ks
 |[],l=>by rw[Nd.walkFs,Nd.prss,List.append_nil]
 |k::r,l=>by rw[Nd.walkFs,VP k l,YI r _,Nd.prss,List.append_assoc]
end
theorem qjX {H:Nat→Option MObj} {next lo:Nat} {l:List Int} {y p a:Int} {ks:List Nd} (hI:qbP lo l H next) (hb:l.length≤1000000000000):qP Try.prog 48 [(Nd.mk y p a ks).V,.ptr lo 0 0] H next (fun v H' n'=>next≤n'∧qbP lo (qbd l (.mk y p a ks)) H' n'∧ ∀j,j<next→j≠lo→Xt H j→H' j=H j):=by
 refine qK Try.func48 nm_ qiC (by show 2≤11;decide) ?_
 show ewp _ qnk _ _
 obtain ⟨v,ho,hlo,hG⟩:=hI
 have hg:gid v≠some lo:=fun e=>by
  rcases hG with rfl|⟨id,fin,rfl,h1,_⟩
  · cases e
  · cases e;rw[ho]at h1;cases h1
 have hok:=(Gr.ok hG).2.2
 rw[Nd.V_mk]
 by_cases hp:p≠ -1
 · have e:qbd l (.mk y p a ks)=l++[p]:=by unfold qbd;rw[if_neg hp]
   rw[e]
   repeat' with_reducible first
    |refine s_ ?_
    |simp -implicitDefEqProofs only[wZZ,seval,ho,qb hg]
    |apply qa<;>intro h h_<;>(try simp only[wD,reduceCtorEq]at h_)<;>(try exact wb_)<;>(try simp only[h])
    |apply zk rfl (hG.mono (Nat.le_refl _) (fun id h1 h2=>by(try simp only[wM]);(repeat rw[if_neg o_])));(focus(first|exact zf.sl|exact zf.asl));(focus(simp only[wZ]<;>omega));(focus(unfold maxLen;simp only[wZ]<;>omega))
    |apply zq;exact hok
    |apply zm;with_unfolding_all exact hok;exact wu_;exact wu_
    |refine t_ ?_
    |simp -implicitDefEqProofs (disch:=omega) only[w64,if_neg]
   refine yZ rfl (Or.inl rfl) ⟨wg_,⟨_,hh_,wg_,Gr.tok (id:=next+1+3+4) (fin:=l.length+1) hh_ wg_⟩,fun j h1 h2 h3=>?_⟩
   have hj:gid v≠some j:=fun e=>by
    obtain ⟨a1,a2,a3,a4⟩:=h3
    rcases hG with rfl|⟨id,fin,rfl,h5,_⟩
    · cases e
    · cases e;rw[h5]at a4;cases a4
   ((try simp only[wM]);(repeat first|rw[if_pos trivial]|rw[if_pos rfl]|rw[if_neg o_]))
   rw[qb hj]
   ((try simp only[wM]);(repeat first|rw[if_pos trivial]|rw[if_pos rfl]|rw[if_neg o_]))
 · have e:qbd l (.mk y p a ks)=l:=by unfold qbd;rw[if_pos (Classical.not_not.1 hp)]
   rw[e]
   repeat' with_reducible first
    |refine s_ ?_
    |simp -implicitDefEqProofs only[wZZ,seval,ho]
    |apply qa<;>intro h h_<;>(try simp only[wD,reduceCtorEq]at h_)<;>(try exact wb_)<;>(try simp only[h])
    |refine t_ ?_
   exact yZ rfl (Or.inl rfl) ⟨wg_,⟨v,by((try simp only[wM]);(repeat first|rw[if_pos trivial]|rw[if_pos rfl]|rw[if_neg o_]));exact ho,wg_,hG.mono wg_ (fun j h1 h2=>hh_)⟩,fun j h1 h2 h3=>hh_⟩
theorem qca (lo:Nat):Over 48 [.ptr lo 0 0] lo (qbP lo) qbd List.length where
 call:=fun l t H next hI hm=>by
  obtain ⟨y,p,a,ks⟩:=t
  exact qjX hI hm
 mono:=fun l H H' next next' ⟨v,h1,h2,h3⟩ hn hH=>⟨v,(hH lo h2).trans h1,o_,h3.mono hn fun id _ hid=>hH id hid⟩
 m1:=fun l t=>by unfold qbd;split<;>simp
 lo:=fun l H next ⟨_,_,h,_⟩=>h
theorem xJ {t:Nd} (hb:t.size≤1000000000):Pure Try.prog 25 [t.V] (.sl 1 false (t.prs.map (V.int .i64))):=by
 refine pure_intro Try.func25 nm_ qls (by show 1≤7;decide) ?_
 show ewp _ qj0 _ _
 obtain ⟨y,p,a,ks⟩:=t
 have hw:=kN (qca 1) (Nd.mk y p a ks).size (.mk y p a ks) []
 rw[VP,List.nil_append,Nd.V_mk]at hw
 rw[Nd.V_mk]
 repeat' with_reducible first
  |refine zG ?_
  |simp -implicitDefEqProofs only[wZZ,seval]
  |(refine qL rfl rfl rfl ((hw _ _ (Nat.le_refl _) (qbF hh_ wg_) (by simp;omega)).mono ?_);rintro v1 H1 n1' ⟨q1,q2,q5⟩)
  |refine t_ ?_
 obtain ⟨v,q2,q3,q4⟩:=q2
 have hok:=Gr.ok q4
 have hl:v.cells.length=1:=by rw[hok.1];rfl
 repeat' with_reducible first
  |refine ku ?_
  |simp -implicitDefEqProofs only[wZZ,seval,q2]
  |apply zq;exact hok.2.2
  |apply zm;rfl;exact hl;exact hok.2.1
 exact Xm (t:=2) (id:=1) (n:=1) (ro:=false) (ag:=false) (v:=v) rfl (Or.inr rfl) (by(simp -implicitDefEqProofs only[wL,seval])) hh_ hok.2.2 (Gr.er q4 rfl)

theorem Yw {g:Grammar} (hg:GOk g) (bi:Nat): ∀(d:Nat) (H:Nat→Option MObj) (next n:Nat) (P T:List Int) (s:Int),n≤d→BIn g H next bi P T n→qP Try.prog 49 [.ptr bi 0 0,vi s] H next (quG g H next bi (bld g (d+1) s P T n))
 |0,H,next,n,P,T,s,hn,hI=>Jv hg (fun H next n1 P T s h=>by omega) hI
 |d+1,H,next,n,P,T,s,hn,hI=>Jv hg (fun H next n1 P T s h hI=>Yw hg bi d H next n1 P T s o_ hI) hI
theorem YJ {ef:EF} {t u n id:Nat} {ag ro:Bool} {v w res:V} {e:Exit} {s:St} (he:ef.res=[.inr (t,ag,n),.inl u]) (hx:e=.normal∨e=.ret) (hp:s.f t=.ptr id 0 0) (hH:s.H id=some (.own n [v] ro)) (ha:v.isAgg=ag) (hu:s.f u=w)
 (h:Er true s.H (.tup [v,w]) res):zw ef res e s:=by
 have hv:qU s ag n (s.f t)=some v:=by
  rw[hp]
  simp only[qU,hH,List.getElem?_cons_zero,jq,ha,and_self,if_true]
 exact⟨hx,_,by rw[he];simp[qbW,KD,hv,one,hu],h⟩
def qxS (g:Grammar):Int:=((g.prods[0]?).bind fun p=>p.right[0]?).getD 0
def JU (g:Grammar) (P T:List Int):Option Nd:=match bld g 3001 (qxS g) P T 3000 with
 |some (t,[],[],_)=>some t
 | _=>none
def qtJ:Option Nd→V
 |some t=>.tup [t.V,.bool true]
 |none=>.tup [(Nd.mk 0 0 0 []).V,.bool false]
theorem Vf {H:Nat→Option MObj}:Er true H (.tup [ndZ,.bool false]) (qtJ none):=by
 unfold qtJ
 rw[Nd.V]
 exact ErL.tup (.cons (ErL.agg (.cons (.int _ _) (.cons (.int _ _) (.cons (.int _ _) (.cons (ErL.sl .nil) .nil))))) (.cons (.bool _) .nil))
theorem JZ {g:Grammar} {P T:List Int} (hg:GOk g) (hP:P.length≤1000000000) (hT:T.length≤1000000000):Pure Try.prog 26 [g.V,.sl 1 false (P.map (V.int .i64)),.sl 1 false (T.map (V.int .i64))] (qtJ (JU g P T)):=by
 refine pure_intro Try.func26 nm_ qhT (by show 3≤48;decide) ?_
 show ewp _ qd7 _ _
 obtain ⟨p0,rest,hpr,_,k,hpk,hkn⟩:=hg.head
 have hgp:g.prods[0]?=some p0:=by rw[hpr];rfl
 have hs0:qxS g=1000+(k:Int):=by unfold qxS;rw[hgp,Option.bind_some,hpk];rfl
 obtain ⟨pl,pr,pc,pco,pa,pat⟩:=p0
 dsimp only at hpk
 subst hpk
 unfold JU
 rw[hs0]
 have hb:=Yw hg
 cases hr:bld g 3001 (1000+(k:Int)) P T 3000 with
 | none=>
   have IH2: ∀(bi:Nat) (H:Nat→Option MObj) (next:Nat),BIn g H next bi P T 3000→qP Try.prog 49 [.ptr bi 0 0,vi (1000+(k:Int))] H next (fun v H' n'=>next≤n'∧(∀j,j<next→j≠bi→H' j=H j)∧v=.tup [ndZ,.bool false]∧ ∃x,H' bi=some (.own 8 [x] false)):=fun bi H next h=>by
    have:=hb bi 3000 H next 3000 P T (1000+(k:Int)) (Nat.le_refl _) h
    rw[hr]at this;exact this
   repeat' with_reducible first
    |refine s_ ?_
    |simp -implicitDefEqProofs only[wZZ,seval]
    |refine t_ ?_
    |(with_unfolding_all (refine qaK (f:=V.int .i64) (l:=[1000+(k:Int)]) (x:=1000+(k:Int)) o_ rfl ?_))
    |(refine qL rfl rfl rfl ((IH2 _ _ _ ⟨by((try simp only[wM]);(repeat first|rw[if_pos trivial]|rw[if_pos rfl]|rw[if_neg o_]));with_unfolding_all rfl,wg_,hP,hT,o_⟩).mono ?_);rintro v1 H1 n1' ⟨q1,q2,rfl,xv,q3⟩;(try simp only[wN]at q1))
   have o1:H1 1=some (.own 4 [ndZ] false):=(q2 1 wg_ o_).trans hh_
   repeat' with_reducible first
    |refine s_ ?_
    |simp -implicitDefEqProofs only[wZZ,seval,o1]
    |refine t_ ?_
   exact YJ (t:=6) (u:=7) (id:=1) (n:=4) (ro:=false) (ag:=true) (v:=ndZ) rfl (Or.inr rfl) (by(simp -implicitDefEqProofs only[wL,seval])) hh_ rfl (by(simp -implicitDefEqProofs only[wL,seval])) Vf
 | some q=>
   obtain ⟨t,P2,T2,n2⟩:=q
   have IH2: ∀(bi:Nat) (H:Nat→Option MObj) (next:Nat),BIn g H next bi P T 3000→qP Try.prog 49 [.ptr bi 0 0,vi (1000+(k:Int))] H next (fun v H' n'=>next≤n'∧(∀j,j<next→j≠bi→H' j=H j)∧ ∃tv,v=.tup [tv,.bool true]∧jr H' (fun j=>next≤j∧j<n') t tv∧H' bi=some (.own 8 [bdV g P2 T2 n2] false)):=fun bi H next h=>by
    have:=hb bi 3000 H next 3000 P T (1000+(k:Int)) (Nat.le_refl _) h
    rw[hr]at this;exact this
   repeat' with_reducible first
    |refine s_ ?_
    |simp -implicitDefEqProofs only[wZZ,seval]
    |refine t_ ?_
    |(with_unfolding_all (refine qaK (f:=V.int .i64) (l:=[1000+(k:Int)]) (x:=1000+(k:Int)) o_ rfl ?_))
    |(refine qL rfl rfl rfl ((IH2 _ _ _ ⟨by((try simp only[wM]);(repeat first|rw[if_pos trivial]|rw[if_pos rfl]|rw[if_neg o_]));with_unfolding_all rfl,wg_,hP,hT,o_⟩).mono ?_);rintro v1 H1 n1' ⟨q1,q2,tv,rfl,q3,q4⟩;(try simp only[wN]at q1);obtain ⟨kv2,rfl,w1,w2,w3⟩:=q3.shape)
   have o1:H1 1=some (.own 4 [ndZ] false):=(q2 1 wg_ o_).trans hh_
   (try simp only[wN]at q3)
   cases P2 with
   | cons x l=>
     repeat' with_reducible first
      |refine s_ ?_
      |simp -implicitDefEqProofs only[wZZ,seval,o1,q4]
      |(first|apply qj|apply qi)<;>intro h h_<;>(try simp only[wD,reduceCtorEq]at h_)<;>(try exact wb_)<;>(try simp only[h])
      |refine t_ ?_
     all_goals(exact YJ (t:=6) (u:=7) (id:=1) (n:=4) (ro:=false) (ag:=true) (v:=ndZ) rfl (Or.inr rfl) (by(simp -implicitDefEqProofs only[wL,seval])) hh_ rfl (by(simp -implicitDefEqProofs only[wL,seval])) Vf)
   | nil=>
     cases T2 with
     | cons x l=>
       repeat' with_reducible first
        |refine s_ ?_
        |simp -implicitDefEqProofs only[wZZ,seval,o1,q4]
        |apply qa<;>intro h h_<;>(try simp only[wD,reduceCtorEq]at h_)<;>(try exact wb_)<;>(try simp only[h])
        |refine t_ ?_
       all_goals(exact YJ (t:=6) (u:=7) (id:=1) (n:=4) (ro:=false) (ag:=true) (v:=ndZ) rfl (Or.inr rfl) (by(simp -implicitDefEqProofs only[wL,seval])) hh_ rfl (by(simp -implicitDefEqProofs only[wL,seval])) Vf)
     | nil=>
       repeat' with_reducible first
        |refine s_ ?_
        |simp -implicitDefEqProofs only[wZZ,seval,o1,q4]
        |refine t_ ?_
       all_goals(exact YJ (t:=6) (u:=7) (id:=1) (n:=4) (ro:=false) (ag:=true) (v:= .agg [vi t.sym,vi t.prod,vi t.at_,kv2]) rfl (Or.inr rfl) (by(simp -implicitDefEqProofs only[wL,seval])) hh_ rfl (by(simp -implicitDefEqProofs only[wL,seval])) (ErL.tup (.cons (jr.er _ _ (jr.mono (S':=fun _=>True) (fun j ⟨a,b⟩=>⟨trivial,hh_⟩) _ _ q3)) (.cons (.bool _) .nil))))

mutual
def Nd.ats:Nd→List Int
 |.mk _ p a ks=>if p= -1 then[a]else Nd.atss ks
def Nd.atss:List Nd→List Int
 |[]=>[]
 |k::r=>k.ats++Nd.atss r
end
theorem Nd.atss_snoc: ∀(l:List Nd) (k:Nd),Nd.atss (l++[k])=Nd.atss l++k.ats
 |[],k=>by simp[Nd.atss]
 |a::r,k=>by rw[List.cons_append,Nd.atss,Nd.atss_snoc r k,Nd.atss,List.append_assoc]
mutual
theorem Nd.ats_len: ∀t:Nd,t.ats.length≤t.size
 | .mk s p _ ks=>by
   have:=Nd.atss_len ks
   rw[Nd.ats,Nd.size];split
   · simp
   · omega
theorem Nd.atss_len: ∀l:List Nd,(Nd.atss l).length≤Nd.sizes l
 |[]=>by rw[Nd.atss,Nd.sizes];exact Nat.le_refl _
 |k::r=>by have:=Nd.ats_len k;have:=Nd.atss_len r;rw[Nd.atss,Nd.sizes,List.length_append];omega
end
abbrev qaJ (t:Nd):V:= .tup [KH t.yld,KH t.ats,KH t.prs]
theorem qcX {ef:EF} {t u w:Nat} {res:V} {e:Exit} {s:St} (he:ef.res=[.inl t,.inl u,.inl w]) (hx:e=.normal∨e=.ret) (h:Er true s.H (.tup [s.f t,s.f u,s.f w]) res):zw ef res e s:=
 ⟨hx,_,by rw[he];simp[qbW,KD,one],h⟩
theorem KP {y p a:Int} {ks:List Nd} (ih: ∀k∈ks,Pure Try.prog 20 [k.V] (qaJ k)) (hb:(Nd.mk y p a ks).size≤1000000000):Pure Try.prog 20 [(Nd.mk y p a ks).V] (qaJ (.mk y p a ks)):=by
 refine pure_intro Try.func20 nm_ qpp (by show 1≤54;decide) ?_
 show ewp _ qdV _ _
 have hsz:Nd.sizes ks≤1000000000:=by rw[Nd.size]at hb;omega
 have hkl:=Nd.sizes_len ks
 unfold qaJ
 rw[Nd.V_mk,Nd.yld,Nd.ats,Nd.prs]
 by_cases hp:p= -1
 · subst hp
   rw[if_pos rfl,if_pos rfl,if_pos rfl]
   repeat' with_reducible first
    |refine s_ ?_
    |simp -implicitDefEqProofs only[wZZ,seval]
    |refine t_ ?_
   exact qcX rfl (Or.inr rfl) (ErL.tup (.cons (ErL.sl (.cons (.int _ _) .nil)) (.cons (ErL.sl (.cons (.int _ _) .nil)) (.cons (ErL.sl .nil) .nil))))
 · rw [if_neg hp,if_neg hp,if_neg hp]
   repeat' with_reducible first
    |refine s_ ?_
    |simp -implicitDefEqProofs only[wZZ,seval]
    |apply qa<;>intro h h_<;>(try simp only[wD,reduceCtorEq]at h_)<;>(try exact wb_)<;>(try simp only[h])
    |refine t_ ?_
   refine qg ?nx1 (fun(i:Nat) s=>s.f 1=?v1_1∧s.H 0=some (.own 4 [.agg [vi y,vi p,vi a,.sl 4 false (ks.map Nd.V)]] false)∧(∃v,s.f 5=v∧Gr s.H s.next 1 ((Nd.ylds (ks.take i)).map (V.int .i64)) v)∧(∃v,s.f 6=v∧Gr s.H s.next 1 ((Nd.atss (ks.take i)).map (V.int .i64)) v)∧(∃v,s.f 7=v∧Gr s.H s.next 1 ((Nd.prss (ks.take i)).map (V.int .i64)) v)∧s.f 8=vi i∧(i≤ks.length)∧(Sep (s.f 5) (s.f 6))∧(Sep (s.f 5) (s.f 7))∧(Sep (s.f 6) (s.f 7))) (fun i=>ks.length - i) (0) wj_ (by refine⟨?_,?_,?_,?_,?_,?_,wo_,(by(try simp -implicitDefEqProofs only[wL,wM,wN,seval]);first|exact Sep.slL|exact Sep.slR|exact Sep.ids o_),(by(try simp -implicitDefEqProofs only[wL,wM,wN,seval]);first|exact Sep.slL|exact Sep.slR|exact Sep.ids o_),(by(try simp -implicitDefEqProofs only[wL,wM,wN,seval]);first|exact Sep.slL|exact Sep.slR|exact Sep.ids o_)⟩<;>first|(simp -implicitDefEqProofs only[wL,wM,wN,wX,seval,Option.some.injEq]<;>exact wt_)|rfl|exact⟨_,rfl⟩) ?_
   intro i s hnx ⟨g1,o0,⟨v5,g5,G5⟩,⟨v6,g6,G6⟩,⟨v7,g7,G7⟩,g8,k1_0,S5_6,S5_7,S6_7⟩
   rw[g5,g6]at S5_6
   rw[g5,g7]at S5_7
   rw[g6,g7]at S6_7
   have hz:=w1_ i
   have d56: ∀i,gid v5=some i→gid v6=some i→False:=fun i a b=>S5_6 i a b
   have d57: ∀i,gid v5=some i→gid v7=some i→False:=fun i a b=>S5_7 i a b
   have d67: ∀i,gid v6=some i→gid v7=some i→False:=fun i a b=>S6_7 i a b
   have hle1:=Nd.sizes_take ks i
   have l1:=Nd.ylds_len (ks.take i)
   have l2:=Nd.atss_len (ks.take i)
   have l3:=Nd.prss_len (ks.take i)
   by_cases hi:i<ks.length
   · have hgi:ks[i]?=some ks[i]:=ge_ hi
     have htk:ks.take (i+1)=ks.take i++[ks[i]]:=by rw[List.take_add_one,hgi];rfl
     have hih:=ih _ (List.getElem_mem hi)
     have hle2:Nd.sizes (ks.take (i+1))≤Nd.sizes ks:=Nd.sizes_take ks (i+1)
     have hst:Nd.sizes (ks.take (i+1))=Nd.sizes (ks.take i)+ks[i].size:=by rw[htk,Nd.sizes_snoc]
     have y1:Nd.ylds (ks.take (i+1))=Nd.ylds (ks.take i)++ks[i].yld:=by rw[htk,Nd.ylds_snoc]
     have y2:Nd.atss (ks.take (i+1))=Nd.atss (ks.take i)++ks[i].ats:=by rw[htk,Nd.atss_snoc]
     have y3:Nd.prss (ks.take (i+1))=Nd.prss (ks.take i)++ks[i].prs:=by rw[htk,Nd.prss_snoc]
     have l4:=Nd.yld_len ks[i]
     have l5:=Nd.ats_len ks[i]
     have l6:=Nd.prs_len ks[i]
     generalize ks[i]=k at *
     have hkV:k.V=.agg [vi k.sym,vi k.prod,vi k.at_,.sl 4 false (k.kids.map Nd.V)]:=by obtain ⟨e1,e2,e3,e4⟩:=k;rw[Nd.V_mk]
     simp only[hkV]at hih
     repeat' with_reducible first
      |refine s_ ?_
      |simp -implicitDefEqProofs only[wZZ,seval,g1,g5,g6,g7,g8,o0,Gr.dropO G5 o0,Gr.dropO G6 o0,Gr.dropO G7 o0,hz,hkV,G5.len,G6.len,G7.len]
      |apply qa<;>intro h h_<;>(try simp only[wD,reduceCtorEq]at h_)<;>(try exact wb_)<;>(try simp only[h])
      |refine t_ ?_
      |refine cq1 hih qd ?_
      |(apply zk rfl (G6.mono (Nat.le_refl _) (fun id h1 h2=>by(try simp only[wM,Qb]);(repeat first|rw[if_neg o_]|rw[if_neg (fun e=>d56 id e h1)])));(focus(first|exact zf.sl|exact zf.asl));(focus(simp only[wZ]<;>omega));(focus(unfold maxLen;simp only[wZ]<;>omega)))
      |(apply zk rfl (G7.mono (Nat.le_refl _) (fun id h1 h2=>by(try simp only[wM,Qb]);(repeat first|rw[if_neg o_]|rw[if_neg (fun e=>d57 id e h1)]|rw[if_neg (fun e=>d67 id e h1)])));(focus(first|exact zf.sl|exact zf.asl));(focus(simp only[wZ]<;>omega));(focus(unfold maxLen;simp only[wZ]<;>omega)))
      |apply zk (hg:=G5);(focus(first|rfl|(simp -implicitDefEqProofs only[wM];done)));(focus(first|exact zf.sl|exact zf.asl|exact zf.gr G5|exact zf.gr G6|exact zf.gr G7|exact zf.str));exact wf_;(focus(unfold maxLen;first|omega|(simp only[wZ]<;>omega)))
     have e5: ∀j,(j=0∨s.next≤j)→gid v5≠some j:=fun j hj e=>by
      rcases G5 with rfl|⟨id,fin,rfl,h1,h2⟩
      · cases e
      · cases e
        rcases hj with rfl|hj
        · rw[o0]at h1;cases h1
        · omega
     have e6: ∀j,(j=0∨s.next≤j)→gid v6≠some j:=fun j hj e=>by
      rcases G6 with rfl|⟨id,fin,rfl,h1,h2⟩
      · cases e
      · cases e
        rcases hj with rfl|hj
        · rw[o0]at h1;cases h1
        · omega
     have e7: ∀j,(j=0∨s.next≤j)→gid v7≠some j:=fun j hj e=>by
      rcases G7 with rfl|⟨id,fin,rfl,h1,h2⟩
      · cases e
      · cases e
        rcases hj with rfl|hj
        · rw[o0]at h1;cases h1
        · omega
     exact⟨wg_,i+1,o_,trivial,(by(try simp only[wM,Qb]);(repeat first|rw[if_pos trivial]|rw[if_pos rfl]|rw[if_neg o_]|rw[if_neg (e7 _ o_)]|rw[if_neg (e6 _ o_)]|rw[if_neg (e5 _ o_)]);exact o0),⟨_,rfl,(by rw[y1];exact Gr.tok (id:=s.next+5+13+2) (fin:=(Nd.ylds (ks.take i)).length+k.yld.length) (by(try simp only[wM,Qb]);(repeat first|rw[if_pos trivial]|rw[if_pos rfl]|rw[if_neg o_]|rw[if_neg (e7 _ o_)]|rw[if_neg (e6 _ o_)]|rw[if_neg (e5 _ o_)])) wg_)⟩,⟨_,rfl,(by rw[y2];exact Gr.tok (id:=s.next+5+13+5) (fin:=(Nd.atss (ks.take i)).length+k.ats.length) (by(try simp only[wM,Qb]);(repeat first|rw[if_pos trivial]|rw[if_pos rfl]|rw[if_neg o_]|rw[if_neg (e7 _ o_)]|rw[if_neg (e6 _ o_)]|rw[if_neg (e5 _ o_)])) wg_)⟩,⟨_,rfl,(by rw[y3];exact Gr.tok (id:=s.next+5+13+8) (fin:=(Nd.prss (ks.take i)).length+k.prs.length) (by(try simp only[wM,Qb]);(repeat first|rw[if_pos trivial]|rw[if_pos rfl]|rw[if_neg o_]|rw[if_neg (e7 _ o_)]|rw[if_neg (e6 _ o_)]|rw[if_neg (e5 _ o_)])) wg_)⟩,rfl,o_,Sep.ids o_,Sep.ids o_,Sep.ids o_⟩
   · have e:ks.take i=ks:=List.take_of_length_le o_
     rw[e]at G5 G6 G7 l3
     repeat' with_reducible first
      |refine s_ ?_
      |simp -implicitDefEqProofs only[wZZ,seval,g1,g5,g6,g7,g8,o0,Gr.dropO G5 o0,Gr.dropO G6 o0,Gr.dropO G7 o0,G5.len,G6.len,G7.len]
      |apply qa<;>intro h h_<;>(try simp only[wD,reduceCtorEq]at h_)<;>(try exact wb_)<;>(try simp only[h])
      |apply zk (hg:=G7);(focus(first|rfl|(simp -implicitDefEqProofs only[wM];done)));(focus(first|exact zf.sl|exact zf.asl|exact zf.gr G5|exact zf.gr G6|exact zf.gr G7|exact zf.str));exact wf_;(focus(unfold maxLen;first|omega|(simp only[wZ]<;>omega)))
      |refine t_ ?_
     exact qcX rfl (Or.inr rfl) (ErL.tup (.cons (Gr.er G5 rfl) (.cons (Gr.er G6 rfl) (.cons QX .nil))))
theorem Yj: ∀(n:Nat) (t:Nd),t.size≤n→t.size≤1000000000→Pure Try.prog 20 [t.V] (qaJ t)
 |0,t,h,_=>by have:=t.size_pos;omega
 |n+1,.mk s p a ks,h,hb=>KP (fun k hk=>by have:=Nd.size_kid (s:=s) (p:=p) (a:=a) hk;exact Yj n k o_ o_) hb

def qah (l:List Int) (t:Nd):List Int:=if t.prod= -1 then l++[t.at_]else l
mutual
theorem Kh: ∀(t:Nd) (l:List Int),Nd.walkF qah l t=l++t.ats
 | .mk s p a ks,l=>by
   rw[Nd.walkF,Nd.ats]
   by_cases h:p= -1
   · rw[if_pos h,if_pos h];unfold qah;rw[if_pos h]
   · rw[if_neg h,if_neg h,Yv ks l];unfold qah;rw[if_neg h]
theorem Yv: ∀(ks:List Nd) (l:List Int),Nd.walkFs qah l ks=l++Nd.atss ks
 |[],l=>by rw[Nd.walkFs,Nd.atss,List.append_nil]
 |k::r,l=>by rw[Nd.walkFs,Kh k l,Yv r _,Nd.atss,List.append_assoc]
end
theorem qf1 {H:Nat→Option MObj} {next lo:Nat} {l:List Int} {y p a:Int} {ks:List Nd} (hI:qbP lo l H next) (hb:l.length≤1000000000000):qP Try.prog 47 [(Nd.mk y p a ks).V,.ptr lo 0 0] H next (fun v H' n'=>next≤n'∧qbP lo (qah l (.mk y p a ks)) H' n'∧ ∀j,j<next→j≠lo→Xt H j→H' j=H j):=by
 refine qK Try.func47 nm_ qin (by show 2≤11;decide) ?_
 show ewp _ qmz _ _
 obtain ⟨v,ho,hlo,hG⟩:=hI
 have hg:gid v≠some lo:=fun e=>by
  rcases hG with rfl|⟨id,fin,rfl,h1,_⟩
  · cases e
  · cases e;rw[ho]at h1;cases h1
 have hok:=(Gr.ok hG).2.2
 rw[Nd.V_mk]
 by_cases hp:p= -1
 · have e:qah l (.mk y p a ks)=l++[a]:=by unfold qah;rw[if_pos hp]
   rw[e]
   subst hp
   repeat' with_reducible first
    |refine s_ ?_
    |simp -implicitDefEqProofs only[wZZ,seval,ho,qb hg]
    |apply zk rfl (hG.mono (Nat.le_refl _) (fun id h1 h2=>by(try simp only[wM]);(repeat rw[if_neg o_])));(focus(first|exact zf.sl|exact zf.asl));(focus(simp only[wZ]<;>omega));(focus(unfold maxLen;simp only[wZ]<;>omega))
    |apply zq;exact hok
    |apply zm;with_unfolding_all exact hok;exact wu_;exact wu_
    |refine t_ ?_
    |simp -implicitDefEqProofs (disch:=omega) only[w64,if_neg]
   refine yZ rfl (Or.inl rfl) ⟨wg_,⟨_,hh_,wg_,Gr.tok (id:=next+1+3+4) (fin:=l.length+1) hh_ wg_⟩,fun j h1 h2 h3=>?_⟩
   have hj:gid v≠some j:=fun e=>by
    obtain ⟨a1,a2,a3,a4⟩:=h3
    rcases hG with rfl|⟨id,fin,rfl,h5,_⟩
    · cases e
    · cases e;rw[h5]at a4;cases a4
   ((try simp only[wM]);(repeat first|rw[if_pos trivial]|rw[if_pos rfl]|rw[if_neg o_]))
   rw[qb hj]
   ((try simp only[wM]);(repeat first|rw[if_pos trivial]|rw[if_pos rfl]|rw[if_neg o_]))
 · have e:qah l (.mk y p a ks)=l:=by unfold qah;rw[if_neg hp]
   rw[e]
   repeat' with_reducible first
    |refine s_ ?_
    |simp -implicitDefEqProofs only[wZZ,seval,ho]
    |apply qa<;>intro h h_<;>(try simp only[wD,reduceCtorEq]at h_)<;>(try exact wb_)<;>(try simp only[h])
    |refine t_ ?_
   exact yZ rfl (Or.inl rfl) ⟨wg_,⟨v,by((try simp only[wM]);(repeat first|rw[if_pos trivial]|rw[if_pos rfl]|rw[if_neg o_]));exact ho,wg_,hG.mono wg_ (fun j h1 h2=>hh_)⟩,fun j h1 h2 h3=>hh_⟩
theorem qcy (lo:Nat):Over 47 [.ptr lo 0 0] lo (qbP lo) qah List.length where
 call:=fun l t H next hI hm=>by
  obtain ⟨y,p,a,ks⟩:=t
  exact qf1 hI hm
 mono:=fun l H H' next next' ⟨v,h1,h2,h3⟩ hn hH=>⟨v,(hH lo h2).trans h1,o_,h3.mono hn fun id _ hid=>hH id hid⟩
 m1:=fun l t=>by unfold qah;split<;>simp
 lo:=fun l H next ⟨_,_,h,_⟩=>h
theorem jK {t:Nd} (hb:t.size≤1000000000):Pure Try.prog 24 [t.V] (.sl 1 false (t.ats.map (V.int .i64))):=by
 refine pure_intro Try.func24 nm_ qrm (by show 1≤7;decide) ?_
 show ewp _ qtt _ _
 obtain ⟨y,p,a,ks⟩:=t
 have hw:=kN (qcy 1) (Nd.mk y p a ks).size (.mk y p a ks) []
 rw[Kh,List.nil_append,Nd.V_mk]at hw
 rw[Nd.V_mk]
 repeat' with_reducible first
  |refine zG ?_
  |simp -implicitDefEqProofs only[wZZ,seval]
  |(refine qL rfl rfl rfl ((hw _ _ (Nat.le_refl _) (qbF hh_ wg_) (by simp;omega)).mono ?_);rintro v1 H1 n1' ⟨q1,q2,q5⟩)
  |refine t_ ?_
 obtain ⟨v,q2,q3,q4⟩:=q2
 have hok:=Gr.ok q4
 have hl:v.cells.length=1:=by rw[hok.1];rfl
 repeat' with_reducible first
  |refine ku ?_
  |simp -implicitDefEqProofs only[wZZ,seval,q2]
  |apply zq;exact hok.2.2
  |apply zm;rfl;exact hl;exact hok.2.1
 exact Xm (t:=2) (id:=1) (n:=1) (ro:=false) (ag:=false) (v:=v) rfl (Or.inr rfl) (by(simp -implicitDefEqProofs only[wL,seval])) hh_ hok.2.2 (Gr.er q4 rfl)

theorem Nd.sizeRs_stop {l:List Nd} {n:Nat} (h:3000<n):Nd.sizeRs n l=n:=by
 cases l with
 |nil=>rw[Nd.sizeRs]
 |cons a r=>rw[Nd.sizeRs,if_neg o_]
theorem qam {y p a:Int} {ks:List Nd} (ih: ∀k∈ks,Pure Try.prog 13 [k.V] (vi k.sizeR)) (hb:(Nd.mk y p a ks).size≤1000000000000):Pure Try.prog 13 [(Nd.mk y p a ks).V] (vi (Nd.mk y p a ks).sizeR):=by
 refine pure_intro Try.func13 nm_ qk3 (by show 1≤25;decide) ?_
 show ewp _ qcW _ _
 have hsz:Nd.sizes ks≤1000000000000:=by rw[Nd.size]at hb;omega
 have hkl:=Nd.sizes_len ks
 rw[Nd.V_mk,Nd.sizeR]
 repeat' with_reducible first
  |refine s_ ?_
  |simp -implicitDefEqProofs only[wZZ,seval]
  |refine t_ ?_
 refine qg ?nx1 (fun(i:Nat) s=>s.f 1=?v1_1∧s.H 0=some (.own 4 [.agg [vi y,vi p,vi a,.sl 4 false (ks.map Nd.V)]] false)∧s.f 3=vi (Nd.sizeRs 1 (ks.take i))∧s.f 4=vi i∧(i≤ks.length)) (fun i=>ks.length - i) (0) wj_ (by refine⟨?_,?_,?_,?_,wo_⟩<;>first|(simp -implicitDefEqProofs only[wL,wM,wN,wX,seval,Option.some.injEq]<;>exact wt_)|rfl|exact⟨_,rfl⟩) ?_
 intro i s hnx ⟨g1,o0,g3,g4,k1_0⟩
 have hz:=w1_ i
 by_cases hi:i<ks.length
 · have hgi:ks[i]?=some ks[i]:=ge_ hi
   have htk:ks.take (i+1)=ks.take i++[ks[i]]:=by rw[List.take_add_one,hgi];rfl
   have hih:=ih _ (List.getElem_mem hi)
   have hle:=Nd.sizeRs_le (ks.take (i+1)) 1
   have hle2:Nd.sizes (ks.take (i+1))≤Nd.sizes ks:=by
    have h1: ∀(l m:List Nd),Nd.sizes l≤Nd.sizes (l++m):=fun l m=>by
     induction l with
     |nil=>rw[Nd.sizes];exact Nat.zero_le _
     |cons a r ih=>rw[List.cons_append,Nd.sizes,Nd.sizes];omega
    have h2:=h1 (ks.take (i+1)) (ks.drop (i+1))
    rwa [List.take_append_drop]at h2
   rw[htk,Nd.sizeRs_app]at hle
   by_cases hn:Nd.sizeRs 1 (ks.take i)≤3000
   · have hst:Nd.sizeRs 1 (ks.take (i+1))=Nd.sizeRs 1 (ks.take i)+ks[i].sizeR:=by rw[htk,Nd.sizeRs_app,Nd.sizeRs,if_pos hn,Nd.sizeRs]
     rw[Nd.sizeRs,if_pos hn,Nd.sizeRs]at hle
     rw[htk]at hle2
     generalize ks[i]=k at *
     generalize Nd.sizeRs 1 (ks.take i)=n at *
     have hz2:IntKind.i64.wrap ((n:Int)+(k.sizeR:Int))=((n+k.sizeR:Nat):Int):=by rw[wrap64 o_ o_];omega
     obtain ⟨ks',kp,ka,kk⟩:=k
     rw[Nd.V_mk]at hih
     repeat' with_reducible first
      |refine s_ ?_
      |simp -implicitDefEqProofs only[wZZ,seval,g1,g3,g4,o0,hz,hz2,Nd.V_mk]
      |(first|apply qa|apply qj|apply qi)<;>intro h h_<;>(try simp only[wD,reduceCtorEq]at h_)<;>(try exact wb_)<;>(try simp only[h])
      |refine t_ ?_
      |refine cq1 hih qd ?_
     refine⟨wk_,i+1,o_,?_⟩
     refine⟨?_,?_,?_,?_,?_⟩
     iterate 4 (focus(first|(simp -implicitDefEqProofs only[wL,wM,wN,wX,seval,Option.some.injEq,g1,g3,g4,o0,hst]<;>exact wt_)|rfl|exact⟨_,rfl⟩))
     all_goals try omega
   · have e:Nd.sizeRs 1 ks=Nd.sizeRs 1 (ks.take i):=by
      have:=Nd.sizeRs_app (ks.take i) (ks.drop i) 1
      rw[List.take_append_drop]at this
      rw[this,Nd.sizeRs_stop o_]
     rw[e]
     generalize Nd.sizeRs 1 (ks.take i)=n at *
     repeat' with_reducible first
      |refine s_ ?_
      |simp -implicitDefEqProofs only[wZZ,seval,g1,g3,g4,o0]
      |(first|apply qa|apply qj|apply qi)<;>intro h h_<;>(try simp only[wD,reduceCtorEq]at h_)<;>(try exact wb_)<;>(try simp only[h])
      |refine t_ ?_
     all_goals refine qo rfl (Or.inr rfl) ?_
     all_goals(try simp -implicitDefEqProofs only[wL,seval,g1,g3,g4])
     all_goals refine er_ ?_
     all_goals(try(with_reducible rfl))
 · have e:ks.take i=ks:=List.take_of_length_le o_
   rw[e]at g3
   repeat' with_reducible first
    |refine s_ ?_
    |simp -implicitDefEqProofs only[wZZ,seval,g1,g3,g4,o0]
    |(first|apply qj|apply qi)<;>intro h h_<;>(try simp only[wD,reduceCtorEq]at h_)<;>(try exact wb_)<;>(try simp only[h])
    |refine t_ ?_
   all_goals refine qo rfl (Or.inr rfl) ?_
   all_goals(try simp -implicitDefEqProofs only[wL,seval,g1,g3,g4])
   all_goals refine er_ ?_
   all_goals(try(with_reducible rfl))
theorem Xf: ∀(n:Nat) (t:Nd),t.size≤n→t.size≤1000000000000→Pure Try.prog 13 [t.V] (vi t.sizeR)
 |0,t,h,_=>by have:=t.size_pos;omega
 |n+1,.mk s p a ks,h,hb=>qam (fun k hk=>by have:=Nd.size_kid (s:=s) (p:=p) (a:=a) hk;exact Xf n k o_ o_) hb
mutual
def Nd.eqb:Nd→Nd→Bool
 |.mk s p a ks,.mk s' p' a' ks'=>decide (s=s') && (decide (p=p') && (decide (a=a') && Nd.eqbs ks ks'))
def Nd.eqbs:List Nd→List Nd→Bool
 |[],[]=>true
 |k::r,k'::r'=>k.eqb k' && Nd.eqbs r r'
 |[],_::_=>false
 | _::_,[]=>false
end
mutual
theorem Nd.eqb_iff: ∀t u:Nd,t.eqb u=true↔t=u
 | .mk s p a ks,.mk s' p' a' ks'=>by
   rw[Nd.eqb]
   simp only[Bool.and_eq_true,decide_eq_true_eq,Nd.mk.injEq,Nd.eqbs_iff ks ks']
theorem Nd.eqbs_iff: ∀l m:List Nd,Nd.eqbs l m=true↔l=m
 |[],[]=>by simp[Nd.eqbs]
 |[],_::_=>by simp[Nd.eqbs]
 | _::_,[]=>by simp[Nd.eqbs]
 |k::r,k'::r'=>by rw[Nd.eqbs];simp only[Bool.and_eq_true,List.cons.injEq,Nd.eqb_iff k k',Nd.eqbs_iff r r']
end
end Go.Proofs
