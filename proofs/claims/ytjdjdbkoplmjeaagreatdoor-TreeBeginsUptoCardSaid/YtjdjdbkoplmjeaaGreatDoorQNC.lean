/- Part of a proof that a law of the given program answers true. -/
import Derived.Test.YtjdjdbkoplmjeaaGreatDoorQNB
import Derived.Test.YtjdjdbkoplmjeaaGreatDoorQJA
import Derived.Test.YtjdjdbkoplmjeaaGreatDoorQNA
set_option maxRecDepth 20000
set_option linter.unusedSimpArgs false
set_option linter.unusedVariables false
set_option maxHeartbeats 4000000
namespace Go.Proofs
open Go.E
def qfn (lo:Nat) (l:List Int) (H:Nat→Option MObj) (next:Nat):Prop:= ∃v,H lo=some (.own 1 [v] false)∧lo<next∧Gr H next 1 (l.map (V.int .i64)) v
def qdy (l:List Int) (t:Nd):List Int:=if t.prod= -1 then l++[t.sym]else l
mutual
theorem qbY: ∀(t:Nd) (l:List Int),Nd.walkF qdy l t=l++t.yld
 | .mk s p a ks,l=>by
   rw[Nd.walkF,Nd.yld]
   by_cases h:p= -1
   · rw[if_pos h,if_pos h];unfold qdy;rw[if_pos h]
   · rw[if_neg h,if_neg h,qaf ks l];unfold qdy;rw[if_neg h]
theorem qaf: ∀(ks:List Nd) (l:List Int),Nd.walkFs qdy l ks=l++Nd.ylds ks
 |[],l=>by rw[Nd.walkFs,Nd.ylds,List.append_nil]
 |k::r,l=>by rw[Nd.walkFs,qbY k l,qaf r _,Nd.ylds,List.append_assoc]
end
theorem qdB {lo next:Nat} {H:Nat→Option MObj} (h:H lo=some (.own 1 [.sl 1 true []] false)) (hl:lo<next):qfn lo [] H next:=⟨_,h,hl,Gr.nil⟩
theorem qA2 {H:Nat→Option MObj} {next lo:Nat} {l:List Int} {y p a:Int} {ks:List Nd} (hI:qfn lo l H next) (hb:l.length≤1000000000000):qJ Tryz.prog 60 [(Nd.mk y p a ks).V,.ptr lo 0 0] H next (fun v H' n'=>next≤n'∧qfn lo (qdy l (.mk y p a ks)) H' n'∧ ∀j,j<next→j≠lo→YZ H j→H' j=H j):=by
 refine qF Tryz.func60 nm_ qoq (by show 2≤11;decide) ?_
 show ewp _ qyb _ _
 obtain ⟨v,ho,hlo,hG⟩:=hI
 have hg:gid v≠some lo:=fun e=>by
  rcases hG with rfl|⟨id,fin,rfl,h1,_⟩
  · cases e
  · cases e;rw[ho]at h1;cases h1
 have hok:=(Gr.ok hG).2.2
 rw[Nd.V_mk]
 by_cases hp:p= -1
 · have e:qdy l (.mk y p a ks)=l++[y]:=by unfold qdy;rw[if_pos hp]
   rw[e]
   subst hp
   repeat' with_reducible first
    |refine s_ ?_
    |simp -implicitDefEqProofs only[wZZ,seval,ho,qd hg]
    |apply jg rfl (hG.mono (Nat.le_refl _) (fun id h1 h2=>by(try simp only[wM]);(repeat rw[if_neg o_])));(focus(first|exact jk.sl|exact jk.asl));(focus(simp only[wZ]<;>omega));(focus(unfold maxLen;simp only[wZ]<;>omega))
    |apply zC;exact hok
    |apply zD;with_unfolding_all exact hok;exact wu_;exact wu_
    |refine t_ ?_
    |simp -implicitDefEqProofs (disch:=omega) only[w64,if_neg]
   refine yJ rfl (Or.inl rfl) ⟨wg_,⟨_,hh_,wg_,Gr.tok (id:=next+1+3+4) (fin:=l.length+1) hh_ wg_⟩,fun j h1 h2 h3=>?_⟩
   have hj:gid v≠some j:=fun e=>by
    obtain ⟨a1,a2,a3,a4⟩:=h3
    rcases hG with rfl|⟨id,fin,rfl,h5,_⟩
    · cases e
    · cases e;rw[h5]at a4;cases a4
   ((try simp only[wM]);(repeat first|rw[if_pos trivial]|rw[if_pos rfl]|rw[if_neg o_]))
   rw[qd hj]
   ((try simp only[wM]);(repeat first|rw[if_pos trivial]|rw[if_pos rfl]|rw[if_neg o_]))
 · have e:qdy l (.mk y p a ks)=l:=by unfold qdy;rw[if_neg hp]
   rw[e]
   repeat' with_reducible first
    |refine s_ ?_
    |simp -implicitDefEqProofs only[wZZ,seval,ho]
    |apply qa<;>intro h h_<;>(try simp only[wD,reduceCtorEq]at h_)<;>(try exact wb_)<;>(try simp only[h])
    |refine t_ ?_
   exact yJ rfl (Or.inl rfl) ⟨wg_,⟨v,by((try simp only[wM]);(repeat first|rw[if_pos trivial]|rw[if_pos rfl]|rw[if_neg o_]));exact ho,wg_,hG.mono wg_ (fun j h1 h2=>hh_)⟩,fun j h1 h2 h3=>hh_⟩
theorem qgE (lo:Nat):Over 60 [.ptr lo 0 0] lo (qfn lo) qdy List.length where
 call:=fun l t H next hI hm=>by
  obtain ⟨y,p,a,ks⟩:=t
  exact qA2 hI hm
 mono:=fun l H H' next next' ⟨v,h1,h2,h3⟩ hn hH=>⟨v,(hH lo h2).trans h1,o_,h3.mono hn fun id _ hid=>hH id hid⟩
 m1:=fun l t=>by unfold qdy;split<;>simp
 lo:=fun l H next ⟨_,_,h,_⟩=>h
theorem X9 {t:Nd} (hb:t.size≤1000000000):Pure Tryz.prog 24 [t.V] (.sl 1 false (t.yld.map (V.int .i64))):=by
 refine pure_intro Tryz.func24 nm_ qof (by show 1≤7;decide) ?_
 show ewp _ qy7 _ _
 obtain ⟨y,p,a,ks⟩:=t
 have hw:=Zn (qgE 1) (Nd.mk y p a ks).size (.mk y p a ks) []
 rw[qbY,List.nil_append,Nd.V_mk]at hw
 rw[Nd.V_mk]
 repeat' with_reducible first
  |refine qZ ?_
  |simp -implicitDefEqProofs only[wZZ,seval]
  |(refine qI rfl rfl rfl ((hw _ _ (Nat.le_refl _) (qdB hh_ wg_) (by simp;omega)).mono ?_);rintro v1 H1 n1' ⟨q1,q2,q5⟩)
  |refine t_ ?_
 obtain ⟨v,q2,q3,q4⟩:=q2
 have hok:=Gr.ok q4
 have hl:v.cells.length=1:=by rw[hok.1];rfl
 repeat' with_reducible first
  |refine yu ?_
  |simp -implicitDefEqProofs only[wZZ,seval,q2]
  |apply zC;exact hok.2.2
  |apply zD;rfl;exact hl;exact hok.2.1
 exact qen (t:=2) (id:=1) (n:=1) (ro:=false) (ag:=false) (v:=v) rfl (Or.inr rfl) (by(simp -implicitDefEqProofs only[wL,seval])) hh_ hok.2.2 (Gr.er q4 rfl)
def qeq (l:List Int) (t:Nd):List Int:=if t.prod= -1 then l else l++[t.prod]
mutual
theorem qbZ: ∀(t:Nd) (l:List Int),Nd.walkF qeq l t=l++t.prs
 | .mk s p a ks,l=>by
   rw[Nd.walkF,Nd.prs]
   by_cases h:p= -1
   · rw[if_pos h,if_pos h];unfold qeq;rw[if_pos h,List.append_nil]
   · rw[if_neg h,if_neg h,Ka ks l];unfold qeq;rw[if_neg h,List.append_assoc]
theorem Ka: ∀(ks:List Nd) (l:List Int),Nd.walkFs qeq l ks=l++Nd.prss ks
 |[],l=>by rw[Nd.walkFs,Nd.prss,List.append_nil]
 |k::r,l=>by rw[Nd.walkFs,qbZ k l,Ka r _,Nd.prss,List.append_assoc]
end
theorem qxJ {H:Nat→Option MObj} {next lo:Nat} {l:List Int} {y p a:Int} {ks:List Nd} (hI:qfn lo l H next) (hb:l.length≤1000000000000):qJ Tryz.prog 80 [(Nd.mk y p a ks).V,.ptr lo 0 0] H next (fun v H' n'=>next≤n'∧qfn lo (qeq l (.mk y p a ks)) H' n'∧ ∀j,j<next→j≠lo→YZ H j→H' j=H j):=by
 refine qF Tryz.func80 nm_ qBT (by show 2≤11;decide) ?_
 show ewp _ qvU _ _
 obtain ⟨v,ho,hlo,hG⟩:=hI
 have hg:gid v≠some lo:=fun e=>by
  rcases hG with rfl|⟨id,fin,rfl,h1,_⟩
  · cases e
  · cases e;rw[ho]at h1;cases h1
 have hok:=(Gr.ok hG).2.2
 rw[Nd.V_mk]
 by_cases hp:p≠ -1
 · have e:qeq l (.mk y p a ks)=l++[p]:=by unfold qeq;rw[if_neg hp]
   rw[e]
   repeat' with_reducible first
    |refine s_ ?_
    |simp -implicitDefEqProofs only[wZZ,seval,ho,qd hg]
    |apply qa<;>intro h h_<;>(try simp only[wD,reduceCtorEq]at h_)<;>(try exact wb_)<;>(try simp only[h])
    |apply jg rfl (hG.mono (Nat.le_refl _) (fun id h1 h2=>by(try simp only[wM]);(repeat rw[if_neg o_])));(focus(first|exact jk.sl|exact jk.asl));(focus(simp only[wZ]<;>omega));(focus(unfold maxLen;simp only[wZ]<;>omega))
    |apply zC;exact hok
    |apply zD;with_unfolding_all exact hok;exact wu_;exact wu_
    |refine t_ ?_
    |simp -implicitDefEqProofs (disch:=omega) only[w64,if_neg]
   refine yJ rfl (Or.inl rfl) ⟨wg_,⟨_,hh_,wg_,Gr.tok (id:=next+1+3+4) (fin:=l.length+1) hh_ wg_⟩,fun j h1 h2 h3=>?_⟩
   have hj:gid v≠some j:=fun e=>by
    obtain ⟨a1,a2,a3,a4⟩:=h3
    rcases hG with rfl|⟨id,fin,rfl,h5,_⟩
    · cases e
    · cases e;rw[h5]at a4;cases a4
   ((try simp only[wM]);(repeat first|rw[if_pos trivial]|rw[if_pos rfl]|rw[if_neg o_]))
   rw[qd hj]
   ((try simp only[wM]);(repeat first|rw[if_pos trivial]|rw[if_pos rfl]|rw[if_neg o_]))
 · have e:qeq l (.mk y p a ks)=l:=by unfold qeq;rw[if_pos (Classical.not_not.1 hp)]
   rw[e]
   repeat' with_reducible first
    |refine s_ ?_
    |simp -implicitDefEqProofs only[wZZ,seval,ho]
    |apply qa<;>intro h h_<;>(try simp only[wD,reduceCtorEq]at h_)<;>(try exact wb_)<;>(try simp only[h])
    |refine t_ ?_
   exact yJ rfl (Or.inl rfl) ⟨wg_,⟨v,by((try simp only[wM]);(repeat first|rw[if_pos trivial]|rw[if_pos rfl]|rw[if_neg o_]));exact ho,wg_,hG.mono wg_ (fun j h1 h2=>hh_)⟩,fun j h1 h2 h3=>hh_⟩
theorem qfE (lo:Nat):Over 80 [.ptr lo 0 0] lo (qfn lo) qeq List.length where
 call:=fun l t H next hI hm=>by
  obtain ⟨y,p,a,ks⟩:=t
  exact qxJ hI hm
 mono:=fun l H H' next next' ⟨v,h1,h2,h3⟩ hn hH=>⟨v,(hH lo h2).trans h1,o_,h3.mono hn fun id _ hid=>hH id hid⟩
 m1:=fun l t=>by unfold qeq;split<;>simp
 lo:=fun l H next ⟨_,_,h,_⟩=>h
theorem qcx {t:Nd} (hb:t.size≤1000000000):Pure Tryz.prog 51 [t.V] (.sl 1 false (t.prs.map (V.int .i64))):=by
 refine pure_intro Tryz.func51 nm_ qvr (by show 1≤7;decide) ?_
 show ewp _ qCQ _ _
 obtain ⟨y,p,a,ks⟩:=t
 have hw:=Zn (qfE 1) (Nd.mk y p a ks).size (.mk y p a ks) []
 rw[qbZ,List.nil_append,Nd.V_mk]at hw
 rw[Nd.V_mk]
 repeat' with_reducible first
  |refine qZ ?_
  |simp -implicitDefEqProofs only[wZZ,seval]
  |(refine qI rfl rfl rfl ((hw _ _ (Nat.le_refl _) (qdB hh_ wg_) (by simp;omega)).mono ?_);rintro v1 H1 n1' ⟨q1,q2,q5⟩)
  |refine t_ ?_
 obtain ⟨v,q2,q3,q4⟩:=q2
 have hok:=Gr.ok q4
 have hl:v.cells.length=1:=by rw[hok.1];rfl
 repeat' with_reducible first
  |refine yu ?_
  |simp -implicitDefEqProofs only[wZZ,seval,q2]
  |apply zC;exact hok.2.2
  |apply zD;rfl;exact hl;exact hok.2.1
 exact qen (t:=2) (id:=1) (n:=1) (ro:=false) (ag:=false) (v:=v) rfl (Or.inr rfl) (by(simp -implicitDefEqProofs only[wL,seval])) hh_ hok.2.2 (Gr.er q4 rfl)

theorem VS {g:Grammar} (hg:GOk g) (bi:Nat): ∀(d:Nat) (H:Nat→Option MObj) (next n:Nat) (P T:List Int) (s:Int),n≤d→BIn g H next bi P T n→qJ Tryz.prog 77 [.ptr bi 0 0,vi s] H next (qGe g H next bi (bld g (d+1) s P T n))
 |0,H,next,n,P,T,s,hn,hI=>X5 hg (fun H next n1 P T s h=>by omega) hI
 |d+1,H,next,n,P,T,s,hn,hI=>X5 hg (fun H next n1 P T s h hI=>VS hg bi d H next n1 P T s o_ hI) hI
theorem XU {ef:EF} {t u n id:Nat} {ag ro:Bool} {v w res:V} {e:Exit} {s:St} (he:ef.res=[.inr (t,ag,n),.inl u]) (hx:e=.normal∨e=.ret) (hp:s.f t=.ptr id 0 0) (hH:s.H id=some (.own n [v] ro)) (ha:v.isAgg=ag) (hu:s.f u=w)
 (h:Er true s.H (.tup [v,w]) res):zP ef res e s:=by
 have hv:zh s ag n (s.f t)=some v:=by
  rw[hp]
  simp only[zh,hH,List.getElem?_cons_zero,jv,ha,and_self,if_true]
 exact⟨hx,_,by rw[he];simp[qai,Ko,hv,Go.E.one,hu],h⟩
def qII (g:Grammar):Int:=((g.prods[0]?).bind fun p=>p.right[0]?).getD 0
def Yh (g:Grammar) (P T:List Int):Option Nd:=match bld g 3001 (qII g) P T 3000 with
 |some (t,[],[],_)=>some t
 | _=>none
def qEW:Option Nd→V
 |some t=>.tup [t.V,.bool true]
 |none=>.tup [(Nd.mk 0 0 0 []).V,.bool false]
theorem qaW {H:Nat→Option MObj}:Er true H (.tup [ndZ,.bool false]) (qEW none):=by
 unfold qEW
 rw[Nd.V]
 exact ErL.tup (.cons (ErL.agg (.cons (.int _ _) (.cons (.int _ _) (.cons (.int _ _) (.cons (ErL.sl .nil) .nil))))) (.cons (.bool _) .nil))
theorem Ya {g:Grammar} {P T:List Int} (hg:GOk g) (hP:P.length≤1000000000) (hT:T.length≤1000000000):Pure Tryz.prog 49 [g.V,.sl 1 false (P.map (V.int .i64)),.sl 1 false (T.map (V.int .i64))] (qEW (Yh g P T)):=by
 refine pure_intro Tryz.func49 nm_ qz1 (by show 3≤48;decide) ?_
 show ewp _ qhq _ _
 obtain ⟨p0,rest,hpr,_,k,hpk,hkn⟩:=hg.head
 have hgp:g.prods[0]?=some p0:=by rw[hpr];rfl
 have hs0:qII g=1000+(k:Int):=by unfold qII;rw[hgp,Option.bind_some,hpk];rfl
 obtain ⟨pl,pr,pc,pco,pa,pat⟩:=p0
 dsimp only at hpk
 subst hpk
 unfold Yh
 rw[hs0]
 have hb:=VS hg
 cases hr:bld g 3001 (1000+(k:Int)) P T 3000 with
 | none=>
   have IH2: ∀(bi:Nat) (H:Nat→Option MObj) (next:Nat),BIn g H next bi P T 3000→qJ Tryz.prog 77 [.ptr bi 0 0,vi (1000+(k:Int))] H next (fun v H' n'=>next≤n'∧(∀j,j<next→j≠bi→H' j=H j)∧v=.tup [ndZ,.bool false]∧ ∃x,H' bi=some (.own 8 [x] false)):=fun bi H next h=>by
    have:=hb bi 3000 H next 3000 P T (1000+(k:Int)) (Nat.le_refl _) h
    rw[hr]at this;exact this
   repeat' with_reducible first
    |refine s_ ?_
    |simp -implicitDefEqProofs only[wZZ,seval]
    |refine t_ ?_
    |(with_unfolding_all (refine XQ (f:=V.int .i64) (l:=[1000+(k:Int)]) (x:=1000+(k:Int)) o_ rfl ?_))
    |(refine qI rfl rfl rfl ((IH2 _ _ _ ⟨by((try simp only[wM]);(repeat first|rw[if_pos trivial]|rw[if_pos rfl]|rw[if_neg o_]));with_unfolding_all rfl,wg_,hP,hT,o_⟩).mono ?_);rintro v1 H1 n1' ⟨q1,q2,rfl,xv,q3⟩;(try simp only[wN]at q1))
   have o1:H1 1=some (.own 4 [ndZ] false):=(q2 1 wg_ o_).trans hh_
   repeat' with_reducible first
    |refine s_ ?_
    |simp -implicitDefEqProofs only[wZZ,seval,o1]
    |refine t_ ?_
   exact XU (t:=6) (u:=7) (id:=1) (n:=4) (ro:=false) (ag:=true) (v:=ndZ) rfl (Or.inr rfl) (by(simp -implicitDefEqProofs only[wL,seval])) hh_ rfl (by(simp -implicitDefEqProofs only[wL,seval])) qaW
 | some q=>
   obtain ⟨t,P2,T2,n2⟩:=q
   have IH2: ∀(bi:Nat) (H:Nat→Option MObj) (next:Nat),BIn g H next bi P T 3000→qJ Tryz.prog 77 [.ptr bi 0 0,vi (1000+(k:Int))] H next (fun v H' n'=>next≤n'∧(∀j,j<next→j≠bi→H' j=H j)∧ ∃tv,v=.tup [tv,.bool true]∧xk H' (fun j=>next≤j∧j<n') t tv∧H' bi=some (.own 8 [bdV g P2 T2 n2] false)):=fun bi H next h=>by
    have:=hb bi 3000 H next 3000 P T (1000+(k:Int)) (Nat.le_refl _) h
    rw[hr]at this;exact this
   repeat' with_reducible first
    |refine s_ ?_
    |simp -implicitDefEqProofs only[wZZ,seval]
    |refine t_ ?_
    |(with_unfolding_all (refine XQ (f:=V.int .i64) (l:=[1000+(k:Int)]) (x:=1000+(k:Int)) o_ rfl ?_))
    |(refine qI rfl rfl rfl ((IH2 _ _ _ ⟨by((try simp only[wM]);(repeat first|rw[if_pos trivial]|rw[if_pos rfl]|rw[if_neg o_]));with_unfolding_all rfl,wg_,hP,hT,o_⟩).mono ?_);rintro v1 H1 n1' ⟨q1,q2,tv,rfl,q3,q4⟩;(try simp only[wN]at q1);obtain ⟨kv2,rfl,w1,w2,w3⟩:=q3.shape)
   have o1:H1 1=some (.own 4 [ndZ] false):=(q2 1 wg_ o_).trans hh_
   (try simp only[wN]at q3)
   cases P2 with
   | cons x l=>
     repeat' with_reducible first
      |refine s_ ?_
      |simp -implicitDefEqProofs only[wZZ,seval,o1,q4]
      |(first|apply qj|apply qx)<;>intro h h_<;>(try simp only[wD,reduceCtorEq]at h_)<;>(try exact wb_)<;>(try simp only[h])
      |refine t_ ?_
     all_goals(exact XU (t:=6) (u:=7) (id:=1) (n:=4) (ro:=false) (ag:=true) (v:=ndZ) rfl (Or.inr rfl) (by(simp -implicitDefEqProofs only[wL,seval])) hh_ rfl (by(simp -implicitDefEqProofs only[wL,seval])) qaW)
   | nil=>
     cases T2 with
     | cons x l=>
       repeat' with_reducible first
        |refine s_ ?_
        |simp -implicitDefEqProofs only[wZZ,seval,o1,q4]
        |apply qa<;>intro h h_<;>(try simp only[wD,reduceCtorEq]at h_)<;>(try exact wb_)<;>(try simp only[h])
        |refine t_ ?_
       all_goals(exact XU (t:=6) (u:=7) (id:=1) (n:=4) (ro:=false) (ag:=true) (v:=ndZ) rfl (Or.inr rfl) (by(simp -implicitDefEqProofs only[wL,seval])) hh_ rfl (by(simp -implicitDefEqProofs only[wL,seval])) qaW)
     | nil=>
       repeat' with_reducible first
        |refine s_ ?_
        |simp -implicitDefEqProofs only[wZZ,seval,o1,q4]
        |refine t_ ?_
       all_goals(exact XU (t:=6) (u:=7) (id:=1) (n:=4) (ro:=false) (ag:=true) (v:= .agg [vi t.sym,vi t.prod,vi t.at_,kv2]) rfl (Or.inr rfl) (by(simp -implicitDefEqProofs only[wL,seval])) hh_ rfl (by(simp -implicitDefEqProofs only[wL,seval])) (ErL.tup (.cons (xk.er _ _ (xk.mono (S':=fun _=>True) (fun j ⟨a,b⟩=>⟨trivial,hh_⟩) _ _ q3)) (.cons (.bool _) .nil))))

mutual
def Nd.ats:Nd→List Int
 |.mk _ p a ks=>if p= -1 then[a]else Nd.atss ks
def Nd.atss:List Nd→List Int
 |[]=>[]
 |k::r=>k.ats++Nd.atss r
end
mutual
theorem Nd.ats_len: ∀t:Nd,t.ats.length≤t.size
 | .mk s p _ ks=>by
   have:=Nd.atss_len ks
   rw[Nd.ats,Nd.size];split
   · simp
   · omega
theorem Nd.atss_len: ∀l:List Nd,(Nd.atss l).length≤Nd.sizes l
 |[]=>by rw[Nd.atss,Nd.sizes];exact Nat.le_refl _
 |k::r=>by have:=Nd.ats_len k;have:=Nd.atss_len r;rw[Nd.atss,Nd.sizes,List.length_append];omega
end
def qd9 (l:List Int) (t:Nd):List Int:=if t.prod= -1 then l++[t.at_]else l
mutual
theorem qbq: ∀(t:Nd) (l:List Int),Nd.walkF qd9 l t=l++t.ats
 | .mk s p a ks,l=>by
   rw[Nd.walkF,Nd.ats]
   by_cases h:p= -1
   · rw[if_pos h,if_pos h];unfold qd9;rw[if_pos h]
   · rw[if_neg h,if_neg h,qab ks l];unfold qd9;rw[if_neg h]
theorem qab: ∀(ks:List Nd) (l:List Int),Nd.walkFs qd9 l ks=l++Nd.atss ks
 |[],l=>by rw[Nd.walkFs,Nd.atss,List.append_nil]
 |k::r,l=>by rw[Nd.walkFs,qbq k l,qab r _,Nd.atss,List.append_assoc]
end
theorem qmE {H:Nat→Option MObj} {next lo:Nat} {l:List Int} {y p a:Int} {ks:List Nd} (hI:qfn lo l H next) (hb:l.length≤1000000000000):qJ Tryz.prog 81 [(Nd.mk y p a ks).V,.ptr lo 0 0] H next (fun v H' n'=>next≤n'∧qfn lo (qd9 l (.mk y p a ks)) H' n'∧ ∀j,j<next→j≠lo→YZ H j→H' j=H j):=by
 refine qF Tryz.func81 nm_ qsM (by show 2≤11;decide) ?_
 show ewp _ qCx _ _
 obtain ⟨v,ho,hlo,hG⟩:=hI
 have hg:gid v≠some lo:=fun e=>by
  rcases hG with rfl|⟨id,fin,rfl,h1,_⟩
  · cases e
  · cases e;rw[ho]at h1;cases h1
 have hok:=(Gr.ok hG).2.2
 rw[Nd.V_mk]
 by_cases hp:p= -1
 · have e:qd9 l (.mk y p a ks)=l++[a]:=by unfold qd9;rw[if_pos hp]
   rw[e]
   subst hp
   repeat' with_reducible first
    |refine s_ ?_
    |simp -implicitDefEqProofs only[wZZ,seval,ho,qd hg]
    |apply jg rfl (hG.mono (Nat.le_refl _) (fun id h1 h2=>by(try simp only[wM]);(repeat rw[if_neg o_])));(focus(first|exact jk.sl|exact jk.asl));(focus(simp only[wZ]<;>omega));(focus(unfold maxLen;simp only[wZ]<;>omega))
    |apply zC;exact hok
    |apply zD;with_unfolding_all exact hok;exact wu_;exact wu_
    |refine t_ ?_
    |simp -implicitDefEqProofs (disch:=omega) only[w64,if_neg]
   refine yJ rfl (Or.inl rfl) ⟨wg_,⟨_,hh_,wg_,Gr.tok (id:=next+1+3+4) (fin:=l.length+1) hh_ wg_⟩,fun j h1 h2 h3=>?_⟩
   have hj:gid v≠some j:=fun e=>by
    obtain ⟨a1,a2,a3,a4⟩:=h3
    rcases hG with rfl|⟨id,fin,rfl,h5,_⟩
    · cases e
    · cases e;rw[h5]at a4;cases a4
   ((try simp only[wM]);(repeat first|rw[if_pos trivial]|rw[if_pos rfl]|rw[if_neg o_]))
   rw[qd hj]
   ((try simp only[wM]);(repeat first|rw[if_pos trivial]|rw[if_pos rfl]|rw[if_neg o_]))
 · have e:qd9 l (.mk y p a ks)=l:=by unfold qd9;rw[if_neg hp]
   rw[e]
   repeat' with_reducible first
    |refine s_ ?_
    |simp -implicitDefEqProofs only[wZZ,seval,ho]
    |apply qa<;>intro h h_<;>(try simp only[wD,reduceCtorEq]at h_)<;>(try exact wb_)<;>(try simp only[h])
    |refine t_ ?_
   exact yJ rfl (Or.inl rfl) ⟨wg_,⟨v,by((try simp only[wM]);(repeat first|rw[if_pos trivial]|rw[if_pos rfl]|rw[if_neg o_]));exact ho,wg_,hG.mono wg_ (fun j h1 h2=>hh_)⟩,fun j h1 h2 h3=>hh_⟩
theorem qgB (lo:Nat):Over 81 [.ptr lo 0 0] lo (qfn lo) qd9 List.length where
 call:=fun l t H next hI hm=>by
  obtain ⟨y,p,a,ks⟩:=t
  exact qmE hI hm
 mono:=fun l H H' next next' ⟨v,h1,h2,h3⟩ hn hH=>⟨v,(hH lo h2).trans h1,o_,h3.mono hn fun id _ hid=>hH id hid⟩
 m1:=fun l t=>by unfold qd9;split<;>simp
 lo:=fun l H next ⟨_,_,h,_⟩=>h
theorem qaF {t:Nd} (hb:t.size≤1000000000):Pure Tryz.prog 52 [t.V] (.sl 1 false (t.ats.map (V.int .i64))):=by
 refine pure_intro Tryz.func52 nm_ qoU (by show 1≤7;decide) ?_
 show ewp _ qBZ _ _
 obtain ⟨y,p,a,ks⟩:=t
 have hw:=Zn (qgB 1) (Nd.mk y p a ks).size (.mk y p a ks) []
 rw[qbq,List.nil_append,Nd.V_mk]at hw
 rw[Nd.V_mk]
 repeat' with_reducible first
  |refine qZ ?_
  |simp -implicitDefEqProofs only[wZZ,seval]
  |(refine qI rfl rfl rfl ((hw _ _ (Nat.le_refl _) (qdB hh_ wg_) (by simp;omega)).mono ?_);rintro v1 H1 n1' ⟨q1,q2,q5⟩)
  |refine t_ ?_
 obtain ⟨v,q2,q3,q4⟩:=q2
 have hok:=Gr.ok q4
 have hl:v.cells.length=1:=by rw[hok.1];rfl
 repeat' with_reducible first
  |refine yu ?_
  |simp -implicitDefEqProofs only[wZZ,seval,q2]
  |apply zC;exact hok.2.2
  |apply zD;rfl;exact hl;exact hok.2.1
 exact qen (t:=2) (id:=1) (n:=1) (ro:=false) (ag:=false) (v:=v) rfl (Or.inr rfl) (by(simp -implicitDefEqProofs only[wL,seval])) hh_ hok.2.2 (Gr.er q4 rfl)

theorem Nd.sizeRs_stop {l:List Nd} {n:Nat} (h:3000<n):Nd.sizeRs n l=n:=by
 cases l with
 |nil=>rw[Nd.sizeRs]
 |cons a r=>rw[Nd.sizeRs,if_neg o_]
theorem qej {y p a:Int} {ks:List Nd} (ih: ∀k∈ks,Pure Tryz.prog 22 [k.V] (vi k.sizeR)) (hb:(Nd.mk y p a ks).size≤1000000000000):Pure Tryz.prog 22 [(Nd.mk y p a ks).V] (vi (Nd.mk y p a ks).sizeR):=by
 refine pure_intro Tryz.func22 nm_ qAD (by show 1≤25;decide) ?_
 show ewp _ qgY _ _
 have hsz:Nd.sizes ks≤1000000000000:=by rw[Nd.size]at hb;omega
 have hkl:=Nd.sizes_len ks
 rw[Nd.V_mk,Nd.sizeR]
 repeat' with_reducible first
  |refine s_ ?_
  |simp -implicitDefEqProofs only[wZZ,seval]
  |refine t_ ?_
 refine qb ?nx1 (fun(i:Nat) s=>s.f 1=?v1_1∧s.H 0=some (.own 4 [.agg [vi y,vi p,vi a,.sl 4 false (ks.map Nd.V)]] false)∧s.f 3=vi (Nd.sizeRs 1 (ks.take i))∧s.f 4=vi i∧(i≤ks.length)) (fun i=>ks.length - i) (0) wj_ (by refine⟨?_,?_,?_,?_,wo_⟩<;>first|(simp -implicitDefEqProofs only[wL,wM,wN,wX,seval,Option.some.injEq]<;>exact wt_)|rfl|exact⟨_,rfl⟩) ?_
 intro i s hnx ⟨g1,o0,g3,g4,k1_0⟩
 have hz:=w1_ i
 by_cases hi:i<ks.length
 · have hgi:ks[i]?=some ks[i]:=ge_ hi
   have htk:ks.take (i+1)=ks.take i++[ks[i]]:=by rw[List.take_add_one,hgi];rfl
   have hih:=ih _ (List.getElem_mem hi)
   have hle:=Nd.sizeRs_le (ks.take (i+1)) 1
   have hle2:Nd.sizes (ks.take (i+1))≤Nd.sizes ks:=by
    have h1: ∀(l m:List Nd),Nd.sizes l≤Nd.sizes (l++m):=fun l m=>by
     induction l with
     |nil=>rw[Nd.sizes];exact Nat.zero_le _
     |cons a r ih=>rw[List.cons_append,Nd.sizes,Nd.sizes];omega
    have h2:=h1 (ks.take (i+1)) (ks.drop (i+1))
    rwa [List.take_append_drop]at h2
   rw[htk,Nd.sizeRs_app]at hle
   by_cases hn:Nd.sizeRs 1 (ks.take i)≤3000
   · have hst:Nd.sizeRs 1 (ks.take (i+1))=Nd.sizeRs 1 (ks.take i)+ks[i].sizeR:=by rw[htk,Nd.sizeRs_app,Nd.sizeRs,if_pos hn,Nd.sizeRs]
     rw[Nd.sizeRs,if_pos hn,Nd.sizeRs]at hle
     rw[htk]at hle2
     generalize ks[i]=k at *
     generalize Nd.sizeRs 1 (ks.take i)=n at *
     have hz2:IntKind.i64.wrap ((n:Int)+(k.sizeR:Int))=((n+k.sizeR:Nat):Int):=by rw[wrap64 o_ o_];omega
     obtain ⟨ks',kp,ka,kk⟩:=k
     rw[Nd.V_mk]at hih
     repeat' with_reducible first
      |refine s_ ?_
      |simp -implicitDefEqProofs only[wZZ,seval,g1,g3,g4,o0,hz,hz2,Nd.V_mk]
      |(first|apply qa|apply qj|apply qx)<;>intro h h_<;>(try simp only[wD,reduceCtorEq]at h_)<;>(try exact wb_)<;>(try simp only[h])
      |refine t_ ?_
      |refine cq1 hih qg ?_
     refine⟨wk_,i+1,o_,?_⟩
     refine⟨?_,?_,?_,?_,?_⟩
     iterate 4 (focus(first|(simp -implicitDefEqProofs only[wL,wM,wN,wX,seval,Option.some.injEq,g1,g3,g4,o0,hst]<;>exact wt_)|rfl|exact⟨_,rfl⟩))
     all_goals try omega
   · have e:Nd.sizeRs 1 ks=Nd.sizeRs 1 (ks.take i):=by
      have:=Nd.sizeRs_app (ks.take i) (ks.drop i) 1
      rw[List.take_append_drop]at this
      rw[this,Nd.sizeRs_stop o_]
     rw[e]
     generalize Nd.sizeRs 1 (ks.take i)=n at *
     repeat' with_reducible first
      |refine s_ ?_
      |simp -implicitDefEqProofs only[wZZ,seval,g1,g3,g4,o0]
      |(first|apply qa|apply qj|apply qx)<;>intro h h_<;>(try simp only[wD,reduceCtorEq]at h_)<;>(try exact wb_)<;>(try simp only[h])
      |refine t_ ?_
     all_goals refine qD rfl (Or.inr rfl) ?_
     all_goals(try simp -implicitDefEqProofs only[wL,seval,g1,g3,g4])
     all_goals refine er_ ?_
     all_goals(try(with_reducible rfl))
 · have e:ks.take i=ks:=List.take_of_length_le o_
   rw[e]at g3
   repeat' with_reducible first
    |refine s_ ?_
    |simp -implicitDefEqProofs only[wZZ,seval,g1,g3,g4,o0]
    |(first|apply qj|apply qx)<;>intro h h_<;>(try simp only[wD,reduceCtorEq]at h_)<;>(try exact wb_)<;>(try simp only[h])
    |refine t_ ?_
   all_goals refine qD rfl (Or.inr rfl) ?_
   all_goals(try simp -implicitDefEqProofs only[wL,seval,g1,g3,g4])
   all_goals refine er_ ?_
   all_goals(try(with_reducible rfl))
theorem qbJ: ∀(n:Nat) (t:Nd),t.size≤n→t.size≤1000000000000→Pure Tryz.prog 22 [t.V] (vi t.sizeR)
 |0,t,h,_=>by have:=t.size_pos;omega
 |n+1,.mk s p a ks,h,hb=>qej (fun k hk=>by have:=Nd.size_kid (s:=s) (p:=p) (a:=a) hk;exact qbJ n k o_ o_) hb
mutual
def Nd.eqb:Nd→Nd→Bool
 |.mk s p a ks,.mk s' p' a' ks'=>decide (s=s') && (decide (p=p') && (decide (a=a') && Nd.eqbs ks ks'))
def Nd.eqbs:List Nd→List Nd→Bool
 |[],[]=>true
 |k::r,k'::r'=>k.eqb k' && Nd.eqbs r r'
 |[],_::_=>false
 | _::_,[]=>false
end
mutual
theorem Nd.eqb_iff: ∀t u:Nd,t.eqb u=true↔t=u
 | .mk s p a ks,.mk s' p' a' ks'=>by
   rw[Nd.eqb]
   simp only[Bool.and_eq_true,decide_eq_true_eq,Nd.mk.injEq,Nd.eqbs_iff ks ks']
theorem Nd.eqbs_iff: ∀l m:List Nd,Nd.eqbs l m=true↔l=m
 |[],[]=>by simp[Nd.eqbs]
 |[],_::_=>by simp[Nd.eqbs]
 | _::_,[]=>by simp[Nd.eqbs]
 |k::r,k'::r'=>by rw[Nd.eqbs];simp only[Bool.and_eq_true,List.cons.injEq,Nd.eqb_iff k k',Nd.eqbs_iff r r']
end
end Go.Proofs
