/- Part of a proof that a law of the given program answers true. -/
import Derived.Test.YtjdjdbkoplmjeaaGreatDoorQND
import Derived.Test.YtjdjdbkoplmjeaaGreatDoorQNC
import Derived.Test.YtjdjdbkoplmjeaaGreatDoorQPA
import Derived.Test.YtjdjdbkoplmjeaaGreatDoorQNM
import Derived.Test.YtjdjdbkoplmjeaaGreatDoorQNA
import Derived.Test.YtjdjdbkoplmjeaaGreatDoorQZA
import Derived.Test.YtjdjdbkoplmjeaaGreatDoorQYB
import Derived.Test.YtjdjdbkoplmjeaaGreatDoorQMA
import Derived.Test.YtjdjdbkoplmjeaaGreatDoorQVD
import Derived.Test.YtjdjdbkoplmjeaaGreatDoorQRA
set_option linter.unusedSimpArgs false
set_option linter.unusedVariables false
set_option maxHeartbeats 4000000
set_option maxRecDepth 20000
namespace Go.Proofs
open Go.E
@[reducible] def Xw:Source:={rules:=[{left:=[101],alts:=[{parts:=[{sym:={name:=[101]}},{sym:={name:=[43],lit:=true}},{sym:={name:=[101]}}]},{parts:=[{sym:={name:=[120],lit:=true}}]}]}]}
theorem okT:qdJ Xw=true:=by decide+kernel
theorem qD1:Small Xw:=by
 refine⟨by simp,fun d h=>?_,fun d h=>?_,fun d h=>?_,by simp,?_,?_,?_,?_⟩
 · cases h
 · cases h
 · cases h
 · decide
 · decide
 · decide
 · decide
theorem qGc:Xw.Fits:=by
 refine⟨by simp,by simp,by simp,fun d h=>?_,by simp,fun r hr=>?_⟩
 · cases h
 · simp only[List.mem_cons,List.not_mem_nil,or_false]at hr
   subst hr
   refine⟨by simp,by simp,fun a ha=>?_⟩
   simp only[List.mem_cons,List.not_mem_nil,or_false]at ha
   rcases ha with rfl|rfl
   · refine⟨by simp,fun p hp=>?_,by simp⟩
     simp only[List.mem_cons,List.not_mem_nil,or_false]at hp
     rcases hp with rfl|rfl|rfl<;>exact⟨by simp,by simp⟩
   · refine⟨by simp,fun p hp=>?_,by simp⟩
     simp only[List.mem_cons,List.not_mem_nil,or_false]at hp
     subst hp;exact⟨by simp,by simp⟩
theorem qHt:Pure Tryz.prog 9 [Xw.V] (.tup [(xP Xw).V,.bool true]):=by
 have:=xY qGc (fun _=>qD1)
 rw[okT]at this
 exact this
def jS:Nd:= .mk 1001 1 (-1) [.mk 1001 2 (-1) [.mk 4 (-1) 0 []],.mk 3 (-1) 1 [],.mk 1001 2 (-1) [.mk 4 (-1) 2 []]]
theorem bT1:Yh (xP Xw) [2,2,1] [4,3,4]=some jS:=by
 have h:(match Yh (xP Xw) [2,2,1] [4,3,4]with|some t=>t.eqb jS|none=>false)=true:=by decide+kernel
 split at h
 · rename_i t e;rw[e,(Nd.eqb_iff _ _).1 h]
 · cases h
theorem bT2:Yh (xP Xw) [2,1,2] [4,3,4]=none:=by
 have h:(Yh (xP Xw) [2,1,2] [4,3,4]).isNone=true:=by decide+kernel
 exact Option.isNone_iff_eq_none.1 h
theorem tT:jS.txt (qgu (xP Xw))=[40,101,32,40,101,32,39,120,39,41,32,39,43,39,32,40,101,32,39,120,39,41,41]:=by decide+kernel
theorem nmT: ∀s,s=1001∨s=4∨s=3→qJS (xP Xw) s:=by
 have a:(match (xP Xw).toks[4]? with|some x=> !x.name.isEmpty|none=>false)=true:=by decide+kernel
 have b:(match (xP Xw).toks[3]? with|some x=> !x.name.isEmpty|none=>false)=true:=by decide+kernel
 have c:((xP Xw).nons[1]?).isSome=true:=by decide+kernel
 rintro s (rfl|rfl|rfl)
 · obtain ⟨x,hx⟩:=Option.isSome_iff_exists.1 c
   exact Or.inr ⟨1,x,rfl,hx⟩
 · split at a
   · rename_i x e
     exact Or.inl ⟨4,x,rfl,o_,e,fun _ h=>by rw[h]at a;cases a⟩
   · cases a
 · split at b
   · rename_i x e
     exact Or.inl ⟨3,x,rfl,o_,e,fun _ h=>by rw[h]at b;cases b⟩
   · cases b
theorem mT:jS.xQ (xP Xw) 3000=true:=by decide+kernel
theorem mZ:(Nd.mk 0 0 0 []).xQ (xP Xw) 3000=false:=by decide+kernel
theorem erT {H:Nat→Option MObj}:Er false H (.agg [.str [],.sl 4 true [],.sl 3 true [.agg [.str [101],.sl 6 true [.agg [.sl 6 true [.agg [.str [101],.bool false,vi 0,vi 0,.str [],vi 0],.agg [.str [43],.bool true,vi 0,vi 0,.str [],vi 0],.agg [.str [101],.bool false,vi 0,vi 0,.str [],vi 0]],.str [],.bool false,vi 0,vi 0,vi 0],.agg [.sl 6 true [.agg [.str [120],.bool true,vi 0,vi 0,.str [],vi 0]],.str [],.bool false,vi 0,vi 0,vi 0]],vi 0]],.str []]) Xw.V:=by
 refine ErL.agg (.cons (.str _) (.cons (ErL.sl .nil) (.cons (ErL.sl ?_) (.cons (.str _) .nil))))
 refine .cons (ErL.agg (.cons (.str _) (.cons (ErL.sl ?_) (.cons (.int _ _) .nil)))) .nil
 refine .cons (ErL.agg (.cons (ErL.sl ?_) (.cons (.str _) (.cons (.bool _) (.cons (.int _ _) (.cons (.int _ _) (.cons (.int _ _) .nil))))))) (.cons (ErL.agg (.cons (ErL.sl ?_) (.cons (.str _) (.cons (.bool _) (.cons (.int _ _) (.cons (.int _ _) (.cons (.int _ _) .nil))))))) .nil)
 · exact .cons (ErL.agg (.cons (.str _) (.cons (.bool _) (.cons (.int _ _) (.cons (.int _ _) (.cons (.str _) (.cons (.int _ _) .nil))))))) (.cons (ErL.agg (.cons (.str _) (.cons (.bool _) (.cons (.int _ _) (.cons (.int _ _) (.cons (.str _) (.cons (.int _ _) .nil))))))) (.cons (ErL.agg (.cons (.str _) (.cons (.bool _) (.cons (.int _ _) (.cons (.int _ _) (.cons (.str _) (.cons (.int _ _) .nil))))))) .nil))
 · exact .cons (ErL.agg (.cons (.str _) (.cons (.bool _) (.cons (.int _ _) (.cons (.int _ _) (.cons (.str _) (.cons (.int _ _) .nil))))))) .nil
theorem erZ {b:Bool} {H:Nat→Option MObj}:Er b H (.agg [vi 0,vi 0,vi 0,.sl 4 true []]) (Nd.mk 0 0 0 []).V:=ErL.agg (.cons (.int _ _) (.cons (.int _ _) (.cons (.int _ _) (.cons (ErL.sl .nil) .nil))))
theorem Jc:Pure Tryz.prog 19 [] (.bool true):=by
 refine pure_intro Tryz.func19 nm_ qsh (by show 0≤98;decide) ?_
 show ewp _ qg1 _ _
 have hg:=gok okT
 have h0:=qHt
 have h1:=Ya (P:=[2,2,1]) (T:=[4,3,4]) hg (by simp) (by simp)
 have h2:=Ya (P:=[2,1,2]) (T:=[4,3,4]) hg (by simp) (by simp)
 rw[bT1]at h1
 rw[bT2]at h2
 have hsz:jS.size=6:=by decide
 have h8:=qbR (t:=jS) hg o_
 rw[mT]at h8
 have hnm: ∀s,s=1001∨s=4∨s=3→Pure Tryz.prog 97 [(xP Xw).V,vi s] (.str (qgu (xP Xw) s)):=fun s h=>qdN (nmT s h) (by have:=hg.tk2;omega) (by have:=hg.nn2;omega)
 have h3:=KN (nm:=qgu (xP Xw)) (t:=jS) (m:=true) o_ h8 (fun _=>by
  simp only[jS,Nd.NmAll,Nd.NmAlls,and_true]
  exact⟨hnm _ o_,⟨hnm _ o_,hnm _ o_⟩,hnm _ o_,hnm _ o_,hnm _ o_⟩) (fun _=>by rw[tT];decide)
 rw[if_pos rfl,tT]at h3
 have h4:=Jz jS.size jS (Nat.le_refl _) o_
 rw[hsz]at h4
 have h5:=qcx (t:=jS) o_
 have h6:=X9 (t:=jS) o_
 have h7:=qaF (t:=jS) o_
 rw[show jS.prs=[2,2,1] by decide]at h5
 rw[show jS.yld=[4,3,4] by decide]at h6
 rw[show jS.ats=[0,1,2] by decide]at h7
 have e1:=xg (a:=[2,2,1]) (b:=[2,2,1]) (by simp) (by simp)
 have e2:=xg (a:=[4,3,4]) (b:=[4,3,4]) (by simp) (by simp)
 have e3:=xg (a:=[0,1,2]) (b:=[0,1,2]) (by simp) (by simp)
 rw[decide_eq_true rfl]at e1 e2 e3
 have h9:=qbR (t:= .mk 0 0 0 []) hg (by decide)
 rw[mZ]at h9
 have h10:=KN (nm:=qgu (xP Xw)) (t:= .mk 0 0 0 []) (m:=false) (by decide) h9 (fun h=>by cases h) (fun h=>by cases h)
 rw[if_neg (by decide)]at h10
 clear hg hsz hnm
 have hkV:jS.V=.agg [vi jS.sym,vi jS.prod,vi jS.at_,.sl 4 false (jS.kids.map Nd.V)]:=by unfold jS;rw[Nd.V_mk];try rfl
 unfold qEW at h1 h2
 dsimp only at h1 h2
 have hzV:(Nd.mk 0 0 0 []).V=.agg [vi 0,vi 0,vi 0,.sl 4 false []]:=by rw[Nd.V_mk];try rfl
 rw[hkV]at h1 h3 h4 h5 h6 h7 h8
 rw[hzV]at h2
 simp only[Int.cast_ofNat_Int]at h4
 generalize jS.sym=q1 at *
 generalize jS.prod=q2 at *
 generalize jS.at_=q3 at *
 generalize jS.kids=q4 at *
 generalize xP Xw=g at *
 repeat' with_reducible first
  |refine s_ ?_
  |simp -implicitDefEqProofs only[wZZ,seval]
  |apply kz (hp:=h0);with_unfolding_all exact erT
  |apply Qv (hp:=h1);exact qg;with_unfolding_all exact vv (l:=[2,2,1]);with_unfolding_all exact vv (l:=[4,3,4])
  |apply Qv (hp:=h2);exact qg;with_unfolding_all exact vv (l:=[2,1,2]);with_unfolding_all exact vv (l:=[4,3,4])
  |refine cq2 h3 qg qg ?_
  |refine cq1 h4 qg ?_
  |refine cq1 h5 qg ?_
  |refine cq1 h6 qg ?_
  |refine cq1 h7 qg ?_
  |refine cq2 h8 qg qg ?_
  |apply xA (hp:=h9);exact qg;with_unfolding_all exact erZ
  |apply xA (hp:=h10);exact qg;with_unfolding_all exact erZ
  |apply xA (hp:=e1);with_unfolding_all exact qg;with_unfolding_all exact vv (l:=[2,2,1])
  |apply xA (hp:=e2);with_unfolding_all exact qg;with_unfolding_all exact vv (l:=[4,3,4])
  |apply xA (hp:=e3);with_unfolding_all exact qg;with_unfolding_all exact vv (l:=[0,1,2])
  |refine t_ ?_
 all_goals refine qD rfl (Or.inr rfl) ?_
 all_goals(try simp -implicitDefEqProofs only[wL,seval])
 all_goals refine er_ ?_
 all_goals(try(with_reducible rfl))

theorem qjP (P:List GPr) (n:Nat) (has:Nat→Bool): ∃cy,Jg P n has cy:=
 ⟨fun k=> @decide (∃j,Edge (relE P has) n k j∧Rch (relE P has) n j k) (Classical.propDecidable _),fun k _=>by rw[@decide_eq_true_eq _ (Classical.propDecidable _)]⟩
theorem qcS {nt nn k:Nat} {S:Nat→Nat→Bool} {E:Nat→Bool} (hk:k<nn):(∀y:Nat,S k y=true→y<1024→(y:Int)∈(vY nt nn S E [1000+(k:Int)]).1)∧(vY nt nn S E [1000+(k:Int)]).2=E k:=by
 have e:(1000+(k:Int) - 1000).toNat=k:=o_
 have h1:[1000+(k:Int)].all (Qu nt nn)=true:=by
  rw[List.all_cons,List.all_nil,Yq.2 (Or.inr ⟨k,rfl,hk⟩)];rfl
 unfold vY
 rw[if_pos h1]
 dsimp only[Vq,qak]
 rw[if_neg o_,e]
 refine⟨fun y hy hl=>qjI.2 ⟨y,hl,?_,rfl⟩,?_⟩
 · split<;>(show ((fun _=>false:Nat→Bool) y || S k y)=true;rw[hy,Bool.or_true])
 · split
   · rename_i h;exact h.symm
   · rename_i h;cases hE:E k<;>simp_all
theorem Qb {x:Source} {P:List Int} (hf:x.Fits) (hP:P.length≤1000000000):Pure Tryz.prog 5 [x.V,.sl 1 false (P.map (V.int .i64))] (.bool true):=by
 refine pure_intro Tryz.func5 nm_ qJE (by show 2≤86;decide) ?_
 show ewp _ qrW _ _
 have hwk:=Jc
 have hs:=Y1 hf
 have hgr:=xY (src:=qaj x) (qdK x) (qcN x)
 have hi1:=XF (l:=P) (n:=30) o_ o_
 cases hb:qdJ (qaj x)with
 | false=>
   rw[hb]at hgr
   generalize xP (qaj x)=g at *
   generalize qaj x=sr at *
   repeat' with_reducible first
    |refine s_ ?_
    |simp -implicitDefEqProofs only[wZZ,seval]
    |refine cq0 hwk ?_
    |refine cq1 hs (yK _) ?_
    |refine cq1 hgr (yK _) ?_
    |refine t_ ?_
   all_goals refine qD rfl (Or.inr rfl) ?_
   all_goals(try simp -implicitDefEqProofs only[wL,seval])
   all_goals refine er_ ?_
   all_goals(try(with_reducible rfl))
 | true =>
   rw[hb]at hgr
   have hg:=gok hb
   have hIl:(K9 P 30).length≤1099511627776:=by unfold K9;split<;>(try rw[List.length_take])<;>omega
   generalize xP (qaj x)=g at *
   generalize qaj x=sr at *
   generalize K9 P 30=P1 at *
   obtain ⟨p0,r0,hp0,_,k,hpr,hkn⟩:=hg.head
   obtain ⟨gv,⟨t,ok,rfl,hok⟩,hgw⟩:=qmy (k:=k) hg hIl ⟨p0,r0,hp0,hpr⟩ hkn
   have hkV:t.V=.agg [vi t.sym,vi t.prod,vi t.at_,.sl 4 false (t.kids.map Nd.V)]:=by obtain ⟨q1,q2,q3,q4⟩:=t;rw[Nd.V_mk]
   cases ok with
   | false=>
     rw[hkV]at hgw
     repeat' with_reducible first
      |refine s_ ?_
      |simp -implicitDefEqProofs only[wZZ,seval]
      |refine cq0 hwk ?_
      |refine cq1 hs (yK _) ?_
      |refine cq1 hgr (yK _) ?_
      |refine cq2 hi1 qg qg ?_
      |refine cq2 hgw qg qg ?_
      |refine t_ ?_
     all_goals refine qD rfl (Or.inr rfl) ?_
     all_goals(try simp -implicitDefEqProofs only[wL,seval])
     all_goals refine er_ ?_
     all_goals(try(with_reducible rfl))
   | true =>
     obtain ⟨hsz,d,j,hT⟩:=hok rfl
     have h3:=qbJ t.size t (Nat.le_refl _) o_
     have hsR:=t.sizeR_eq
     by_cases h30:t.sizeR≤3000
     · have hsym:=qc9 hT
       obtain ⟨E,hE,hvg⟩:=qdj (token:=false) hg
       obtain ⟨cy,hcy⟩:=qjP g.prods g.nons.length E
       obtain ⟨S,hS⟩:=qf6 hg hvg
       have a1:=qcp hg hvg hcy
       have a2:=qcO (l:=[1000+(k:Int)]) hg hvg hS (by simp)
       obtain ⟨hF1,hF2⟩:=qcS (nt:=g.toks.length) (S:=S) (E:=E) hkn
       have h4:=X9 (t:=t) o_
       have h5:=Jz t.size t (Nat.le_refl _) o_
       have hz:=qay hg hE.closed hcy d hkn hT
       have hy:=fun(y:Int) (r:List Int)=>qbW (y:=y) (r:=r) hg hE.closed hcy hS.closed d hkn hT
       have hzr:=qd0 (P:=g.prods) (n:=g.nons.length) (has:=E) (cyc:=cy) k
       have hnl:=hg.nn2
       have l1:=vz g.nons.length (szE g.prods g.nons.length E cy)
       have e1:(xW g.nons.length (szE g.prods g.nons.length E cy))[k]?=some (szE g.prods g.nons.length E cy k):=je hkn
       have hyl:=t.yld_len
       have hlt:(lst (fun _=>true) 0).length≤4611686018427387903:=by decide
       have hfl:(vY g.toks.length g.nons.length S E [1000+(k:Int)]).1.length≤4611686018427387903:=by
        unfold vY;split
        · have:=qaw (Vq S E [1000+(k:Int)]).1 1024;dsimp only;omega
        · decide
       rw[hF2]at a2
       rw[hsR h30]at h3 h30
       rw[hkV]at hgw h3 h4 h5
       rw[hsym]at hgw h3 h4 h5
       have hsm:=hS.small k
       generalize (vY g.toks.length g.nons.length S E [1000+(k:Int)]).1=F at *
       generalize szE g.prods g.nons.length E cy k=Z at *
       generalize xW g.nons.length (szE g.prods g.nons.length E cy)=R at *
       generalize g.nons.length=nn at *
       have hd:decide ((t.size:Int)>3000)=false:=decide_eq_false o_
       have hzk:IntKind.i64.wrap (1000+(k:Int) - 1000)=(k:Int):=by rw[wrap64 o_ o_];omega
       cases hyy:t.yld with
       | nil=>
         rw[hyy]at h4
         obtain ⟨z1,z2⟩:=hz hyy
         rw[z1]at a2
         generalize t.size=n at *
         repeat' with_reducible first
          |refine s_ ?_
          |simp -implicitDefEqProofs only[wZZ,seval,hzk]
          |(first|apply qa|apply qj|apply qx)<;>intro h h_<;>(try simp only[wD,reduceCtorEq]at h_)<;>(try exact wb_)<;>(try simp only[h])
          |refine cq0 hwk ?_
          |refine cq1 hs (yK _) ?_
          |refine cq1 hgr (yK _) ?_
          |refine cq2 hi1 qg qg ?_
          |refine cq2 hgw qg qg ?_
          |refine cq1 h3 qg ?_
          |apply xA (hp:=a2);exact qg;with_unfolding_all exact vv (l:=[1000+(k:Int)])
          |refine cq1 a1 qg ?_
          |refine cq1 h4 qg ?_
          |refine cq1 h5 qg ?_
          |refine t_ ?_
         all_goals refine qD rfl (Or.inr rfl) ?_
         all_goals(try simp -implicitDefEqProofs only[wL,seval])
         all_goals refine er_ ?_
         all_goals(try(with_reducible rfl))
         all_goals(exact decide_eq_true o_)
       | cons y r=>
         obtain ⟨yn,rfl,z2⟩:=hy y r hyy
         have hin:=hF1 yn z2 (hsm yn z2)
         have e2:=vB (a:=F) (x:=(yn:Int)) hfl
         rw[decide_eq_true hin]at e2
         rw[hyy]at h4 hyl
         rw[List.length_cons]at hyl
         have e3:((yn:Int)::r)[0]?=some (yn:Int):=rfl
         have e4:((yn:Int)::r).length=r.length+1:=rfl
         generalize (yn:Int)::r=yl at *
         generalize t.size=n at *
         repeat' with_reducible first
          |refine s_ ?_
          |simp -implicitDefEqProofs only[wZZ,seval,hzk]
          |(first|apply qa|apply qj|apply qx)<;>intro h h_<;>(try simp only[wD,reduceCtorEq]at h_)<;>(try exact wb_)<;>(try simp only[h])
          |refine cq0 hwk ?_
          |refine cq1 hs (yK _) ?_
          |refine cq1 hgr (yK _) ?_
          |refine cq2 hi1 qg qg ?_
          |refine cq2 hgw qg qg ?_
          |refine cq1 h3 qg ?_
          |apply xA (hp:=a2);exact qg;with_unfolding_all exact vv (l:=[1000+(k:Int)])
          |refine cq1 a1 qg ?_
          |refine cq1 h4 qg ?_
          |refine cq2 e2 qg qg ?_
          |refine t_ ?_
         all_goals refine qD rfl (Or.inr rfl) ?_
         all_goals(try simp -implicitDefEqProofs only[wL,seval])
         all_goals refine er_ ?_
         all_goals(try(with_reducible rfl))
     · have hsl:=t.sizeR_le
       have hd:decide ((t.sizeR:Int)>3000)=true:=decide_eq_true o_
       rw[hkV]at hgw h3
       generalize t.sizeR=n at *
       repeat' with_reducible first
        |refine s_ ?_
        |simp -implicitDefEqProofs only[wZZ,seval]
        |apply qa<;>intro h h_<;>(try simp only[wD,reduceCtorEq]at h_)<;>(try exact wb_)<;>(try simp only[h])
        |refine cq0 hwk ?_
        |refine cq1 hs (yK _) ?_
        |refine cq1 hgr (yK _) ?_
        |refine cq2 hi1 qg qg ?_
        |refine cq2 hgw qg qg ?_
        |refine cq1 h3 qg ?_
        |refine t_ ?_
       all_goals refine qD rfl (Or.inr rfl) ?_
       all_goals(try simp -implicitDefEqProofs only[wL,seval])
       all_goals refine er_ ?_
       all_goals(try(with_reducible rfl))
end Go.Proofs
