/- Part of a proof that a law of the given program answers true. -/
import Derived.Test.YtjdjdbkoplmjeaaGreatDoorQKA
import Derived.Test.YtjdjdbkoplmjeaaGreatDoorQPA
import Derived.Test.YtjdjdbkoplmjeaaGreatDoorQWB
import Derived.Test.YtjdjdbkoplmjeaaGreatDoorQVA
set_option maxRecDepth 20000
set_option linter.unusedSimpArgs false
set_option linter.unusedVariables false
set_option maxHeartbeats 4000000
namespace Go.Proofs
open Go.E
theorem qcZ {n k:Nat} {S:Nat→Nat→Bool} {v:Nat→Bool} (h:k<n):(vC n S).set k (kJ v)=vC n (qM S k v):=by
 refine List.ext_getElem? fun i=>?_
 rw[List.getElem?_set]
 by_cases hi:i<n
 · rw[yQ hi,xO,yQ hi]
   by_cases e:k=i
   · subst e;simp[hi,qM]
   · simp[e,qM,Ne.symm e]
 · rw[List.getElem?_eq_none (by rw[xO];omega),List.getElem?_eq_none (by rw[xO];omega)]
   rw[xO];simp;omega
def orS (a b:Nat→Bool):Nat→Bool:=fun y=>a y || b y
def qak (S:Nat→Nat→Bool) (E:Nat→Bool):List Int→(Nat→Bool)→(Nat→Bool)×Bool
 |[],a=>(a,true)
 |x::r,a=>if x<1000 then(orS a (Xz [x]),false)else if E (x - 1000).toNat=true then qak S E r (orS a (S (x - 1000).toNat))else(orS a (S (x - 1000).toNat),false)
abbrev Vq (S:Nat→Nat→Bool) (E:Nat→Bool) (l:List Int):(Nat→Bool)×Bool:=qak S E l (fun _=>false)
@[reducible] def qEV (g:Grammar) (E:Nat→Bool) (S:Nat→Nat→Bool) (n:Nat):V:= .agg [.sl 6 false (g.toks.map Tok.V),.sl 2 false (g.nons.map Non.V),.sl 6 false (g.prods.map GPr.V),.str g.pro,.str g.tail,.sl 1 false (yB n E),.sl 16 false (vC n S)]
theorem qe4 {ef:EF} {t a id n:Nat} {ro:Bool} {v res:V} {e:Exit} {s:St} (he:ef.res=[.inr (t,true,n),.inl a]) (hx:e=.normal∨e=.ret) (hp:s.f t=.ptr id 0 0) (hH:s.H id=some (.own n [v] ro)) (ha:v.isAgg=true)
 (h:Er true s.H (.tup [v,s.f a]) res):zP ef res e s:=by
 have hv:zh s true n (s.f t)=some v:=by rw[hp];simp only[zh,hH,List.getElem?_cons_zero,jv,ha,and_self,if_true]
 exact⟨hx,_,by rw[he];simp[qai,Ko,hv,Go.E.one],h⟩
theorem kC {g:Grammar} {E:Nat→Bool} {S:Nat→Nat→Bool} {n:Nat} {l:List Int} (hn:n≤1000000) (hl:l.length≤1000000) (hs: ∀s∈l,s<1000∨ ∃k:Nat,s=1000+(k:Int)∧k<n):Pure Tryz.prog 57 [.iptr 7 (qEV g E S n) 0,.sl 1 false (l.map (V.int .i64))] (.tup [kJ (Vq S E l).1,.bool (Vq S E l).2]):=by
 refine pure_intro Tryz.func57 nm_ qCg (by show 2≤44;decide) ?_
 show ewp _ qil _ _
 repeat' with_reducible first
  |refine s_ ?_
  |simp -implicitDefEqProofs only[wZZ,seval]
 rw[qne]
 refine qb ?nx1 (fun(q:Nat×(Nat→Bool)) s=>s.f 0=?v1_0∧s.f 4=?v1_4∧s.f 6=?v1_6∧s.f 9=?v1_9∧s.f 10=?v1_10∧s.H 0=some (MObj.own 16 [kJ (fun _=>false)] false)∧s.f 11=vi q.1∧(q.1≤l.length)∧((s.H 2=some (MObj.own 16 [kJ q.2] false)))∧(qak S E (l.drop q.1) q.2=Vq S E l)) (fun q=>l.length - q.1) ((0,fun _=>false)) wj_ (by refine⟨?_,?_,?_,?_,?_,?_,?_,wo_,wc_,(by rfl)⟩<;>first|(simp -implicitDefEqProofs only[wL,wM,wN,wX,seval,Option.some.injEq]<;>exact wt_)|rfl|exact⟨_,rfl⟩) ?_
 intro q s hnx ⟨g0,g4,g6,g9,g10,o0,g11,k1_0,k1_1,k1_2⟩
 obtain ⟨i,a⟩:=q
 dsimp only at *
 have hz:=w1_ i
 have cl:=qK
 by_cases hi:i<l.length
 · have hx:=hs _ (List.getElem_mem hi)
   have hg:l[i]?=some l[i]:=ge_ hi
   rw[List.drop_eq_getElem_cons hi]at k1_2
   generalize l[i]=x at *
   rcases hx with hx|⟨k,rfl,hk⟩
   · rw[qak,if_pos hx]at k1_2
     have hor:=Yz (a:=a) (b:=Xz [x])
     have hof:=qa5 (l:=[x]) (by simp)
     rw[← k1_2]
     repeat' with_reducible first
      |refine s_ ?_
      |simp -implicitDefEqProofs only[wZZ,seval,g0,g4,g6,g9,g10,g11,o0,k1_1,hz]
      |apply qa<;>intro h h_<;>(try simp only[wD,reduceCtorEq]at h_)<;>(try exact wb_)<;>(try simp only[h])
      |refine t_ ?_
      |refine cq2 hor qg qg ?_
      |apply jH;exact wu_;exact cl _
      |refine kz we_ (qa5 wf_) ?_
     refine qe4 (id:=0) (v:=kJ _) (ro:=false) rfl (Or.inr rfl) (by(simp -implicitDefEqProofs only[wL,seval,g4])) wc_ rfl ?_
     (simp -implicitDefEqProofs only[wL,seval])
     exact qg
   · have hz2:IntKind.i64.wrap (1000+(k:Int) - 1000)=(k:Int):=by rw[wrap64 o_ o_];omega
     rw[qak,if_neg o_,show ((1000+(k:Int)) - 1000).toNat=k by omega]at k1_2
     have hor:=Yz (a:=a) (b:=S k)
     have hbg:=jR (h:=E) hk
     have hsg:=yQ (S:=S) hk
     cases hE:E k with
     | true=>
       rw[if_pos hE]at k1_2
       repeat' with_reducible first
        |refine s_ ?_
        |simp -implicitDefEqProofs only[wZZ,seval,g0,g4,g6,g9,g10,g11,o0,k1_1,hz,hz2,hE]
        |apply qa<;>intro h h_<;>(try simp only[wD,reduceCtorEq]at h_)<;>(try exact wb_)<;>(try simp only[h])
        |refine t_ ?_
        |(apply ji (kQ o_ (by with_unfolding_all exact hbg)))
        |(apply ji (kQ o_ (by with_unfolding_all exact hsg)))
        |refine cq2 hor qg qg ?_
        |apply jH;exact wu_;exact cl _
       exact⟨wg_,(i+1,orS a (S k)),by dsimp only;omega,trivial,trivial,trivial,trivial,trivial,trivial,rfl,by dsimp only;omega,rfl,k1_2⟩
     | false=>
       rw[if_neg (by rw[hE];exact Bool.false_ne_true)]at k1_2
       rw[← k1_2]
       repeat' with_reducible first
        |refine s_ ?_
        |simp -implicitDefEqProofs only[wZZ,seval,g0,g4,g6,g9,g10,g11,o0,k1_1,hz,hz2,hE]
        |apply qa<;>intro h h_<;>(try simp only[wD,reduceCtorEq]at h_)<;>(try exact wb_)<;>(try simp only[h])
        |refine t_ ?_
        |(apply ji (kQ o_ (by with_unfolding_all exact hbg)))
        |(apply ji (kQ o_ (by with_unfolding_all exact hsg)))
        |refine cq2 hor qg qg ?_
        |apply jH;exact wu_;exact cl _
       refine qe4 (id:=0) (v:=kJ _) (ro:=false) rfl (Or.inr rfl) (by(simp -implicitDefEqProofs only[wL,seval,g4])) wc_ rfl ?_
       (simp -implicitDefEqProofs only[wL,seval])
       exact qg
 · rw[List.drop_eq_nil_of_le o_]at k1_2
   rw[← k1_2]
   repeat' with_reducible first
    |refine s_ ?_
    |simp -implicitDefEqProofs only[wZZ,seval,g0,g4,g6,g9,g10,g11,o0,k1_1]
    |apply qa<;>intro h h_<;>(try simp only[wD,reduceCtorEq]at h_)<;>(try exact wb_)<;>(try simp only[h])
    |refine t_ ?_
    |apply jH;exact wu_;exact cl _
   refine qe4 (id:=0) (v:=kJ _) (ro:=false) rfl (Or.inr rfl) (by(simp -implicitDefEqProofs only[wL,seval,g4])) wc_ rfl ?_
   (simp -implicitDefEqProofs only[wL,seval])
   exact qg

def QL (g:Grammar) (E:Nat→Bool) (S:Nat→Nat→Bool):Prop:= ∀p∈g.prods,∀y,(Vq S E p.right).1 y=true→S p.left.toNat y=true
structure IsFirst (g:Grammar) (E:Nat→Bool) (S:Nat→Nat→Bool):Prop where
 closed:QL g E S
 least: ∀F,QL g E F→ ∀k y,S k y=true→F k y=true
 small: ∀k y,S k y=true→y<1024
theorem VZ {S F:Nat→Nat→Bool} {E:Nat→Bool} (h: ∀k y,S k y=true→F k y=true): ∀(l:List Int) (a b:Nat→Bool),(∀y,a y=true→b y=true)→ ∀y,(qak S E l a).1 y=true→(qak F E l b).1 y=true
 |[],a,b,hab,y,hy=>hab y hy
 | x ::r,a,b,hab,y,hy=>by
   rw[qak]at hy ⊢
   by_cases hx:x<1000
   · rw[if_pos hx]at hy ⊢
     unfold orS at *
     rw[Bool.or_eq_true]at *
     exact hy.imp (hab y) id
   · rw[if_neg hx]at hy ⊢
     have ho: ∀y,orS a (S (x - 1000).toNat) y=true→orS b (F (x - 1000).toNat) y=true:=fun y hy=>by
      unfold orS at *
      rw[Bool.or_eq_true]at *
      exact hy.imp (hab y) (h _ y)
     by_cases hE:E (x - 1000).toNat=true
     · rw[if_pos hE]at hy ⊢
       exact VZ h r _ _ ho y hy
     · rw[if_neg hE]at hy ⊢
       exact ho y hy
theorem Yc {S:Nat→Nat→Bool} {E:Nat→Bool} (h: ∀k y,S k y=true→y<1024): ∀(l:List Int) (a:Nat→Bool),(∀y,a y=true→y<1024)→ ∀y,(qak S E l a).1 y=true→y<1024
 |[],a,ha,y,hy=>ha y hy
 | x ::r,a,ha,y,hy=>by
   rw[qak]at hy
   have ho: ∀b:Nat→Bool,(∀y,b y=true→y<1024)→ ∀y,orS a b y=true→y<1024:=fun b hb y hy=>by
    unfold orS at hy
    rw[Bool.or_eq_true]at hy
    exact hy.elim (ha y) (hb y)
   by_cases hx:x<1000
   · rw[if_pos hx]at hy
     exact ho _ (fun y hy=>by unfold Xz at hy;rw[Bool.and_eq_true,decide_eq_true_eq]at hy;exact hy.1) y hy
   · rw[if_neg hx]at hy
     split at hy
     · exact Yc h r _ (ho _ (h _)) y hy
     · exact ho _ (h _) y hy
theorem qCd {h h':Nat→Bool} (hh: ∀y,h y=true→h' y=true) (n:Nat):cf h' n≤cf h n:=by
 induction n with
 |zero=>exact Nat.le_refl _
 | succ n ih=>
   unfold cf
   by_cases e:h n=true
   · rw[if_pos e,if_pos (hh n e)];omega
   · rw[if_neg e];split<;>omega
theorem qha {h h':Nat→Bool} (hh: ∀y,h y=true→h' y=true) {y:Nat} (h1:h y=false) (h2:h' y=true): ∀{n:Nat},y<n→cf h' n<cf h n
 | n +1,hy=>by
   unfold cf
   by_cases e:y=n
   · subst e
     have:=qCd hh y
     rw[if_pos h2,if_neg (by rw[h1];exact Bool.false_ne_true)];omega
   · have:=qha hh h1 h2 (n:=n) o_
     by_cases e:h n=true
     · rw[if_pos e,if_pos (hh n e)];omega
     · rw[if_neg e];split<;>omega
def cfS (S:Nat→Nat→Bool):Nat→Nat
 |0=>0
 |n+1=>cfS S n+cf (S n) 1024
theorem qdX {S:Nat→Nat→Bool} {k:Nat} {v:Nat→Bool} (hv:cf v 1024<cf (S k) 1024): ∀n,(n≤k→cfS (qM S k v) n=cfS S n)∧(k<n→cfS (qM S k v) n<cfS S n)
 |0=>⟨fun _=>rfl,fun h=>by omega⟩
 | n +1=>by
   obtain ⟨h1,h2⟩:=qdX hv n
   unfold cfS
   by_cases e:n=k
   · subst e
     have e2:qM S n v n=v:=by unfold qM;rw[if_pos rfl]
     rw[e2,h1 (Nat.le_refl _)]
     exact⟨fun h=>by omega,fun _=>by omega⟩
   · have e2:qM S k v n=S n:=by unfold qM;rw[if_neg e]
     rw[e2]
     exact⟨fun h=>by rw[h1 o_],fun h=>by have:=h2 o_;omega⟩
@[reducible] def qES (g:Grammar) (E:Nat→Bool) (si n:Nat):V:= .agg [.sl 6 false (g.toks.map Tok.V),.sl 2 false (g.nons.map Non.V),.sl 6 false (g.prods.map GPr.V),.str g.pro,.str g.tail,.sl 1 false (yB n E),.msl si 16 0 n]
theorem qnH (n:Nat) (S:Nat→Nat→Bool):Cls' (vC n S):=by
 have: ∀k:Nat,Cl (kJ (S k)):=fun k=>⟨fun b H=>qg⟩
 exact inferInstanceAs (Cls' (List.map _ _))
theorem qih {H:Nat→Option MObj} {m si n:Nat} {g:Grammar} {E:Nat→Bool} {S:Nat→Nat→Bool} (hm:H m=some (.own 7 [qES g E si n] false)) (hs:H si=some (.own 16 (vC n S) false)):Er true H (.ptr m 0 0) (.iptr 7 (qEV g E S n) 0):=by
 have h1:=KM n E
 have h2:=qnH n S
 refine qa7 (ro:=false) hm (ErL.agg (.cons qg (.cons qg (.cons qg (.cons (.str _) (.cons (.str _) (.cons qg (.cons ?_ .nil))))))))
 exact zX hs (by rw[xO];omega) (by rw[List.drop_zero];exact List.take_of_length_le (by rw[xO];omega))

theorem qKr {K:St→Prop} {s:St} {nn k id:Nat} {x:Nat→Bool} {S:Nat→Nat→Bool} (h:k<nn) (hk:K (s.setO id (some (.own 16 (vC nn (qM S k x)) false)))):onS (stQ s (some (.own 16 (vC nn S) false)) 16 id k 0 (.agg (zl x))) K:=by
 have e:stQ s (some (.own 16 (vC nn S) false)) 16 id k 0 (.agg (zl x))=some (s.setO id (some (.own 16 (vC nn (qM S k x)) false))):=by
  rw[← qcZ h]
  simp[stQ,yQ h,V.cells,V.okCell,zV,V.isAgg,qK]
 rw[e];exact hk
theorem qbK (m:Nat→Bool) (b:Bool):Flat (.tup [kJ m,.bool b]):= .tup _ fun c hc=>by
 rcases List.mem_cons.1 hc with rfl|hc
 · exact .agg _ fun c hc=>by obtain ⟨q,_,rfl⟩:=List.mem_map.1 hc;exact .int _ _
 · rw[List.mem_singleton]at hc;subst hc;exact .bool _
theorem qKd {H:Nat→Option MObj} {next:Nat} {g:Grammar} {E:Nat→Bool} (hg:GOk g) (hp:Pure Tryz.prog 37 [g.V,.bool false] (.sl 1 false (yB g.nons.length E))):qJ Tryz.prog 56 [g.V] H next (fun v H' next'=>next≤next'∧(∃m si S,v=.ptr m 0 0∧H' m=some (.own 7 [qES g E si g.nons.length] false)∧H' si=some (.own 16 (vC g.nons.length S) false)∧IsFirst g E S∧next≤m∧m<next'∧next≤si∧si<next'∧m≠si)∧ ∀j,j<next→H' j=H j):=by
 refine qF Tryz.func56 nm_ qo8 (by show 1≤64;decide) ?_
 show ewp _ qh8 _ _
 have hem:=Z7 hp
 have hnl:=hg.nn2;have hpl:=hg.pl2
 have hs0:=qF5 g.nons.length
 repeat' with_reducible first
  |refine s_ ?_
  |simp -implicitDefEqProofs only[wZZ,seval]
  |refine cq1 hem qg ?_
  |refine t_ ?_
  |apply qat;exact wf_;exact wf_;(focus(unfold maxLen;first|omega|(simp only[wZ]<;>omega)))
 rw[hs0]
 refine qb ?nx1 (fun(q:(Nat→Nat→Bool)×Bool) s=>s.f 1=?v1_1∧s.f 3=?v1_3∧s.f 4=.bool q.2∧((s.H (next+2+6)=some (MObj.own 16 (vC g.nons.length q.1) false)))∧((∀F,QL g E F→ ∀k y,q.1 k y=true→F k y=true))∧((∀k y,q.1 k y=true→y<1024))∧((q.2=false→QL g E q.1))∧((∀j,j<next→s.H j=H j))∧(s.H next=some (MObj.own 5 [g.V] false))∧(s.H (next+2+8)=some (MObj.own 7 [qES g E (next+2+6) g.nons.length] false))) (fun q=>2 *cfS q.1 g.nons.length+(if q.2=true then 1 else 0)) ((fun _ _=>false,true)) wj_ (by refine⟨?_,?_,?_,wc_,(by intro F _ k y h;cases h),(by intro k y h;cases h),(by intro h;cases h),(by intro j hj;(simp only[wM];(repeat first|rw[if_pos trivial]|rw[if_pos rfl]|rw[if_neg o_]))),(by(try simp -implicitDefEqProofs only[wL,wM,wN,seval]);first|done|(repeat first|rw[if_pos trivial]|rw[if_pos rfl]|rw[if_neg o_])),(by(try simp -implicitDefEqProofs only[wL,wM,wN,seval]);first|done|(repeat first|rw[if_pos trivial]|rw[if_pos rfl]|rw[if_neg o_]))⟩<;>first|(simp -implicitDefEqProofs only[wL,wM,wN,wX,seval,Option.some.injEq]<;>exact wt_)|rfl|exact⟨_,rfl⟩) ?_
 intro q s hnx ⟨g1,g3,g4,k1_0,k1_1,k1_2,k1_3,k1_4,o100,o101⟩
 obtain ⟨S,b⟩:=q
 dsimp only at *
 cases b with
 | false=>
   have hcl:=k1_3 rfl
   repeat' with_reducible first
    |refine s_ ?_
    |simp -implicitDefEqProofs only[wZZ,seval,g1,g3,g4,o100,o101,k1_0]
   refine yt rfl (Or.inr rfl) ?_
   refine⟨wg_,⟨next+2+8,next+2+6,S,by(simp -implicitDefEqProofs only[wL,seval,g3]),by(simp only[wM];(repeat first|rw[if_pos trivial]|rw[if_pos rfl]|rw[if_neg o_]));exact o101,by(simp only[wM];(repeat first|rw[if_pos trivial]|rw[if_pos rfl]|rw[if_neg o_]));exact k1_0,⟨hcl,k1_1,k1_2⟩,o_,wg_,o_,wg_,o_⟩,fun j hj=>by(simp only[wM];(repeat first|rw[if_pos trivial]|rw[if_pos rfl]|rw[if_neg o_]));exact k1_4 j hj⟩
 | true =>
   repeat' with_reducible first
    |refine s_ ?_
    |simp -implicitDefEqProofs only[wZZ,seval,g1,g3,g4,o100,o101,k1_0]
    |refine t_ ?_
   refine qb ?nx2 (fun(r:Nat×(Nat→Nat→Bool)×Bool) s=>s.f 1=?v2_1∧s.f 3=?v2_3∧s.f 20=?v2_20∧s.f 21=?v2_21∧s.H next=some (MObj.own 5 [g.V] false)∧s.H (next+2+8)=some (MObj.own 7 [qES g E (next+2+6) g.nons.length] false)∧s.f 4=.bool r.2.2∧s.f 22=vi r.1∧(r.1≤g.prods.length)∧((s.H (next+2+6)=some (MObj.own 16 (vC g.nons.length r.2.1) false)))∧((∀F,QL g E F→ ∀k y,r.2.1 k y=true→F k y=true))∧((∀k y,r.2.1 k y=true→y<1024))∧((r.2.2=false→r.2.1=S∧ ∀p∈g.prods.take r.1,∀y,(Vq S E p.right).1 y=true→S p.left.toNat y=true))∧((r.2.2=true→cfS r.2.1 g.nons.length<cfS S g.nons.length))∧((∀j,j<next→s.H j=H j))) (fun r=>g.prods.length - r.1) ((0,S,false)) wj_ (by refine⟨?_,?_,?_,?_,?_,?_,?_,?_,wo_,(by(simp only[wM];(repeat first|rw[if_pos trivial]|rw[if_pos rfl]|rw[if_neg o_]));exact k1_0),(by exact k1_1),(by exact k1_2),(by exact fun _=>⟨rfl,fun p hp=>by simp at hp⟩),(by(intro h;cases h)),(by intro j hj;(simp only[wM];(repeat first|rw[if_pos trivial]|rw[if_pos rfl]|rw[if_neg o_]));exact k1_4 j hj)⟩<;>first|(simp -implicitDefEqProofs only[wL,wM,wN,wX,seval,Option.some.injEq,g1,g3,g4,o100,o101]<;>exact wt_)|rfl|exact⟨_,rfl⟩) ?_
   intro r s hnx ⟨g1,g3,g20,g21,o0,o1,g4,g22,k2_0,k2_1,k2_2,k2_3,k2_4,k2_5,k2_6⟩
   obtain ⟨i,S',b'⟩:=r
   dsimp only at *
   have hz:=w1_ i
   have cl:=qK
   by_cases hi:i<g.prods.length
   · have hmem:=List.getElem_mem hi
     obtain ⟨lf,hl1,hl2⟩:=hg.left _ hmem
     have hrt:=hg.rt hmem
     have hrl:=hg.rlen _ hmem
     have htk:g.prods.take (i+1)=g.prods.take i++[g.prods[i]]:=by rw[List.take_add_one,ge_ hi];rfl
     have hgp:g.prods[i]?=some g.prods[i]:=ge_ hi
     generalize hp:g.prods[i]=p at *
     have hpm:p∈g.prods:=hp ▸ List.getElem_mem hi
     clear hp
     obtain ⟨pl,pr,pc,pco,pa,pat⟩:=p
     dsimp only at hl1 hrt hrl
     subst hl1
     have hlist:=kC (g:=g) (E:=E) (S:=S') (n:=g.nons.length) (l:=pr) o_ o_ hrt
     have hsm:=Yc (E:=E) k2_3 pr (fun _=>false) (fun y h=>by cases h)
     have hmon: ∀F,QL g E F→ ∀y,(Vq S' E pr).1 y=true→F lf y=true:=fun F hF y hy=>hF _ hpm y (VZ (k2_2 F hF) pr _ _ (fun y h=>h) y hy)
     have hdef:(Vq S' E pr).1=(Vq S' E pr).1:=rfl
     generalize hA:(Vq S' E pr).1=A at *
     generalize hB:(Vq S' E pr).2=B at *
     have hor:=Yz (a:=A) (b:=S' lf)
     have heq:=qlW (a:=fun y=>A y || S' lf y) (b:=S' lf)
     have hnew:(b'=false→S'=S∧ ∀p∈g.prods.take i,∀y,(Vq S E p.right).1 y=true→S p.left.toNat y=true)→(∀y,A y=true→S' lf y=true)→(b'=false→S'=S∧ ∀p∈g.prods.take (i+1),∀y,(Vq S E p.right).1 y=true→S p.left.toNat y=true):=fun q1 q2 hb=>by
      obtain ⟨e1,e2⟩:=q1 hb
      refine⟨e1,fun p hp=>?_⟩
      rw[htk]at hp
      rcases List.mem_append.1 hp with hp|hp
      · exact e2 p hp
      · rw[List.mem_singleton]at hp;subst hp
        subst e1
        intro y hy
        exact q2 y (by rw[← hA];exact hy)
     repeat' with_reducible first
      |refine s_ ?_
      |simp -implicitDefEqProofs only[wZZ,seval,g1,g3,g20,g21,g4,g22,o0,o1,k2_1,hz]
      |apply qa<;>intro h h_<;>(try simp only[wD,reduceCtorEq]at h_)<;>(try exact wb_)<;>(try simp only[h])
      |refine t_ ?_
     refine qW (x':= .iptr 7 (qEV g E S' g.nons.length) 0) (y':= .sl 1 false (pr.map (V.int .i64))) (qih (si:=next+2+6) (by(simp only[wM];(repeat first|rw[if_pos trivial]|rw[if_pos rfl]|rw[if_neg o_]));exact o1) (by(simp only[wM];(repeat first|rw[if_pos trivial]|rw[if_pos rfl]|rw[if_neg o_]));exact k2_1)) qg hlist rfl (qbK _ _) ?_
     cases heS:eqS (fun y=>A y || S' lf y) (S' lf)with
     | true=>
       rw[heS]at heq
       rw[qaC]at heS
       repeat' with_reducible first
        |refine s_ ?_
        |simp -implicitDefEqProofs only[wZZ,seval,g1,g3,g20,g21,g4,g22,o0,o1,k2_1,hz]
        |refine t_ ?_
        |(refine ldS hl2 ?_)
        |refine cq2 hor qg qg ?_
        |refine cq2 heq qg qg ?_
        |apply jH;exact wu_;exact cl _
        |simp -implicitDefEqProofs (disch:=omega) only[w64,if_neg]
       all_goals
        refine⟨wg_,(i+1,S',b'),by dsimp only;omega,trivial,trivial,trivial,trivial,trivial,trivial,rfl,rfl,by dsimp only;omega,rfl,k2_2,k2_3,hnew k2_4 (fun y hy=>?_),k2_5,fun j hj=>by(try simp only[wM]);(repeat first|rw[if_pos trivial]|rw[if_pos rfl]|rw[if_neg o_]);exact k2_6 j hj⟩
        have:=heS y (hsm y hy)
        rw[hy,Bool.true_or]at this
        exact this.symm
     | false =>
       rw[heS]at heq
       repeat' with_reducible first
        |refine s_ ?_
        |simp -implicitDefEqProofs only[wZZ,seval,g1,g3,g20,g21,g4,g22,o0,o1,k2_1,hz]
        |refine t_ ?_
        |(refine ldS hl2 ?_)
        |refine cq2 hor qg qg ?_
        |refine cq2 heq qg qg ?_
        |apply jH;exact wu_;exact cl _
        |(refine qKr hl2 ?_)
        |simp -implicitDefEqProofs (disch:=omega) only[w64,if_neg]
       all_goals
        refine⟨wg_,(i+1,qM S' lf (fun y=>A y || S' lf y),true),by dsimp only;omega,trivial,trivial,trivial,trivial,trivial,trivial,rfl,rfl,by dsimp only;omega,rfl,fun F hF k y hk=>?_,fun k y hk=>?_,fun e=>(by cases e),fun _=>?_,fun j hj=>by(try simp only[wM]);(repeat first|rw[if_pos trivial]|rw[if_pos rfl]|rw[if_neg o_]);exact k2_6 j hj⟩
        · dsimp only at hk
          unfold qM at hk
          split at hk
          · rename_i e;subst e
            rw[Bool.or_eq_true]at hk
            exact hk.elim (hmon F hF y) (k2_2 F hF _ y)
          · exact k2_2 F hF k y hk
        · dsimp only at hk
          unfold qM at hk
          split at hk
          · rw[Bool.or_eq_true]at hk
            exact hk.elim (hsm y) (k2_3 _ y)
          · exact k2_3 k y hk
        · have hex: ∃y,y<1024∧S' lf y=false∧A y=true:=by
           refine Classical.byContradiction fun hn=>?_
           have:eqS (fun y=>A y || S' lf y) (S' lf)=true:=(qaC _ _).2 fun y hy=>by
            cases hy1:S' lf y with
            |true=>simp
            | false=>
              cases hy2:A y with
              |false=>rfl
              |true=>exact absurd ⟨y,hy,hy1,hy2⟩ hn
           rw[heS]at this;cases this
          obtain ⟨y,hy,h1,h2⟩:=hex
          have:=(qdX (S:=S') (k:=lf) (v:=fun y=>A y || S' lf y) (qha (fun y hy=>by simp[hy]) h1 (by simp[h2]) hy) g.nons.length).2 hl2
          show cfS (qM S' lf (fun y=>A y || S' lf y)) g.nons.length<_
          cases b' with
          |false=>have e:=(k2_4 rfl).1;subst e;omega
          |true=>have:=k2_5 rfl;omega
   · have e:i=g.prods.length:=o_
     subst e
     rw[List.take_length]at k2_4
     repeat' with_reducible first
      |refine s_ ?_
      |simp -implicitDefEqProofs only[wZZ,seval,g1,g3,g20,g21,g4,g22,o0,o1,k2_1]
     refine⟨wg_,(S',b'),?_,trivial,trivial,rfl,rfl,k2_2,k2_3,fun hb=>?_,k2_6,by first|trivial|exact o0,by first|trivial|exact o1⟩
     · dsimp only
       cases b' with
       |false=>have e:=(k2_4 rfl).1;subst e;simp
       |true=>have:=k2_5 rfl;simp;omega
     · obtain ⟨e1,e2⟩:=k2_4 hb
       dsimp only
       rw[e1];exact e2

theorem IsFirst.uniq {g:Grammar} {E:Nat→Bool} {S F:Nat→Nat→Bool} (h:IsFirst g E S) (k:IsFirst g E F):S=F:=by
 funext n y
 rw[Bool.eq_iff_iff]
 exact⟨h.least F k.closed n y,k.least S h.closed n y⟩
theorem qf6 {g:Grammar} {E:Nat→Bool} (hg:GOk g) (hp:Pure Tryz.prog 37 [g.V,.bool false] (.sl 1 false (yB g.nons.length E))): ∃S,IsFirst g E S:=by
 obtain ⟨v,H',n',⟨_,⟨m,si,S,_,_,_,h,_⟩,_⟩,_⟩:=qKd (H:=fun _=>none) (next:=0) hg hp
 exact⟨S,h⟩
def Qu (nt nn:Nat) (x:Int):Bool:=decide (0≤x∧x<nt) || decide (1000≤x∧x<1000+(nn:Int))
theorem Yq {nt nn:Nat} {x:Int}:Qu nt nn x=true↔Zb nt nn x:=by
 unfold Qu Zb
 simp only[Bool.or_eq_true,decide_eq_true_eq]
 constructor
 · rintro (h|h)
   · exact Or.inl ⟨x.toNat,o_,o_⟩
   · exact Or.inr ⟨(x - 1000).toNat,o_,o_⟩
 · rintro (⟨t,h1,h2⟩|⟨k,h1,h2⟩)
   · exact Or.inl o_
   · exact Or.inr o_
def vY (nt nn:Nat) (S:Nat→Nat→Bool) (E:Nat→Bool) (l:List Int):List Int×Bool:=
 if l.all (Qu nt nn)=true then(lst (Vq S E l).1 1024,(Vq S E l).2)else([],false)
theorem qcO {g:Grammar} {E:Nat→Bool} {S:Nat→Nat→Bool} {l:List Int} (hg:GOk g) (hp:Pure Tryz.prog 37 [g.V,.bool false] (.sl 1 false (yB g.nons.length E))) (hS:IsFirst g E S) (hl:l.length≤1000000):Pure Tryz.prog 23 [g.V,.sl 1 false (l.map (V.int .i64))] (.tup [.sl 1 false ((vY g.toks.length g.nons.length S E l).1.map (V.int .i64)),.bool (vY g.toks.length g.nons.length S E l).2]):=by
 refine pure_intro Tryz.func23 nm_ qAY (by show 2≤48;decide) ?_
 show ewp _ qh9 _ _
 have hnl:=hg.nn2;have htl:=hg.tk2
 have hz3:IntKind.i64.wrap (1000+(g.nons.length:Int))=1000+(g.nons.length:Int):=wrap64 o_ o_
 repeat' with_reducible first
  |refine s_ ?_
  |simp -implicitDefEqProofs only[wZZ,seval]
  |refine t_ ?_
 refine qb ?nx1 (fun(i:Nat) s=>s.f 1=?v1_1∧s.f 2=?v1_2∧s.f 10=?v1_10∧s.f 11=?v1_11∧s.H 0=some (MObj.own 5 [g.V] false)∧s.f 12=vi i∧(i≤l.length)∧(∀x∈l.take i,Qu g.toks.length g.nons.length x=true)) (fun i=>l.length - i) (0) wj_ (by refine⟨?_,?_,?_,?_,?_,?_,wo_,wo_⟩<;>first|(simp -implicitDefEqProofs only[wL,wM,wN,wX,seval,Option.some.injEq]<;>exact wt_)|rfl|exact⟨_,rfl⟩) ?_
 intro i s hnx ⟨g1,g2,g10,g11,o0,g12,k1_0,k1_1⟩
 have hz:=w1_ i
 by_cases hi:i<l.length
 · have hbad:Qu g.toks.length g.nons.length l[i]=false→vY g.toks.length g.nons.length S E l=([],false):=fun h=>by
    unfold vY;rw[if_neg];intro e;rw[List.all_eq_true]at e;have:=e _ (List.getElem_mem hi);rw[h]at this;cases this
   have hgood:Qu g.toks.length g.nons.length l[i]=true→ ∀x∈l.take (i+1),Qu g.toks.length g.nons.length x=true:=fun h x hx=>by
    rw[List.take_add_one,ge_ hi]at hx
    rcases List.mem_append.1 hx with hx|hx
    · exact k1_1 x hx
    · simp at hx;subst hx;exact h
   have hgi:l[i]?=some l[i]:=ge_ hi
   generalize l[i]=x at *
   repeat' with_reducible first
    |refine s_ ?_
    |simp -implicitDefEqProofs only[wZZ,seval,g1,g2,g10,g11,g12,o0,hz,hz3]
    |(first|apply qa|apply qj|apply qx)<;>intro h h_<;>(try simp only[wD,reduceCtorEq]at h_)<;>(try exact wb_)<;>(try simp only[h])
    |refine t_ ?_
   all_goals first
    | (rw[hbad (by unfold Qu;simp;omega)]
       refine qjn rfl (Or.inr rfl) ?_
       (simp -implicitDefEqProofs only[wL,seval])
       exact ErL.tup (.cons VD (.cons (.bool _) .nil)))
    |(refine⟨wg_,i+1,o_,trivial,trivial,trivial,trivial,trivial,rfl,o_,hgood (by unfold Qu;simp;omega)⟩)
 · rw[List.take_of_length_le o_]at k1_1
   have e:vY g.toks.length g.nons.length S E l=(lst (Vq S E l).1 1024,(Vq S E l).2):=by unfold vY;rw[if_pos (List.all_eq_true.2 k1_1)]
   rw[e]
   repeat' with_reducible first
    |refine s_ ?_
    |simp -implicitDefEqProofs only[wZZ,seval,g1,g2,g10,g11,g12,o0]
    |apply qa<;>intro h h_<;>(try simp only[wD,reduceCtorEq]at h_)<;>(try exact wb_)<;>(try simp only[h])
    |refine t_ ?_
   have hsy: ∀s∈l,s<1000∨ ∃k:Nat,s=1000+(k:Int)∧k<g.nons.length:=fun s hs=>by
    rcases Yq.1 (k1_1 s hs)with ⟨t,e,h⟩|h
    · exact Or.inl o_
    · exact Or.inr h
   refine qI rfl rfl rfl ((qKd hg hp).mono ?_)
   rintro v1 H1 n1 ⟨q1,⟨m,si,S1,rfl,hm,hs,hF,b1,b2,b3,b4,b5⟩,q4⟩
   have eS:=hF.uniq hS
   subst eS
   have hlist:=kC (g:=g) (E:=E) (S:=S1) (n:=g.nons.length) (l:=l) o_ hl hsy
   have hsl:=YO (m:=(Vq S1 E l).1)
   repeat' with_reducible first
    |simp -implicitDefEqProofs only[wZZ,seval,g1,g2,g10,g11,g12,o0]
   refine qW (x':= .iptr 7 (qEV g E S1 g.nons.length) 0) (y':= .sl 1 false (l.map (V.int .i64))) (qih hm hs) qg hlist rfl (qbK _ _) ?_
   have cl:=qK
   repeat' with_reducible first
    |refine s_ ?_
    |simp -implicitDefEqProofs only[wZZ,seval,g1,g2,g10,g11,g12,o0]
    |refine t_ ?_
    |apply jH;exact wu_;exact cl _
    |refine cq1 hsl qg ?_
   refine qjn rfl (Or.inr rfl) ?_
   (simp -implicitDefEqProofs only[wL,seval])
   exact ErL.tup (.cons qg (.cons (.bool _) .nil))
end Go.Proofs
