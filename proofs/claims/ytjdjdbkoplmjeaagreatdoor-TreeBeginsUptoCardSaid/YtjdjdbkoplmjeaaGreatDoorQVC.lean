/- Part of a proof that a law of the given program answers true. -/
import Derived.Test.YtjdjdbkoplmjeaaGreatDoorQVA
import Derived.Test.YtjdjdbkoplmjeaaGreatDoorQEC
import Derived.Test.YtjdjdbkoplmjeaaGreatDoorQCA
import Derived.Test.YtjdjdbkoplmjeaaGreatDoorQWA
set_option maxRecDepth 20000
set_option linter.unusedSimpArgs false
set_option linter.unusedVariables false
set_option maxHeartbeats 8000000
namespace Go.Proofs
open Go.E
theorem yN {cs:List V} {p:GPr} {h:Nat→Bool} {n:Nat} (hc:cs[5]?=some (.sl 1 false (yB n h))) (hr: ∀s∈p.right,s<1000∨ ∃k:Nat,s=1000+(k:Int)∧k<n) (hl:p.right.length≤1000000) (hn:n≤1000000):Pure Tryz.prog 42 [.iptr 24 (.agg cs) 0,p.V] (.bool (qR false h p.right)):=by
 refine pure_intro Tryz.func42 nm_ qCS (by show 2≤28;decide) ?_
 show ewp _ qig _ _
 repeat' with_reducible first
  |refine s_ ?_
  |simp -implicitDefEqProofs only[wZZ,seval]
  |refine t_ ?_
 refine qb ?nx1 (fun(i:Nat) s=>s.f 0=?v1_0∧s.f 8=?v1_8∧s.f 9=?v1_9∧s.f 10=vi i∧(i≤p.right.length)∧(∀s∈p.right.take i,(if s<1000 then false else h (s - 1000).toNat)=true)) (fun i=>p.right.length - i) (0) wj_ (by refine⟨?_,?_,?_,?_,wo_,wo_⟩<;>first|(simp -implicitDefEqProofs only[wL,wM,wN,wX,seval,Option.some.injEq]<;>exact wt_)|rfl|exact⟨_,rfl⟩) ?_
 intro i s hnx ⟨g0,g8,g9,g10,k1_0,k1_1⟩
 have hz:=w1_ i
 by_cases hi:i<p.right.length
 · have hst:=Yk hi k1_1
   have hnx:(if p.right[i]<1000 then false else h (p.right[i] - 1000).toNat)=true→ ∀s∈p.right.take (i+1),(if s<1000 then false else h (s - 1000).toNat)=true:=fun hh s hs=>by
    rw[List.take_add_one,ge_ hi]at hs
    rcases List.mem_append.1 hs with hs|hs
    · exact k1_1 s hs
    · simp at hs;subst hs;exact hh
   rcases hr _ (List.getElem_mem hi)with hs|⟨k,hk,hkn⟩
   · rw[if_pos hs]at hst hnx
     rw[hst rfl]
     repeat' with_reducible first
      |refine s_ ?_
      |simp -implicitDefEqProofs only[wZZ,seval,g0,g8,g9,g10,hz]
      |(first|apply qa|apply qj|apply qx)<;>intro h h_<;>(try simp only[wD,reduceCtorEq]at h_)<;>(try exact wb_)<;>(try simp only[h])
      |refine t_ ?_
     refine qD rfl (Or.inr rfl) ?_
     simp -implicitDefEqProofs only[wL,seval,g0,g8,g9,g10]
     refine er_ ?_
     try(with_reducible rfl)
   · have hz2:IntKind.i64.wrap (1000+(k:Int) - 1000)=(k:Int):=by rw[wrap64 o_ o_];omega
     rw[if_neg o_,hk,show ((1000+(k:Int)) - 1000).toNat=k by omega]at hst hnx
     have hbg:=jR (h:=h) hkn
     cases hb:h k with
     | true=>
       repeat' with_reducible first
        |refine s_ ?_
        |simp -implicitDefEqProofs only[wZZ,seval,g0,g8,g9,g10,hz,hk,hz2,hb]
        |(first|apply qa|apply qj|apply qx)<;>intro h h_<;>(try simp only[wD,reduceCtorEq]at h_)<;>(try exact wb_)<;>(try simp only[h])
        |(refine qes hc ?_)
        |(apply ji (kQ o_ (by with_unfolding_all exact hbg)))
        |refine t_ ?_
       refine⟨wk_,i+1,o_,?_⟩
       refine⟨?_,?_,?_,?_,?_,?_⟩
       iterate 4 (focus(first|(simp -implicitDefEqProofs only[wL,wM,wN,wX,seval,Option.some.injEq,g0,g8,g9,g10]<;>exact wt_)|rfl|exact⟨_,rfl⟩))
       all_goals try omega
       exact hnx hb
     | false=>
       rw[hst hb]
       repeat' with_reducible first
        |refine s_ ?_
        |simp -implicitDefEqProofs only[wZZ,seval,g0,g8,g9,g10,hz,hk,hz2,hb]
        |(first|apply qa|apply qj|apply qx)<;>intro h h_<;>(try simp only[wD,reduceCtorEq]at h_)<;>(try exact wb_)<;>(try simp only[h])
        |(refine qes hc ?_)
        |(apply ji (kQ o_ (by with_unfolding_all exact hbg)))
        |refine t_ ?_
       refine qD rfl (Or.inr rfl) ?_
       simp -implicitDefEqProofs only[wL,seval,g0,g8,g9,g10]
       refine er_ ?_
       try(with_reducible rfl)
 · rw[List.take_of_length_le o_]at k1_1
   have e:qR false h p.right=true:=List.all_eq_true.2 k1_1
   rw[e]
   repeat' with_reducible first
    |refine s_ ?_
    |simp -implicitDefEqProofs only[wZZ,seval,g0,g8,g9,g10]
    |apply qa<;>intro h h_<;>(try simp only[wD,reduceCtorEq]at h_)<;>(try exact wb_)<;>(try simp only[h])
   refine qD rfl (Or.inr rfl) ?_
   simp -implicitDefEqProofs only[wL,seval,g0,g8,g9,g10]
   refine er_ ?_
   try(with_reducible rfl)

@[reducible] def emC (g:Grammar) (n:Nat) (h:Nat→Bool) (Sv Ov:V) (cy:Nat→Bool):List V:= .sl 6 false (g.toks.map Tok.V):: .sl 2 false (g.nons.map Non.V):: .sl 6 false (g.prods.map GPr.V):: .str g.pro:: .str g.tail:: .sl 1 false (yB n h)::Sv::Ov::zl cy
theorem qJ0 {K:V→Prop} {g:Grammar} {n:Nat} {h cy:Nat→Bool} {Sv Ov:V} {ro:Bool} (hk:K (.agg (zl cy))):onS (ldQ (some (.own 24 [.agg (emC g n h Sv Ov cy)] ro)) true 16 0 8) K:=by
 have hl:=qK cy
 refine jZ (cs':=zl cy) rfl (by simp[emC,hl]) ?_ hk
 show (zl cy).take 16=zl cy
 exact List.take_of_length_le o_
structure EJ (n:Nat) (Z:Nat→Int) (Q:Nat→Prop) (sz:Nat→Int) (op:Nat→Bool):Prop where
 qo: ∀k,Q k→op k=true
 dn: ∀k,k<n→op k=true→ ¬ Q k→sz k=Z k
 un: ∀k,k<n→op k=false→sz k=0
theorem EJ.ent {n:Nat} {Z:Nat→Int} {Q:Nat→Prop} {sz:Nat→Int} {op:Nat→Bool} (h:EJ n Z Q sz op) (k:Nat):EJ n Z (fun x=>Q x∨x=k) sz (qM op k true):=by
 refine⟨fun x hx=>?_,fun x hx ho hq=>?_,fun x hx ho=>?_⟩
 · unfold qM
   rcases hx with hx|rfl
   · split
     · rfl
     · exact h.qo x hx
   · rw[if_pos rfl]
 · have hne:x≠k:=fun e=>hq (Or.inr e)
   unfold qM at ho
   rw[if_neg hne]at ho
   exact h.dn x hx ho fun hh=>hq (Or.inl hh)
 · unfold qM at ho
   by_cases e:x=k
   · rw[if_pos e]at ho;cases ho
   · rw[if_neg e]at ho;exact h.un x hx ho
theorem EJ.fin {n:Nat} {Z:Nat→Int} {Q:Nat→Prop} {sz:Nat→Int} {op:Nat→Bool} {k:Nat} {x:Int} (h:EJ n Z (fun x=>Q x∨x=k) sz op) (hx:x=Z k):EJ n Z Q (Jp sz k x) op:=by
 have hk:=h.qo k (Or.inr rfl)
 refine⟨fun y hy=>h.qo y (Or.inl hy),fun y hy ho hq=>?_,fun y hy ho=>?_⟩
 · by_cases e:y=k
   · rw[e,zO,hx]
   · rw[jY e];exact h.dn y hy ho fun hh=>hh.elim hq e
 · have e:y≠k:=fun e=>by rw[e,hk]at ho;cases ho
   rw[jY e];exact h.un y hy ho
theorem qeL {a b:Nat→Bool} (h: ∀x,a x=true→b x=true): ∀n,cf b n≤cf a n
 |0=>Nat.le_refl _
 | n+1=>by
   have:=qeL h n
   unfold cf
   by_cases ha:a n=true
   · rw[if_pos ha,if_pos (h n ha)];omega
   · rw[if_neg ha];split<;>omega
structure OD (ei zi oi:Nat):Prop where
 a:ei≠zi
 b:ei≠oi
 c:zi≠oi
structure OAt (H:Nat→Option MObj) (next ei zi oi:Nat) (g:Grammar) (n:Nat) (h cy:Nat→Bool) (sz:Nat→Int) (op:Nat→Bool):Prop where
 e:H ei=some (.own 24 [.agg (emC g n h (.msl zi 1 0 n) (.msl oi 1 0 n) cy)] false)
 z:H zi=some (.own 1 (ivs (xW n sz)) false)
 o:H oi=some (.own 1 (yB n op) false)
 l1:ei<next
 l2:zi<next
 l3:oi<next
theorem OAt.mono {H H':Nat→Option MObj} {next next' ei zi oi:Nat} {g:Grammar} {n:Nat} {h cy:Nat→Bool} {sz:Nat→Int} {op:Nat→Bool} (w:OAt H next ei zi oi g n h cy sz op) (hn:next≤next') (hh: ∀j,j<next→H' j=H j):OAt H' next' ei zi oi g n h cy sz op:=
 ⟨(hh _ w.l1).trans w.e,(hh _ w.l2).trans w.z,(hh _ w.l3).trans w.o,Nat.lt_of_lt_of_le w.l1 hn,Nat.lt_of_lt_of_le w.l2 hn,Nat.lt_of_lt_of_le w.l3 hn⟩
theorem qfV {b:Bool} {H:Nat→Option MObj} (m:Nat→Bool):ErL b H (zl m) (zl m):=by
 unfold zl
 generalize List.range 16=l
 induction l with
 |nil=>exact .nil
 |cons x l ih=>exact .cons (.int _ _) ih
theorem OAt.er {H:Nat→Option MObj} {next ei zi oi:Nat} {g:Grammar} {n:Nat} {h cy:Nat→Bool} {sz:Nat→Int} {op:Nat→Bool} (w:OAt H next ei zi oi g n h cy sz op):
 Er true H (.ptr ei 0 0) (.iptr 24 (.agg (emC g n h (.sl 1 false (ivs (xW n sz))) (.sl 1 false (yB n op)) cy)) 0):=by
 have h1:=KM n h
 refine .ptr ei 0 0 24 _ false _ _ rfl w.e rfl (ErL.agg (.cons qg (.cons qg (.cons qg (.cons (.str _) (.cons (.str _) (.cons qg (.cons ?_ (.cons ?_ (qfV cy))))))))))
 · exact zX w.z (by simp[ivs,xW]) (by rw[List.drop_zero];exact List.take_of_length_le (by simp[ivs,xW]))
 · exact qaX w.o
abbrev OQ (H:Nat→Option MObj) (next ei zi oi:Nat) (g:Grammar) (n:Nat) (h cy:Nat→Bool) (Z:Nat→Int) (Q:Nat→Prop) (k:Nat) (op:Nat→Bool):V→(Nat→Option MObj)→Nat→Prop:=fun v H' n'=>
 v=vi (Z k)∧next≤n'∧(∃sz' op',OAt H' n' ei zi oi g n h cy sz' op'∧EJ n Z Q sz' op'∧(∀x,op x=true→op' x=true)∧(h k=true→op' k=true))∧ ∀j,j<next→j≠zi→j≠oi→H' j=H j
abbrev OfC (f ei zi oi:Nat) (g:Grammar) (n:Nat) (h cy:Nat→Bool) (Z:Nat→Int):Prop:= ∀(H:Nat→Option MObj) (next k:Nat) (Q:Nat→Prop) (sz:Nat→Int) (op:Nat→Bool),k<n→cf op n≤f→OAt H next ei zi oi g n h cy sz op→EJ n Z Q sz op→
 (∀q,Q q→q<n∧cy q=false∧ ∃j,Edge (relE g.prods h) n q j∧Rch (relE g.prods h) n j k)→qJ Tryz.prog 46 [.ptr ei 0 0,vi (k:Int)] H next (OQ H next ei zi oi g n h cy Z Q k op)
theorem qb3 (Z:Nat→Int) (l:List Int) (s:Int):ezP Z (l++[s])=if Z (s - 1000).toNat<0 then -1 else if 0<ezP Z l then ezP Z l+Z (s - 1000).toNat else ezP Z l:=by
 unfold ezP;rw[List.foldl_append];rfl
theorem qkP {Z:Nat→Int} (h: ∀x,-1≤Z x∧Z x≤3000) (l:List Int) (n:Nat): -1≤ezP Z (l.take n)∧ezP Z (l.take n)≤1+3000 *(n:Int):=by
 induction n with
 |zero=>simp[ezP]
 | succ n ih=>
   rw[List.take_add_one]
   cases hl:l[n]? with
   |none=>simp;omega
   | some s=>
     rw[Option.toList_some,qb3]
     have:=h (s - 1000).toNat
     split
     · omega
     · split<;>omega
theorem qgw (h:Nat→Bool) (Z:Nat→Int) (k:Nat) (l:List GPr) (p:GPr):(l++[p]).foldl (ezS h Z k) 0=ezS h Z k (l.foldl (ezS h Z k) 0) p:=by rw[List.foldl_append];rfl
theorem qIN (a b:Int):kR true [.int .i64 a,.int .i64 b]=some (.int .i64 (max a b)):=by
 have e:max a b=if b>a then b else a:=o_
 rw[e];simp[kR]
theorem qk3 {H : Nat →Option MObj} {next f ei zi oi k n:Nat} {g:Grammar} {nl cy:Nat→Bool} {Z:Nat→Int} {Q:Nat→Prop} {sz:Nat→Int} {op:Nat→Bool} (hg:GOk g) (hn:n=g.nons.length) (hcy:Jg g.prods n nl cy) (hZ: ∀x,x<n→Z x=ezF g.prods nl cy Z x) (hZr: ∀x,-1≤Z x∧Z x≤3000) (hD:OD ei zi oi) (IH: ∀f',f'<f→OfC f' ei zi oi g n nl cy Z) (hk:k<n) (hf:cf op n≤f) (hA:OAt H next ei zi oi g n nl cy sz op) (hJ:EJ n Z Q sz op) (hQ: ∀q,Q q→q<n∧cy q=false∧ ∃j,Edge (relE g.prods nl) n q j∧Rch (relE g.prods nl) n j k):qJ Tryz.prog 46 [.ptr ei 0 0,vi (k:Int)] H next (OQ H next ei zi oi g n nl cy Z Q k op):=by
 refine qF Tryz.func46 nm_ quQ (by show 2≤115;decide) ?_
 show ewp _ qhQ _ _
 have hnl:=hg.nn2;have hpl:=hg.pl2
 rw[← hn]at hnl
 have hA':=hA
 obtain ⟨he,hz0,ho0,l1,l2,l3⟩:=hA'
 obtain ⟨d1,d2,d3⟩:=hD
 have hgo:=jR (h:=op) hk
 have hgh:=jR (h:=nl) hk
 have hgz:=je (l:=sz) hk
 have hZk:=hZ k hk
 by_cases hop:op k=true
 · have hnq: ¬ Q k:=fun hq=>by
    obtain ⟨_,h1,h2⟩:=hQ k hq
    rw[(hcy k hk).2 h2]at h1;cases h1
   have hv:=hJ.dn k hk hop hnq
   rw[hv]at hgz
   repeat' with_reducible first
    |refine s_ ?_
    |simp -implicitDefEqProofs only[wZZ,seval,he,ho0,hz0,hop]
    |apply zm;omega;omega
    |(refine ldB hk ?_)
    |apply j4;exact wd_;exact wu_
    |refine t_ ?_
   exact yt (t:=4) rfl (Or.inr rfl) ⟨by(simp -implicitDefEqProofs only[wL,seval]),wg_,⟨sz,op,hA.mono wg_ (fun j _=>hh_),hJ,fun x h=>h,fun _=>hop⟩,fun j h1 h2 h3=>hh_⟩
 · have hop' : op k = false:=by simpa using hop
   by_cases hh:nl k=true
   · have hcfu := (qbp hop' n).2 hk
     have hJe:=hJ.ent k
     have hb4:(decide (0≤(k:Int)) && decide ((k:Int)<1024))=true:=by
      rw[decide_eq_true o_,decide_eq_true o_];rfl
     have f1:(zi=oi)=False:=eq_false d3
     have f2:(ei=oi)=False:=eq_false d2
     have f3:(ei=zi)=False:=eq_false d1
     have f4:(oi=zi)=False:=eq_false (Ne.symm d3)
     by_cases hc:cy k=true
     · have hZ1:Z k= -1:=by
        rw[hZk];unfold ezF;rw[if_neg (by rw[hh];decide),if_pos hc]
       repeat' with_reducible first
        |refine s_ ?_
        |simp -implicitDefEqProofs only[wZZ,seval,he,ho0,hz0,hop',hh,hb4,hc,f1,f2,f3,f4,Bool.and_true]
        |apply zm;omega;omega
        |(refine ldB hk ?_)
        |(apply ji (kQ o_ (by with_unfolding_all exact hgh)))
        |(refine stB hk ?_)
        |(refine qJ0 ?_)
        |(refine stI k (l:=sz) rfl o_ hk ?_)
        |refine t_ ?_
        |refine cq2 ZT we_ we_ ?_
       exact yt (t:=4) rfl (Or.inr rfl) ⟨by(simp -implicitDefEqProofs only[wL,seval]);rw[hZ1],wg_,⟨_,_,⟨by((try simp only[wM]);(repeat first|rw[if_pos trivial]|rw[if_pos rfl]|rw[if_neg o_]));exact he,hh_,hh_,wg_,wg_,wg_⟩,hJe.fin hZ1.symm,fun x hx=>by unfold qM;split;rfl;exact hx,fun _=>by unfold qM;rw[if_pos rfl]⟩,fun j h1 h2 h3=>hh_⟩
     · have hc' : cy k=false:=by simpa using hc
       repeat' with_reducible first
        |refine s_ ?_
        |simp -implicitDefEqProofs only[wZZ,seval,he,ho0,hz0,hop',hh,hb4,hc',f1,f2,f3,f4,Bool.and_false]
        |apply zm;omega;omega
        |(refine ldB hk ?_)
        |(apply ji (kQ o_ (by with_unfolding_all exact hgh)))
        |(refine stB hk ?_)
        |(refine qJ0 ?_)
        |refine t_ ?_
        |refine cq2 ZT we_ we_ ?_
       have hlt: ∀op1:Nat→Bool,(∀x,qM op k true x=true→op1 x=true)→cf op1 n<f:=fun op1 h1=>by
        have:=qeL h1 n
        omega
       have hQ2: ∀q,(Q q∨q=k)→ ∀j,Edge (relE g.prods nl) n k j→q<n∧cy q=false∧ ∃j',Edge (relE g.prods nl) n q j'∧Rch (relE g.prods nl) n j' j:=fun q hq j hE=>by
        rcases hq with hq|rfl
        · obtain ⟨a,b,j',c,d⟩:=hQ q hq
          exact⟨a,b,j',c,d.trans (.one hE)⟩
        · exact⟨hk,hc',j,hE,.refl _⟩
       have hopk:qM op k true k=true:=by unfold qM;rw[if_pos rfl]
       have hrt: ∀p∈g.prods,∀s∈p.right,s<1000∨ ∃k:Nat,s=1000+(k:Int)∧k<n:=fun p hp=>by rw[hn];exact hg.rt hp
       refine qb ?nx1 (fun(i:Nat) s=>s.f 0=?v1_0∧s.f 1=?v1_1∧s.f 58=?v1_58∧s.f 59=?v1_59∧s.f 5=vi ((g.prods.take i).foldl (ezS nl Z k) 0)∧s.f 60=vi i∧(i≤g.prods.length)∧((∃sz1 op1,OAt s.H s.next ei zi oi g n nl cy sz1 op1∧EJ n Z (fun x=>Q x∨x=k) sz1 op1∧ ∀x,qM op k true x=true→op1 x=true))∧(next≤s.next)∧((∀j,j<next→j≠zi→j≠oi→s.H j=H j))) (fun i=>g.prods.length - i) (0) wj_ (by refine⟨?_,?_,?_,?_,?_,?_,wo_,(by(exact⟨sz,qM op k true,⟨by((try simp only[wM]);(repeat first|rw[if_pos trivial]|rw[if_pos rfl]|rw[if_neg o_]));exact he,by((try simp only[wM]);(repeat first|rw[if_pos trivial]|rw[if_pos rfl]|rw[if_neg o_]));exact hz0,hh_,wg_,wg_,wg_⟩,hJe,fun x h=>h⟩)),wg_,(by(intro j h1 h2 h3;((try simp only[wM]);(repeat first|rw[if_pos trivial]|rw[if_pos rfl]|rw[if_neg o_]))))⟩<;>first|(simp -implicitDefEqProofs only[wL,wM,wN,wX,seval,Option.some.injEq]<;>exact wt_)|rfl|exact⟨_,rfl⟩) ?_
       intro i s hnx ⟨g0,g1,g58,g59,g5,g60,k1_0,k1_1,k1_2,k1_3⟩
       obtain ⟨sz1,op1,hO,hJ1,hop1⟩:=k1_1
       have hz:=w1_ i
       have hmr:=qaI (has:=nl) (Z:=Z) (k:=k) (P:=g.prods.take i) (m:=0) o_ o_
       by_cases hi:i<g.prods.length
       · have hmem := List.getElem_mem hi
         obtain ⟨lf,hl1,hl2⟩:=hg.left _ hmem
         have hrtp:=hrt _ hmem
         have hrl:=hg.rlen _ hmem
         have hst:(g.prods.take (i+1)).foldl (ezS nl Z k) 0=ezS nl Z k ((g.prods.take i).foldl (ezS nl Z k) 0) g.prods[i]:=by
          rw[List.take_add_one,ge_ hi,Option.toList_some,qgw]
         generalize hp:g.prods[i]=p at *
         have hgp:g.prods[i]?=some p:=by rw[ge_ hi,hp]
         have hpm:p∈g.prods:=hp ▸ List.getElem_mem hi
         clear hp
         obtain ⟨pl,pr,pc,pco,pa,pat⟩:=p
         dsimp only at hl1 hrtp hrl
         subst hl1
         generalize (g.prods.take i).foldl (ezS nl Z k) 0=m at *
         have hfit:=yN (cs:=emC g n nl (.sl 1 false (ivs (xW n sz1))) (.sl 1 false (yB n op1)) cy) (p:={left:=lf,right:=pr,prec:=pc,code:=pco,args:=pa,at_:=pat}) (h:=nl) (n:=n) rfl hrtp (by dsimp only;omega) o_
         dsimp only at hfit
         by_cases hlk:(lf:Int)=(k:Int)
         · by_cases hft:qR false nl pr=true
           · rw [hft] at hfit
             by_cases hm0:m<0
             · have e:ezS nl Z k m {left:=lf,right:=pr,prec:=pc,code:=pco,args:=pa,at_:=pat}=m:=by unfold ezS;rw[if_neg (fun q=>by omega)]
               rw[e]at hst
               repeat' with_reducible first
                |refine s_ ?_
                |simp -implicitDefEqProofs only[wZZ,seval,g0,g1,g58,g59,g5,g60,hz]
                |(first|apply qa|apply qj|apply qx)<;>intro h h_<;>(try simp only[wD,reduceCtorEq]at h_)<;>(try exact wb_)<;>(try simp only[h])
                |refine t_ ?_
                |apply qW (hp:=hfit);exact(hO.mono (Nat.le_refl _) (fun j hj=>hh_)).er;exact qg;exact wu_;exact Flat.bool _
                |simp -implicitDefEqProofs (disch:=omega) only[w64,if_neg]
               refine⟨wg_,i+1,o_,?_⟩;(repeat refine⟨True.intro,?_⟩)
               exact⟨by rw[hst],rfl,o_,⟨sz1,op1,hO.mono wg_ (fun j hj=>hh_),hJ1,hop1⟩,wg_,fun j h1 h2 h3=>by((try simp only[wM]);(repeat first|rw[if_pos trivial]|rw[if_pos rfl]|rw[if_neg o_]));exact k1_3 j h1 h2 h3⟩
             · have hm1:0≤m:=o_
               have hsu: ∀s∈pr,∃j:Nat,s=1000+(j:Int)∧j<n∧Edge (relE g.prods nl) n k j:=fun s hs=>by
                obtain ⟨j,e1,e2,_,e3⟩:=JW hrt hk hpm hlk hft hs
                exact⟨j,e1,e2,e3⟩
               repeat' with_reducible first
                |refine s_ ?_
                |simp -implicitDefEqProofs only[wZZ,seval,g0,g1,g58,g59,g5,g60,hz]
                |(first|apply qa|apply qj|apply qx)<;>intro h h_<;>(try simp only[wD,reduceCtorEq]at h_)<;>(try exact wb_)<;>(try simp only[h])
                |refine t_ ?_
                |apply qW (hp:=hfit);exact(hO.mono (Nat.le_refl _) (fun j hj=>hh_)).er;exact qg;exact wu_;exact Flat.bool _
               refine qb ?nx2 (fun(r:Nat) s=>s.f 0=?v2_0∧s.f 1=?v2_1∧s.f 5=?v2_5∧s.f 58=?v2_58∧s.f 59=?v2_59∧s.f 60=?v2_60∧s.f 79=?v2_79∧s.f 80=?v2_80∧s.f 8=vi (ezP Z (pr.take r))∧s.f 81=vi r∧(r≤pr.length)∧((∃sz1 op1,OAt s.H s.next ei zi oi g n nl cy sz1 op1∧EJ n Z (fun x=>Q x∨x=k) sz1 op1∧ ∀x,qM op k true x=true→op1 x=true))∧(next≤s.next)∧((∀j,j<next→j≠zi→j≠oi→s.H j=H j))) (fun r=>pr.length - r) (0) wj_ (by refine⟨?_,?_,?_,?_,?_,?_,?_,?_,?_,?_,wo_,(by(exact⟨sz1,op1,hO.mono wg_ (fun j hj=>hh_),hJ1,hop1⟩)),wg_,(by(intro j h1 h2 h3;((try simp only[wM]);(repeat first|rw[if_pos trivial]|rw[if_pos rfl]|rw[if_neg o_]));exact k1_3 j h1 h2 h3))⟩<;>first|(simp -implicitDefEqProofs only[wL,wM,wN,wX,seval,Option.some.injEq,g0,g1,g58,g59,g5,g60]<;>exact wt_)|rfl|exact⟨_,rfl⟩) ?_
               intro r s hnx ⟨g0,g1,g5,g58,g59,g60,g79,g80,g8,g81,k2_0,k2_1,k2_2,k2_3⟩
               obtain ⟨sz2,op2,hO2,hJ2,hop2⟩:=k2_1
               have hzr:=w1_ r
               have hnr:=qkP hZr pr r
               by_cases hr:r<pr.length
               · have hgr:pr[r]?=some pr[r]:=ge_ hr
                 obtain ⟨jj,hs1,hs2,hs3⟩:=hsu _ (List.getElem_mem hr)
                 have hsn:=qb3 Z (pr.take r) pr[r]
                 rw[show pr.take r++[pr[r]]=pr.take (r+1) by rw[List.take_add_one,hgr];rfl,hs1,show (1000+(jj:Int) - 1000).toNat=jj by omega]at hsn
                 generalize pr[r]=x at *
                 subst hs1
                 generalize ezP Z (pr.take r)=nn at *
                 have hzx:IntKind.i64.wrap (1000+(jj:Int) - 1000)=(jj:Int):=by rw[wrap64 o_ o_];omega
                 have hzj:=hZr jj
                 have hzn:IntKind.i64.wrap (nn+Z jj)=nn+Z jj:=wrap64 o_ o_
                 have hrec:=fun H next W=>IH _ (hlt op2 hop2) H next jj (fun x=>Q x∨x=k) sz2 op2 hs2 (Nat.le_refl _) W hJ2 (fun q hq=>hQ2 q hq jj hs3)
                 have hfin: ∀{v:Int} {H':Nat→Option MObj} {N:Nat} {sz3:Nat→Int} {op3:Nat→Bool},True:=trivial
                 by_cases hneg:Z jj<0
                 · rw[if_pos hneg]at hsn
                   repeat' with_reducible first
                    |refine s_ ?_
                    |simp -implicitDefEqProofs only[wZZ,seval,g0,g1,g5,g58,g59,g60,g79,g80,g8,g81,hzr,hzx]
                    |apply qa<;>intro h h_<;>(try simp only[wD,reduceCtorEq]at h_)<;>(try exact wb_)<;>(try simp only[h])
                    |refine t_ ?_
                    |(refine qI rfl rfl rfl ((hrec _ _ (hO2.mono wg_ (fun j hj=>hh_))).mono ?_);rintro v1 H1 n1 ⟨rfl,q1,⟨sz3,op3,hO3,hJ3,q2,q3⟩,q4⟩;(try simp only[wN]at q1);(try simp only[wM,wN]at q4))
                   refine⟨wg_,r+1,o_,?_⟩;(repeat refine⟨True.intro,?_⟩)
                   exact⟨by rw[hsn],rfl,o_,⟨sz3,op3,hO3.mono wg_ (fun j hj=>hh_),hJ3,fun x hx=>q2 x (hop2 x hx)⟩,wg_,fun j h1 h2 h3=>by((try simp only[wM]);(repeat first|rw[if_pos trivial]|rw[if_pos rfl]|rw[if_neg o_]));rw[q4 j o_ h2 h3];exact k2_3 j h1 h2 h3⟩
                 · rw [if_neg hneg]at hsn
                   by_cases hpos:0<nn
                   · rw[if_pos hpos]at hsn
                     repeat' with_reducible first
                      |refine s_ ?_
                      |simp -implicitDefEqProofs only[wZZ,seval,g0,g1,g5,g58,g59,g60,g79,g80,g8,g81,hzr,hzx,hzn]
                      |apply qa<;>intro h h_<;>(try simp only[wD,reduceCtorEq]at h_)<;>(try exact wb_)<;>(try simp only[h])
                      |refine t_ ?_
                      |(refine qI rfl rfl rfl ((hrec _ _ (hO2.mono wg_ (fun j hj=>hh_))).mono ?_);rintro v1 H1 n1 ⟨rfl,q1,⟨sz3,op3,hO3,hJ3,q2,q3⟩,q4⟩;(try simp only[wN]at q1);(try simp only[wM,wN]at q4))
                     refine⟨wg_,r+1,o_,?_⟩;(repeat refine⟨True.intro,?_⟩)
                     exact⟨by rw[hsn],rfl,o_,⟨sz3,op3,hO3.mono wg_ (fun j hj=>hh_),hJ3,fun x hx=>q2 x (hop2 x hx)⟩,wg_,fun j h1 h2 h3=>by((try simp only[wM]);(repeat first|rw[if_pos trivial]|rw[if_pos rfl]|rw[if_neg o_]));rw[q4 j o_ h2 h3];exact k2_3 j h1 h2 h3⟩
                   · rw[if_neg hpos]at hsn
                     repeat' with_reducible first
                      |refine s_ ?_
                      |simp -implicitDefEqProofs only[wZZ,seval,g0,g1,g5,g58,g59,g60,g79,g80,g8,g81,hzr,hzx,hzn]
                      |apply qa<;>intro h h_<;>(try simp only[wD,reduceCtorEq]at h_)<;>(try exact wb_)<;>(try simp only[h])
                      |refine t_ ?_
                      |(refine qI rfl rfl rfl ((hrec _ _ (hO2.mono wg_ (fun j hj=>hh_))).mono ?_);rintro v1 H1 n1 ⟨rfl,q1,⟨sz3,op3,hO3,hJ3,q2,q3⟩,q4⟩;(try simp only[wN]at q1);(try simp only[wM,wN]at q4))
                     refine⟨wg_,r+1,o_,?_⟩;(repeat refine⟨True.intro,?_⟩)
                     exact⟨by rw[hsn],rfl,o_,⟨sz3,op3,hO3.mono wg_ (fun j hj=>hh_),hJ3,fun x hx=>q2 x (hop2 x hx)⟩,wg_,fun j h1 h2 h3=>by((try simp only[wM]);(repeat first|rw[if_pos trivial]|rw[if_pos rfl]|rw[if_neg o_]));rw[q4 j o_ h2 h3];exact k2_3 j h1 h2 h3⟩
               · have er:pr.take r=pr:=List.take_of_length_le o_
                 rw[er]at g8 hnr
                 have e:ezS nl Z k m {left:=lf,right:=pr,prec:=pc,code:=pco,args:=pa,at_:=pat}=if ezP Z pr<0∨3000<ezP Z pr then -1 else max m (ezP Z pr):=by unfold ezS;rw[if_pos ⟨hlk,hft,hm1⟩]
                 rw[e]at hst
                 generalize ezP Z pr=nn at *
                 by_cases hb:nn<0∨3000<nn
                 · rw [if_pos hb]at hst
                   rcases hb with hb|hb
                   · repeat' with_reducible first
                      |refine s_ ?_
                      |simp -implicitDefEqProofs only[wZZ,seval,g0,g1,g5,g58,g59,g60,g79,g80,g8,g81,hz]
                      |(first|apply qa|apply qj|apply qx)<;>intro h h_<;>(try simp only[wD,reduceCtorEq]at h_)<;>(try exact wb_)<;>(try simp only[h])
                     refine⟨wg_,i+1,o_,?_⟩;(repeat refine⟨True.intro,?_⟩)
                     exact⟨by rw[hst],rfl,o_,⟨sz2,op2,hO2.mono wg_ (fun j hj=>hh_),hJ2,hop2⟩,wg_,fun j h1 h2 h3=>by((try simp only[wM]);(repeat first|rw[if_pos trivial]|rw[if_pos rfl]|rw[if_neg o_]));exact k2_3 j h1 h2 h3⟩
                   · repeat' with_reducible first
                      |refine s_ ?_
                      |simp -implicitDefEqProofs only[wZZ,seval,g0,g1,g5,g58,g59,g60,g79,g80,g8,g81,hz]
                      |(first|apply qa|apply qj|apply qx)<;>intro h h_<;>(try simp only[wD,reduceCtorEq]at h_)<;>(try exact wb_)<;>(try simp only[h])
                     refine⟨wg_,i+1,o_,?_⟩;(repeat refine⟨True.intro,?_⟩)
                     exact⟨by rw[hst],rfl,o_,⟨sz2,op2,hO2.mono wg_ (fun j hj=>hh_),hJ2,hop2⟩,wg_,fun j h1 h2 h3=>by((try simp only[wM]);(repeat first|rw[if_pos trivial]|rw[if_pos rfl]|rw[if_neg o_]));exact k2_3 j h1 h2 h3⟩
                 · rw[if_neg hb]at hst
                   repeat' with_reducible first
                    |refine s_ ?_
                    |simp -implicitDefEqProofs only[wZZ,seval,g0,g1,g5,g58,g59,g60,g79,g80,g8,g81,hz]
                    |(first|apply qa|apply qj|apply qx)<;>intro h h_<;>(try simp only[wD,reduceCtorEq]at h_)<;>(try exact wb_)<;>(try simp only[h])
                    |(simp only[qa0,qIN])
                   refine⟨wg_,i+1,o_,?_⟩;(repeat refine⟨True.intro,?_⟩)
                   exact⟨by rw[hst],rfl,o_,⟨sz2,op2,hO2.mono wg_ (fun j hj=>hh_),hJ2,hop2⟩,wg_,fun j h1 h2 h3=>by((try simp only[wM]);(repeat first|rw[if_pos trivial]|rw[if_pos rfl]|rw[if_neg o_]));exact k2_3 j h1 h2 h3⟩
           · skip
             have hft':qR false nl pr=false:=by simpa using hft
             rw[hft']at hfit
             have e:ezS nl Z k m {left:=lf,right:=pr,prec:=pc,code:=pco,args:=pa,at_:=pat}=m:=by unfold ezS;rw[if_neg (fun q=>hft q.2.1)]
             rw[e]at hst
             repeat' with_reducible first
              |refine s_ ?_
              |simp -implicitDefEqProofs only[wZZ,seval,g0,g1,g58,g59,g5,g60,hz]
              |(first|apply qa|apply qj|apply qx)<;>intro h h_<;>(try simp only[wD,reduceCtorEq]at h_)<;>(try exact wb_)<;>(try simp only[h])
              |refine t_ ?_
              |apply qW (hp:=hfit);exact(hO.mono (Nat.le_refl _) (fun j hj=>hh_)).er;exact qg;exact wu_;exact Flat.bool _
              |simp -implicitDefEqProofs (disch:=omega) only[w64,if_neg]
             refine⟨wg_,i+1,o_,?_⟩;(repeat refine⟨True.intro,?_⟩)
             exact⟨by rw[hst],rfl,o_,⟨sz1,op1,hO.mono wg_ (fun j hj=>hh_),hJ1,hop1⟩,wg_,fun j h1 h2 h3=>by((try simp only[wM]);(repeat first|rw[if_pos trivial]|rw[if_pos rfl]|rw[if_neg o_]));exact k1_3 j h1 h2 h3⟩
         · have e:ezS nl Z k m {left:=lf,right:=pr,prec:=pc,code:=pco,args:=pa,at_:=pat}=m:=by unfold ezS;rw[if_neg (fun q=>hlk q.1)]
           rw[e]at hst
           repeat' with_reducible first
            |refine s_ ?_
            |simp -implicitDefEqProofs only[wZZ,seval,g0,g1,g58,g59,g5,g60,hz]
            |(first|apply qa|apply qj|apply qx)<;>intro h h_<;>(try simp only[wD,reduceCtorEq]at h_)<;>(try exact wb_)<;>(try simp only[h])
            |refine t_ ?_
            |simp -implicitDefEqProofs (disch:=omega) only[w64,if_neg]
           refine⟨wg_,i+1,o_,?_⟩;(repeat refine⟨True.intro,?_⟩)
           exact⟨by rw[hst],rfl,o_,⟨sz1,op1,hO.mono wg_ (fun j hj=>hh_),hJ1,hop1⟩,wg_,fun j h1 h2 h3=>by((try simp only[wM]);(repeat first|rw[if_pos trivial]|rw[if_pos rfl]|rw[if_neg o_]));exact k1_3 j h1 h2 h3⟩
       · have ei:g.prods.take i=g.prods:=List.take_of_length_le o_
         rw[ei]at g5
         have hZm:g.prods.foldl (ezS nl Z k) 0=Z k:=by
          rw[hZk];unfold ezF;rw[if_neg (by rw[hh];decide),if_neg (by rw[hc'];decide)]
         rw[hZm]at g5
         repeat' with_reducible first
          |refine s_ ?_
          |simp -implicitDefEqProofs only[wZZ,seval,g0,g1,g58,g59,g5,g60,hO.e,f1,f2,f3,f4]
          |apply qa<;>intro h h_<;>(try simp only[wD,reduceCtorEq]at h_)<;>(try exact wb_)<;>(try simp only[h])
          |apply zm;omega;omega
          |(refine stI k (l:=sz1) (by first|exact hO.z|(((try simp only[wM]);(repeat first|rw[if_pos trivial]|rw[if_pos rfl]|rw[if_neg o_]));exact hO.z)) o_ hk ?_)
          |refine t_ ?_
         exact yt (t:=4) rfl (Or.inr rfl) ⟨by(simp -implicitDefEqProofs only[wL,seval]),wg_,⟨_,op1,⟨by((try simp only[wM]);(repeat first|rw[if_pos trivial]|rw[if_pos rfl]|rw[if_neg o_]));exact hO.e,hh_,by((try simp only[wM]);(repeat first|rw[if_pos trivial]|rw[if_pos rfl]|rw[if_neg o_]));exact hO.o,by have:=hO.l1;((try simp only[wN])<;>omega),by have:=hO.l2;((try simp only[wN])<;>omega),by have:=hO.l3;((try simp only[wN])<;>omega)⟩,hJ1.fin rfl,fun x hx=>hop1 x (by unfold qM;split;rfl;exact hx),fun _=>hop1 k hopk⟩,fun j h1 h2 h3=>by((try simp only[wM]);(repeat first|rw[if_pos trivial]|rw[if_pos rfl]|rw[if_neg o_]));exact k1_3 j h1 h2 h3⟩
   · skip
     have hh':nl k=false:=by simpa using hh
     have hZ0:Z k=0:=by
      rw[hZk];unfold ezF;rw[if_pos hh']
     have hv:=hJ.un k hk hop'
     rw[hv]at hgz
     repeat' with_reducible first
      |refine s_ ?_
      |simp -implicitDefEqProofs only[wZZ,seval,he,ho0,hz0,hop',hh']
      |apply zm;omega;omega
      |(refine ldB hk ?_)
      |(apply ji (kQ o_ (by with_unfolding_all exact hgh)))
      |apply j4;exact wd_;exact wu_
      |refine t_ ?_
     exact yt (t:=4) rfl (Or.inr rfl) ⟨by(simp -implicitDefEqProofs only[wL,seval]);rw[hZ0],wg_,⟨sz,op,hA.mono wg_ (fun j _=>hh_),hJ,fun x h=>h,fun e=>by rw[hh']at e;cases e⟩,fun j h1 h2 h3=>hh_⟩
theorem qEf {ei zi oi n:Nat} {g:Grammar} {h cy:Nat→Bool} {Z:Nat→Int} (hg:GOk g) (hn:n=g.nons.length) (hcy:Jg g.prods n h cy) (hZ: ∀x,x<n→Z x=ezF g.prods h cy Z x) (hZr: ∀x,-1≤Z x∧Z x≤3000) (hD:OD ei zi oi) (f:Nat):OfC f ei zi oi g n h cy Z:=
 Nat.strongRecOn f fun f IH H next k Q sz op hk hf hA hJ hQ=>qk3 hg hn hcy hZ hZr hD IH hk hf hA hJ hQ
end Go.Proofs
