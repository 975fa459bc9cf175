/- Part of a proof that a law of the given program answers true. -/
import Derived.Test.YthgkeppkcjcmjaaTNB
import Derived.Test.YthgkeppkcjcmjaaTYC
import Derived.Test.YthgkeppkcjcmjaaTNE
import Derived.Test.YthgkeppkcjcmjaaTNG
import Derived.Test.YthgkeppkcjcmjaaTNL
import Derived.Test.YthgkeppkcjcmjaaTRB
import Derived.Test.YthgkeppkcjcmjaaTDE
set_option linter.unusedSimpArgs false
set_option linter.unusedVariables false
set_option maxHeartbeats 8000000
namespace Go.Proofs
open Go.E
theorem JV {n:Int}:Pure Try.prog 36 [vi n] (vi (n % 4000)):=by
 refine pure_intro Try.func36 nm_ qvo (by show 1≤5;decide) ?_
 show ewp _ qyY _ _
 have hw:=jU (i:=n) (n:=4000) o_ o_
 repeat' with_reducible first
  |refine s_ ?_
  |simp only[wZZ,seval]
  |refine cq2 hw qc qc ?_
 all_goals refine qA rfl (Or.inr rfl) ?_
 all_goals(try simp only[wL,seval])
 all_goals refine er_ ?_
 all_goals(try(with_reducible rfl))
abbrev lV (p:Bool×List Int):V:= .sl 1 p.1 (p.2.map (V.int .i64))
theorem qdw {b:Bool} {H:Nat→Option MObj} {c:Bool}: ∀{l:List Int},Er b H (.sl 1 c (l.map (V.int .i64))) (.sl 1 false (l.map (V.int .i64))):=by
 intro l
 refine ErL.sl ?_
 induction l with
 |nil=>exact .nil
 |cons x l ih=>exact .cons (.int _ _) ih
theorem qho {c:Bool} {l:List Int} {ra:Nat} (h:ra≤l.length):jZ 1 (lV (c,l)) none (some (vi ra)) none=some (lV (c && decide (ra=l.length),l.take ra)):=by
 simp[jZ,jr,idxOf,h,List.map_take]
theorem qe6 {g:Grammar} {l:List Int} {k ra:Nat} {p0:GPr} {t:Nd} {d:Nat} (hg:GOk g) (h0:g.prods[0]?=some p0) (hk:p0.right=[1000+(k:Int)]) (ht:xE g (qNV g.toks.length l) d (1000+(k:Int)) 0 ra t):qcF g t.prs t.yld=if t.size≤3000 then some t else none:=by
 have hb:=qci hg d ht 3001 3000 [] [] o_ rfl
 rw[List.nil_append,List.nil_append]at hb
 have hs0:qFF g=1000+(k:Int):=by unfold qFF;rw[h0,Option.bind_some,hk];rfl
 unfold qcF
 rw[hs0,hb]
 by_cases h:t.size≤3000
 · rw[if_pos h,if_pos h]
 · rw[if_neg h,if_neg h]
theorem qEC {s0:St} {g:Grammar} {m:List Sta} {A:List (List (Int×Int))} {G:List (List Int)} {steps:Int} {o9 o10 o13:Nat} {Ls:List (Bool×List Int)} {Q:Exit→St→Prop} (hg:GOk g) (hM:MOk g m) (hG:MGo g m) (hT:TabOk g m A G) (hE: ∀l dp sp,RunE g l (qgm g A G l dp sp))
 (f3:s0.f 3=vi steps) (f9:s0.f 9=.ptr o9 0 0) (f10:s0.f 10=.ptr o10 0 0) (f13:s0.f 13=.msl o13 1 0 2) (h9:s0.H o9=some (.own 5 [g.V] false)) (h10:s0.H o10=some (.own 2 [qqy A G] false)) (h13:s0.H o13=some (.own 1 (Ls.map lV) false)) (n9:o9<s0.next) (n10:o10<s0.next) (n13:o13<s0.next) (hl:Ls.length=2) (hls: ∀p∈Ls,p.2.length≤1000000)
 (hQ: ∀s',s'.f 8=.bool true→Q .ret s'):ewp Try.prog qcO Q s0:=by
 repeat' with_reducible first
  |refine s_ ?_
  |simp only[wZZ,seval,f3,f9,f10,f13]
 refine qb ?nx1 (fun(i:Nat) s=>s.f 3=?v1_3∧s.f 9=?v1_9∧s.f 10=?v1_10∧s.f 13=?v1_13∧s.f 19=vi i∧(i≤2)∧((s.H o9=some (.own 5 [g.V] false)))∧((s.H o10=some (.own 2 [qqy A G] false)))∧((s.H o13=some (.own 1 (Ls.map lV) false)))) (fun i=>2 - i) (0) wj_ (by refine⟨?_,?_,?_,?_,?_,wo_,(by(simp only[wM];(repeat first|rw[if_pos trivial]|rw[if_pos rfl]|rw[if_neg o_]));exact h9),(by(simp only[wM];(repeat first|rw[if_pos trivial]|rw[if_pos rfl]|rw[if_neg o_]));exact h10),(by(simp only[wM];(repeat first|rw[if_pos trivial]|rw[if_pos rfl]|rw[if_neg o_]));exact h13)⟩<;>first|(simp only[wL,wM,wN,wX,seval,Option.some.injEq]<;>exact wt_)|rfl|exact⟨_,rfl⟩) ?_
 intro i s hnx ⟨g3,g9,g10,g13,g19,k1_0,k1_1,k1_2,k1_3⟩
 have hz:=w1_ i
 by_cases hi:i<2
 · have hgi:Ls[i]?=some Ls[i]:=ge_ o_
   have hLl:=hls _ (List.getElem_mem (show i<Ls.length by omega))
   generalize Ls[i]=p at *
   obtain ⟨c,l⟩:=p
   dsimp only at hLl
   have rE:=hE l 4000 (jK (steps % 4000) 1000000)
   have r1:=QS (l:=l) (depth:=4000) (steps:=steps % 4000) hg hM hG hT hLl
   rw[show jK 4000 100000=4000 from rfl]at r1
   have q1:=qgu (g:=g) (A:=A) (G:=G) (l:=l) (dp:=4000) (VB (steps % 4000) 1000000)
   generalize qgm g A G l 4000 (jK (steps % 4000) 1000000)=R at *
   have hlim:=JV (n:=steps)
   obtain ⟨rk,ra,rs,rd,rp⟩:=R
   obtain ⟨e1,e2,e3,e4⟩:=rE
   dsimp only at e1 e2 e3 e4 q1
   have hz2:IntKind.i64.wrap ((ra:Int)+(rp.length:Int))=(rs:Int):=by rw[wrap64 o_ o_];omega
   by_cases hk:rk=1
   · subst hk
     obtain ⟨e5,k,p0,t,d,hp0,hpk,hT2,hpr,hyl,hsz⟩:=e4 rfl
     clear e4
     have hbr:=qe6 hg hp0 hpk hT2
     rw[hpr,hyl]at hbr
     have hbc:=qdB (P:=rp) (T:=l.take ra) hg o_ (by rw[List.length_take];omega)
     rw[hbr,hsz]at hbc
     have hwt:=(X7 (fun i s h=>h.2) d hT2).1
     have hkV:t.V=.agg [vi t.sym,vi t.prod,vi t.at_,.sl 4 false (t.kids.map Nd.V)]:=by obtain ⟨e1,e2,e3,e4⟩:=t;rw[Nd.V_mk]
     have hsl:=qho (c:=c) e1
     have hdec:decide ((rs:Int)≤3000)=decide (rs≤3000):=by rw[Bool.eq_iff_iff,decide_eq_true_eq,decide_eq_true_eq];omega
     by_cases h3:rs≤3000
     · rw[if_pos h3]at hbc
       rw[decide_eq_true h3]at hdec
       change Pure Try.prog 37 _ (.tup [t.V,.bool true])at hbc
       have c1:=qgY (t:=t) hg o_
       rw[show t.jM g 3000=true by unfold Nd.jM;rw[hwt,decide_eq_true o_];rfl]at c1
       have c2:=qc7 (t:=t) o_
       rw[hyl]at c2
       have c3:=qcS (t:=t) o_
       rw[hpr]at c3
       have c4:=KA _ t (Nat.le_refl _) o_
       rw[hsz]at c4
       have c5:=jX (a:=l.take ra) (b:=l.take ra) (by rw[List.length_take];omega) (by rw[List.length_take];omega)
       have c6:=jX (a:=rp) (b:=rp) o_ o_
       rw[decide_eq_true rfl]at c5 c6
       simp only[hkV]at hbc c1 c2 c3 c4
       repeat' with_reducible first
        |refine s_ ?_
        |simp only[wZZ,seval,g3,g9,g10,g13,g19,f3,f9,f10,f13,k1_1,k1_2,k1_3,hz,hz2,hdec]
        |(first|apply qa|apply qg|apply qh)<;>intro h h_<;>(try simp only[wD,reduceCtorEq]at h_)<;>(try exact wb_)<;>(try simp only[h])
        |apply zm;omega;omega
        |(refine QI (f:=lV) (x:=(c,l)) hgi rfl ?_)
        |refine cq1 hlim qc ?_
        |refine cq5 r1 qc qc qdw qc qc ?_
        |(refine JL hsl ?_)
        |apply Qm (hp:=hbc);exact qc;exact qc;(focus(first|exact qdw|exact qc|exact ZW))
        |apply JD;omega;with_unfolding_all exact e5 o_
        |refine cq2 c1 qc qc ?_
        |refine cq1 c2 qc ?_
        |refine cq1 c3 qc ?_
        |refine cq1 c4 qc ?_
        |apply kM (hp:=c5);exact qc;(focus(first|exact qdw|exact qc))
        |refine cq2 c6 qc qc ?_
        |refine t_ ?_
        |simp(disch:=omega) only[w64,if_neg]
       all_goals exact⟨wg_,i+1,o_,trivial,trivial,trivial,trivial,rfl,o_,trivial,trivial,trivial⟩
     · rw[if_neg h3]at hbc
       rw[decide_eq_false h3]at hdec
       change Pure Try.prog 37 _ (.tup [(Nd.mk 0 0 0 []).V,.bool false])at hbc
       rw[Nd.V_mk]at hbc
       repeat' with_reducible first
        |refine s_ ?_
        |simp only[wZZ,seval,g3,g9,g10,g13,g19,f3,f9,f10,f13,k1_1,k1_2,k1_3,hz,hz2,hdec]
        |(first|apply qa|apply qg|apply qh)<;>intro h h_<;>(try simp only[wD,reduceCtorEq]at h_)<;>(try exact wb_)<;>(try simp only[h])
        |apply zm;omega;omega
        |(refine QI (f:=lV) (x:=(c,l)) hgi rfl ?_)
        |refine cq1 hlim qc ?_
        |refine cq5 r1 qc qc qdw qc qc ?_
        |(refine JL hsl ?_)
        |apply Qm (hp:=hbc);exact qc;exact qc;(focus(first|exact qdw|exact qc|exact ZW))
        |apply JD;omega;with_unfolding_all exact e5 o_
        |refine t_ ?_
        |simp(disch:=omega) only[w64,if_neg]
       all_goals exact⟨wg_,i+1,o_,trivial,trivial,trivial,trivial,rfl,o_,trivial,trivial,trivial⟩
   · clear e4
     repeat' with_reducible first
      |refine s_ ?_
      |simp only[wZZ,seval,g3,g9,g10,g13,g19,f3,f9,f10,f13,k1_1,k1_2,k1_3,hz,hz2]
      |(first|apply qa|apply qg|apply qh)<;>intro h h_<;>(try simp only[wD,reduceCtorEq]at h_)<;>(try exact wb_)<;>(try simp only[h])
      |apply zm;omega;omega
      |(refine QI (f:=lV) (x:=(c,l)) hgi rfl ?_)
      |refine cq1 hlim qc ?_
      |refine cq5 r1 qc qc qdw qc qc ?_
      |refine t_ ?_
      |simp(disch:=omega) only[w64,if_neg]
     all_goals exact⟨wg_,i+1,o_,trivial,trivial,trivial,trivial,rfl,o_,trivial,trivial,trivial⟩
 · repeat' with_reducible first
    |refine s_ ?_
    |simp only[wZZ,seval,g3,g9,g10,g13,g19,f3,f9,f10,f13]
    |apply qa<;>intro h h_<;>(try simp only[wD,reduceCtorEq]at h_)<;>(try exact wb_)<;>(try simp only[h])
   exact hQ _ l_
theorem kJ {y:Source} {w q:List Int} {steps:Int} (hy:y.Fits) (hw:w.length≤1099511627776) (hq:q.length≤1099511627776):Pure Try.prog 10 [y.V,.sl 1 false (w.map (V.int .i64)),.sl 1 false (q.map (V.int .i64)),vi steps] (.bool true):=by
 refine pure_intro Try.func10 nm_ qJz (by show 4≤175;decide) ?_
 show ewp _ qjQ _ _
 have W61:= @qEC
 show ewp _ (.seq (.reg qH1) (.seq qwc (.seq (.reg qtN) (.seq qih (.seq (.reg qit) (.seq qij qcO)))))) _ _
 generalize qcO=E61 at W61 ⊢
 have hwk:=JM
 have hcut:=VE hy
 have hf:=qf1 y
 have hS:=qdc y
 generalize qen y=src at *
 have hE: ∃E,jB src=true→IsGrow (qL src) false E:=by
  cases hb:jB src with
  |false=>exact⟨fun _=>false,fun h=>(by cases h)⟩
  | true=>
    obtain ⟨_,hg,_⟩:=xY hb
    obtain ⟨E,hE,_⟩:=yc hg
    exact⟨E,fun _=>hE⟩
 obtain ⟨E,hE⟩:=hE
 have hde:=vv hf hS hE
 have hmk:= @xY src
 have htb:= @qfC src E
 have hrn:= @qcT src E
 cases hb:jB src with
 | false=>
   rw[hb]at hde
   clear htb hmk hrn
   generalize qg6 (Qu src E)=rw_ at *
   generalize Vx src E=A at *
   generalize qaS src=G at *
   generalize qL src=g at *
   repeat' with_reducible first
    |refine s_ ?_
    |simp only[wZZ,seval]
    |refine cq0 hwk ?_
    |refine cq1 hcut (j3 y) ?_
    |refine cq1 hde (j3 src) ?_
    |refine t_ ?_
   all_goals refine qA rfl (Or.inr rfl) ?_
   all_goals(try simp only[wL,seval])
   all_goals refine er_ ?_
   all_goals(try(with_reducible rfl))
 | true=>
   rw[hb]at hde
   obtain ⟨_,hg,hM,hG⟩:=hmk hb
   have hT:=htb hb
   have hrun:=hrn hb
   clear htb hmk hrn
   generalize qg6 (Qu src E)=rw_ at *
   generalize Vx src E=A at *
   generalize qaS src=G at *
   generalize zn src=m at *
   generalize qL src=g at *
   have htk:=hg.tk2
   obtain ⟨p0,r0,hpr,_,k,hpk,hkn⟩:=hg.head
   have hto:=Yg (g:=g) (l:=w) (n:=40) o_ o_ hw
   have hin1:=Qn (l:=q) (n:=12) hq o_
   simp only[Int.cast_ofNat_Int]at hto hin1
   have hl1:(Jo g w 40).length≤1000000:=by unfold Jo;rw[List.length_map,List.length_take];omega
   have hl2:(XJ q 12).length≤1099511627776:=by unfold XJ;split<;>(try rw[List.length_take])<;>omega
   generalize Jo g w 40=a at *
   generalize XJ q 12=Q1 at *
   obtain ⟨_,⟨t,ok,rfl,ht⟩,pg⟩:=qoo (P:=Q1) hg hl2 ⟨p0,r0,hpr,hpk⟩ hkn
   have hkV:t.V=.agg [vi t.sym,vi t.prod,vi t.at_,.sl 4 false (t.kids.map Nd.V)]:=by obtain ⟨e1,e2,e3,e4⟩:=t;rw[Nd.V_mk]
   simp only[hkV]at pg
   cases ok with
   | false=>
     clear ht
     repeat' with_reducible first
      |refine s_ ?_
      |simp only[wZZ,seval]
      |refine cq0 hwk ?_
      |refine cq1 hcut (j3 y) ?_
      |refine cq1 hde (j3 src) ?_
      |refine t_ ?_
      |refine cq3 hto qc qc qc ?_
      |refine cq2 hin1 qc qc ?_
      |refine cq2 pg qc qc ?_
     refine W61 (steps:=steps) (Ls:=[(false,a),(true,[])]) (o9:=12) (o10:=13) (o13:=23) hg hM hG hT hrun l_ l_ l_ l_ hh_ hh_ (by((try simp only[wM]);(repeat first|rw[if_pos trivial]|rw[if_pos rfl]|rw[if_neg o_]));rfl) wg_ wg_ wg_ rfl (fun p hp=>by simp only[List.mem_cons,List.not_mem_nil,or_false]at hp;rcases hp with rfl|rfl;exact hl1;exact Nat.zero_le _) (fun s' h=>qA (t:=8) rfl (Or.inr rfl) (by rw[h];exact .bool _))
   | true=>
     obtain ⟨ht1,_⟩:=ht rfl
     have htl:=KH _ t (Nat.le_refl _) o_
     have hyl:=Nd.yld_len t
     have hin2:=Qn (l:=t.yld) (n:=200) o_ o_
     simp only[Int.cast_ofNat_Int]at hin2
     have hl3:(XJ t.yld 200).length≤1000000:=by unfold XJ;split<;>(try rw[List.length_take])<;>omega
     simp only[hkV]at htl
     generalize XJ t.yld 200=b at *
     repeat' with_reducible first
      |refine s_ ?_
      |simp only[wZZ,seval]
      |refine cq0 hwk ?_
      |refine cq1 hcut (j3 y) ?_
      |refine cq1 hde (j3 src) ?_
      |refine t_ ?_
      |refine cq3 hto qc qc qc ?_
      |refine cq2 hin1 qc qc ?_
      |refine cq2 pg qc qc ?_
      |refine cq1 htl qc ?_
      |refine cq2 hin2 qc qc ?_
      |apply zm;omega;omega
     refine W61 (steps:=steps) (Ls:=[(false,a),(false,b)]) (o9:=12) (o10:=13) (o13:=23) hg hM hG hT hrun l_ l_ l_ l_ hh_ hh_ (by((try simp only[wM]);(repeat first|rw[if_pos trivial]|rw[if_pos rfl]|rw[if_neg o_]));rfl) wg_ wg_ wg_ rfl (fun p hp=>by simp only[List.mem_cons,List.not_mem_nil,or_false]at hp;rcases hp with rfl|rfl;exact hl1;exact hl3) (fun s' h=>qA (t:=8) rfl (Or.inr rfl) (by rw[h];exact .bool _))
end Go.Proofs
