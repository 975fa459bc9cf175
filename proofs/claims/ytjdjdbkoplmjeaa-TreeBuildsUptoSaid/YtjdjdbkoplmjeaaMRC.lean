/- Part of a proof that a law of the given program answers true. -/
import Derived.Test.YtjdjdbkoplmjeaaMRB
import Derived.Test.YtjdjdbkoplmjeaaMPA
import Derived.Test.YtjdjdbkoplmjeaaMYB
set_option maxRecDepth 20000
set_option linter.unusedSimpArgs false
set_option linter.unusedVariables false
set_option maxHeartbeats 8000000
namespace Go.Proofs
open Go.E
theorem Z5 {g:Grammar} {P T:List Int} (hg:GOk g) (hP:P.length≤1000000000) (hT:T.length≤1000000000):Pure Try.prog 43 [g.V,.sl 1 false (P.map (V.int .i64)),.sl 1 false (T.map (V.int .i64))] (qkl (yZ g P T)):=by
 refine pure_intro Try.func43 nm_ qm3 (by show 3≤51;decide) ?_
 show ewp _ qf0 _ _
 obtain ⟨p0,rest,hpr,_,k,hpk,hkn⟩:=hg.head
 have hgp:g.prods[0]?=some p0:=by rw[hpr];rfl
 have hs0:qrc g=1000+(k:Int):=by unfold qrc;rw[hgp,Option.bind_some,hpk];rfl
 obtain ⟨pl,pr,pc,pco,pa,pat⟩:=p0
 dsimp only at hpk
 subst hpk
 unfold yZ
 rw[hs0]
 have hb:=Vg (W:=T) hg
 cases hr:bld g 3001 (1000+(k:Int)) P T 3000 with
 | none=>
   have IH2: ∀(bi:Nat) (pv:V) (H:Nat→Option MObj) (next:Nat),RIn g T H next bi pv P T 3000→qO Try.prog 63 [.ptr bi 0 0,vi (1000+(k:Int))] H next (fun v H' n'=>next≤n'∧(∀j,j<next→j≠bi→H' j=H j)∧v=.tup [ndZ,.bool false]∧ ∃x,H' bi=some (.own 9 [x] false)):=fun bi pv H next h=>by
    have:=hb bi 3000 H next 3000 pv P T (1000+(k:Int)) (Nat.le_refl _) h
    rw[hr]at this;exact this
   repeat' with_reducible first
    |refine zC ?_
    |simp -implicitDefEqProofs only[wZZ,seval]
    |refine t_ ?_
    |(with_unfolding_all (refine Qx (f:=V.int .i64) (l:=[1000+(k:Int)]) (x:=1000+(k:Int)) o_ rfl ?_))
    |apply Kq;(focus(first|exact qZ.sl|exact qZ.asl|exact qZ.str));exact wf_;(focus(unfold maxLen;first|omega|(simp only[wZ]<;>omega)))
   refine qU rfl rfl rfl ((IH2 _ (.asl 6 P.length 1 (P.map (V.int .i64))) _ _ ⟨by((try simp only[wM]);(repeat first|rw[if_pos trivial]|rw[if_pos rfl]|rw[if_neg o_]));with_unfolding_all rfl,wg_,Or.inl ⟨_,_,rfl⟩,hP,List.prefix_refl _,hT,o_⟩).mono ?_)
   rintro v1 H1 n1' ⟨q1,q2,rfl,xv,q3⟩;(try simp only[wN]at q1)
   have o1:H1 1=some (.own 4 [ndZ] false):=(q2 1 wg_ o_).trans hh_
   repeat' with_reducible first
    |refine s_ ?_
    |simp -implicitDefEqProofs only[wZZ,seval,o1]
    |refine t_ ?_
   exact vJ (t:=6) (u:=7) (id:=1) (n:=4) (ro:=false) (ag:=true) (v:=ndZ) rfl (Or.inr rfl) (by(simp -implicitDefEqProofs only[wL,seval])) hh_ rfl (by(simp -implicitDefEqProofs only[wL,seval])) Zk
 | some q=>
   obtain ⟨t,P2,T2,n2⟩:=q
   have IH2: ∀(bi:Nat) (pv:V) (H:Nat→Option MObj) (next:Nat),RIn g T H next bi pv P T 3000→qO Try.prog 63 [.ptr bi 0 0,vi (1000+(k:Int))] H next (fun v H' n'=>next≤n'∧(∀j,j<next→j≠bi→H' j=H j)∧ ∃tv pv',v=.tup [tv,.bool true]∧zW H' (fun j=>next≤j∧j<n') t tv∧JV pv' P2∧H' bi=some (.own 9 [bdR g pv' T2.length T (3000 - n2:Int)] false)):=fun bi pv H next h=>by
    have:=hb bi 3000 H next 3000 pv P T (1000+(k:Int)) (Nat.le_refl _) h
    rw[hr]at this;exact this
   repeat' with_reducible first
    |refine zC ?_
    |simp -implicitDefEqProofs only[wZZ,seval]
    |refine t_ ?_
    |(with_unfolding_all (refine Qx (f:=V.int .i64) (l:=[1000+(k:Int)]) (x:=1000+(k:Int)) o_ rfl ?_))
    |apply Kq;(focus(first|exact qZ.sl|exact qZ.asl|exact qZ.str));exact wf_;(focus(unfold maxLen;first|omega|(simp only[wZ]<;>omega)))
   refine qU rfl rfl rfl ((IH2 _ (.asl 6 P.length 1 (P.map (V.int .i64))) _ _ ⟨by((try simp only[wM]);(repeat first|rw[if_pos trivial]|rw[if_pos rfl]|rw[if_neg o_]));with_unfolding_all rfl,wg_,Or.inl ⟨_,_,rfl⟩,hP,List.prefix_refl _,hT,o_⟩).mono ?_)
   rintro v1 H1 n1' ⟨q1,q2,tv,pv2,rfl,q3,q5,q4⟩;(try simp only[wN]at q1)
   obtain ⟨kv2,rfl,w1,w2,w3⟩:=q3.shape
   have o1:H1 1=some (.own 4 [ndZ] false):=(q2 1 wg_ o_).trans hh_
   (try simp only[wN]at q3)
   obtain ⟨hv1,hv2,hv3⟩:=q5.ok
   have hvl:=q5.len
   cases P2 with
   | cons x l=>
     have hlen:(x::l).length=l.length+1:=rfl
     repeat' with_reducible first
      |refine s_ ?_
      |simp -implicitDefEqProofs only[wZZ,seval,o1,q4,hvl]
      |(first|apply qh|apply qi)<;>intro h h_<;>(try simp only[wD,reduceCtorEq]at h_)<;>(try exact wb_)<;>(try simp only[h])
      |refine t_ ?_
     all_goals first|(exfalso;omega)|(exact vJ (t:=6) (u:=7) (id:=1) (n:=4) (ro:=false) (ag:=true) (v:=ndZ) rfl (Or.inr rfl) (by(simp -implicitDefEqProofs only[wL,seval])) hh_ rfl (by(simp -implicitDefEqProofs only[wL,seval])) Zk)
   | nil=>
     cases T2 with
     | cons x l=>
       have hlen:(x::l).length=l.length+1:=rfl
       repeat' with_reducible first
        |refine s_ ?_
        |simp -implicitDefEqProofs only[wZZ,seval,o1,q4,hvl]
        |apply qa<;>intro h h_<;>(try simp only[wD,reduceCtorEq]at h_)<;>(try exact wb_)<;>(try simp only[h])
        |refine t_ ?_
       all_goals first|(exfalso;omega)|(exact vJ (t:=6) (u:=7) (id:=1) (n:=4) (ro:=false) (ag:=true) (v:=ndZ) rfl (Or.inr rfl) (by(simp -implicitDefEqProofs only[wL,seval])) hh_ rfl (by(simp -implicitDefEqProofs only[wL,seval])) Zk)
     | nil=>
       repeat' with_reducible first
        |refine s_ ?_
        |simp -implicitDefEqProofs only[wZZ,seval,o1,q4,hvl]
        |refine t_ ?_
       all_goals first|(exfalso;omega)|(exact vJ (t:=6) (u:=7) (id:=1) (n:=4) (ro:=false) (ag:=true) (v:= .agg [vi t.sym,vi t.prod,vi t.at_,kv2]) rfl (Or.inr rfl) (by(simp -implicitDefEqProofs only[wL,seval])) hh_ rfl (by(simp -implicitDefEqProofs only[wL,seval])) (ErL.tup (.cons (zW.er _ _ (zW.mono (S':=fun _=>True) (fun j ⟨a,b⟩=>⟨trivial,hh_⟩) _ _ q3)) (.cons (.bool _) .nil))))

theorem Nd.sizes_rev (l:List Nd):Nd.sizes l.reverse=Nd.sizes l:=by
 induction l with
 |nil=>rfl
 |cons a r ih=>rw[List.reverse_cons,Nd.sizes_snoc,ih,Nd.sizes];omega
theorem VK {f:Int→List Int→List Int→Nat→qgC} (hf: ∀s P T n t P' T' m,f s P T n=some (t,P',T',m)→t.size+m≤n): ∀(l P T:List Int) (n:Nat) ks P' T' m,kS f l P T n=some (ks,P',T',m)→Nd.sizes ks+m≤n
 |[],P,T,n,ks,P',T',m,h=>by rw[kS]at h;cases h;rw[Nd.sizes];omega
 | s ::l,P,T,n,ks,P',T',m,h=>by
   rw[kS]at h
   cases h1:f s P T n with
   |none=>rw[h1]at h;cases h
   | some q=>
     obtain ⟨k,P1,T1,n1⟩:=q
     rw[h1]at h
     dsimp only at h
     cases h2:kS f l P1 T1 n1 with
     |none=>rw[h2]at h;cases h
     | some q=>
       obtain ⟨ks2,P2,T2,n2⟩:=q
       rw[h2]at h
       cases h
       have a:=hf _ _ _ _ _ _ _ _ h1
       have b:=VK hf l P1 T1 n1 _ _ _ _ h2
       rw[Nd.sizes];omega
theorem qaz {g : Grammar}: ∀(d:Nat) s P T n t P' T' m,bld g d s P T n=some (t,P',T',m)→t.size+m≤n
 |0,s,P,T,n,t,P',T',m,h=>by rw[bld]at h;cases h
 | d + 1, s, P,T,n,t,P',T',m,h=>by
   rw[bld]at h
   split at h
   · cases h
   · split at h
     · split at h
       · cases h
       · split at h
         · cases h
           rw[Nd.size,Nd.sizes];omega
         · cases h
     · split at h
       · cases h
       · split at h
         · cases h
         · split at h
           · cases h
           · split at h
             · split at h
               · cases h
               · rename_i h5
                 cases h
                 have:=VK (qaz d) _ _ _ _ _ _ _ _ h5
                 rw[Nd.size,Nd.sizes_rev];omega
             · cases h
theorem KS {g:Grammar} {P T:List Int} {t:Nd} (h:yZ g P T=some t):t.size≤3000:=by
 unfold yZ at h
 split at h
 · rename_i h1;cases h;have:=qaz _ _ _ _ _ _ _ _ _ h1;omega
 · cases h
theorem qX {g:Grammar} {P T:List Int} (hg:GOk g) (hP:P.length≤1000000000) (hT:T.length≤1000000000):Pure Try.prog 21 [g.V,.sl 1 false (P.map (V.int .i64)),.sl 1 false (T.map (V.int .i64))] (.bool true):=by
 refine pure_intro Try.func21 nm_ qwg (by show 3≤33;decide) ?_
 show ewp _ quR _ _
 have h1:=Zj hg hP hT
 have h2:=Z5 hg hP hT
 have key: ∃(t:Nd) (b:Bool),qkl (yZ g P T)=.tup [t.V,.bool b]∧t.size≤3000:=by
  cases h:yZ g P T with
  |none=>exact⟨_,_,rfl,by decide⟩
  |some t=>exact⟨_,_,rfl,KS h⟩
 obtain ⟨t,b,e,hsz⟩:=key
 rw[e]at h1 h2
 have h3:=XR t.size t t (Nat.le_refl _) o_ o_
 rw[(Nd.eqb_iff t t).2 rfl]at h3
 have hkV:t.V=.agg [vi t.sym,vi t.prod,vi t.at_,.sl 4 false (t.kids.map Nd.V)]:=by obtain ⟨q1,q2,q3,q4⟩:=t;rw[Nd.V_mk]
 rw[hkV]at h1 h2 h3
 repeat' with_reducible first
  |refine s_ ?_
  |simp -implicitDefEqProofs only[wZZ,seval]
  |refine cq3 h1 qc qc qc ?_
  |refine cq3 h2 qc qc qc ?_
  |refine cq2 h3 qc qc ?_
  |refine t_ ?_
 all_goals refine qA rfl (Or.inr rfl) ?_
 all_goals(try simp -implicitDefEqProofs only[wL,seval])
 all_goals refine er_ ?_
 all_goals(try(with_reducible rfl))
def qd6 (n:Int) (P:List Int):List Int:=P.map fun x=>x % n
theorem vZ {x:GrI} {P T w:List Int} (hb1:x.rules.length≤1099511627776) (hb2: ∀l∈x.rules,l.length≤1099511627776) (hib:x.inner.length≤1099511627776) (hlb:x.levels.length≤1099511627776) (hP:P.length≤1000000000) (hT:T.length≤1000000000) (hW:w.length≤1000000000):Pure Try.prog 5 [x.V,.sl 1 false (P.map (V.int .i64)),.sl 1 false (T.map (V.int .i64)),.sl 1 false (w.map (V.int .i64))] (.bool true):=by
 refine pure_intro Try.func5 nm_ qHe (by show 4≤84;decide) ?_
 show ewp _ qoL _ _
 have hwk:=yV
 have hs:=ZQ hb1 hb2 hib hlb
 have hgr:=jo (src:=za x) (ZA x) (fun _=>YN x)
 rw[XI x]at hgr
 have hg:=gok (XI x)
 have hi1:=zZ (l:=P) (n:=40) o_ o_
 have hi2:=zZ (l:=T) (n:=40) o_ o_
 have hi3:=zZ (l:=w) (n:=12) o_ o_
 simp only[Int.cast_ofNat_Int]at hi1 hi2 hi3
 have hIl:(yg P 40).length≤1000000000:=by unfold yg;split<;>(try rw[List.length_take])<;>omega
 have hTl:(yg T 40).length≤1000000000:=by unfold yg;split<;>(try rw[List.length_take])<;>omega
 have hWl:(yg w 12).length≤1099511627776:=by unfold yg;split<;>(try rw[List.length_take])<;>omega
 generalize yo (za x)=g at *
 generalize za x=sr at *
 generalize yg P 40=P1 at *
 generalize yg T 40=T1 at *
 generalize yg w 12=w1 at *
 have hpl:=hg.pl2
 have hz1:IntKind.i64.wrap ((g.prods.length:Int)+1)=(g.prods.length:Int)+1:=wrap64 o_ o_
 obtain ⟨p0,r0,hp0,_,k,hpr,hkn⟩:=hg.head
 obtain ⟨gv,⟨t,ok,rfl,hok⟩,hgw⟩:=qdC (k:=k) hg hWl ⟨p0,r0,hp0,hpr⟩ hkn
 have hkV:t.V=.agg [vi t.sym,vi t.prod,vi t.at_,.sl 4 false (t.kids.map Nd.V)]:=by obtain ⟨q1,q2,q3,q4⟩:=t;rw[Nd.V_mk]
 rw[hkV]at hgw
 repeat' with_reducible first
  |refine s_ ?_
  |simp -implicitDefEqProofs only[wZZ,seval]
  |refine cq0 hwk ?_
  |refine cq1 hs qc ?_
  |refine cq1 hgr (ve _) ?_
  |refine cq2 hi1 qc qc ?_
  |refine cq2 hi2 qc qc ?_
  |refine t_ ?_
 refine qg ?nx1 (fun(i:Nat) s=>s.f 1=?v1_1∧s.f 2=?v1_2∧s.f 3=?v1_3∧s.f 9=?v1_9∧s.f 12=?v1_12∧s.H 10=some (.own 5 [g.V] false)∧(∃v,s.f 11=v∧Gr s.H s.next 1 ((qd6 ((g.prods.length+1:Nat):Int) (P1.take i)).map (V.int .i64)) v)∧s.f 13=vi i∧(i≤P1.length)) (fun i=>P1.length - i) (0) wj_ (by refine⟨?_,?_,?_,?_,?_,?_,?_,?_,wo_⟩<;>first|(simp -implicitDefEqProofs only[wL,wM,wN,wX,seval,Option.some.injEq]<;>exact wt_)|rfl|exact⟨_,rfl⟩) ?_
 intro i s hnx ⟨g1,g2,g3,g9,g12,o0,⟨v11,g11,G11⟩,g13,k1_0⟩
 have hz:=w1_ i
 by_cases hi:i<P1.length
 · have hgi:P1[i]?=some P1[i]:=ge_ hi
   have hst:qd6 ((g.prods.length+1:Nat):Int) (P1.take (i+1))=qd6 ((g.prods.length+1:Nat):Int) (P1.take i)++[P1[i] % ((g.prods.length+1:Nat):Int)]:=by
    unfold qd6;rw[List.take_add_one,hgi,Option.toList_some,List.map_append];rfl
   have hwi:=qE (i:=P1[i]) (n:=((g.prods.length+1:Nat):Int)) o_ o_
   have hml:(qd6 ((g.prods.length+1:Nat):Int) (P1.take i)).length≤P1.length:=by unfold qd6;rw[List.length_map,List.length_take];omega
   generalize P1[i] % ((g.prods.length+1:Nat):Int)=z at *
   generalize P1[i]=y at *
   generalize qd6 ((g.prods.length+1:Nat):Int) (P1.take i)=M at *
   repeat' with_reducible first
    |refine s_ ?_
    |simp -implicitDefEqProofs only[wZZ,seval,g1,g2,g3,g9,g12,g11,g13,o0,Gr.dropO G11 o0,hz,hz1,G11.len]
    |apply qa<;>intro h h_<;>(try simp only[wD,reduceCtorEq]at h_)<;>(try exact wb_)<;>(try simp only[h])
    |refine t_ ?_
    |refine cq2 hwi qc qc ?_
    |apply zh rfl (G11.mono (Nat.le_refl _) (fun id h1 h2=>by(try simp only[wM]);(repeat rw[if_neg o_])));(focus(first|exact qZ.sl|exact qZ.asl));(focus(simp only[wZ]<;>omega));(focus(unfold maxLen;simp only[wZ]<;>omega))
    |simp -implicitDefEqProofs (disch:=omega) only[w64,if_neg]
   refine⟨wk_,i+1,o_,?_⟩
   refine⟨?_,?_,?_,?_,?_,?_,?_,?_,?_⟩
   iterate 8 (focus(first|(simp -implicitDefEqProofs only[wL,wM,wN,wX,seval,Option.some.injEq,g1,g2,g3,g9,g12,g11,g13,o0,Gr.dropO G11 o0,hst]<;>first|rfl|exact⟨_,rfl⟩|exact⟨_,rfl,by first|assumption|exact Gr.nil|exact Gr.tok rfl o_|exact Gr.tok (by simp -implicitDefEqProofs only[wM,seval]<;>rfl) o_|exact Gr.clip|exact G11.to (by first|rfl|(simp[*];done)) o_ rfl⟩)|rfl|exact⟨_,rfl⟩|exact⟨_,rfl,by first|assumption|exact G11.to (by first|rfl|(simp[*];done)) o_ rfl⟩))
   all_goals try omega
 · have et:P1.take i=P1:=List.take_of_length_le o_
   rw[et]at G11
   have hMl:(qd6 ((g.prods.length+1:Nat):Int) P1).length≤1000000000:=by unfold qd6;rw[List.length_map];omega
   generalize qd6 ((g.prods.length+1:Nat):Int) P1=M at *
   have b1:=qX hg hIl hTl
   have b2:=qX hg hMl hTl
   cases ok with
   | false=>
     have b3:=qX (P:=M) (T:=[]) hg hMl (by simp)
     have b4:=qX (P:=P1) (T:=[]) hg hIl (by simp)
     repeat' with_reducible first
      |refine s_ ?_
      |simp -implicitDefEqProofs only[wZZ,seval,g1,g2,g3,g9,g12,g11,g13,o0,Gr.dropO G11 o0,G11.len]
      |apply qa<;>intro h h_<;>(try simp only[wD,reduceCtorEq]at h_)<;>(try exact wb_)<;>(try simp only[h])
      |refine cq2 hi3 qc qc ?_
      |refine cq2 hgw qc qc ?_
      |refine cq3 b1 qc qc qc ?_
      |apply yw (hp:=b4);exact qc;exact qc;with_unfolding_all exact vX (l:=[])
      |refine t_ ?_
      |apply yw (hp:=qX ?_ ?_ ?_);(focus(first|exact yS|exact qc|exact Z6|exact xH|exact G11.er rfl));(focus(first|exact yS|exact qc|exact Z6|exact xH|exact G11.er rfl));(focus(first|exact yS|exact qc|exact Z6|exact xH|exact G11.er rfl));rotate_left;exact wf_;exact wf_;exact wf_
     all_goals refine qA rfl (Or.inr rfl) ?_
     all_goals(try simp -implicitDefEqProofs only[wL,seval,g1,g2,g3,g9,g12,g11,g13])
     all_goals(first|refine er_ ?_ |refine G11.er ?_)
     all_goals(try(with_reducible rfl))
   | true=>
     obtain ⟨hsz,_⟩:=hok rfl
     have h8:=Xp t.size t (Nat.le_refl _) o_
     have l1:=t.yld_len
     unfold qbs at h8
     rw[hkV]at h8
     have b3:=qX (P:=M) (T:=t.yld) hg hMl o_
     have b4:=qX (P:=P1) (T:=t.yld) hg hIl o_
     generalize t.yld=yl at *
     repeat' with_reducible first
      |refine s_ ?_
      |simp -implicitDefEqProofs only[wZZ,seval,g1,g2,g3,g9,g12,g11,g13,o0,Gr.dropO G11 o0,G11.len]
      |apply qa<;>intro h h_<;>(try simp only[wD,reduceCtorEq]at h_)<;>(try exact wb_)<;>(try simp only[h])
      |refine cq2 hi3 qc qc ?_
      |refine cq2 hgw qc qc ?_
      |refine cq1 h8 qc ?_
      |refine cq3 b1 qc qc qc ?_
      |refine cq3 b4 qc qc qc ?_
      |refine t_ ?_
      |apply yw (hp:=qX ?_ ?_ ?_);(focus(first|exact yS|exact qc|exact Z6|exact xH|exact G11.er rfl));(focus(first|exact yS|exact qc|exact Z6|exact xH|exact G11.er rfl));(focus(first|exact yS|exact qc|exact Z6|exact xH|exact G11.er rfl));rotate_left;exact wf_;exact wf_;exact wf_
     all_goals refine qA rfl (Or.inr rfl) ?_
     all_goals(try simp -implicitDefEqProofs only[wL,seval,g1,g2,g3,g9,g12,g11,g13])
     all_goals(first|refine er_ ?_ |refine G11.er ?_)
     all_goals(try(with_reducible rfl))
end Go.Proofs
