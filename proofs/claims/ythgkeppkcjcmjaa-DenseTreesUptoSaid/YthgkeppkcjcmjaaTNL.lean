/- Part of a proof that a law of the given program answers true. -/
import Derived.Test.YthgkeppkcjcmjaaTNE
import Derived.Test.YthgkeppkcjcmjaaTJA
set_option linter.unusedSimpArgs false
set_option linter.unusedVariables false
set_option maxHeartbeats 4000000
namespace Go.Proofs
open Go.E
mutual
def Nd.ats:Nd→List Int
 |.mk _ p a ks=>if p= -1 then[a]else Nd.atss ks
def Nd.atss:List Nd→List Int
 |[]=>[]
 |k::r=>k.ats++Nd.atss r
end
theorem Nd.atss_snoc: ∀(l:List Nd) (k:Nd),Nd.atss (l++[k])=Nd.atss l++k.ats
 |[],k=>by simp[Nd.atss]
 |a::r,k=>by rw[List.cons_append,Nd.atss,Nd.atss_snoc r k,Nd.atss,List.append_assoc]
mutual
theorem Nd.ats_len: ∀t:Nd,t.ats.length≤t.size
 | .mk s p _ ks=>by
   have:=Nd.atss_len ks
   rw[Nd.ats,Nd.size];split
   · simp
   · omega
theorem Nd.atss_len: ∀l:List Nd,(Nd.atss l).length≤Nd.sizes l
 |[]=>by rw[Nd.atss,Nd.sizes];exact Nat.le_refl _
 |k::r=>by have:=Nd.ats_len k;have:=Nd.atss_len r;rw[Nd.atss,Nd.sizes,List.length_append];omega
end
abbrev qgw (t:Nd):V:= .tup [Jp t.yld,Jp t.ats,Jp t.prs]
theorem qh2 {ef:EF} {t u w:Nat} {res:V} {e:Exit} {s:St} (he:ef.res=[.inl t,.inl u,.inl w]) (hx:e=.normal∨e=.ret) (h:Er true s.H (.tup [s.f t,s.f u,s.f w]) res):zu ef res e s:=
 ⟨hx,_,by rw[he];simp[Y2,YK,one],h⟩
theorem qdF {y p a:Int} {ks:List Nd} (ih: ∀k∈ks,Pure Try.prog 33 [k.V] (qgw k)) (hb:(Nd.mk y p a ks).size≤1000000000):Pure Try.prog 33 [(Nd.mk y p a ks).V] (qgw (.mk y p a ks)):=by
 refine pure_intro Try.func33 nm_ qM2 (by show 1≤54;decide) ?_
 show ewp _ qhU _ _
 have hsz:Nd.sizes ks≤1000000000:=by rw[Nd.size]at hb;omega
 have hkl:=Nd.sizes_len ks
 unfold qgw
 rw[Nd.V_mk,Nd.yld,Nd.ats,Nd.prs]
 by_cases hp:p= -1
 · subst hp
   rw[if_pos rfl,if_pos rfl,if_pos rfl]
   repeat' with_reducible first
    |refine s_ ?_
    |simp only[wZZ,seval]
    |refine t_ ?_
   exact qh2 rfl (Or.inr rfl) (ErL.tup (.cons (ErL.sl (.cons (.int _ _) .nil)) (.cons (ErL.sl (.cons (.int _ _) .nil)) (.cons (ErL.sl .nil) .nil))))
 · rw [if_neg hp,if_neg hp,if_neg hp]
   repeat' with_reducible first
    |refine s_ ?_
    |simp only[wZZ,seval]
    |apply qa<;>intro h h_<;>(try simp only[wD,reduceCtorEq]at h_)<;>(try exact wb_)<;>(try simp only[h])
    |refine t_ ?_
   refine qb ?nx1 (fun(i:Nat) s=>s.f 1=?v1_1∧s.H 0=some (.own 4 [.agg [vi y,vi p,vi a,.sl 4 false (ks.map Nd.V)]] false)∧(∃v,s.f 5=v∧Gr s.H s.next 1 ((Nd.ylds (ks.take i)).map (V.int .i64)) v)∧(∃v,s.f 6=v∧Gr s.H s.next 1 ((Nd.atss (ks.take i)).map (V.int .i64)) v)∧(∃v,s.f 7=v∧Gr s.H s.next 1 ((Nd.prss (ks.take i)).map (V.int .i64)) v)∧s.f 8=vi i∧(i≤ks.length)∧(Sep (s.f 5) (s.f 6))∧(Sep (s.f 5) (s.f 7))∧(Sep (s.f 6) (s.f 7))) (fun i=>ks.length - i) (0) wj_ (by refine⟨?_,?_,?_,?_,?_,?_,wo_,(by(try simp only[wL,wM,wN,seval]);first|exact Sep.slL|exact Sep.slR|exact Sep.ids o_),(by(try simp only[wL,wM,wN,seval]);first|exact Sep.slL|exact Sep.slR|exact Sep.ids o_),(by(try simp only[wL,wM,wN,seval]);first|exact Sep.slL|exact Sep.slR|exact Sep.ids o_)⟩<;>first|(simp only[wL,wM,wN,wX,seval,Option.some.injEq]<;>exact wt_)|rfl|exact⟨_,rfl⟩) ?_
   intro i s hnx ⟨g1,o0,⟨v5,g5,G5⟩,⟨v6,g6,G6⟩,⟨v7,g7,G7⟩,g8,k1_0,S5_6,S5_7,S6_7⟩
   rw[g5,g6]at S5_6
   rw[g5,g7]at S5_7
   rw[g6,g7]at S6_7
   have hz:=w1_ i
   have d56: ∀i,gid v5=some i→gid v6=some i→False:=fun i a b=>S5_6 i a b
   have d57: ∀i,gid v5=some i→gid v7=some i→False:=fun i a b=>S5_7 i a b
   have d67: ∀i,gid v6=some i→gid v7=some i→False:=fun i a b=>S6_7 i a b
   have hle1:=Nd.sizes_take ks i
   have l1:=Nd.ylds_len (ks.take i)
   have l2:=Nd.atss_len (ks.take i)
   have l3:=Nd.prss_len (ks.take i)
   by_cases hi:i<ks.length
   · have hgi:ks[i]?=some ks[i]:=ge_ hi
     have htk:ks.take (i+1)=ks.take i++[ks[i]]:=by rw[List.take_add_one,hgi];rfl
     have hih:=ih _ (List.getElem_mem hi)
     have hle2:Nd.sizes (ks.take (i+1))≤Nd.sizes ks:=Nd.sizes_take ks (i+1)
     have hst:Nd.sizes (ks.take (i+1))=Nd.sizes (ks.take i)+ks[i].size:=by rw[htk,Nd.sizes_snoc]
     have y1:Nd.ylds (ks.take (i+1))=Nd.ylds (ks.take i)++ks[i].yld:=by rw[htk,Nd.ylds_snoc]
     have y2:Nd.atss (ks.take (i+1))=Nd.atss (ks.take i)++ks[i].ats:=by rw[htk,Nd.atss_snoc]
     have y3:Nd.prss (ks.take (i+1))=Nd.prss (ks.take i)++ks[i].prs:=by rw[htk,Nd.prss_snoc]
     have l4:=Nd.yld_len ks[i]
     have l5:=Nd.ats_len ks[i]
     have l6:=Nd.prs_len ks[i]
     generalize ks[i]=k at *
     have hkV:k.V=.agg [vi k.sym,vi k.prod,vi k.at_,.sl 4 false (k.kids.map Nd.V)]:=by obtain ⟨e1,e2,e3,e4⟩:=k;rw[Nd.V_mk]
     simp only[hkV]at hih
     repeat' with_reducible first
      |refine s_ ?_
      |simp only[wZZ,seval,g1,g5,g6,g7,g8,o0,Gr.dropO G5 o0,Gr.dropO G6 o0,Gr.dropO G7 o0,hz,hkV,G5.len,G6.len,G7.len]
      |apply qa<;>intro h h_<;>(try simp only[wD,reduceCtorEq]at h_)<;>(try exact wb_)<;>(try simp only[h])
      |refine t_ ?_
      |refine cq1 hih qc ?_
      |(apply za rfl (G6.mono (Nat.le_refl _) (fun id h1 h2=>by(try simp only[wM,kS]);(repeat first|rw[if_neg o_]|rw[if_neg (fun e=>d56 id e h1)])));(focus(first|exact qU.sl|exact qU.asl));(focus(simp only[wZ]<;>omega));(focus(unfold maxLen;simp only[wZ]<;>omega)))
      |(apply za rfl (G7.mono (Nat.le_refl _) (fun id h1 h2=>by(try simp only[wM,kS]);(repeat first|rw[if_neg o_]|rw[if_neg (fun e=>d57 id e h1)]|rw[if_neg (fun e=>d67 id e h1)])));(focus(first|exact qU.sl|exact qU.asl));(focus(simp only[wZ]<;>omega));(focus(unfold maxLen;simp only[wZ]<;>omega)))
      |apply za (hg:=G5);(focus(first|rfl|(simp only[wM];done)));(focus(first|exact qU.sl|exact qU.asl|exact qU.gr G5|exact qU.gr G6|exact qU.gr G7|exact qU.str));exact wf_;(focus(unfold maxLen;first|omega|(simp only[wZ]<;>omega)))
     have e5: ∀j,(j=0∨s.next≤j)→gid v5≠some j:=fun j hj e=>by
      rcases G5 with rfl|⟨id,fin,rfl,h1,h2⟩
      · cases e
      · cases e
        rcases hj with rfl|hj
        · rw[o0]at h1;cases h1
        · omega
     have e6: ∀j,(j=0∨s.next≤j)→gid v6≠some j:=fun j hj e=>by
      rcases G6 with rfl|⟨id,fin,rfl,h1,h2⟩
      · cases e
      · cases e
        rcases hj with rfl|hj
        · rw[o0]at h1;cases h1
        · omega
     have e7: ∀j,(j=0∨s.next≤j)→gid v7≠some j:=fun j hj e=>by
      rcases G7 with rfl|⟨id,fin,rfl,h1,h2⟩
      · cases e
      · cases e
        rcases hj with rfl|hj
        · rw[o0]at h1;cases h1
        · omega
     exact⟨wg_,i+1,o_,trivial,(by(try simp only[wM,kS]);(repeat first|rw[if_pos trivial]|rw[if_pos rfl]|rw[if_neg o_]|rw[if_neg (e7 _ o_)]|rw[if_neg (e6 _ o_)]|rw[if_neg (e5 _ o_)]);exact o0),⟨_,rfl,(by rw[y1];exact Gr.tok (id:=s.next+5+13+2) (fin:=(Nd.ylds (ks.take i)).length+k.yld.length) (by(try simp only[wM,kS]);(repeat first|rw[if_pos trivial]|rw[if_pos rfl]|rw[if_neg o_]|rw[if_neg (e7 _ o_)]|rw[if_neg (e6 _ o_)]|rw[if_neg (e5 _ o_)])) wg_)⟩,⟨_,rfl,(by rw[y2];exact Gr.tok (id:=s.next+5+13+5) (fin:=(Nd.atss (ks.take i)).length+k.ats.length) (by(try simp only[wM,kS]);(repeat first|rw[if_pos trivial]|rw[if_pos rfl]|rw[if_neg o_]|rw[if_neg (e7 _ o_)]|rw[if_neg (e6 _ o_)]|rw[if_neg (e5 _ o_)])) wg_)⟩,⟨_,rfl,(by rw[y3];exact Gr.tok (id:=s.next+5+13+8) (fin:=(Nd.prss (ks.take i)).length+k.prs.length) (by(try simp only[wM,kS]);(repeat first|rw[if_pos trivial]|rw[if_pos rfl]|rw[if_neg o_]|rw[if_neg (e7 _ o_)]|rw[if_neg (e6 _ o_)]|rw[if_neg (e5 _ o_)])) wg_)⟩,rfl,o_,Sep.ids o_,Sep.ids o_,Sep.ids o_⟩
   · have e:ks.take i=ks:=List.take_of_length_le o_
     rw[e]at G5 G6 G7 l3
     repeat' with_reducible first
      |refine s_ ?_
      |simp only[wZZ,seval,g1,g5,g6,g7,g8,o0,Gr.dropO G5 o0,Gr.dropO G6 o0,Gr.dropO G7 o0,G5.len,G6.len,G7.len]
      |apply qa<;>intro h h_<;>(try simp only[wD,reduceCtorEq]at h_)<;>(try exact wb_)<;>(try simp only[h])
      |apply za (hg:=G7);(focus(first|rfl|(simp only[wM];done)));(focus(first|exact qU.sl|exact qU.asl|exact qU.gr G5|exact qU.gr G6|exact qU.gr G7|exact qU.str));exact wf_;(focus(unfold maxLen;first|omega|(simp only[wZ]<;>omega)))
      |refine t_ ?_
     exact qh2 rfl (Or.inr rfl) (ErL.tup (.cons (Gr.er G5 rfl) (.cons (Gr.er G6 rfl) (.cons QN .nil))))
theorem KH: ∀(n:Nat) (t:Nd),t.size≤n→t.size≤1000000000→Pure Try.prog 33 [t.V] (qgw t)
 |0,t,h,_=>by have:=t.size_pos;omega
 |n+1,.mk s p a ks,h,hb=>qdF (fun k hk=>by have:=Nd.size_kid (s:=s) (p:=p) (a:=a) hk;exact KH n k o_ o_) hb
end Go.Proofs
