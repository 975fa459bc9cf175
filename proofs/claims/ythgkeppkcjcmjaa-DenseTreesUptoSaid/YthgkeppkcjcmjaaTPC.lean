/- Part of a proof that a law of the given program answers true. -/
import Derived.Test.YthgkeppkcjcmjaaTPB
set_option linter.unusedSimpArgs false
set_option linter.unusedVariables false
namespace Go.Proofs
open Go.E
theorem qha {l:List UInt8} {k:Nat} (h:k<l.length):l.getD k 0=l[k]:=by simp[List.getD,h]
def endGo (tx:List UInt8):Nat→Int→Int→Int
 |0,_,_=> -1
 | n+1,i,d=>if i<tx.length then
  (if V9 tx i.toNat<0 then -1 else if i<V9 tx i.toNat then endGo tx n (V9 tx i.toNat) d
   else if d+(if (tx.getD i.toNat 0).toNat=123 then 1 else 0) - (if (tx.getD i.toNat 0).toNat=125 then 1 else 0)=0 then i+1
   else endGo tx n (i+1) (d+(if (tx.getD i.toNat 0).toNat=123 then 1 else 0) - (if (tx.getD i.toNat 0).toNat=125 then 1 else 0)))
   else -1
def qNQ (tx:List UInt8):Int:=if (tx.headD 0).toNat=123 then endGo tx (tx.length+1) 0 0 else -1
theorem Kj {tx : List UInt8} (hs:tx.length≤1099511627776):Pure Try.prog 114 [.str tx,vi 0] (vi (qNQ tx)):=by
 refine pure_intro Try.func114 nm_ qsU (by show 2≤53;decide) ?_
 show ewp _ qfq _ _
 by_cases h0:tx=[]
 · subst h0
   repeat' with_reducible first
    |refine s_ ?_
    |simp only[wZZ,seval]
   refine qA rfl (Or.inr rfl) ?_
   simp only[wL,seval]
   refine er_ ?_
   try(with_reducible rfl)
   rfl
 · have hl : 0 < tx.length:=List.length_pos_iff.2 h0
   have hh:tx.headD 0=tx[0]:=by cases tx with|nil=>exact absurd rfl h0|cons a r=>rfl
   have he:qNQ tx=if tx[0].toNat=123 then endGo tx (tx.length+1) 0 0 else -1:=by unfold qNQ;rw[hh]
   rw[he]
   by_cases hc:tx[0].toNat=123
   · rw [if_pos hc]
     generalize hR:endGo tx (tx.length+1) 0 0=R
     repeat' with_reducible first
      |refine s_ ?_
      |simp only[wZZ,seval]
      |(first|apply qa|apply qg|apply qh)<;>intro h h_<;>(try simp only[wD,reduceCtorEq]at h_)<;>(try exact wb_)<;>(try simp only[h])
      |refine t_ ?_
     refine qb ?nx1 (fun(p:Nat×Int) s=>s.f 0=?v1_0∧s.f 5=vi p.2∧s.f 6=vi p.1∧((-(p.1:Int)≤p.2∧p.2≤p.1))∧((∃n,tx.length<p.1+n∧endGo tx n p.1 p.2=R))) (fun p=>tx.length - p.1) ((0,0)) wj_ (by refine⟨?_,?_,?_,wo_,(by exact⟨tx.length+1,o_,hR⟩)⟩<;>first|(simp only[wL,wM,wN,wX,seval,Option.some.injEq]<;>exact wt_)|rfl|exact⟨_,rfl⟩) ?_
     intro p s hnx ⟨g0,g5,g6,k1_0,k1_1⟩
     obtain ⟨i,d⟩:=p
     dsimp only at *
     obtain ⟨n,hn,hg⟩:=k1_1
     by_cases hi:i<tx.length
     · obtain ⟨n,rfl⟩: ∃m,n=m+1:=⟨n - 1,o_⟩
       rw[endGo,if_pos o_,Int.toNat_natCast,qha hi]at hg
       by_cases hneg:V9 tx i<0
       · rw[if_pos hneg]at hg
         repeat' with_reducible first
          |refine s_ ?_
          |simp only[wZZ,seval,g0,g5,g6]
          |apply qa<;>intro h h_<;>(try simp only[wD,reduceCtorEq]at h_)<;>(try exact wb_)<;>(try simp only[h])
          |refine kM we_ we_ (jb wf_ wf_) ?_
         refine qA rfl (Or.inr rfl) ?_
         simp only[wL,seval,g0,g5,g6]
         refine er_ ?_
         try(with_reducible rfl)
         exact hg
       · rw [if_neg hneg]at hg
         obtain ⟨m,hm⟩: ∃m:Nat,V9 tx i=m:=⟨(V9 tx i).toNat,o_⟩
         rw[hm]at hg
         by_cases hgt:(i:Int)<m
         · rw[if_pos hgt]at hg
           repeat' with_reducible first
            |refine s_ ?_
            |simp only[wZZ,seval,g0,g5,g6,hm]
            |apply qa<;>intro h h_<;>(try simp only[wD,reduceCtorEq]at h_)<;>(try exact wb_)<;>(try simp only[h])
            |refine kM we_ we_ (jb wf_ wf_) ?_
           refine⟨wk_,(m,d),o_,?_⟩
           refine⟨?_,?_,?_,?_,?_⟩
           iterate 3 (focus(first|(simp only[wL,wM,wN,wX,seval,Option.some.injEq,g0,g5,g6]<;>exact wt_)|rfl|exact⟨_,rfl⟩))
           all_goals try omega
           exact⟨n,o_,hg⟩
         · rw [if_neg hgt]at hg
           by_cases h1:tx[i].toNat=123
           · have h2: ¬ tx[i].toNat=125:=o_
             have hz:IntKind.i64.wrap (d+1)=d+1:=wrap64 o_ o_
             rw[if_pos h1,if_neg h2]at hg
             repeat' with_reducible first
              |refine s_ ?_
              |simp only[wZZ,seval,g0,g5,g6,hm,hz]
              |apply qa<;>intro h h_<;>(try simp only[wD,reduceCtorEq]at h_)<;>(try exact wb_)<;>(try simp only[h])
              |refine t_ ?_
              |refine kM we_ we_ (jb wf_ wf_) ?_
              |simp(disch:=omega) only[w64,if_neg]
             · refine qA rfl (Or.inr rfl) ?_
               simp only[wL,seval,g0,g5,g6]
               refine er_ ?_
               try(with_reducible rfl)
               rw[← hg,if_pos o_];rfl
             · refine⟨wk_,(i+1,d+1),o_,?_⟩
               refine⟨?_,?_,?_,?_,?_⟩
               iterate 3 (focus(first|(simp only[wL,wM,wN,wX,seval,Option.some.injEq,g0,g5,g6]<;>exact wt_)|rfl|exact⟨_,rfl⟩))
               all_goals try omega
               exact⟨n,o_,by rw[← hg,if_neg o_,Int.sub_zero];rfl⟩
           · by_cases h2:tx[i].toNat=125
             · have hz:IntKind.i64.wrap (d - 1)=d - 1:=wrap64 o_ o_
               rw[if_neg h1,if_pos h2,Int.add_zero]at hg
               repeat' with_reducible first
                |refine s_ ?_
                |simp only[wZZ,seval,g0,g5,g6,hm,hz]
                |apply qa<;>intro h h_<;>(try simp only[wD,reduceCtorEq]at h_)<;>(try exact wb_)<;>(try simp only[h])
                |refine t_ ?_
                |refine kM we_ we_ (jb wf_ wf_) ?_
                |simp(disch:=omega) only[w64,if_neg]
               · refine qA rfl (Or.inr rfl) ?_
                 simp only[wL,seval,g0,g5,g6]
                 refine er_ ?_
                 try(with_reducible rfl)
                 rw[← hg,if_pos o_];rfl
               · refine⟨wk_,(i+1,d - 1),o_,?_⟩
                 refine⟨?_,?_,?_,?_,?_⟩
                 iterate 3 (focus(first|(simp only[wL,wM,wN,wX,seval,Option.some.injEq,g0,g5,g6]<;>exact wt_)|rfl|exact⟨_,rfl⟩))
                 all_goals try omega
                 exact⟨n,o_,by rw[← hg,if_neg o_];rfl⟩
             · rw[if_neg h1,if_neg h2,Int.add_zero,Int.sub_zero]at hg
               repeat' with_reducible first
                |refine s_ ?_
                |simp only[wZZ,seval,g0,g5,g6,hm]
                |apply qa<;>intro h h_<;>(try simp only[wD,reduceCtorEq]at h_)<;>(try exact wb_)<;>(try simp only[h])
                |refine t_ ?_
                |refine kM we_ we_ (jb wf_ wf_) ?_
                |simp(disch:=omega) only[w64,if_neg]
               · refine qA rfl (Or.inr rfl) ?_
                 simp only[wL,seval,g0,g5,g6]
                 refine er_ ?_
                 try(with_reducible rfl)
                 rw[← hg,if_pos o_];rfl
               · refine⟨wk_,(i+1,d),o_,?_⟩
                 refine⟨?_,?_,?_,?_,?_⟩
                 iterate 3 (focus(first|(simp only[wL,wM,wN,wX,seval,Option.some.injEq,g0,g5,g6]<;>exact wt_)|rfl|exact⟨_,rfl⟩))
                 all_goals try omega
                 exact⟨n,o_,by rw[← hg,if_neg o_];rfl⟩
     · have hR2:R= -1:=by
        rw[← hg];cases n with
        |zero=>rfl
        |succ n=>rw[endGo,if_neg o_]
       repeat' with_reducible first
        |refine s_ ?_
        |simp only[wZZ,seval,g0,g5,g6]
        |apply qa<;>intro h h_<;>(try simp only[wD,reduceCtorEq]at h_)<;>(try exact wb_)<;>(try simp only[h])
       refine qA rfl (Or.inr rfl) ?_
       simp only[wL,seval,g0,g5,g6]
       refine er_ ?_
       try(with_reducible rfl)
       exact hR2.symm
   · skip
     rw[if_neg hc]
     repeat' with_reducible first
      |refine s_ ?_
      |simp only[wZZ,seval]
      |(first|apply qa|apply qg|apply qh)<;>intro h h_<;>(try simp only[wD,reduceCtorEq]at h_)<;>(try exact wb_)<;>(try simp only[h])
      |refine t_ ?_
     refine qA rfl (Or.inr rfl) ?_
     simp only[wL,seval]
     refine er_ ?_
     try(with_reducible rfl)

def XL (p:Part):Bool:=if p.code=[]then qcR p.sym false true else p.sym.none && decide (qNQ p.code=p.code.length)
def qdJ (a:Alt):Bool:=a.parts.all XL && (a.prec.none || qcR a.prec false true)
def Part.Fits (p:Part):Prop:=p.sym.name.length≤1099511627776∧p.code.length≤1099511627776
def Alt.Fits (a:Alt):Prop:=a.parts.length≤1099511627776∧(∀p∈a.parts,p.Fits)∧a.prec.name.length≤1099511627776
theorem JO {a:Alt} (hf:a.Fits):Pure Try.prog 107 [a.V] (.bool (qdJ a)):=by
 refine pure_intro Try.func107 nm_ qoh (by show 1≤54;decide) ?_
 show ewp _ qfm _ _
 obtain ⟨hl,hp,hn⟩:=hf
 obtain ⟨ps,pc,at_⟩:=a
 dsimp only at hl hp hn
 repeat' with_reducible first
  |refine s_ ?_
  |simp only[wZZ,seval]
  |refine t_ ?_
 refine qb ?nx1 (fun(k:Nat) s=>s.f 1=?v1_1∧s.H 0=?o1_0∧s.f 3=vi k∧(k≤ps.length)∧(∀x∈ps.take k,XL x=true)) (fun k=>ps.length - k) (0) wj_ (by refine⟨?_,?_,?_,wo_,wo_⟩<;>first|(simp only[wL,wM,wN,wX,seval,Option.some.injEq]<;>exact wt_)|rfl|exact⟨_,rfl⟩) ?_
 intro k s hnx ⟨g1,o0,g3,k1_0,k1_1⟩
 by_cases hk:k<ps.length
 · have hx:=hp ps[k] (List.getElem_mem hk)
   have ht2:ps.take (k+1)=ps.take k++[ps[k]]:=by rw[List.take_add_one,ge_ hk];rfl
   have hbad:XL ps[k]=false→qdJ ⟨ps,pc,at_⟩=false:=fun h=>by
    unfold qdJ;rw[List.all_eq_false.2 ⟨ps[k],List.getElem_mem hk,by rw[h];exact Bool.false_ne_true⟩];rfl
   have hgood:XL ps[k]=true→ ∀x∈ps.take (k+1),XL x=true:=fun h x hx2=>by
    rw[ht2]at hx2
    rcases List.mem_append.1 hx2 with hx2|hx2
    · exact k1_1 x hx2
    · obtain rfl:=List.mem_singleton.1 hx2
      exact h
   obtain ⟨hx1,hx2⟩:=hx
   repeat' with_reducible first
    |refine s_ ?_
    |simp only[wZZ,seval,g1,g3,o0]
    |(first|apply qa|apply qg|apply qh)<;>intro h h_<;>(try simp only[wD,reduceCtorEq]at h_)<;>(try exact wb_)<;>(try simp only[h])
    |refine t_ ?_
    |apply Jk;exact wu_;exact wu_;(focus((try simp only[wE,Nat.reduceAdd]);rfl))
    |refine Qm we_ we_ we_ (jW wf_) ?_
    |refine cq1 Qp we_ ?_
    |refine kM we_ we_ (Kj wf_) ?_
    |simp(disch:=omega) only[w64,if_neg]
   · refine⟨wk_,k+1,o_,?_⟩
     refine⟨?_,?_,?_,?_,?_⟩
     iterate 3 (focus(first|(simp only[wL,wM,wN,wX,seval,Option.some.injEq,g1,g3,o0]<;>exact wt_)|rfl|exact⟨_,rfl⟩))
     all_goals try omega
     exact hgood (by simp_all [XL,Sym.none])
   · refine qA rfl (Or.inr rfl) ?_
     simp only[wL,seval,g1,g3]
     refine er_ ?_
     try(with_reducible rfl)
     exact(hbad (by simp_all [XL,Sym.none])).symm
   · refine qA rfl (Or.inr rfl) ?_
     simp only[wL,seval,g1,g3]
     refine er_ ?_
     try(with_reducible rfl)
     exact(hbad (by simp_all [XL,Sym.none])).symm
   · refine⟨wk_,k+1,o_,?_⟩
     refine⟨?_,?_,?_,?_,?_⟩
     iterate 3 (focus(first|(simp only[wL,wM,wN,wX,seval,Option.some.injEq,g1,g3,o0]<;>exact wt_)|rfl|exact⟨_,rfl⟩))
     all_goals try omega
     exact hgood (by simp_all [XL,Sym.none])
   · refine qA rfl (Or.inr rfl) ?_
     simp only[wL,seval,g1,g3]
     refine er_ ?_
     try(with_reducible rfl)
     exact(hbad (by simp_all [XL,Sym.none])).symm
 · rw[List.take_of_length_le o_]at k1_1
   have e:qdJ ⟨ps,pc,at_⟩=(pc.none || qcR pc false true):=by unfold qdJ;rw[List.all_eq_true.2 k1_1];rfl
   rw[e]
   repeat' with_reducible first
    |refine s_ ?_
    |simp only[wZZ,seval,g1,g3,o0]
    |(first|apply qa|apply qg|apply qh)<;>intro h h_<;>(try simp only[wD,reduceCtorEq]at h_)<;>(try exact wb_)<;>(try simp only[h])
    |apply Jk;exact wu_;exact wu_;(focus((try simp only[wE,Nat.reduceAdd]);rfl))
    |refine t_ ?_
    |refine Qm we_ we_ we_ (jW wf_) ?_
    |refine cq1 Qp we_ ?_
   all_goals refine qA rfl (Or.inr rfl) ?_
   all_goals(try simp only[wL,seval,g1,g3])
   all_goals refine er_ ?_
   all_goals(try(with_reducible rfl))
   all_goals simp_all
def qmz:List UInt8→Bool
 |[]=>false
 |[_]=>false
 |a::b::r=>(decide (a=37) && decide (b=125)) || qmz (b::r)
def VF (r:Rule):Bool:=qbw r.left && !decide (r.alts=[]) && r.alts.all qdJ
def jM (x:Source):Bool:= !qmz x.pro && x.decls.all YH && x.rules.all VF && !decide (x.rules=[])
def Decl.Fits (d:Decl):Prop:=d.tag.length≤1099511627776∧d.syms.length≤1099511627776∧ ∀x∈d.syms,x.name.length≤1099511627776
def Rule.Fits (r:Rule):Prop:=r.left.length≤1099511627776∧r.alts.length≤1099511627776∧ ∀a∈r.alts,a.Fits
def Source.Fits (x:Source):Prop:=x.pro.length≤1099511627776∧x.tail.length≤1099511627776∧x.decls.length≤1099511627776∧(∀d∈x.decls,d.Fits)∧x.rules.length≤1099511627776∧ ∀r∈x.rules,r.Fits
theorem V3 {α:Type} {p:α→Bool} {l:List α} {k:Nat} (hk:k<l.length) (h: ∀x∈l.take k,p x=true) (hx:p l[k]=true): ∀x∈l.take (k+1),p x=true:=by
 rw[List.take_add_one,ge_ hk]
 intro x h2
 rcases List.mem_append.1 h2 with h2|h2
 · exact h x h2
 · obtain rfl:=List.mem_singleton.1 h2
   exact hx
theorem qaZ {α:Type} {p:α→Bool} {l:List α} {k:Nat} (hk:k<l.length) (hx:p l[k]=false):l.all p=false:=
 List.all_eq_false.2 ⟨l[k],List.getElem_mem hk,by rw[hx];exact Bool.false_ne_true⟩
theorem qe4 (a b:UInt8) (r:List UInt8):qmz (a::b::r)=((decide (a=37) && decide (b=125)) || qmz (b::r)):=rfl
theorem QY {x:Source} (hf:x.Fits):Pure Try.prog 88 [x.V] (.bool (jM x)):=by
 refine pure_intro Try.func88 nm_ qtc (by show 1≤77;decide) ?_
 show ewp _ qjd _ _
 obtain ⟨hp,ht,hdl,hd,hrl,hr⟩:=hf
 obtain ⟨pro,ds,rs,tl⟩:=x
 dsimp only at hp ht hdl hd hrl hr
 repeat' with_reducible first
  |refine s_ ?_
  |simp only[wZZ,seval]
  |refine t_ ?_
 refine qb ?nx1 (fun(k:Nat) s=>s.f 1=?v1_1∧s.H 0=?o1_0∧s.f 3=vi k∧(k≤pro.length)∧(qmz (pro.drop k)=qmz pro)) (fun k=>pro.length - k) (0) wj_ (by refine⟨?_,?_,?_,wo_,wo_⟩<;>first|(simp only[wL,wM,wN,wX,seval,Option.some.injEq]<;>exact wt_)|rfl|exact⟨_,rfl⟩) ?_
 intro k s hnx ⟨g1,o0,g3,k1_0,k1_1⟩
 by_cases hk:k+1<pro.length
 · have hz:=w1_ k
   have hz2:IntKind.i64.wrap ((k:Int)+2)=(k:Int)+2:=wrap64 o_ o_
   have e1:pro.drop k=pro[k]::pro[k+1]::pro.drop (k+2):=by rw[List.drop_eq_getElem_cons o_,List.drop_eq_getElem_cons hk]
   have e2:pro.drop (k+1)=pro[k+1]::pro.drop (k+2):=by rw[List.drop_eq_getElem_cons hk]
   have e3:(pro.take (k+2)).drop k=[pro[k],pro[k+1]]:=by
    rw[List.drop_take,e1,show k+2 - k=2 by omega];rfl
   have e4:((pro.take ((k:Int)+2).toNat).drop k)=[pro[k],pro[k+1]]:=by
    rw[show ((k:Int)+2).toNat=k+2 by omega,e3]
   rw[e1,qe4,← e2]at k1_1
   repeat' with_reducible first
    |refine s_ ?_
    |simp only[wZZ,seval,g1,g3,o0,hz,hz2]
    |apply qa<;>intro h h_<;>(try simp only[wD,reduceCtorEq]at h_)<;>(try exact wb_)<;>(try simp only[h])
    |apply qcE;omega;omega;omega
    |refine t_ ?_
   · refine qA rfl (Or.inr rfl) ?_
     simp only[wL,seval,g1,g3]
     refine er_ ?_
     try(with_reducible rfl)
     rw[e4]at h_
     simp at h_
     simp[h_.1,h_.2]at k1_1
     simp[jM,k1_1]
   · refine⟨wk_,k+1,o_,?_⟩
     refine⟨?_,?_,?_,?_,?_⟩
     iterate 3 (focus(first|(simp only[wL,wM,wN,wX,seval,Option.some.injEq,g1,g3,o0]<;>exact wt_)|rfl|exact⟨_,rfl⟩))
     all_goals try omega
     rw[e4]at h_
     simp at h_
     rw[← k1_1]
     by_cases h37:pro[k]=37
     · simp[h_ h37]
     · simp[h37]
 · have hpc :qmz pro=false:=by
    rw[← k1_1]
    by_cases hk2:k<pro.length
    · rw[List.drop_eq_getElem_cons hk2,List.drop_eq_nil_of_le o_];rfl
    · rw[List.drop_eq_nil_of_le o_];rfl
   have hz:=w1_ k
   repeat' with_reducible first
    |refine s_ ?_
    |simp only[wZZ,seval,g1,g3,o0,hz]
    |apply qa<;>intro h h_<;>(try simp only[wD,reduceCtorEq]at h_)<;>(try exact wb_)<;>(try simp only[h])
    |refine t_ ?_
   refine qb ?nx2 (fun(k:Nat) s=>s.f 1=?v2_1∧s.H 0=?o2_0∧s.f 4=vi k∧(k≤ds.length)∧(∀x∈ds.take k,YH x=true)) (fun k=>ds.length - k) (0) wj_ (by refine⟨?_,?_,?_,wo_,wo_⟩<;>first|(simp only[wL,wM,wN,wX,seval,Option.some.injEq,g1,g3,o0]<;>exact wt_)|rfl|exact⟨_,rfl⟩) ?_
   intro k s hnx ⟨g1,o0,g4,k2_0,k2_1⟩
   by_cases hk:k<ds.length
   · obtain ⟨hx1,hx2,hx3⟩:=hd ds[k] (List.getElem_mem hk)
     repeat' with_reducible first
      |refine s_ ?_
      |simp only[wZZ,seval,g1,g4,o0]
      |apply qa<;>intro h h_<;>(try simp only[wD,reduceCtorEq]at h_)<;>(try exact wb_)<;>(try simp only[h])
      |refine t_ ?_
      |refine JA we_ (Jl wf_ wf_ wf_) ?_
      |simp(disch:=omega) only[w64,if_neg]
     · refine qA rfl (Or.inr rfl) ?_
       simp only[wL,seval,g1,g4]
       refine er_ ?_
       try(with_reducible rfl)
       have:=qaZ hk (p:=YH) (by simpa using h_)
       simp[jM,this]
     · refine⟨wk_,k+1,o_,?_⟩
       refine⟨?_,?_,?_,?_,?_⟩
       iterate 3 (focus(first|(simp only[wL,wM,wN,wX,seval,Option.some.injEq,g1,g4,o0]<;>exact wt_)|rfl|exact⟨_,rfl⟩))
       all_goals try omega
       exact V3 hk k2_1 (by simpa using h_)
   · rw [List.take_of_length_le o_]at k2_1
     repeat' with_reducible first
      |refine s_ ?_
      |simp only[wZZ,seval,g1,g4,o0]
      |apply qa<;>intro h h_<;>(try simp only[wD,reduceCtorEq]at h_)<;>(try exact wb_)<;>(try simp only[h])
      |refine t_ ?_
     refine qb ?nx3 (fun(k:Nat) s=>s.f 1=?v3_1∧s.H 0=?o3_0∧s.f 5=vi k∧(k≤rs.length)∧(∀x∈rs.take k,VF x=true)) (fun k=>rs.length - k) (0) wj_ (by refine⟨?_,?_,?_,wo_,wo_⟩<;>first|(simp only[wL,wM,wN,wX,seval,Option.some.injEq,g1,g4,o0]<;>exact wt_)|rfl|exact⟨_,rfl⟩) ?_
     intro k s hnx ⟨g1,o0,g5,k3_0,k3_1⟩
     by_cases hk:k<rs.length
     · obtain ⟨hx1,hx2,hx3⟩:=hr rs[k] (List.getElem_mem hk)
       obtain ⟨n0,hn0⟩: ∃n0,n0=s.next:=⟨_,rfl⟩
       have hbad:VF rs[k]=false→jM ⟨pro,ds,rs,tl⟩=false:=fun h=>by
        simp[jM,qaZ hk h]
       repeat' with_reducible first
        |refine s_ ?_
        |simp only[wZZ,seval,g1,g5,o0]
        |(first|apply qa|apply qg|apply qh)<;>intro h h_<;>(try simp only[wD,reduceCtorEq]at h_)<;>(try exact wb_)<;>(try simp only[h])
        |refine t_ ?_
        |refine JA we_ (xX wf_) ?_
       · refine qA rfl (Or.inr rfl) ?_
         simp only[wL,seval,g1,g5]
         refine er_ ?_
         try(with_reducible rfl)
         refine(hbad ?_).symm
         have:rs[k].alts=[]:=List.length_eq_zero_iff.1 o_
         simp[VF,this]
       · rw [← hn0]
         refine qb ?nx4 (fun(j:Nat) s=>s.f 1=?v4_1∧s.f 5=?v4_5∧s.f 6=?v4_6∧s.H 0=?o4_0∧s.H (n0+5+5)=?o4_1∧s.f 7=vi j∧(j≤rs[k].alts.length)∧(∀x∈rs[k].alts.take j,qdJ x=true)) (fun j=>rs[k].alts.length - j) (0) wj_ (by refine⟨?_,?_,?_,?_,?_,?_,wo_,wo_⟩<;>first|(simp only[wL,wM,wN,wX,seval,Option.some.injEq,g1,g5,o0]<;>exact wt_)|rfl|exact⟨_,rfl⟩) ?_
         intro j s hnx ⟨g1,g5,g6,o0,o1,g7,k4_0,k4_1⟩
         by_cases hj:j<rs[k].alts.length
         · have hx4:=hx3 rs[k].alts[j] (List.getElem_mem hj)
           repeat' with_reducible first
            |refine s_ ?_
            |simp only[wZZ,seval,g1,g5,g6,g7,o0,o1]
            |apply qa<;>intro h h_<;>(try simp only[wD,reduceCtorEq]at h_)<;>(try exact wb_)<;>(try simp only[h])
            |refine t_ ?_
            |refine JA we_ (JO wf_) ?_
            |simp(disch:=omega) only[w64,if_neg]
           · refine qA rfl (Or.inr rfl) ?_
             simp only[wL,seval,g1,g5,g6,g7]
             refine er_ ?_
             try(with_reducible rfl)
             refine(hbad ?_).symm
             have:=qaZ hj (p:=qdJ) (by simpa using h_)
             simp[VF,this]
           · refine⟨wk_,j+1,o_,?_⟩
             refine⟨?_,?_,?_,?_,?_,?_,?_,?_⟩
             iterate 6 (focus(first|(simp only[wL,wM,wN,wX,seval,Option.some.injEq,g1,g5,g6,g7,o0,o1]<;>exact wt_)|rfl|exact⟨_,rfl⟩))
             all_goals try omega
             exact V3 hj k4_1 (by simpa using h_)
         · rw[List.take_of_length_le o_]at k4_1
           repeat' with_reducible first
            |refine s_ ?_
            |simp only[wZZ,seval,g1,g5,g6,g7,o0,o1]
            |apply qa<;>intro h h_<;>(try simp only[wD,reduceCtorEq]at h_)<;>(try exact wb_)<;>(try simp only[h])
            |refine t_ ?_
            |simp(disch:=omega) only[w64,if_neg]
           refine⟨wk_,k+1,o_,?_⟩
           refine⟨?_,?_,?_,?_,?_⟩
           iterate 3 (focus(first|(simp only[wL,wM,wN,wX,seval,Option.some.injEq,g1,g5,g6,g7,o0,o1]<;>exact wt_)|rfl|exact⟨_,rfl⟩))
           all_goals try omega
           refine V3 hk k3_1 ?_
           have e1:rs[k].alts.all qdJ=true:=List.all_eq_true.2 k4_1
           have e0: ¬ (rs[k].alts.length:Int)=0:=by assumption
           have e2: ¬ rs[k].alts=[]:=fun e=>by rw[e]at e0;exact e0 rfl
           have e3:qbw rs[k].left=true:=by assumption
           simp[VF,e1,e2,e3]
       · skip
         refine qA rfl (Or.inr rfl) ?_
         simp only[wL,seval,g1,g5]
         refine er_ ?_
         try(with_reducible rfl)
         refine(hbad ?_).symm
         have:qbw rs[k].left=false:=by simpa using h_
         simp[VF,this]
     · rw[List.take_of_length_le o_]at k3_1
       repeat' with_reducible first
        |refine s_ ?_
        |simp only[wZZ,seval,g1,g5,o0]
        |apply qa<;>intro h h_<;>(try simp only[wD,reduceCtorEq]at h_)<;>(try exact wb_)<;>(try simp only[h])
        |refine t_ ?_
       refine qA rfl (Or.inr rfl) ?_
       simp only[wL,seval,g1,g5]
       refine er_ ?_
       try(with_reducible rfl)
       have e1:ds.all YH=true:=List.all_eq_true.2 k2_1
       have e2:rs.all VF=true:=List.all_eq_true.2 k3_1
       by_cases e3:rs=[]
       · subst e3;simp[jM]
       · have:0<rs.length:=List.length_pos_iff.2 e3
         simp[jM,hpc,e1,e2,e3]
         omega

structure Tok where
 name:List UInt8:=[]
 lit:Bool:=false
 num:Int:=0
 level:Int:=0
 assoc:Int:=0
 tag:List UInt8:=[]
 deriving DecidableEq,Inhabited
structure Non where
 name:List UInt8:=[]
 tag:List UInt8:=[]
 deriving DecidableEq,Inhabited
structure GPr where
 left:Int:=0
 right:List Int:=[]
 prec:Int:=0
 code:List UInt8:=[]
 args:List Int:=[]
 at_:Int:=0
 deriving DecidableEq,Inhabited
structure Grammar where
 toks:List Tok:=[]
 nons:List Non:=[]
 prods:List GPr:=[]
 pro:List UInt8:=[]
 tail:List UInt8:=[]
 deriving DecidableEq,Inhabited
@[reducible] def Tok.V (x:Tok):V:= .agg [.str x.name,.bool x.lit,vi x.num,vi x.level,vi x.assoc,.str x.tag]
@[reducible] def Non.V (x:Non):V:= .agg [.str x.name,.str x.tag]
@[reducible] def GPr.V (x:GPr):V:= .agg [vi x.left,.sl 1 false (x.right.map (V.int .i64)),vi x.prec,.str x.code,.sl 1 false (x.args.map (V.int .i64)),vi x.at_]
@[reducible] def Grammar.V (g:Grammar):V:= .agg [.sl 6 false (g.toks.map Tok.V),.sl 2 false (g.nons.map Non.V),.sl 6 false (g.prods.map GPr.V),.str g.pro,.str g.tail]
structure Mk where
 toks:List Tok:=[{name:=[36,101,110,100]},{name:=[101,114,114,111,114],num:= -1},{name:=[36,117,110,107],num:= -1}]
 nons:List Non:=[]
 prods:List GPr:=[]
 given:List Bool:=[false,false,false]
 types:List Non:=[]
 lefts:List (List UInt8):=[]
 e:Int:=0
 at_:Int:=0
 name:List UInt8:=[]
 level:Int:=0
 inner:Int:=0
 deriving DecidableEq,Inhabited
def zl (m:Mk) (a:Int) (n:List UInt8):Mk:=if m.e=0 then {m with e:=3,at_:=a,name:=n} else m
def QZ (x:Sym):List Tok→Nat→Int
 |[],_=> -1
 |t::r,i=>if t.name=x.name∧t.lit=x.lit∧i≠2 then i else QZ x r (i+1)
def Ki (l:List Tok) (x:Sym):Int:=QZ x (l.drop 1) 1
def qdh (n:Int):List Tok→Nat→Int
 |[],_=> -1
 |t::r,i=>if t.num=n then i else qdh n r (i+1)
def ql1 (l:List Tok) (n:Int):Int:=qdh n (l.drop 3) 3
def qgn (x:Sym):Int:=if x.lit then(x.name.headD 0).toNat else 0
def QR (m:Mk) (x:Sym):Mk×Int:=
 if 0≤Ki m.toks x then(m,Ki m.toks x)else
 let m1:=if x.lit=true∧0≤ql1 m.toks (qgn x)then zl m x.at_ x.name else m
 ({m1 with toks:=m.toks++[{name:=x.name,lit:=x.lit,num:=qgn x}],given:=m.given++[x.lit]},m.toks.length)
def yt (n:List UInt8):List Non→Nat→Int
 |[],_=> -1
 |t::r,i=>if t.name=n then i else yt n r (i+1)
def qE (n:List UInt8):List (List UInt8)→Nat→Int
 |[],_=> -1
 |t::r,i=>if t=n then i else qE n r (i+1)
def VX (m:Mk) (t:Int):Tok:=m.toks.getD t.toNat {}
def Qi (m:Mk) (t:Int) (k:Tok):Mk:={m with toks:=m.toks.set t.toNat k}
def xO (m:Mk) (kind:Int) (x:Sym) (t:Int):Mk:=
 if kind=1 then m else
 let m2:=if 0<(VX m t).level then zl m x.at_ x.name else m
 Qi m2 t {VX m t with level:=m.level,assoc:=kind - 1}
def ji (m:Mk) (x:Sym) (t:Int):Mk:=
 if 0<x.num then
  let m2:=if t=1∨m.given.getD t.toNat false=true∨0≤ql1 m.toks x.num then zl m x.at_ x.name else m
  {Qi m2 t {VX m t with num:=x.num} with given:=m.given.set t.toNat true}
 else m
def vQ (m:Mk) (tag:List UInt8) (x:Sym) (t:Int):Mk:=
 if tag≠[]then
  let m2:=if (VX m t).tag≠[]∧(VX m t).tag≠tag then zl m x.at_ x.name else m
  Qi m2 t {VX m t with tag:=tag}
 else m
def yT (m:Mk) (d:Decl) (x:Sym):Mk:=
 if d.kind=5 then
  (let k:=yt x.name m.types 0
   if k<0 then {m with types:=m.types++[{name:=x.name,tag:=d.tag}]}
   else if (m.types.getD k.toNat {}).tag≠d.tag then zl m x.at_ x.name else m)
 else
  let p:=QR m x
  vQ (ji (xO p.1 d.kind x p.2) x p.2) d.tag x p.2
def xP (m:Mk) (x:Sym):Mk×Int:=
 if x.lit then QR m x else
 if 0≤qE x.name m.lefts 0 then(m,1001+qE x.name m.lefts 0)
 else if Ki m.toks x<0 then(zl m x.at_ x.name,0)else(m,Ki m.toks x)
def zH:List Part→Mk×GPr→Mk×GPr
 |[],q=>q
 | w::r,(m,p)=>
   if w.code=[]then zH r ((xP m w.sym).1,{p with right:=p.right++[(xP m w.sym).2]})
   else if r=[]then(m,{p with code:=w.code,at_:=w.at_})
   else zH r ({m with inner:=m.inner+1,prods:=m.prods++[{left:=m.lefts.length+(m.inner+1),prec:= -1,code:=w.code,args:=p.right,at_:=w.at_}]},
    {p with right:=p.right++[1000+m.lefts.length+(m.inner+1)]})
def xU:List Int→Int→Int
 |[],p=>p
 |x::r,p=>xU r (if x<1000 then x else p)
def Xa (m:Mk) (left:List UInt8) (a:Alt):Mk:=
 let q:=zH a.parts (m,{left:=1+qE left m.lefts 0,prec:= -1,at_:=a.at_})
 let m1:=q.1
 let p:={q.2 with prec:=xU q.2.right (-1)}
 if a.prec.name≠[]then
  (if a.prec.lit=true∨qE a.prec.name m1.lefts 0<0 then
   {(xP m1 a.prec).1 with prods:=(xP m1 a.prec).1.prods++[{p with prec:=(xP m1 a.prec).2,args:=p.right}]}
   else {zl m1 a.prec.at_ a.prec.name with prods:=m1.prods++[{p with prec:= -1,args:=p.right}]})
 else {m1 with prods:=m1.prods++[{p with args:=p.right}]}
def zJ (d:Decl):List Sym→Mk×List UInt8→Mk×List UInt8
 |[],q=>q
 | x::r,(m,start)=>if d.kind≠6 then zJ d r (yT m d x,start)
   else zJ d r (if start≠[]then zl m x.at_ x.name else m,x.name)
def jw:List Decl→Mk×List UInt8→Mk×List UInt8
 |[],q=>q
 |d::r,(m,start)=>jw r (zJ d d.syms (if 2≤d.kind∧d.kind≤4 then {m with level:=m.level+1} else m,start))
def xI:List Rule→Mk→Mk
 |[],m=>m
 | r::l,m=>
   let m1:=if 0≤Ki m.toks {name:=r.left} then zl m r.at_ r.left else m
   xI l (if qE r.left m.lefts 0<0 then {m1 with lefts:=m.lefts++[r.left]} else m1)
def jC (kind:Int):List Sym→Mk→Mk
 |[],m=>m
 |x::r,m=>jC kind r (if 5≤kind∧qE x.name m.lefts 0<0 then zl m x.at_ x.name else m)
def vI:List Decl→Mk→Mk
 |[],m=>m
 |d::r,m=>vI r (jC d.kind d.syms m)
def zI (left:List UInt8):List Alt→Mk→Mk
 |[],m=>m
 |a::r,m=>zI left r (Xa m left a)
def yh:List Rule→Mk→Mk
 |[],m=>m
 |r::l,m=>yh l (zI r.left r.alts m)
def yI (types:List Non):List (List UInt8)→List Non
 |[]=>[]
 |n::r=>{name:=n,tag:=if 0≤yt n types 0 then(types.getD (yt n types 0).toNat {}).tag else[]}::yI types r
def jJ (src:Source):Mk:=
 let q:=jw src.decls ({},[])
 let m:=vI src.decls (xI src.rules q.1)
 let start:=if q.2=[]then(src.rules.headD {}).left else q.2
 yh src.rules {m with prods:=[{left:=0,right:=[1001+qE start m.lefts 0],prec:= -1}]}

@[reducible] def Mk.V (m:Mk):V:= .agg [.sl 6 false (m.toks.map Tok.V),.sl 2 false (m.nons.map Non.V),.sl 6 false (m.prods.map GPr.V),.str [],.str [],.sl 1 false (m.given.map V.bool),.sl 2 false (m.types.map Non.V),.sl 1 false (m.lefts.map V.str),vi m.e,vi m.at_,.str m.name,vi m.level,vi m.inner]
theorem zq {m:Mk} {n:List UInt8} (hl:m.types.length≤1099511627776):Pure Try.prog 94 [.iptr 13 m.V 0,.str n] (vi (yt n m.types 0)):=by
 refine pure_intro Try.func94 nm_ qEz (by show 2≤26;decide) ?_
 show ewp _ qiZ _ _
 generalize hR:yt n m.types 0=R
 repeat' with_reducible first
  |refine s_ ?_
  |simp only[wZZ,seval]
 refine qb ?nx1 (fun(k:Nat) s=>s.f 0=?v1_0∧s.f 1=?v1_1∧s.f 5=vi k∧(k≤m.types.length)∧(yt n (m.types.drop k) k=R)) (fun k=>m.types.length - k) (0) wj_ (by refine⟨?_,?_,?_,wo_,(by exact hR)⟩<;>first|(simp only[wL,wM,wN,wX,seval,Option.some.injEq]<;>exact wt_)|rfl|exact⟨_,rfl⟩) ?_
 intro k s hnx ⟨g0,g1,g5,k1_0,k1_1⟩
 by_cases hk:k<m.types.length
 · rw[List.drop_eq_getElem_cons hk,yt]at k1_1
   repeat' with_reducible first
    |refine s_ ?_
    |simp only[wZZ,seval,g0,g1,g5]
    |apply qa<;>intro h h_<;>(try simp only[wD,reduceCtorEq]at h_)<;>(try exact wb_)<;>(try simp only[h])
    |refine t_ ?_
    |simp(disch:=omega) only[w64,if_neg]
   · refine qA rfl (Or.inr rfl) ?_
     simp only[wL,seval,g0,g1,g5]
     refine er_ ?_
     try(with_reducible rfl)
     rw[← k1_1,if_pos h_]
   · refine⟨wk_,k+1,o_,?_⟩
     refine⟨?_,?_,?_,?_,?_⟩
     iterate 3 (focus(first|(simp only[wL,wM,wN,wX,seval,Option.some.injEq,g0,g1,g5]<;>exact wt_)|rfl|exact⟨_,rfl⟩))
     all_goals try omega
     rw[← k1_1,if_neg h_]
 · rw[List.drop_eq_nil_of_le o_]at k1_1
   repeat' with_reducible first
    |refine s_ ?_
    |simp only[wZZ,seval,g0,g1,g5]
    |apply qa<;>intro h h_<;>(try simp only[wD,reduceCtorEq]at h_)<;>(try exact wb_)<;>(try simp only[h])
    |refine t_ ?_
   refine qA rfl (Or.inr rfl) ?_
   simp only[wL,seval,g0,g1,g5]
   refine er_ ?_
   try(with_reducible rfl)
   rw[← k1_1];rfl
theorem qD {m:Mk} {n:List UInt8} (hl:m.lefts.length≤1099511627776):Pure Try.prog 92 [.iptr 13 m.V 0,.str n] (vi (qE n m.lefts 0)):=by
 refine pure_intro Try.func92 nm_ qxO (by show 2≤25;decide) ?_
 show ewp _ qjF _ _
 generalize hR:qE n m.lefts 0=R
 repeat' with_reducible first
  |refine s_ ?_
  |simp only[wZZ,seval]
 refine qb ?nx1 (fun(k:Nat) s=>s.f 0=?v1_0∧s.f 1=?v1_1∧s.f 5=vi k∧(k≤m.lefts.length)∧(qE n (m.lefts.drop k) k=R)) (fun k=>m.lefts.length - k) (0) wj_ (by refine⟨?_,?_,?_,wo_,(by exact hR)⟩<;>first|(simp only[wL,wM,wN,wX,seval,Option.some.injEq]<;>exact wt_)|rfl|exact⟨_,rfl⟩) ?_
 intro k s hnx ⟨g0,g1,g5,k1_0,k1_1⟩
 by_cases hk:k<m.lefts.length
 · rw[List.drop_eq_getElem_cons hk,qE]at k1_1
   repeat' with_reducible first
    |refine s_ ?_
    |simp only[wZZ,seval,g0,g1,g5]
    |apply qa<;>intro h h_<;>(try simp only[wD,reduceCtorEq]at h_)<;>(try exact wb_)<;>(try simp only[h])
    |refine t_ ?_
    |simp(disch:=omega) only[w64,if_neg]
   · refine qA rfl (Or.inr rfl) ?_
     simp only[wL,seval,g0,g1,g5]
     refine er_ ?_
     try(with_reducible rfl)
     rw[← k1_1,if_pos h_]
   · refine⟨wk_,k+1,o_,?_⟩
     refine⟨?_,?_,?_,?_,?_⟩
     iterate 3 (focus(first|(simp only[wL,wM,wN,wX,seval,Option.some.injEq,g0,g1,g5]<;>exact wt_)|rfl|exact⟨_,rfl⟩))
     all_goals try omega
     rw[← k1_1,if_neg h_]
 · rw[List.drop_eq_nil_of_le o_]at k1_1
   repeat' with_reducible first
    |refine s_ ?_
    |simp only[wZZ,seval,g0,g1,g5]
    |apply qa<;>intro h h_<;>(try simp only[wD,reduceCtorEq]at h_)<;>(try exact wb_)<;>(try simp only[h])
    |refine t_ ?_
   refine qA rfl (Or.inr rfl) ?_
   simp only[wL,seval,g0,g1,g5]
   refine er_ ?_
   try(with_reducible rfl)
   rw[← k1_1];rfl
theorem zU {m:Mk} {n:Int} (hl:m.toks.length≤1099511627776):Pure Try.prog 109 [.iptr 13 m.V 0,vi n] (vi (ql1 m.toks n)):=by
 refine pure_intro Try.func109 nm_ qox (by show 2≤28;decide) ?_
 show ewp _ qgf _ _
 have e:ql1 m.toks n=qdh n (m.toks.drop 3) 3:=rfl
 rw[e]
 generalize hR:qdh n (m.toks.drop 3) 3=R
 repeat' with_reducible first
  |refine s_ ?_
  |simp only[wZZ,seval]
 refine qb ?nx1 (fun(k:Nat) s=>s.f 0=?v1_0∧s.f 1=?v1_1∧s.f 5=vi k∧(qdh n (m.toks.drop k) k=R)) (fun k=>m.toks.length - k) (3) wj_ (by refine⟨?_,?_,?_,(by exact hR)⟩<;>first|(simp only[wL,wM,wN,wX,seval,Option.some.injEq]<;>exact wt_)|rfl|exact⟨_,rfl⟩) ?_
 intro k s hnx ⟨g0,g1,g5,k1_0⟩
 by_cases hk:k<m.toks.length
 · rw[List.drop_eq_getElem_cons hk,qdh]at k1_0
   repeat' with_reducible first
    |refine s_ ?_
    |simp only[wZZ,seval,g0,g1,g5]
    |apply qa<;>intro h h_<;>(try simp only[wD,reduceCtorEq]at h_)<;>(try exact wb_)<;>(try simp only[h])
    |refine t_ ?_
    |simp(disch:=omega) only[w64,if_neg]
   · refine qA rfl (Or.inr rfl) ?_
     simp only[wL,seval,g0,g1,g5]
     refine er_ ?_
     try(with_reducible rfl)
     rw[← k1_0,if_pos h_]
   · refine⟨wk_,k+1,o_,?_⟩
     refine⟨?_,?_,?_,?_⟩
     iterate 3 (focus(first|(simp only[wL,wM,wN,wX,seval,Option.some.injEq,g0,g1,g5]<;>exact wt_)|rfl|exact⟨_,rfl⟩))
     all_goals try omega
 · rw[List.drop_eq_nil_of_le o_]at k1_0
   repeat' with_reducible first
    |refine s_ ?_
    |simp only[wZZ,seval,g0,g1,g5]
    |apply qa<;>intro h h_<;>(try simp only[wD,reduceCtorEq]at h_)<;>(try exact wb_)<;>(try simp only[h])
    |refine t_ ?_
   refine qA rfl (Or.inr rfl) ?_
   simp only[wL,seval,g0,g1,g5]
   refine er_ ?_
   try(with_reducible rfl)
   rw[← k1_0];rfl
theorem qY {m:Mk} {x:Sym} (hl:m.toks.length≤1099511627776):Pure Try.prog 91 [.iptr 13 m.V 0,x.V] (vi (Ki m.toks x)):=by
 refine pure_intro Try.func91 nm_ qEO (by show 2≤47;decide) ?_
 show ewp _ qid _ _
 have e:Ki m.toks x=QZ x (m.toks.drop 1) 1:=rfl
 rw[e]
 generalize hR:QZ x (m.toks.drop 1) 1=R
 obtain ⟨xn,xl,xu,xa⟩:=x
 repeat' with_reducible first
  |refine s_ ?_
  |simp only[wZZ,seval]
  |refine t_ ?_
 refine qb ?nx1 (fun(k:Nat) s=>s.f 0=?v1_0∧s.f 3=?v1_3∧s.H 0=?o1_0∧s.f 5=vi k∧(QZ ⟨xn,xl,xu,xa⟩ (m.toks.drop k) k=R)) (fun k=>m.toks.length - k) (1) wj_ (by refine⟨?_,?_,?_,?_,(by exact hR)⟩<;>first|(simp only[wL,wM,wN,wX,seval,Option.some.injEq]<;>exact wt_)|rfl|exact⟨_,rfl⟩) ?_
 intro k s hnx ⟨g0,g3,o0,g5,k1_0⟩
 by_cases hk:k<m.toks.length
 · rw [List.drop_eq_getElem_cons hk,QZ]at k1_0
   dsimp only at k1_0
   by_cases h1:m.toks[k].name=xn
   · by_cases h2:m.toks[k].lit=xl
     · by_cases h3:k=2
       · subst h3
         rw[if_neg (by simp)]at k1_0
         repeat' with_reducible first
          |refine s_ ?_
          |simp only[wZZ,seval,g0,g3,g5,o0,h1,h2]
          |apply qa<;>intro h h_<;>(try simp only[wD,reduceCtorEq]at h_)<;>(try exact wb_)<;>(try simp only[h])
          |refine t_ ?_
          |simp(disch:=omega) only[w64,if_neg]
         refine⟨wk_,3,o_,?_⟩
         refine⟨?_,?_,?_,?_,?_⟩
         iterate 4 (focus(first|(simp only[wL,wM,wN,wX,seval,Option.some.injEq,g0,g3,g5,o0]<;>exact wt_)|rfl|exact⟨_,rfl⟩))
         all_goals try omega
       · rw[if_pos ⟨h1,h2,h3⟩]at k1_0
         repeat' with_reducible first
          |refine s_ ?_
          |simp only[wZZ,seval,g0,g3,g5,o0,h1,h2]
          |apply qa<;>intro h h_<;>(try simp only[wD,reduceCtorEq]at h_)<;>(try exact wb_)<;>(try simp only[h])
          |refine t_ ?_
         refine qA rfl (Or.inr rfl) ?_
         simp only[wL,seval,g0,g3,g5]
         refine er_ ?_
         try(with_reducible rfl)
         rw[← k1_0]
     · rw[if_neg (by simp[h2])]at k1_0
       have hb:(m.toks[k].lit == xl)=false:=by simpa using h2
       repeat' with_reducible first
        |refine s_ ?_
        |simp only[wZZ,seval,g0,g3,g5,o0,h1,hb]
        |apply qa<;>intro h h_<;>(try simp only[wD,reduceCtorEq]at h_)<;>(try exact wb_)<;>(try simp only[h])
        |refine t_ ?_
        |simp(disch:=omega) only[w64,if_neg]
       refine⟨wk_,k+1,o_,?_⟩
       refine⟨?_,?_,?_,?_,?_⟩
       iterate 4 (focus(first|(simp only[wL,wM,wN,wX,seval,Option.some.injEq,g0,g3,g5,o0]<;>exact wt_)|rfl|exact⟨_,rfl⟩))
       all_goals try omega
   · rw[if_neg (by simp[h1])]at k1_0
     repeat' with_reducible first
      |refine s_ ?_
      |simp only[wZZ,seval,g0,g3,g5,o0]
      |(first|apply qa|apply qg|apply qh)<;>intro h h_<;>(try simp only[wD,reduceCtorEq]at h_)<;>(try exact wb_)<;>(try simp only[h])
      |refine t_ ?_
      |simp(disch:=omega) only[w64,if_neg]
     refine⟨wk_,k+1,o_,?_⟩
     refine⟨?_,?_,?_,?_,?_⟩
     iterate 4 (focus(first|(simp only[wL,wM,wN,wX,seval,Option.some.injEq,g0,g3,g5,o0]<;>exact wt_)|rfl|exact⟨_,rfl⟩))
     all_goals try omega
 · rw[List.drop_eq_nil_of_le o_]at k1_0
   repeat' with_reducible first
    |refine s_ ?_
    |simp only[wZZ,seval,g0,g3,g5,o0]
    |apply qa<;>intro h h_<;>(try simp only[wD,reduceCtorEq]at h_)<;>(try exact wb_)<;>(try simp only[h])
    |refine t_ ?_
   refine qA rfl (Or.inr rfl) ?_
   simp only[wL,seval,g0,g3,g5]
   refine er_ ?_
   try(with_reducible rfl)
   rw[← k1_0];rfl

@[reducible] def mkC (ti gi:Nat) (vN vP vT vL:V) (M:Mk):V:= .agg [.msl ti 6 0 M.toks.length,vN,vP,.str [],.str [],.msl gi 1 0 M.given.length,vT,vL,vi M.e,vi M.at_,.str M.name,vi M.level,vi M.inner]
structure MkAt (H:Nat→Option MObj) (next m ti gi:Nat) (vN vP vT vL:V) (M:Mk):Prop where
 hm:H m=some (.own 13 [mkC ti gi vN vP vT vL M] false)
 ht:H ti=some (.own 6 (M.toks.map Tok.V) false)
 hg:H gi=some (.own 1 (M.given.map V.bool) false)
 eN:ErP vN (.sl 2 false (M.nons.map Non.V))
 eP:ErP vP (.sl 6 false (M.prods.map GPr.V))
 eT:ErP vT (.sl 2 false (M.types.map Non.V))
 eL:ErP vL (.sl 1 false (M.lefts.map V.str))
 lm:m<next
 lt:ti<next
 lg:gi<next
 len:M.given.length=M.toks.length
 len3:3≤M.toks.length
theorem MkAt.mt {H:Nat→Option MObj} {next m ti gi:Nat} {vN vP vT vL:V} {M:Mk} (h:MkAt H next m ti gi vN vP vT vL M):ti≠m∧gi≠m∧gi≠ti:=by
 refine⟨fun e=>?_,fun e=>?_,fun e=>?_⟩
 · have:=h.ht;rw[e,h.hm]at this;cases this
 · have:=h.hg;rw[e,h.hm]at this;cases this
 · have:=h.hg;rw[e,h.ht]at this;cases this
theorem MkAt.er {H:Nat→Option MObj} {next m ti gi:Nat} {vN vP vT vL:V} {M:Mk} (h:MkAt H next m ti gi vN vP vT vL M):Er true H (.ptr m 0 0) (.iptr 13 M.V 0):=by
 refine .ptr m 0 0 13 _ false _ _ rfl h.hm rfl ?_
 refine ErL.agg (.cons ?_ (.cons h.eN.er (.cons h.eP.er (.cons (.str _) (.cons (.str _) (.cons ?_ (.cons h.eT.er (.cons h.eL.er (.cons (.int _ _) (.cons (.int _ _) (.cons (.str _) (.cons (.int _ _) (.cons (.int _ _) .nil)))))))))))))
 · exact yD h.ht (by simp) (by rw[List.drop_zero];exact List.take_of_length_le (by simp))
 · exact yD h.hg (by simp) (by rw[List.drop_zero];exact List.take_of_length_le (by simp))
theorem MkAt.keep {H H':Nat→Option MObj} {next n' m ti gi:Nat} {vN vP vT vL:V} {M M':Mk} (h:MkAt H next m ti gi vN vP vT vL M) (hn:next≤n') (hm:H' m=some (.own 13 [mkC ti gi vN vP vT vL M'] false))
 (hf: ∀j,j<next→j≠m→H' j=H j) (e:M'.toks=M.toks∧M'.given=M.given∧M'.nons=M.nons∧M'.prods=M.prods∧M'.types=M.types∧M'.lefts=M.lefts):
 next≤n'∧MkAt H' n' m ti gi vN vP vT vL M'∧ ∀j,j<next→j≠m→H' j=H j:=by
 obtain ⟨e1,e2,e3,e4,e5,e6⟩:=e
 obtain ⟨n1,n2,n3⟩:=h.mt
 have:=h.lm;have:=h.lt;have:=h.lg
 refine⟨hn,⟨hm,?_,?_,e3 ▸ h.eN,e4 ▸ h.eP,e5 ▸ h.eT,e6 ▸ h.eL,o_,o_,o_,e1 ▸ e2 ▸ h.len,e1 ▸ h.len3⟩,hf⟩
 · rw[hf ti h.lt n1,e1];exact h.ht
 · rw[hf gi h.lg n2,e2];exact h.hg
theorem MkAt.mono {H H':Nat→Option MObj} {next n' m ti gi:Nat} {vN vP vT vL:V} {M:Mk} (h:MkAt H next m ti gi vN vP vT vL M) (hn:next≤n') (hf: ∀j,j<next→H' j=H j):MkAt H' n' m ti gi vN vP vT vL M:=by
 have:=h.lm;have:=h.lt;have:=h.lg
 exact⟨by rw[hf m h.lm];exact h.hm,by rw[hf ti h.lt];exact h.ht,by rw[hf gi h.lg];exact h.hg,h.eN,h.eP,h.eT,h.eL,o_,o_,o_,h.len,h.len3⟩
theorem VU {cls:Cls} {id:Nat} {s:St} {K:V→St→Prop} {z bytes ti n:Nat} {vy:V} {es ys:List V} (hcl:(cls == .t)=false) (hH:s.H ti=some (.own z es false)) (hn:n=es.length) (hs:qU s.H z ys vy)
 (hb:(es.length+ys.length) *bytes≤140737488355328) (hl:es.length+ys.length≤maxLen)
 (hk:K (.msl id z 0 (es.length+ys.length)) ((s.setO ti none).setO id (some (.own z (es++ys) false)))):Vr cls id s K true z bytes (.msl ti z 0 n) vy:=by
 subst hn
 unfold Vr
 rw[hs.1 s rfl]
 refine⟨fun e=>(by subst e;cases hcl),?_⟩
 have e:qW id s true z (.msl ti z 0 es.length) ys=some (.msl id z 0 (es.length+ys.length),(s.setO ti none).setO id (some (.own z (es++ys) false)),es.length+ys.length):=by simp[qW,hH]
 rw[e]
 exact⟨hb,hl,hk⟩
theorem zk {P:Program} [Glob P] {cls:Cls} {id:Nat} {s:St} {K:V→St→Prop} {f:FuncId} {vs:List V} {H:Nat→Option MObj} {N:Nat} (hc:(cls == .w || cls == .any)=true) (hH:s.H=H) (hN:s.next=N)
 (h:qZ P f vs H N fun v H' next'=>K v {s with H:=H',next:=next'}):vF P cls id s K f vs:=by
 subst hN
 subst hH
 have hk: ∀H' n',qde cls s.next s.H H' n':=by
  intro H' n'
  cases cls with
  |w=>trivial
  |any=>trivial
  |v z=>exact absurd hc (by simp)
  | _=>cases hc
 have hw:qO5 cls=true:=by
  cases cls with
  |w=>rfl
  |any=>rfl
  |v z=>exact absurd hc (by simp)
  | _=>cases hc
 refine Or.inr ⟨hw,?_⟩
 rw[List.append_nil]
 exact h.mono fun _ _ _ h1=>⟨hk _ _,h1⟩
theorem YD {H:Nat→Option MObj} {next m ti gi:Nat} {vN vP vT vL:V} {M:Mk} {a:Int} {n:List UInt8} (h:MkAt H next m ti gi vN vP vT vL M):qZ Try.prog 90 [.ptr m 0 0,vi a,.str n] H next (fun _ H' next'=>next≤next'∧MkAt H' next' m ti gi vN vP vT vL (zl M a n)∧ ∀j,j<next→j≠m→H' j=H j):=by
 refine qO Try.func90 nm_ qAn (by show 3≤22;decide) ?_
 show ewp _ qAz _ _
 have hm:=h.hm
 obtain ⟨n1,n2,n3⟩:=h.mt
 by_cases he:M.e=0
 · have hz:zl M a n={M with e:=3,at_:=a,name:=n}:=by unfold zl;rw[if_pos he]
   rw[hz]
   repeat' with_reducible first
    |refine s_ ?_
    |simp only[wZZ,seval,hm,he]
    |refine t_ ?_
   refine Qt rfl (Or.inl rfl) ?_
   refine h.keep wh_ (by simp only[wM,↓reduceIte]) (fun j h1 h2=>?_) ⟨rfl,rfl,rfl,rfl,rfl,rfl⟩
   simp only[wM,if_neg h2]
 · have hz:zl M a n=M:=by unfold zl;rw[if_neg he]
   rw[hz]
   repeat' with_reducible first
    |refine s_ ?_
    |simp only[wZZ,seval,hm]
    |apply qa<;>intro h h_<;>(try simp only[wD,reduceCtorEq]at h_)<;>(try exact wb_)<;>(try simp only[h])
    |refine t_ ?_
   refine Qt rfl (Or.inl rfl) ?_
   exact MkAt.keep ‹_› wh_ (by simp only[wM,hm]) (fun j h1 h2=>by simp only[wM]) ⟨rfl,rfl,rfl,rfl,rfl,rfl⟩

theorem qSC {H:Nat→Option MObj} {next m ti gi:Nat} {vN vP vT vL:V} {M:Mk} {x:Sym} (hM:MkAt H next m ti gi vN vP vT vL M) (hb:M.toks.length≤1099511627776) (hx:x.lit=true→x.name≠[]):qZ Try.prog 108 [.ptr m 0 0,x.V] H next (fun v H' next'=>next≤next'∧v=vi (QR M x).2∧(∃ti' gi',(ti'=ti∨next≤ti')∧(gi'=gi∨next≤gi')∧MkAt H' next' m ti' gi' vN vP vT vL (QR M x).1)∧ ∀j,j<next→j≠m→j≠ti→j≠gi→H' j=H j):=by
 refine qO Try.func108 nm_ qli (by show 2≤66;decide) ?_
 show ewp _ qbn _ _
 have hm:=hM.hm;have lm:=hM.lm;have lt:=hM.lt;have lg:=hM.lg
 obtain ⟨n1,n2,n3⟩:=hM.mt
 generalize hR:QR M x=R
 unfold QR at hR
 by_cases ht:0≤Ki M.toks x
 · rw[if_pos ht]at hR
   subst hR
   repeat' with_reducible first
    |refine s_ ?_
    |simp only[wZZ,seval,hm]
    |apply qa<;>intro h h_<;>(try simp only[wD,reduceCtorEq]at h_)<;>(try exact wb_)<;>(try simp only[h])
    |apply ze (hp:=qY ?_);(focus(refine(hM.mono (Nat.le_refl _) (fun j hj=>?_)).er;(try simp only[wM]);(repeat rw[if_neg o_])));exact qc;exact wu_;exact Flat.int _ _;rotate_left;exact wf_
    |refine t_ ?_
   refine kQ rfl (Or.inr rfl) ?_
   simp only[wL,seval]
   refine⟨by simp only[wN]<;>omega,trivial,⟨ti,gi,Or.inl rfl,Or.inl rfl,hM.mono wh_ (fun j hj=>?_)⟩,fun j hj _ _ _=>?_⟩
   · simp only[wM];rw[if_neg o_]
   · simp only[wM];rw[if_neg o_]
 · rw [if_neg ht]at hR
   have tail: ∀(s:St) (M1:Mk) (b:Nat),next<s.next→next≤b→b<s.next→s.f 0=.ptr m 0 0→s.f 3=.ptr next 0 0→s.f 6=.ptr b 0 0→s.H next=some (.own 4 [x.V] false)→s.H b=some (.own 6 [Tok.V {name:=x.name,lit:=x.lit,num:=qgn x}] false)→
    MkAt s.H s.next m ti gi vN vP vT vL M1→M1.toks=M.toks→M1.given=M.given→(∀j,j<next→j≠m→s.H j=H j)→R=({M1 with toks:=M.toks++[{name:=x.name,lit:=x.lit,num:=qgn x}],given:=M.given++[x.lit]},(M.toks.length:Int))→
    ewp Try.prog VY (jI e108 fun v H' next'=>next≤next'∧v=vi R.2∧(∃ti' gi',(ti'=ti∨next≤ti')∧(gi'=gi∨next≤gi')∧MkAt H' next' m ti' gi' vN vP vT vL R.1)∧ ∀j,j<next→j≠m→j≠ti→j≠gi→H' j=H j) s:=by
    intro s M1 b l1 l2 l3 g0 g3 g6 o1 o2 hM1 e1 e2 hf eR
    have hm1:=hM1.hm;have ht1:=hM1.ht;have hg1:=hM1.hg;have lm1:=hM1.lm;have lt1:=hM1.lt;have lg1:=hM1.lg
    have hl:=hM1.len
    rw[e1,e2]at hl
    repeat' with_reducible first
     |refine s_ ?_
     |simp only[wZZ,seval,g0,g3,g6,o1,o2,hm1,ht1,hg1]
     |apply VU;exact wu_;(focus((try simp only[wM]);(repeat rw[if_neg o_]);exact ht1));simp only[List.length_map];(focus(first|exact qU.sl|exact qU.asl));(focus(simp only[wZ,e1,e2];omega));(focus(unfold maxLen;simp only[wZ,e1,e2];omega))
     |apply VU;exact wu_;(focus((try simp only[wM]);(repeat rw[if_neg o_]);exact hg1));simp only[List.length_map];(focus(first|exact qU.sl|exact qU.asl));(focus(simp only[wZ,e1,e2];omega));(focus(unfold maxLen;simp only[wZ,e1,e2];omega))
     |refine t_ ?_
     |simp(disch:=omega) only[w64,if_neg]
    refine kQ rfl (Or.inr rfl) ?_
    simp only[wL,seval]
    rw[eR]
    refine⟨by simp only[wN]<;>omega,by rw[e1,wrap64 o_ o_],⟨s.next+8,s.next+13+8,Or.inr o_,Or.inr o_,?_⟩,fun j hj h1 h2 h3=>?_⟩
    · refine⟨?_,?_,?_,hM1.eN,hM1.eP,hM1.eT,hM1.eL,by simp only[wN]<;>omega,by simp only[wN]<;>omega,by simp only[wN]<;>omega,by simp[hl],by have:=hM.len3;simp;omega⟩
      · simp only[wM,↓reduceIte]
        simp[e1,e2]
      · simp only[wM]
        repeat first|rw[if_pos trivial]|rw[if_pos rfl]|rw[if_neg o_]
        simp[e1]
      · simp only[wM]
        repeat first|rw[if_pos trivial]|rw[if_pos rfl]|rw[if_neg o_]
        simp[e2]
    · simp only[wM]
      repeat rw[if_neg o_]
      exact hf j hj h1
   have show27: ∀Q s,ewp Try.prog (.seq (.reg qjG) (.seq (.reg qiH) (.seq qi2 (.seq (.reg qhX) (.seq qfy VY))))) Q s→ewp Try.prog qbn Q s:=fun Q s h=>h
   refine show27 _ _ ?_
   have hR2: ∀M1,(if x.lit=true∧0≤ql1 M.toks (qgn x)then zl M x.at_ x.name else M)=M1→R=({M1 with toks:=M.toks++[{name:=x.name,lit:=x.lit,num:=qgn x}],given:=M.given++[x.lit]},(M.toks.length:Int)):=fun M1 h=>by subst h;exact hR.symm
   generalize VY=E at tail
   have hlit:x.lit=true→ ∃c,x.name[(0:Int).toNat]?=some c∧qgn x=c.toNat:=fun h=>by
    have:=hx h
    cases hn:x.name with
    |nil=>exact absurd hn this
    |cons c r=>exact⟨c,rfl,by unfold qgn;rw[if_pos h,hn];rfl⟩
   by_cases hlt:x.lit=true
   · obtain ⟨c,hc,hc2⟩:=hlit hlt
     have hcl:=c.toNat_lt
     have hz:IntKind.i64.wrap (c.toNat:Int)=(c.toNat:Int):=wrap64 o_ o_
     repeat' with_reducible first
      |refine s_ ?_
      |simp only[wZZ,seval,hm,hz]
      |apply qa<;>intro h h_<;>(try simp only[wD,reduceCtorEq]at h_)<;>(try exact wb_)<;>(try simp only[h])
      |apply ze (hp:=qY ?_);(focus(refine(hM.mono (Nat.le_refl _) (fun j hj=>?_)).er;(try simp only[wM]);(repeat rw[if_neg o_])));exact qc;exact wu_;exact Flat.int _ _;rotate_left;exact wf_
      |apply ze (hp:=zU ?_);(focus(refine(hM.mono (Nat.le_refl _) (fun j hj=>?_)).er;(try simp only[wM]);(repeat rw[if_neg o_])));exact qc;exact wu_;exact Flat.int _ _;rotate_left;exact wf_
      |(refine zk rfl rfl rfl ((YD (hM.mono wh_ (fun j hj=>by(try simp only[wM]);(repeat rw[if_neg o_])))).mono ?_);rintro v1 H1 n1 ⟨q1,q2,q3⟩;(try simp only[wN]at q1);(try simp only[wM]at q3))
      |refine t_ ?_
      |simp(disch:=omega) only[w64,if_neg]
     · have hg: ∀j,j<next+2+4+2+7→j≠m→H1 j=if j=next+2+4+2+5 then some (.own 6 [.agg [.str x.name,.bool true,vi c.toNat,vi 0,vi 0,.str []]] false)else if j=next then some (.own 4 [x.V] false)else H j:=fun j h1 h2=>by
        rw[q3 j wg_ h2]
        (try simp only[wM])
        by_cases e1:j=next+2+4+2+5
        · simp only[if_pos e1]
        · simp only[if_neg e1]
       refine tail _ (zl M x.at_ x.name) (next+2+4+2+5) (by show next<n1;omega) o_ (by show _<n1;omega) wl_ wl_ wl_ ?_ ?_ q2 ?_ ?_ (fun j h1 h2=>?_) ?_
       · show H1 next=_
         rw[hg next o_ o_,if_neg o_,if_pos rfl]
       · show H1 (next+2+4+2+5)=_
         rw[hg _ o_ o_,if_pos rfl,hlt,hc2]
       · unfold zl;split<;>rfl
       · unfold zl;split<;>rfl
       · show H1 j=_
         rw[hg j o_ h2,if_neg o_,if_neg o_]
       · exact hR2 _ (if_pos ⟨hlt,by rw[hc2];exact h_⟩)
     · refine tail _ M (next+2+4+2+5) wh_ o_ wh_ wl_ wl_ wl_ ?_ ?_ (hM.mono wh_ (fun j hj=>?_)) rfl rfl (fun j h1 h2=>?_) ?_
       · simp only[wM]
         repeat first|rw[if_pos trivial]|rw[if_pos rfl]|rw[if_neg o_]
       · simp only[wM]
         repeat first|rw[if_pos trivial]|rw[if_pos rfl]|rw[if_neg o_]
         rw[hlt,hc2]
       · simp only[wM]
         repeat first|rw[if_pos trivial]|rw[if_pos rfl]|rw[if_neg o_]
       · simp only[wM]
         repeat first|rw[if_pos trivial]|rw[if_pos rfl]|rw[if_neg o_]
       · exact hR2 _ (if_neg (fun e=>by have:=e.2;rw[hc2]at this;omega))
   · have hlf:x.lit=false:=by simpa using hlt
     have hl0:qgn x=0:=by unfold qgn;rw[if_neg hlt]
     repeat' with_reducible first
      |refine s_ ?_
      |simp only[wZZ,seval,hm]
      |apply qa<;>intro h h_<;>(try simp only[wD,reduceCtorEq]at h_)<;>(try exact wb_)<;>(try simp only[h])
      |apply ze (hp:=qY ?_);(focus(refine(hM.mono (Nat.le_refl _) (fun j hj=>?_)).er;(try simp only[wM]);(repeat rw[if_neg o_])));exact qc;exact wu_;exact Flat.int _ _;rotate_left;exact wf_
      |refine t_ ?_
      |simp(disch:=omega) only[w64,if_neg]
     refine tail _ M (next+2+4+2+5) wh_ o_ wh_ wl_ wl_ wl_ ?_ ?_ (hM.mono wh_ (fun j hj=>?_)) rfl rfl (fun j h1 h2=>?_) ?_
     · simp only[wM]
       repeat first|rw[if_pos trivial]|rw[if_pos rfl]|rw[if_neg o_]
     · simp only[wM]
       repeat first|rw[if_pos trivial]|rw[if_pos rfl]|rw[if_neg o_]
       rw[hlf,hl0]
     · simp only[wM]
       repeat first|rw[if_pos trivial]|rw[if_pos rfl]|rw[if_neg o_]
     · simp only[wM]
       repeat first|rw[if_pos trivial]|rw[if_pos rfl]|rw[if_neg o_]
     · exact hR2 _ (if_neg (fun e=>hlt e.1))
end Go.Proofs
