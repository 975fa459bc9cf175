/- Part of a proof that a law of the given program answers true. -/
import Derived.Test.YtkcegflhobejmaaGreatDoorBFA
import Derived.Test.YtkcegflhobejmaaGreatDoorBGC
set_option maxRecDepth 20000
set_option linter.unusedSimpArgs false
set_option linter.unusedVariables false
namespace Go.Proofs
open Go.E
def Xq (p:Part):Bool:=if p.code=[]then qaU p.sym false true else p.sym.none && decide (qMt p.code=p.code.length)
def qft (a:Alt):Bool:=a.parts.all Xq && (a.prec.none || qaU a.prec false true)
def Part.Fits (p:Part):Prop:=p.sym.name.length≤1099511627776∧p.code.length≤1099511627776
def Alt.Fits (a:Alt):Prop:=a.parts.length≤1099511627776∧(∀p∈a.parts,p.Fits)∧a.prec.name.length≤1099511627776
theorem Zx {a:Alt} (hf:a.Fits):Pure Tryz.prog 128 [a.V] (.bool (qft a)):=by
 refine pure_intro Tryz.func128 nm_ qcL (by show 1≤54;decide) ?_
 show ewp _ qdF _ _
 obtain ⟨hl,hp,hn⟩:=hf
 obtain ⟨ps,pc,at_⟩:=a
 dsimp only at hl hp hn
 repeat' with_reducible first
  |refine s_ ?_
  |simp -implicitDefEqProofs only[wZZ,seval]
  |refine t_ ?_
 refine qi ?nx1 (fun(k:Nat) s=>s.f 1=?v1_1∧s.H 0=?o1_0∧s.f 3=vi k∧(k≤ps.length)∧(∀x∈ps.take k,Xq x=true)) (fun k=>ps.length - k) (0) wj_ (by refine⟨?_,?_,?_,wo_,wo_⟩<;>first|(simp -implicitDefEqProofs only[wL,wM,wN,wX,seval,Option.some.injEq]<;>exact wt_)|rfl|exact⟨_,rfl⟩) ?_
 intro k s hnx ⟨g1,o0,g3,k1_0,k1_1⟩
 by_cases hk:k<ps.length
 · have hx:=hp ps[k] (List.getElem_mem hk)
   have ht2:ps.take (k+1)=ps.take k++[ps[k]]:=by rw[List.take_add_one,ge_ hk];rfl
   have hbad:Xq ps[k]=false→qft ⟨ps,pc,at_⟩=false:=fun h=>by
    unfold qft;rw[List.all_eq_false.2 ⟨ps[k],List.getElem_mem hk,by rw[h];exact Bool.false_ne_true⟩];rfl
   have hgood:Xq ps[k]=true→ ∀x∈ps.take (k+1),Xq x=true:=fun h x hx2=>by
    rw[ht2]at hx2
    rcases List.mem_append.1 hx2 with hx2|hx2
    · exact k1_1 x hx2
    · obtain rfl:=List.mem_singleton.1 hx2
      exact h
   obtain ⟨hx1,hx2⟩:=hx
   repeat' with_reducible first
    |refine s_ ?_
    |simp -implicitDefEqProofs only[wZZ,seval,g1,g3,o0]
    |(first|apply qa|apply qJ|apply qK)<;>intro h h_<;>(try simp only[wD,reduceCtorEq]at h_)<;>(try exact wb_)<;>(try simp only[h])
    |refine t_ ?_
    |apply qf;exact wu_;exact wu_;(focus((try simp -implicitDefEqProofs only[wE,Nat.reduceAdd]);rfl))
    |refine zu we_ we_ we_ (j3 wf_) ?_
    |refine cq1 Qc we_ ?_
    |refine qA we_ we_ (Yp wf_) ?_
    |simp -implicitDefEqProofs (disch:=omega) only[w64,if_neg]
   · refine⟨wk_,k+1,o_,?_⟩
     refine⟨?_,?_,?_,?_,?_⟩
     iterate 3 (focus(first|(simp -implicitDefEqProofs only[wL,wM,wN,wX,seval,Option.some.injEq,g1,g3,o0]<;>exact wt_)|rfl|exact⟨_,rfl⟩))
     all_goals try omega
     exact hgood (by simp_all [Xq,Sym.none])
   · refine qF rfl (Or.inr rfl) ?_
     simp -implicitDefEqProofs only[wL,seval,g1,g3]
     refine er_ ?_
     try(with_reducible rfl)
     exact(hbad (by simp_all [Xq,Sym.none])).symm
   · refine qF rfl (Or.inr rfl) ?_
     simp -implicitDefEqProofs only[wL,seval,g1,g3]
     refine er_ ?_
     try(with_reducible rfl)
     exact(hbad (by simp_all [Xq,Sym.none])).symm
   · refine⟨wk_,k+1,o_,?_⟩
     refine⟨?_,?_,?_,?_,?_⟩
     iterate 3 (focus(first|(simp -implicitDefEqProofs only[wL,wM,wN,wX,seval,Option.some.injEq,g1,g3,o0]<;>exact wt_)|rfl|exact⟨_,rfl⟩))
     all_goals try omega
     exact hgood (by simp_all [Xq,Sym.none])
   · refine qF rfl (Or.inr rfl) ?_
     simp -implicitDefEqProofs only[wL,seval,g1,g3]
     refine er_ ?_
     try(with_reducible rfl)
     exact(hbad (by simp_all [Xq,Sym.none])).symm
 · rw[List.take_of_length_le o_]at k1_1
   have e:qft ⟨ps,pc,at_⟩=(pc.none || qaU pc false true):=by unfold qft;rw[List.all_eq_true.2 k1_1];rfl
   rw[e]
   repeat' with_reducible first
    |refine s_ ?_
    |simp -implicitDefEqProofs only[wZZ,seval,g1,g3,o0]
    |(first|apply qa|apply qJ|apply qK)<;>intro h h_<;>(try simp only[wD,reduceCtorEq]at h_)<;>(try exact wb_)<;>(try simp only[h])
    |apply qf;exact wu_;exact wu_;(focus((try simp -implicitDefEqProofs only[wE,Nat.reduceAdd]);rfl))
    |refine t_ ?_
    |refine zu we_ we_ we_ (j3 wf_) ?_
    |refine cq1 Qc we_ ?_
   all_goals refine qF rfl (Or.inr rfl) ?_
   all_goals(try simp -implicitDefEqProofs only[wL,seval,g1,g3])
   all_goals refine er_ ?_
   all_goals(try(with_reducible rfl))
   all_goals simp_all
def qnr:List UInt8→Bool
 |[]=>false
 |[_]=>false
 |a::b::r=>(decide (a=37) && decide (b=125)) || qnr (b::r)
def VN (r:Rule):Bool:=KV r.left && !decide (r.alts=[]) && r.alts.all qft
def YR (x:Source):Bool:= !qnr x.pro && x.decls.all YL && x.rules.all VN && !decide (x.rules=[])
def Decl.Fits (d:Decl):Prop:=d.tag.length≤1099511627776∧d.syms.length≤1099511627776∧ ∀x∈d.syms,x.name.length≤1099511627776
def Rule.Fits (r:Rule):Prop:=r.left.length≤1099511627776∧r.alts.length≤1099511627776∧ ∀a∈r.alts,a.Fits
def Source.Fits (x:Source):Prop:=x.pro.length≤1099511627776∧x.tail.length≤1099511627776∧x.decls.length≤1099511627776∧(∀d∈x.decls,d.Fits)∧x.rules.length≤1099511627776∧ ∀r∈x.rules,r.Fits
theorem YM {α:Type} {p:α→Bool} {l:List α} {k:Nat} (hk:k<l.length) (h: ∀x∈l.take k,p x=true) (hx:p l[k]=true): ∀x∈l.take (k+1),p x=true:=by
 rw[List.take_add_one,ge_ hk]
 intro x h2
 rcases List.mem_append.1 h2 with h2|h2
 · exact h x h2
 · obtain rfl:=List.mem_singleton.1 h2
   exact hx
theorem KT {α:Type} {p:α→Bool} {l:List α} {k:Nat} (hk:k<l.length) (hx:p l[k]=false):l.all p=false:=
 List.all_eq_false.2 ⟨l[k],List.getElem_mem hk,by rw[hx];exact Bool.false_ne_true⟩
theorem qct (a b:UInt8) (r:List UInt8):qnr (a::b::r)=((decide (a=37) && decide (b=125)) || qnr (b::r)):=rfl
theorem QC {x:Source} (hf:x.Fits):Pure Tryz.prog 98 [x.V] (.bool (YR x)):=by
 refine pure_intro Tryz.func98 nm_ qfS (by show 1≤77;decide) ?_
 show ewp _ qhp _ _
 obtain ⟨hp,ht,hdl,hd,hrl,hr⟩:=hf
 obtain ⟨pro,ds,rs,tl⟩:=x
 dsimp only at hp ht hdl hd hrl hr
 repeat' with_reducible first
  |refine s_ ?_
  |simp -implicitDefEqProofs only[wZZ,seval]
  |refine t_ ?_
 refine qi ?nx1 (fun(k:Nat) s=>s.f 1=?v1_1∧s.H 0=?o1_0∧s.f 3=vi k∧(k≤pro.length)∧(qnr (pro.drop k)=qnr pro)) (fun k=>pro.length - k) (0) wj_ (by refine⟨?_,?_,?_,wo_,wo_⟩<;>first|(simp -implicitDefEqProofs only[wL,wM,wN,wX,seval,Option.some.injEq]<;>exact wt_)|rfl|exact⟨_,rfl⟩) ?_
 intro k s hnx ⟨g1,o0,g3,k1_0,k1_1⟩
 by_cases hk:k+1<pro.length
 · have hz:=w1_ k
   have hz2:IntKind.i64.wrap ((k:Int)+2)=(k:Int)+2:=wrap64 o_ o_
   have e1:pro.drop k=pro[k]::pro[k+1]::pro.drop (k+2):=by rw[List.drop_eq_getElem_cons o_,List.drop_eq_getElem_cons hk]
   have e2:pro.drop (k+1)=pro[k+1]::pro.drop (k+2):=by rw[List.drop_eq_getElem_cons hk]
   have e3:(pro.take (k+2)).drop k=[pro[k],pro[k+1]]:=by
    rw[List.drop_take,e1,show k+2 - k=2 by omega];rfl
   have e4:((pro.take ((k:Int)+2).toNat).drop k)=[pro[k],pro[k+1]]:=by
    rw[show ((k:Int)+2).toNat=k+2 by omega,e3]
   rw[e1,qct,← e2]at k1_1
   repeat' with_reducible first
    |refine s_ ?_
    |simp -implicitDefEqProofs only[wZZ,seval,g1,g3,o0,hz,hz2]
    |apply qa<;>intro h h_<;>(try simp only[wD,reduceCtorEq]at h_)<;>(try exact wb_)<;>(try simp only[h])
    |apply YJ;omega;omega;omega
    |refine t_ ?_
   · refine qF rfl (Or.inr rfl) ?_
     simp -implicitDefEqProofs only[wL,seval,g1,g3]
     refine er_ ?_
     try(with_reducible rfl)
     rw[e4]at h_
     simp at h_
     simp[h_.1,h_.2]at k1_1
     simp[YR,k1_1]
   · refine⟨wk_,k+1,o_,?_⟩
     refine⟨?_,?_,?_,?_,?_⟩
     iterate 3 (focus(first|(simp -implicitDefEqProofs only[wL,wM,wN,wX,seval,Option.some.injEq,g1,g3,o0]<;>exact wt_)|rfl|exact⟨_,rfl⟩))
     all_goals try omega
     rw[e4]at h_
     simp at h_
     rw[← k1_1]
     by_cases h37:pro[k]=37
     · simp[h_ h37]
     · simp[h37]
 · have hpc :qnr pro=false:=by
    rw[← k1_1]
    by_cases hk2:k<pro.length
    · rw[List.drop_eq_getElem_cons hk2,List.drop_eq_nil_of_le o_];rfl
    · rw[List.drop_eq_nil_of_le o_];rfl
   have hz:=w1_ k
   repeat' with_reducible first
    |refine s_ ?_
    |simp -implicitDefEqProofs only[wZZ,seval,g1,g3,o0,hz]
    |apply qa<;>intro h h_<;>(try simp only[wD,reduceCtorEq]at h_)<;>(try exact wb_)<;>(try simp only[h])
    |refine t_ ?_
   refine qi ?nx2 (fun(k:Nat) s=>s.f 1=?v2_1∧s.H 0=?o2_0∧s.f 4=vi k∧(k≤ds.length)∧(∀x∈ds.take k,YL x=true)) (fun k=>ds.length - k) (0) wj_ (by refine⟨?_,?_,?_,wo_,wo_⟩<;>first|(simp -implicitDefEqProofs only[wL,wM,wN,wX,seval,Option.some.injEq,g1,g3,o0]<;>exact wt_)|rfl|exact⟨_,rfl⟩) ?_
   intro k s hnx ⟨g1,o0,g4,k2_0,k2_1⟩
   by_cases hk:k<ds.length
   · obtain ⟨hx1,hx2,hx3⟩:=hd ds[k] (List.getElem_mem hk)
     repeat' with_reducible first
      |refine s_ ?_
      |simp -implicitDefEqProofs only[wZZ,seval,g1,g4,o0]
      |apply qa<;>intro h h_<;>(try simp only[wD,reduceCtorEq]at h_)<;>(try exact wb_)<;>(try simp only[h])
      |refine t_ ?_
      |refine zf we_ (QV wf_ wf_ wf_) ?_
      |simp -implicitDefEqProofs (disch:=omega) only[w64,if_neg]
     · refine qF rfl (Or.inr rfl) ?_
       simp -implicitDefEqProofs only[wL,seval,g1,g4]
       refine er_ ?_
       try(with_reducible rfl)
       have:=KT hk (p:=YL) (by simpa using h_)
       simp[YR,this]
     · refine⟨wk_,k+1,o_,?_⟩
       refine⟨?_,?_,?_,?_,?_⟩
       iterate 3 (focus(first|(simp -implicitDefEqProofs only[wL,wM,wN,wX,seval,Option.some.injEq,g1,g4,o0]<;>exact wt_)|rfl|exact⟨_,rfl⟩))
       all_goals try omega
       exact YM hk k2_1 (by simpa using h_)
   · rw [List.take_of_length_le o_]at k2_1
     repeat' with_reducible first
      |refine s_ ?_
      |simp -implicitDefEqProofs only[wZZ,seval,g1,g4,o0]
      |apply qa<;>intro h h_<;>(try simp only[wD,reduceCtorEq]at h_)<;>(try exact wb_)<;>(try simp only[h])
      |refine t_ ?_
     refine qi ?nx3 (fun(k:Nat) s=>s.f 1=?v3_1∧s.H 0=?o3_0∧s.f 5=vi k∧(k≤rs.length)∧(∀x∈rs.take k,VN x=true)) (fun k=>rs.length - k) (0) wj_ (by refine⟨?_,?_,?_,wo_,wo_⟩<;>first|(simp -implicitDefEqProofs only[wL,wM,wN,wX,seval,Option.some.injEq,g1,g4,o0]<;>exact wt_)|rfl|exact⟨_,rfl⟩) ?_
     intro k s hnx ⟨g1,o0,g5,k3_0,k3_1⟩
     by_cases hk:k<rs.length
     · obtain ⟨hx1,hx2,hx3⟩:=hr rs[k] (List.getElem_mem hk)
       obtain ⟨n0,hn0⟩: ∃n0,n0=s.next:=⟨_,rfl⟩
       have hbad:VN rs[k]=false→YR ⟨pro,ds,rs,tl⟩=false:=fun h=>by
        simp[YR,KT hk h]
       repeat' with_reducible first
        |refine s_ ?_
        |simp -implicitDefEqProofs only[wZZ,seval,g1,g5,o0]
        |(first|apply qa|apply qJ|apply qK)<;>intro h h_<;>(try simp only[wD,reduceCtorEq]at h_)<;>(try exact wb_)<;>(try simp only[h])
        |refine t_ ?_
        |refine zf we_ (xU wf_) ?_
       · refine qF rfl (Or.inr rfl) ?_
         simp -implicitDefEqProofs only[wL,seval,g1,g5]
         refine er_ ?_
         try(with_reducible rfl)
         refine(hbad ?_).symm
         have:rs[k].alts=[]:=List.length_eq_zero_iff.1 o_
         simp[VN,this]
       · rw [← hn0]
         refine qi ?nx4 (fun(j:Nat) s=>s.f 1=?v4_1∧s.f 5=?v4_5∧s.f 6=?v4_6∧s.H 0=?o4_0∧s.H (n0+5+5)=?o4_1∧s.f 7=vi j∧(j≤rs[k].alts.length)∧(∀x∈rs[k].alts.take j,qft x=true)) (fun j=>rs[k].alts.length - j) (0) wj_ (by refine⟨?_,?_,?_,?_,?_,?_,wo_,wo_⟩<;>first|(simp -implicitDefEqProofs only[wL,wM,wN,wX,seval,Option.some.injEq,g1,g5,o0]<;>exact wt_)|rfl|exact⟨_,rfl⟩) ?_
         intro j s hnx ⟨g1,g5,g6,o0,o1,g7,k4_0,k4_1⟩
         by_cases hj:j<rs[k].alts.length
         · have hx4:=hx3 rs[k].alts[j] (List.getElem_mem hj)
           repeat' with_reducible first
            |refine s_ ?_
            |simp -implicitDefEqProofs only[wZZ,seval,g1,g5,g6,g7,o0,o1]
            |apply qa<;>intro h h_<;>(try simp only[wD,reduceCtorEq]at h_)<;>(try exact wb_)<;>(try simp only[h])
            |refine t_ ?_
            |refine zf we_ (Zx wf_) ?_
            |simp -implicitDefEqProofs (disch:=omega) only[w64,if_neg]
           · refine qF rfl (Or.inr rfl) ?_
             simp -implicitDefEqProofs only[wL,seval,g1,g5,g6,g7]
             refine er_ ?_
             try(with_reducible rfl)
             refine(hbad ?_).symm
             have:=KT hj (p:=qft) (by simpa using h_)
             simp[VN,this]
           · refine⟨wk_,j+1,o_,?_⟩
             refine⟨?_,?_,?_,?_,?_,?_,?_,?_⟩
             iterate 6 (focus(first|(simp -implicitDefEqProofs only[wL,wM,wN,wX,seval,Option.some.injEq,g1,g5,g6,g7,o0,o1]<;>exact wt_)|rfl|exact⟨_,rfl⟩))
             all_goals try omega
             exact YM hj k4_1 (by simpa using h_)
         · rw[List.take_of_length_le o_]at k4_1
           repeat' with_reducible first
            |refine s_ ?_
            |simp -implicitDefEqProofs only[wZZ,seval,g1,g5,g6,g7,o0,o1]
            |apply qa<;>intro h h_<;>(try simp only[wD,reduceCtorEq]at h_)<;>(try exact wb_)<;>(try simp only[h])
            |refine t_ ?_
            |simp -implicitDefEqProofs (disch:=omega) only[w64,if_neg]
           refine⟨wk_,k+1,o_,?_⟩
           refine⟨?_,?_,?_,?_,?_⟩
           iterate 3 (focus(first|(simp -implicitDefEqProofs only[wL,wM,wN,wX,seval,Option.some.injEq,g1,g5,g6,g7,o0,o1]<;>exact wt_)|rfl|exact⟨_,rfl⟩))
           all_goals try omega
           refine YM hk k3_1 ?_
           have e1:rs[k].alts.all qft=true:=List.all_eq_true.2 k4_1
           have e0: ¬ (rs[k].alts.length:Int)=0:=by assumption
           have e2: ¬ rs[k].alts=[]:=fun e=>by rw[e]at e0;exact e0 rfl
           have e3:KV rs[k].left=true:=by assumption
           simp[VN,e1,e2,e3]
       · skip
         refine qF rfl (Or.inr rfl) ?_
         simp -implicitDefEqProofs only[wL,seval,g1,g5]
         refine er_ ?_
         try(with_reducible rfl)
         refine(hbad ?_).symm
         have:KV rs[k].left=false:=by simpa using h_
         simp[VN,this]
     · rw[List.take_of_length_le o_]at k3_1
       repeat' with_reducible first
        |refine s_ ?_
        |simp -implicitDefEqProofs only[wZZ,seval,g1,g5,o0]
        |apply qa<;>intro h h_<;>(try simp only[wD,reduceCtorEq]at h_)<;>(try exact wb_)<;>(try simp only[h])
        |refine t_ ?_
       refine qF rfl (Or.inr rfl) ?_
       simp -implicitDefEqProofs only[wL,seval,g1,g5]
       refine er_ ?_
       try(with_reducible rfl)
       have e1:ds.all YL=true:=List.all_eq_true.2 k2_1
       have e2:rs.all VN=true:=List.all_eq_true.2 k3_1
       by_cases e3:rs=[]
       · subst e3;simp[YR]
       · have:0<rs.length:=List.length_pos_iff.2 e3
         simp[YR,hpc,e1,e2,e3]
         omega

set_option maxHeartbeats 4000000
theorem qe3 {ef:EF} {t a b c id:Nat} {ro:Bool} {v res:V} {e:Exit} {s:St} (he:ef.res=[.inr (t,true,5),.inl a,.inl b,.inl c]) (hx:e=.normal∨e=.ret) (hp:s.f t=.ptr id 0 0) (hH:s.H id=some (.own 5 [v] ro)) (ha:v.isAgg=true)
 (h:Er true s.H (.tup [v,s.f a,s.f b,s.f c]) res):ja ef res e s:=by
 have hv:zB s true 5 (s.f t)=some v:=by rw[hp];simp only[zB,hH,List.getElem?_cons_zero,jZ,ha,and_self,if_true]
 exact⟨hx,_,by rw[he];simp[qcH,qbF,hv,one],h⟩
theorem Zj {b:Bool} {H:Nat→Option MObj} (src:Source):Er b H src.V src.V:=ErL.agg (.cons (.str _) (.cons qj (.cons qj (.cons (.str _) .nil))))
def xJ (m:Mk):Mk:=
 let m1:Mk:={m with nons:=[{name:=[36,97,99,99,101,112,116]}]}
 let m2:Mk:={m1 with nons:=m1.nons++xX m1.types m1.lefts}
 let m3:=qew m2 m.inner.toNat
 qbu m3 (Yi m3.given (m3.toks.length - 3) 3 (m3.toks,57346)).1
def ofS (src:Source):Grammar×Int×Int×List UInt8:=
 if YR src=true then
  if (xK src).e≠0 then({},(xK src).e,(xK src).at_,(xK src).name)
  else if Xo (xJ (xK src))=true then({},4,0,[])
  else({toks:=(xJ (xK src)).toks,nons:=(xJ (xK src)).nons,prods:=(xJ (xK src)).prods,pro:=src.pro,tail:=src.tail},0,0,[])
 else({},1,0,[])
@[reducible] def ofV (q:Grammar×Int×Int×List UInt8):V:= .tup [q.1.V,vi q.2.1,vi q.2.2.1,.str q.2.2.2]
theorem qss {s0:St} {m ti gi:Nat} {src:Source} {vN vP vT vL:V} {M:Mk} (h:OfAt s0 m src ti gi vN vP vT vL M) (hm0:YR src=true) (hM0:xK src=M)
 (b1:M.toks.length≤5000000000) (b2:M.lefts.length≤1000000) (b3:M.types.length≤1000000000) (b4:M.prods.length≤5000000000) (b5:0≤M.inner) (b6:M.inner≤1000000000) (hnn:M.nons=[]):
 ewp Tryz.prog (.seq Q7 (.seq (.reg Q5) (.seq yJ (.seq yC (.seq (.reg kI) (.seq xD (.seq (.reg xC) (.seq jL (.seq xS (.seq (.reg xQ) (.seq (.reg xO) .ret))))))))))) (ja e70 (ofV (ofS src))) s0:=by
 have hA0:=h
 have f1:=h.f1;have f2:=h.f2;have f6:=h.f6;have h1:=h.h1;have ln:=h.ln
 have hM:=h.at_;have hm:=hM.hm;have lm:=hM.lm;have lt:=hM.lt;have lg:=hM.lg
 obtain ⟨n1,n2,n3⟩:=hM.mt
 obtain ⟨z1,z2,z3,z4⟩:=hM.far h1 (by decide) (by decide)
 by_cases he:M.e=0
 · show ewp _ (.seq Q7 (.seq (.reg Q5) (.seq yJ (.seq yC (.seq (.reg kI) (.seq xD (.seq (.reg xC) (.seq jL (.seq xS (.seq (.reg xQ) (.seq (.reg xO) .ret))))))))))) _ _
   have hof:ofS src=if Xo (xJ M)=true then({},4,0,[])else({toks:=(xJ M).toks,nons:=(xJ M).nons,prods:=(xJ M).prods,pro:=src.pro,tail:=src.tail},0,0,[]):=by
    unfold ofS;rw[if_pos hm0,hM0,if_neg (by simp[he])]
   obtain ⟨n,hn⟩: ∃n:Nat,M.inner=n:=⟨M.inner.toNat,o_⟩
   have tail: ∀s1 vN1,OfAt s1 m src ti gi vN1 vP vT vL {M with nons:=[{name:=[36,97,99,99,101,112,116]}]}→Gr s1.H s1.next 2 ([({name:=[36,97,99,99,101,112,116]}:Non)].map Non.V) vN1→
    ewp Tryz.prog (.seq yJ (.seq yC (.seq (.reg kI) (.seq xD (.seq (.reg xC) (.seq jL (.seq xS (.seq (.reg xQ) (.seq (.reg xO) .ret))))))))) (ja e70 (ofV (ofS src))) s1:=by
    intro s1 vN1 hA1 hN1
    refine qta hA1 hN1 (by dsimp only;omega) b3 (by simp) fun s2 vN2 hA2 hN2=>?_
    have hnl:([({name:=[36,97,99,99,101,112,116]}:Non)]++xX M.types M.lefts).length=1+M.lefts.length:=by rw[List.length_append,Jm];rfl
    refine qs9 (n:=n) hA2 hN2 (by dsimp only;rw[hnl];omega) hn o_ fun s3 vN3 hA3=>?_
    have tail2: ∀s4,OfAt s4 m src ti gi vN3 vP vT vL (qew {M with nons:=[({name:=[36,97,99,99,101,112,116]}:Non)]++xX M.types M.lefts} n)→s4.f 22=vi 57346→ewp Tryz.prog (.seq xD (.seq (.reg xC) (.seq jL (.seq xS (.seq (.reg xQ) (.seq (.reg xO) .ret)))))) (ja e70 (ofV (ofS src))) s4:=by
     intro s4 hA4 f22
     refine qsi hA4 f22 (by dsimp only;omega) fun s5 hA5=>?_
     have hmn:xJ M=qbu (qew {M with nons:=[({name:=[36,97,99,99,101,112,116]}:Non)]++xX M.types M.lefts} n) (Yi M.given (M.toks.length - 3) 3 (M.toks,57346)).1:=by
      unfold xJ;rw[hn];rfl
     have hA5':OfAt s5 m src ti gi vN3 vP vT vL (xJ M):=by rw[hmn];exact hA5
     refine qfA hA5' (by rw[hmn];exact Nat.le_trans b4 (by decide)) fun s6 hA6 f24=>?_
     have f1:=hA6.f1;have f2:=hA6.f2;have f6:=hA6.f6;have h1:=hA6.h1;have h0:=hA6.h0;have ln:=hA6.ln
     have hM:=hA6.at_;have hm:=hM.hm;have lm:=hM.lm;have lt:=hM.lt;have lg:=hM.lg
     obtain ⟨n1,n2,n3⟩:=hM.mt
     obtain ⟨z1,z2,z3,z4⟩:=hM.far h1 (by decide) (by decide)
     obtain ⟨y1,y2,y3,y4⟩:=hM.far h0 (by decide) (by decide)
     by_cases hlo:Xo (xJ M)=true
     · rw[hof,if_pos hlo]
       repeat' with_reducible first
        |refine s_ ?_
        |simp -implicitDefEqProofs only[wZZ,seval,f1,f2,f6,f24,hlo,h1]
        |refine t_ ?_
       refine qe3 (id:=1) rfl (Or.inr rfl) (by simp -implicitDefEqProofs only[wL,seval,f2]) wi_ rfl ?_
       simp -implicitDefEqProofs only[wL,seval]
       exact ErL.tup (.cons (ErL.agg (.cons (ErL.sl .nil) (.cons (ErL.sl .nil) (.cons (ErL.sl .nil) (.cons (.str _) (.cons (.str _) .nil)))))) (.cons (.int _ _) (.cons (.int _ _) (.cons (.str _) .nil))))
     · have hlf:Xo (xJ M)=false:=by simpa using hlo
       rw[hof,if_neg hlo]
       repeat' with_reducible first
        |refine s_ ?_
        |simp -implicitDefEqProofs only[wZZ,seval,f1,f2,f6,f24,hlf,h0,h1,hm]
        |(refine And.intro ?_ ?_;(focus(first|with_unfolding_all rfl|exact congrArg some (qsz (by first|omega|(simp only[List.length_set];omega))))))
        |apply qf;exact wu_;exact wu_;(focus((try simp -implicitDefEqProofs only[wE,Nat.reduceAdd]);rfl))
        |refine t_ ?_
        |simp -implicitDefEqProofs (disch:=omega) only[w64,if_neg]
       refine qe3 (id:=1) rfl (Or.inr rfl) (by simp -implicitDefEqProofs only[wL,seval,f2]) wi_ rfl ?_
       simp -implicitDefEqProofs only[wL,seval]
       refine ErL.tup (.cons (ErL.agg (.cons ?_ (.cons hM.eN.er (.cons hM.eP.er (.cons (.str _) (.cons (.str _) .nil)))))) (.cons (.int _ _) (.cons (.int _ _) (.cons (.str _) .nil))))
       refine vG (es:=(xJ M).toks.map Tok.V) (ro:=false) ?_ (by simp) (by rw[List.drop_zero];exact List.take_of_length_le (by simp))
       simp only[wM]
       repeat(first|rw[if_pos trivial]|rw[if_pos rfl]|rw[if_neg o_])
       exact hM.ht
    generalize (EC.seq xD (.seq (.reg xC) (.seq jL (.seq xS (.seq (.reg xQ) (.seq (.reg xO) .ret))))))=F2 at tail2
    have f1:=hA3.f1
    repeat' with_reducible first
     |refine yE ?_
     |simp -implicitDefEqProofs only[wZZ,seval,f1]
    exact tail2 _ (hA3.mono wl_ wl_ wl_ wg_ (fun j hj=>by first|rfl|simp only[wM])) wl_
   generalize (EC.seq yJ (.seq yC (.seq (.reg kI) (.seq xD (.seq (.reg xC) (.seq jL (.seq xS (.seq (.reg xQ) (.seq (.reg xO) .ret)))))))))=F at tail
   repeat' with_reducible first
    |refine s_ ?_
    |simp -implicitDefEqProofs only[wZZ,seval,f1,f2,f6,h1,hm,he]
    |refine t_ ?_
   refine tail _ (.sl 2 true [.agg [.str [36,97,99,99,101,112,116],.str []]]) (hA0.upd ⟨?_,?_,?_,?_,hM.eP,hM.eT,hM.eL,by simp only[wN]<;>omega,by simp only[wN]<;>omega,by simp only[wN]<;>omega,hM.len,hM.len3⟩ wl_ wl_ wl_ wh_ (fun j g1 g2 g3 g4 g5=>?_)) Gr.clip
   · simp only[wM]
     repeat(first|rw[if_pos trivial]|rw[if_pos rfl]|rw[if_neg o_])
     simp[he]
   · simp only[wM]
     repeat(first|rw[if_pos trivial]|rw[if_pos rfl]|rw[if_neg o_])
     exact hM.ht
   · simp only[wM]
     repeat(first|rw[if_pos trivial]|rw[if_pos rfl]|rw[if_neg o_])
     exact hM.hg
   · exact zS
   · simp only[wM]
     repeat(first|rw[if_pos trivial]|rw[if_pos rfl]|rw[if_neg o_])
 · have hof:ofS src=({},M.e,M.at_,M.name):=by unfold ofS;rw[if_pos hm0,hM0,if_pos he]
   rw[hof]
   repeat' with_reducible first
    |refine s_ ?_
    |simp -implicitDefEqProofs only[wZZ,seval,f1,f2,f6,h1,hm]
    |apply qa<;>intro h h_<;>(try simp only[wD,reduceCtorEq]at h_)<;>(try exact wb_)<;>(try simp only[h])
    |(refine And.intro ?_ ?_;(focus(first|with_unfolding_all rfl|exact congrArg some (qsz (by first|omega|(simp only[List.length_set];omega))))))
    |refine t_ ?_
   refine qe3 (id:=1) rfl (Or.inr rfl) (by simp -implicitDefEqProofs only[wL,seval,f2]) wi_ rfl ?_
   simp -implicitDefEqProofs only[wL,seval]
   exact ErL.tup (.cons (ErL.agg (.cons (ErL.sl .nil) (.cons (ErL.sl .nil) (.cons (ErL.sl .nil) (.cons (.str _) (.cons (.str _) .nil)))))) (.cons (.int _ _) (.cons (.int _ _) (.cons (.str _) .nil))))
theorem VA {src:Source} (hf:src.Fits) (hS:YR src=true→Small src):Pure Tryz.prog 70 [src.V] (ofV (ofS src)):=by
 refine pure_intro Tryz.func70 nm_ qgP (by show 1≤435;decide) ?_
 show ewp _ qcv _ _
 show ewp _ (.seq (.reg qLK) (.seq qz6 (.seq (.reg qwY) (.seq (.reg qwL) (.seq (.reg qFG) (.seq VK (.seq Y4 (.seq VS (.seq Ju (.seq (.reg JU) (.seq JJ (.seq Q7 (.seq (.reg Q5) (.seq yJ (.seq yC (.seq (.reg kI) (.seq xD (.seq (.reg xC) (.seq jL (.seq xS (.seq (.reg xQ) (.seq (.reg xO) .ret)))))))))))))))))))))) _ _
 have tail: ∀s m ti gi,YR src=true→OfAt s m src ti gi (.sl 2 true []) (.sl 6 true []) (.sl 2 true []) (.sl 1 true []) {}→s.f 7=.str []→
  ewp Tryz.prog (.seq VK (.seq Y4 (.seq VS (.seq Ju (.seq (.reg JU) (.seq JJ (.seq Q7 (.seq (.reg Q5) (.seq yJ (.seq yC (.seq (.reg kI) (.seq xD (.seq (.reg xC) (.seq jL (.seq xS (.seq (.reg xQ) (.seq (.reg xO) .ret))))))))))))))))) (ja e70 (ofV (ofS src))) s:=by
  intro s m ti gi hm0 hA f7
  have hSm:=hS hm0
  have hr0:0<src.rules.length:=by
   have:=hm0;unfold YR at this
   simp only[Bool.and_eq_true,Bool.not_eq_true',decide_eq_false_iff_not]at this
   exact List.length_pos_iff.2 this.2
  refine qkB hA Gr.nil f7 hSm (by decide) (by decide) (by decide) (by decide) fun s1 ti1 gi1 vT1 hA1 f71 hs1 ht1 hy1=>?_
  generalize hq:jY src.decls ({},[])=q at hA1 f71 hs1 ht1 hy1
  obtain ⟨a1,a2,a3,a4⟩:=hs1
  refine qlD hA1 (by rw[a1];exact Gr.nil) hSm (Nat.le_trans ht1 (by decide)) (by rw[a1];decide) fun s2 vL2 hA2 f72 hn2 c1 c2 c3 c4 c5 c6=>?_
  generalize hm2:xR src.rules q.1=m2 at hA2 c1 c2 c3 c4 c5 c6
  rw[a1]at c3
  refine qs1 hA2 hSm (Nat.le_trans c3 (by decide)) fun s3 hA3 f73 hn3 hs3=>?_
  generalize hm3:kW src.decls m2=m3 at hA3 hs3
  obtain ⟨d1,d2,d3,d4,d5,d6,d7⟩:=hs3
  refine qcw hA3 (f73.trans (f72.trans f71)) hr0 fun s4 hA4 f74 hn4=>?_
  refine qea hA4 f74 (by rw[d3];exact Nat.le_trans c3 (by decide)) fun s5 hA5 hn5=>?_
  have hmm:xK src=yS src.rules (firstM m3 (Qd src q.2)):=by
   unfold xK;simp only[hq,hm2,hm3]
  have kt:({}:Mk).toks.length=3:=rfl
  have kl:({}:Mk).lefts.length=0:=rfl
  have ky:({}:Mk).types.length=0:=rfl
  have ki:({}:Mk).inner=0:=rfl
  have kn:({}:Mk).nons=[]:=rfl
  have t3:m3.toks.length≤1000003:=by rw[d1,c1];omega
  have l3:m3.lefts.length≤1000:=by rw[d3];omega
  have y3:m3.types.length≤1000000:=by rw[d4,c2];omega
  have i3:m3.inner=0:=by rw[d7,c6,a4]
  have n3:m3.nons=[]:=by rw[d6,c5,a3]
  have l1:[qgn m3 (Qd src q.2)].length=1:=rfl
  refine qnL hA5 Gr.clip ?_ hSm ?_ ?_ (by rw[l1];omega) ?_ ?_ fun s6 ti6 gi6 vP6 hA6 hn6 hs6 e1 e2 e3=>?_
  · exact .cons (ErL.agg (.cons (.int _ _) (.cons (ErL.sl (.cons (.int _ _) .nil)) (.cons (.int _ _) (.cons (.str _) (.cons (ErL.sl .nil) (.cons (.int _ _) .nil))))))) .nil
  · show m3.toks.length≤_;omega
  · show m3.lefts.length≤_;omega
  · show 0≤m3.inner;omega
  · show m3.inner≤_;omega
  · obtain ⟨u1,u2,u3,u4,u5⟩:=hs6
    have v1:(firstM m3 (Qd src q.2)).toks.length=m3.toks.length:=rfl
    have v2:(firstM m3 (Qd src q.2)).lefts.length=m3.lefts.length:=rfl
    have v3:(firstM m3 (Qd src q.2)).types.length=m3.types.length:=rfl
    have v4:(firstM m3 (Qd src q.2)).inner=m3.inner:=rfl
    have v5:(firstM m3 (Qd src q.2)).nons=m3.nons:=rfl
    exact qss hA6 hm0 hmm o_ (by rw[u1];omega) (by rw[u2];omega) (by rw[l1]at e2;omega) o_ o_ (by rw[u3,v5];exact n3)
 generalize (EC.seq VK (.seq Y4 (.seq VS (.seq Ju (.seq (.reg JU) (.seq JJ (.seq Q7 (.seq (.reg Q5) (.seq yJ (.seq yC (.seq (.reg kI) (.seq xD (.seq (.reg xC) (.seq jL (.seq xS (.seq (.reg xQ) (.seq (.reg xO) .ret)))))))))))))))))=F at tail
 by_cases hm0:YR src=true
 · repeat' with_reducible first
    |refine s_ ?_
    |simp -implicitDefEqProofs only[wZZ,seval,hm0]
    |refine cq1 (QC hf) (Zj src) ?_
    |refine t_ ?_
    |apply qpN;exact wf_;exact wf_;(focus(unfold maxLen;first|omega|(simp only[wZ]<;>omega)))
   refine tail _ 10 16 8 hm0 ⟨⟨?_,?_,?_,ErL.sl .nil,ErL.sl .nil,ErL.sl .nil,ErL.sl .nil,by simp only[wN]<;>omega,by simp only[wN]<;>omega,by simp only[wN]<;>omega,rfl,by decide⟩,?_,?_,?_,?_,?_,by simp only[wN]<;>omega⟩ ?_
   · simp -implicitDefEqProofs only[wM,seval]
     rfl
   · simp -implicitDefEqProofs only[wM,seval]
     rfl
   · simp -implicitDefEqProofs only[wM,seval]
     rfl
   · simp -implicitDefEqProofs only[wL,seval]
   · simp -implicitDefEqProofs only[wL,seval]
   · simp -implicitDefEqProofs only[wL,seval]
   · simp -implicitDefEqProofs only[wM,seval]
   · simp -implicitDefEqProofs only[wM,seval]
   · simp -implicitDefEqProofs only[wL,seval]
 · have hmf:YR src=false:=by simpa using hm0
   have hof:ofS src=({},1,0,[]):=by unfold ofS;rw[if_neg hm0]
   rw[hof]
   repeat' with_reducible first
    |refine s_ ?_
    |simp -implicitDefEqProofs only[wZZ,seval,hmf]
    |refine cq1 (QC hf) (Zj src) ?_
    |refine t_ ?_
   refine qe3 (id:=1) rfl (Or.inr rfl) wl_ (by simp -implicitDefEqProofs only[wM,seval];rfl) rfl ?_
   simp -implicitDefEqProofs only[wL,seval]
   exact ErL.tup (.cons (ErL.agg (.cons (ErL.sl .nil) (.cons (ErL.sl .nil) (.cons (ErL.sl .nil) (.cons (.str _) (.cons (.str _) .nil)))))) (.cons (.int _ _) (.cons (.int _ _) (.cons (.str _) .nil))))

theorem qyi {ef:EF} {t a id:Nat} {ro:Bool} {v res:V} {e:Exit} {s:St} (he:ef.res=[.inr (t,true,5),.inl a]) (hx:e=.normal∨e=.ret) (hp:s.f t=.ptr id 0 0) (hH:s.H id=some (.own 5 [v] ro)) (ha:v.isAgg=true)
 (h:Er true s.H (.tup [v,s.f a]) res):ja ef res e s:=by
 have hv:zB s true 5 (s.f t)=some v:=by rw[hp];simp only[zB,hH,List.getElem?_cons_zero,jZ,ha,and_self,if_true]
 exact⟨hx,_,by rw[he];simp[qcH,qbF,hv,one],h⟩
instance (g:Grammar):Cl g.V:=⟨fun b H=>ErL.agg (.cons qj (.cons qj (.cons qj (.cons (.str _) (.cons (.str _) .nil)))))⟩
abbrev Qa (src:Source):Grammar:=(ofS src).1
abbrev Kv (src:Source):Bool:=decide ((ofS src).2.1=0)
theorem Qz {src:Source} (hf:src.Fits) (hS:YR src=true→Small src):Pure Tryz.prog 34 [src.V] (.tup [(Qa src).V,.bool (Kv src)]):=by
 refine pure_intro Tryz.func34 nm_ qhg (by show 1≤18;decide) ?_
 show ewp _ qCc _ _
 repeat' with_reducible first
  |refine s_ ?_
  |simp -implicitDefEqProofs only[wZZ,seval]
  |refine cq1 (VA hf hS) (Zj src) ?_
  |refine t_ ?_
 refine qyi (id:=1) rfl (Or.inr rfl) wl_ (by simp -implicitDefEqProofs only[wM,seval];rfl) rfl ?_
 simp -implicitDefEqProofs only[wL,seval]
 exact ErL.tup (.cons qj (.cons (.bool _) .nil))
end Go.Proofs
