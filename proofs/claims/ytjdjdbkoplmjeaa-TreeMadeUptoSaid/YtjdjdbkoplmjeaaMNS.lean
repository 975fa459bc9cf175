/- Part of a proof that a law of the given program answers true. -/
import Derived.Test.YtjdjdbkoplmjeaaMNF
import Derived.Test.YtjdjdbkoplmjeaaMNC
set_option maxRecDepth 20000
set_option linter.unusedSimpArgs false
set_option linter.unusedVariables false
set_option maxHeartbeats 4000000
namespace Go.Proofs
open Go.E
def JR (how v:Int):Nd→Nd
 | .mk s p a ks=>
   if how % 6=0 then .mk v p a ks
   else if how % 6=1 then .mk s v a ks
   else if how % 6=2 then .mk s p v ks
   else if how % 6=3 then .mk s p a (ks.take (ks.length - 1))
   else if how % 6=4 then .mk s p a (ks++[.mk v (-1) 0 []])
   else .mk s p a ks
def xL (how v:Int):List Int→Nd→Nd
 |[],t=>JR how v t
 |x::r,.mk s p a ks=>if ks=[]then JR how v (.mk s p a ks)else .mk s p a (ks.set (x % ks.length).toNat (xL how v r (ks.getD (x % ks.length).toNat (.mk 0 0 0 []))))
theorem Nd.sizes_app: ∀l m:List Nd,Nd.sizes (l++m)=Nd.sizes l+Nd.sizes m
 |[],m=>by rw[List.nil_append,Nd.sizes];omega
 |a::r,m=>by rw[List.cons_append,Nd.sizes,Nd.sizes_app r m,Nd.sizes];omega
theorem JO (how v:Int): ∀t:Nd,(JR how v t).size≤t.size+1
 | .mk s p a ks=>by
   have h1:=Nd.sizes_take ks (ks.length - 1)
   have h2:=Nd.sizes_app ks [.mk v (-1) 0 []]
   rw[Nd.sizes,Nd.sizes,Nd.size,Nd.sizes]at h2
   rw[JR]
   repeat' split
   all_goals simp only[Nd.size]
   all_goals omega
theorem Nd.sizes_set: ∀(l:List Nd) (k:Nat) (x y:Nd),l[k]?=some x→Nd.sizes (l.set k y)+x.size=Nd.sizes l+y.size
 |[],k,x,y,h=>by simp at h
 | a::r,0,x,y,h=>by
   simp at h;subst h
   rw[List.set_cons_zero,Nd.sizes,Nd.sizes];omega
 | a::r,k+1,x,y,h=>by
   have:=Nd.sizes_set r k x y (by simpa using h)
   rw[List.set_cons_succ,Nd.sizes,Nd.sizes];omega
theorem Xa (how v:Int): ∀(w:List Int) (t:Nd),(xL how v w t).size≤t.size+1
 |[],t=>by rw[xL];exact JO how v t
 | x ::r,.mk s p a ks=>by
   rw[xL]
   split
   · exact JO how v _
   · rename_i hk
     have hl:=List.length_pos_iff.2 hk
     have h1:=Int.emod_nonneg x (show (ks.length:Int)≠0 by omega)
     have h2:=Int.emod_lt_of_pos x (show (0:Int)<ks.length by omega)
     have hi:(x % ks.length).toNat<ks.length:=o_
     have hg:ks[(x % ks.length).toNat]?=some (ks.getD (x % ks.length).toNat (.mk 0 0 0 [])):=by rw[List.getD_eq_getElem?_getD,ge_ hi];rfl
     have h3:=Nd.sizes_set ks _ _ (xL how v r (ks.getD (x % ks.length).toNat (.mk 0 0 0 []))) hg
     have h4:=Xa how v r (ks.getD (x % ks.length).toNat (.mk 0 0 0 []))
     rw[Nd.size,Nd.size];omega
theorem qcu {x:Int} {w r:List Int} {how v:Int} {y p a:Int} {ks:List Nd} (ih: ∀t∈ks,Pure Try.prog 18 [t.V,.sl 1 false (r.map (V.int .i64)),vi how,vi v] (xL how v r t).V) (hr:r.length≤1000000000) (hwr:w=x::r) (hk:ks≠[]) (hkl:ks.length≤1000000000):Pure Try.prog 18 [(Nd.mk y p a ks).V,.sl 1 false (w.map (V.int .i64)),vi how,vi v] ((xL how v (x::r) (.mk y p a ks)).V):=by
 refine pure_intro Try.func18 nm_ qfv (by show 4≤86;decide) ?_
 show ewp _ qb5 _ _
 have hl:=List.length_pos_iff.2 hk
 have h1:=Int.emod_nonneg x (show (ks.length:Int)≠0 by omega)
 have h2:=Int.emod_lt_of_pos x (show (0:Int)<ks.length by omega)
 have hw:=qE (i:=x) (n:=(ks.length:Int)) o_ o_
 rw[xL,if_neg hk]
 obtain ⟨m,hm⟩: ∃m:Nat,x % (ks.length:Int)=m:=⟨(x % (ks.length:Int)).toNat,o_⟩
 have hml:m<ks.length:=o_
 rw[hm,Int.toNat_natCast]
 rw[hm]at hw
 have hg:ks[m]?=some (ks.getD m (.mk 0 0 0 [])):=by rw[List.getD_eq_getElem?_getD,ge_ hml];rfl
 have hih:=ih _ (List.mem_of_getElem? hg)
 generalize ks.getD m (.mk 0 0 0 [])=k at *
 generalize xL how v r k=k' at *
 have hkV:k.V=.agg [vi k.sym,vi k.prod,vi k.at_,.sl 4 false (k.kids.map Nd.V)]:=by obtain ⟨e1,e2,e3,e4⟩:=k;rw[Nd.V_mk]
 have hkV':k'.V=.agg [vi k'.sym,vi k'.prod,vi k'.at_,.sl 4 false (k'.kids.map Nd.V)]:=by obtain ⟨e1,e2,e3,e4⟩:=k';rw[Nd.V_mk]
 rw[hkV,hkV']at hih
 rw[Nd.V_mk,Nd.V_mk]
 have hx0:w[(0:Int).toNat]?=some x:=by rw[hwr];rfl
 have hwl:w.length=r.length+1:=by rw[hwr];rfl
 have hwd:w.drop 1=r:=by rw[hwr];rfl
 clear hwr
 repeat' with_reducible first
  |refine s_ ?_
  |simp -implicitDefEqProofs only[wZZ,seval,hkV,hwd]
  |(first|apply qa|apply qh|apply qi)<;>intro h h_<;>(try simp only[wD,reduceCtorEq]at h_)<;>(try exact wb_)<;>(try simp only[h])
  |refine t_ ?_
  |refine cq2 hw qc qc ?_
 refine QG (es:=[]) (ys:=ks.map Nd.V) rfl hh_ rfl qZ.sl (by simp;omega) (by unfold maxLen;simp;omega) ?_
 simp only[List.nil_append,List.length_nil,Nat.zero_add,List.length_map]
 have h4: ∀e∈ks.map Nd.V,Is4 e:=fun e he=>by
  obtain ⟨⟨e1,e2,e3,e4⟩,_,rfl⟩:=List.mem_map.1 he
  rw[Nd.V_mk];exact⟨rfl,rfl,rfl⟩
 have hgV:(ks.map Nd.V)[m]?=some (.agg [vi k.sym,vi k.prod,vi k.at_,.sl 4 false (k.kids.map Nd.V)]):=by rw[List.getElem?_map,hg,Option.map_some,hkV]
 have hml2:m<(ks.map Nd.V).length:=by simpa using hml
 have i4:Is4 (.agg [vi k.sym,vi k.prod,vi k.at_,.sl 4 false (k.kids.map Nd.V)]):=⟨rfl,rfl,rfl⟩
 have i4':Is4 (.agg [vi k'.sym,vi k'.prod,vi k'.at_,.sl 4 false (k'.kids.map Nd.V)]):=⟨rfl,rfl,rfl⟩
 repeat' with_reducible first
  |refine s_ ?_
  |simp -implicitDefEqProofs only[wZZ,seval,hkV,hwd]
  |apply yL;omega;omega
  |(refine qdZ rfl hgV i4 ?_)
  |refine cq4 hih qc qc qc qc ?_
  |(refine qaY rfl hml2 i4' h4 ?_)
  |apply qdf;omega;exact wf_
  |refine t_ ?_
 have e:(ks.map Nd.V).set m (.agg [vi k'.sym,vi k'.prod,vi k'.at_,.sl 4 false (k'.kids.map Nd.V)])=Nd.Vs (ks.set m k'):=by rw[← hkV',Nd.Vs_map,List.map_set]
 refine vw (t:=8) (id:=1) (n:=4) (ro:=false) (ag:=true) rfl (Or.inr rfl) (by(simp -implicitDefEqProofs only[wL,seval])) hh_ rfl ?_
 rw[← Nd.Vs_map (ks.set m k')]
 exact ErL.agg (.cons (.int _ _) (.cons (.int _ _) (.cons (.int _ _) (.cons (YF (es:=Nd.Vs (ks.set m k')) (ro:=false) (by((try simp only[wM]);(repeat first|rw[if_pos trivial]|rw[if_pos rfl]|rw[if_neg o_]));rw[e]) (qaI _) (by rw[Nd.Vs_map];simp)) .nil))))
theorem Yd {w:List Int} {how v:Int} {y p a:Int} {ks:List Nd} (hc:w=[]∨ks=[]) (hkl:ks.length≤1000000000):Pure Try.prog 18 [(Nd.mk y p a ks).V,.sl 1 false (w.map (V.int .i64)),vi how,vi v] ((JR how v (.mk y p a ks)).V):=by
 refine pure_intro Try.func18 nm_ qfv (by show 4≤86;decide) ?_
 show ewp _ qb5 _ _
 have h1:=Int.emod_nonneg how (show (6:Int)≠0 by omega)
 have h2:=Int.emod_lt_of_pos how (show (0:Int)<6 by omega)
 have hw6:=qE (i:=how) (n:=6) o_ o_
 have hcl:w.length=0∨ks.length=0:=hc.imp (fun h=>by rw[h];rfl) (fun h=>by rw[h];rfl)
 clear hc
 rw[JR]
 obtain h|h|h|h|h|h:how % 6=0∨how % 6=1∨how % 6=2∨how % 6=3∨how % 6=4∨how % 6=5:=o_
 all_goals rw[h]at hw6
 · rw[h,if_pos rfl,Nd.V_mk,Nd.V_mk]
   repeat' with_reducible first
    |refine s_ ?_
    |simp -implicitDefEqProofs only[wZZ,seval]
    |(first|apply qa|apply qh|apply qi)<;>intro h h_<;>(try simp only[wD,reduceCtorEq]at h_)<;>(try exact wb_)<;>(try simp only[h])
    |refine cq2 hw6 qc qc ?_
    |refine t_ ?_
   all_goals first|(exfalso;omega)|exact vw (t:=8) (id:=1) (n:=4) (ro:=false) (ag:=true) rfl (Or.inr rfl) (by(simp -implicitDefEqProofs only[wL,seval])) hh_ rfl qc
 · rw[h,if_neg o_,if_pos rfl,Nd.V_mk,Nd.V_mk]
   repeat' with_reducible first
    |refine s_ ?_
    |simp -implicitDefEqProofs only[wZZ,seval]
    |(first|apply qa|apply qh|apply qi)<;>intro h h_<;>(try simp only[wD,reduceCtorEq]at h_)<;>(try exact wb_)<;>(try simp only[h])
    |refine cq2 hw6 qc qc ?_
    |refine t_ ?_
   all_goals first|(exfalso;omega)|exact vw (t:=8) (id:=1) (n:=4) (ro:=false) (ag:=true) rfl (Or.inr rfl) (by(simp -implicitDefEqProofs only[wL,seval])) hh_ rfl qc
 · rw[h,if_neg o_,if_neg o_,if_pos rfl,Nd.V_mk,Nd.V_mk]
   repeat' with_reducible first
    |refine s_ ?_
    |simp -implicitDefEqProofs only[wZZ,seval]
    |(first|apply qa|apply qh|apply qi)<;>intro h h_<;>(try simp only[wD,reduceCtorEq]at h_)<;>(try exact wb_)<;>(try simp only[h])
    |refine cq2 hw6 qc qc ?_
    |refine t_ ?_
   all_goals first|(exfalso;omega)|exact vw (t:=8) (id:=1) (n:=4) (ro:=false) (ag:=true) rfl (Or.inr rfl) (by(simp -implicitDefEqProofs only[wL,seval])) hh_ rfl qc
 · rw [h,if_neg o_,if_neg o_,if_neg o_,if_pos rfl,Nd.V_mk,Nd.V_mk]
   by_cases hk0:ks.length=0
   · have et:List.take (ks.length - 1) ks=ks:=List.take_of_length_le o_
     rw[et]
     clear et
     obtain rfl:=List.length_eq_zero_iff.1 hk0
     repeat' with_reducible first
      |refine s_ ?_
      |simp -implicitDefEqProofs only[wZZ,seval]
      |(first|apply qh|apply qi)<;>intro h h_<;>(try simp only[wD,reduceCtorEq]at h_)<;>(try exact wb_)<;>(try simp only[h])
      |refine cq2 hw6 qc qc ?_
      |refine t_ ?_
     all_goals first|(exfalso;omega)|exact vw (t:=8) (id:=1) (n:=4) (ro:=false) (ag:=true) rfl (Or.inr rfl) (by(simp -implicitDefEqProofs only[wL,seval])) hh_ rfl qc
   · have hz:IntKind.i64.wrap ((ks.length:Int) - 1)=((ks.length - 1:Nat):Int):=by rw[wrap64 o_ o_];omega
     have hle:ks.length - 1≤ks.length:=o_
     repeat' with_reducible first
      |refine s_ ?_
      |simp -implicitDefEqProofs only[wZZ,seval,hz]
      |(first|apply qa|apply qh|apply qi)<;>intro h h_<;>(try simp only[wD,reduceCtorEq]at h_)<;>(try exact wb_)<;>(try simp only[h])
      |refine cq2 hw6 qc qc ?_
      |apply YV;omega;exact wf_
      |refine t_ ?_
     all_goals first|(exfalso;omega)|exact vw (t:=8) (id:=1) (n:=4) (ro:=false) (ag:=true) rfl (Or.inr rfl) (by(simp -implicitDefEqProofs only[wL,seval])) hh_ rfl qc
 · rw[h,if_neg o_,if_neg o_,if_neg o_,if_neg o_,if_pos rfl,Nd.V_mk,Nd.V_mk]
   repeat' with_reducible first
    |refine s_ ?_
    |simp -implicitDefEqProofs only[wZZ,seval]
    |(first|apply qa|apply qh|apply qi)<;>intro h h_<;>(try simp only[wD,reduceCtorEq]at h_)<;>(try exact wb_)<;>(try simp only[h])
    |refine cq2 hw6 qc qc ?_
    |apply Kq;(focus(first|exact qZ.sl|exact qZ.asl|exact qZ.str));exact wf_;(focus(unfold maxLen;first|omega|(simp only[wZ]<;>omega)))
    |(refine qiJ ?_;simp -implicitDefEqProofs only[wM,wN,seval];apply qxW;(focus(first|exact qZ.sl|exact qZ.asl|exact qZ.str));(exact wf_);(focus(unfold maxLen;first|omega|(simp only[wZ]<;>omega))))
    |refine t_ ?_
   all_goals first|(exfalso;omega)|skip
   all_goals refine vw (t:=8) (id:=1) (n:=4) (ro:=false) (ag:=true) rfl (Or.inr rfl) (by(simp -implicitDefEqProofs only[wL,seval])) hh_ rfl ?_
   all_goals refine ErL.agg (.cons (.int _ _) (.cons (.int _ _) (.cons (.int _ _) (.cons (ErL.asl ?_) .nil))))
   all_goals rw[List.map_append,← Nd.Vs_map,List.map_singleton]
   all_goals exact(qaI ks).snoc (by rw[Nd.V_mk];exact ErL.agg (.cons (.int _ _) (.cons (.int _ _) (.cons (.int _ _) (.cons (ErL.sl .nil) .nil)))))
 · rw[h,if_neg o_,if_neg o_,if_neg o_,if_neg o_,if_neg o_,Nd.V_mk]
   repeat' with_reducible first
    |refine s_ ?_
    |simp -implicitDefEqProofs only[wZZ,seval]
    |(first|apply qa|apply qh|apply qi)<;>intro h h_<;>(try simp only[wD,reduceCtorEq]at h_)<;>(try exact wb_)<;>(try simp only[h])
    |refine cq2 hw6 qc qc ?_
    |refine t_ ?_
   all_goals first|(exfalso;omega)|exact vw (t:=8) (id:=1) (n:=4) (ro:=false) (ag:=true) rfl (Or.inr rfl) (by(simp -implicitDefEqProofs only[wL,seval])) hh_ rfl qc
theorem Kh (how v:Int): ∀(w:List Int) (t:Nd),w.length≤1000000000→t.size≤1000000000→Pure Try.prog 18 [t.V,.sl 1 false (w.map (V.int .i64)),vi how,vi v] (xL how v w t).V
 | [],.mk s p a ks,_,hb=>by
   rw[xL]
   exact Yd (Or.inl rfl) (by have:=Nd.sizes_len ks;rw[Nd.size]at hb;omega)
 | x ::r,.mk s p a ks,hw,hb=>by
   have hkl:ks.length≤1000000000:=by have:=Nd.sizes_len ks;rw[Nd.size]at hb;omega
   by_cases hk:ks=[]
   · have e:xL how v (x::r) (.mk s p a ks)=JR how v (.mk s p a ks):=by rw[xL,if_pos hk]
     rw[e]
     exact Yd (Or.inr hk) hkl
   · rw[List.length_cons]at hw
     exact qcu (fun t ht=>by have:=Nd.size_kid (s:=s) (p:=p) (a:=a) ht;exact Kh how v r t o_ o_) o_ rfl hk hkl
end Go.Proofs
