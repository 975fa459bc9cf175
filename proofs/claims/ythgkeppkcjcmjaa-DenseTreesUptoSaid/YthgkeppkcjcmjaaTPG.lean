/- Part of a proof that a law of the given program answers true. -/
import Derived.Test.YthgkeppkcjcmjaaTPF
import Derived.Test.YthgkeppkcjcmjaaTPC
set_option linter.unusedSimpArgs false
set_option linter.unusedVariables false
set_option maxHeartbeats 4000000
namespace Go.Proofs
open Go.E
abbrev qhf (M:Mk) (x:Non):Mk:={M with nons:=M.nons++[x]}
theorem qbO (s:List UInt8):Flat (.str s):= .str s
theorem qhu (x:Non):Flat (Non.V x):= .agg _ (fun c hc=>by
 simp at hc;rcases hc with rfl|rfl<;>exact .str _)
theorem OfAt.non {s s':St} {m:Nat} {src:Source} {ti gi id:Nat} {vN vP vT vL:V} {M:Mk} {x:Non} (h:OfAt s m src ti gi vN vP vT vL M) (hN:Gr s.H s.next 2 (M.nons.map Non.V) vN)
 (f1:s'.f 1=s.f 1) (f2:s'.f 2=s.f 2) (f6:s'.f 6=s.f 6) (hn:s.next≤s'.next) (hid:s.next≤id) (hid2:id<s'.next)
 (hm:s'.H m=some (.own 13 [mkC ti gi (.asl id (M.nons.length+1) 2 ((M.nons++[x]).map Non.V)) vP vT vL (qhf M x)] false)) (ht:s'.H id=some (.tok (M.nons.length+1))) (hH: ∀j,j<s.next→j≠m→gid vN≠some j→s'.H j=s.H j):
 OfAt s' m src ti gi (.asl id (M.nons.length+1) 2 ((M.nons++[x]).map Non.V)) vP vT vL (qhf M x)∧Gr s'.H s'.next 2 ((qhf M x).nons.map Non.V) (.asl id (M.nons.length+1) 2 ((M.nons++[x]).map Non.V)):=by
 have hM:=h.at_;have lm:=hM.lm;have lt:=hM.lt;have lg:=hM.lg
 obtain ⟨n1,n2,n3⟩:=hM.mt
 obtain ⟨c1,c2,c3⟩:=hM.nt
 refine⟨h.upd ⟨hm,by rw[hH ti lt n1 (hN.ne c2)];exact hM.ht,by rw[hH gi lg n2 (hN.ne c3)];exact hM.hg,QN,hM.eP,hM.eT,hM.eL,o_,o_,o_,hM.len,hM.len3⟩ f1 f2 f6 hn (fun j h1 h2 h3 h4 h5=>hH j h1 h2 (hN.ne h5)),Gr.tok ht hid2⟩
theorem KV (t:List Non):yI t []=[]:=rfl
abbrev qhY (types:List Non) (n:List UInt8):Non:={name:=n,tag:=if 0≤yt n types 0 then(types.getD (yt n types 0).toNat {}).tag else[]}
theorem qc9 (t:List Non) (l:List (List UInt8)) (n:List UInt8):yI t (l++[n])=yI t l++[qhY t n]:=by
 induction l with
 |nil=>rfl
 |cons a r ih=>rw[List.cons_append,yI,ih];rfl
theorem Yb (t:List Non) (l:List (List UInt8)):(yI t l).length=l.length:=by
 induction l with
 |nil=>rfl
 |cons a r ih=>rw[yI,List.length_cons,ih,List.length_cons]
abbrev VQ (M:Mk) (i:Nat):Mk:={M with nons:=M.nons++yI M.types (M.lefts.take i)}
theorem qnX {s0:St} {m ti gi:Nat} {src:Source} {vN vP vT vL:V} {M:Mk} {E:EC} {Q:Exit→St→Prop} (h:OfAt s0 m src ti gi vN vP vT vL M) (hN:Gr s0.H s0.next 2 (M.nons.map Non.V) vN) (b1:M.lefts.length≤1000000000) (b2:M.types.length≤1000000000) (b3:M.nons.length≤10)
 (hQ: ∀s' vN',OfAt s' m src ti gi vN' vP vT vL {M with nons:=M.nons++yI M.types M.lefts}→Gr s'.H s'.next 2 ((M.nons++yI M.types M.lefts).map Non.V) vN'→ewp Try.prog E Q s'):ewp Try.prog (.seq yO E) Q s0:=by
 have hA0:=h
 have f1:=h.f1;have f2:=h.f2;have f6:=h.f6
 have hLl:Zw vL=some (.int .i64 (M.lefts.length:Int)):=by have:=ErP.Zw h.at_.eL;rwa [List.length_map]at this
 have eL:=h.at_.eL;have eT:=h.at_.eT
 repeat' with_reducible first
  |refine s_ ?_
  |simp -implicitDefEqProofs only[wZZ,seval,f1,f2,f6]
 refine qb ?nx8 (fun(i:Nat) s=>s.f 1=?v8_1∧s.f 2=?v8_2∧s.f 6=?v8_6∧s.f 18=vi i∧(i≤M.lefts.length)∧((∃vN,OfAt s m src ti gi vN vP vT vL (VQ M i)∧Gr s.H s.next 2 ((M.nons++yI M.types (M.lefts.take i)).map Non.V) vN))) (fun i=>M.lefts.length - i) (0) wj_ (by refine⟨?_,?_,?_,?_,wo_,(by exact⟨vN,(by have e:VQ M 0=M:=(by unfold VQ;rw[List.take_zero,KV,List.append_nil]);rw[e];exact hA0.mono wl_ wl_ wl_ wg_ (fun j hj=>by first|rfl|simp only[wM])),(by rw[List.take_zero,KV,List.append_nil];exact hN.mono wg_ (fun j h1 hj=>by first|rfl|simp only[wM]))⟩)⟩<;>first|(simp -implicitDefEqProofs only[wL,wM,wN,wX,seval,Option.some.injEq]<;>exact wt_)|rfl|exact⟨_,rfl⟩) ?_
 intro i s hnx ⟨g1,g2,g6,g18,k8_0,k8_1⟩
 obtain ⟨vN1,hA1,hN1⟩:=k8_1
 have g1:=hA1.f1;have g2:=hA1.f2;have g6:=hA1.f6;have ln:=hA1.ln
 have hM:=hA1.at_;have lm:=hM.lm;have lt:=hM.lt;have lg:=hM.lg
 have hm:s.H m=some (.own 13 [mkC ti gi vN1 vP vT vL M] false):=hM.hm
 obtain ⟨n1,n2,n3⟩:=hM.mt
 obtain ⟨c1,c2,c3⟩:=hM.nt
 have d1:=hN1.ne c1
 have hlen:(yI M.types (M.lefts.take i)).length=i:=by rw[Yb,List.length_take];omega
 by_cases hi:i<M.lefts.length
 · have ht2:yI M.types (M.lefts.take (i+1))=yI M.types (M.lefts.take i)++[qhY M.types M.lefts[i]]:=by rw[List.take_add_one,ge_ hi];exact qc9 _ _ _
   have hnx2:VQ M (i+1)=qhf (VQ M i) (qhY M.types M.lefts[i]):=by unfold VQ qhf;rw[ht2,List.append_assoc]
   have hnl2:M.nons++yI M.types (M.lefts.take (i+1))=(qhf (VQ M i) (qhY M.types M.lefts[i])).nons:=by rw[ht2,← List.append_assoc]
   by_cases hk:0≤yt M.lefts[i] M.types 0
   · have hbd:=qcj M.lefts[i] M.types 0
     obtain ⟨k,hk2⟩: ∃k:Nat,yt M.lefts[i] M.types 0=k:=⟨(yt M.lefts[i] M.types 0).toNat,o_⟩
     have hkl:k<M.types.length:=o_
     have hxe:qhY M.types M.lefts[i]={name:=M.lefts[i],tag:=M.types[k].tag}:=by
      unfold qhY;rw[if_pos hk,hk2];simp[List.getD,hkl]
     rw[hxe]at hnx2 hnl2
     repeat' with_reducible first
      |refine s_ ?_
      |simp -implicitDefEqProofs only[wZZ,seval,g1,g2,g6,g18,g1,g2,g6,g18,hm,hLl,hk2,qi d1]
      |apply qa<;>intro h h_<;>(try simp only[wD,reduceCtorEq]at h_)<;>(try exact wb_)<;>(try simp only[h])
      |apply ze (hp:=zq ?_);(focus(refine(hM.mono (Nat.le_refl _) (fun j hj=>?_)).er;(try simp only[wM]);(repeat rw[if_neg o_])));exact qc;exact wu_;exact Flat.int _ _;rotate_left;exact wf_
      |apply za rfl (hN1.mono (Nat.le_refl _) (fun id h1 h2=>by(try simp only[wM]);(repeat rw[if_neg o_])));(focus(first|exact qU.sl|exact qU.asl));(focus(simp only[wZ]<;>omega));(focus(unfold maxLen;simp only[wZ]<;>omega))
      |apply qq0 eL qbO;omega;(focus(first|assumption|exact ge_ o_))
      |apply qq0 eT qhu;omega;(focus(first|assumption|exact ge_ o_))
      |refine t_ ?_
      |simp -implicitDefEqProofs (disch:=omega) only[w64,if_neg]
     refine⟨by(try simp only[wN])<;>omega,i+1,o_,f1.symm,f2.symm,f6.symm,rfl,o_,?_⟩
     rw[hnx2,hnl2]
     refine⟨_,hA1.non (id:=s.next+7+10+5+2+10+8) hN1 wl_ wl_ wl_ wg_ o_ wg_ ?_ ?_ (fun j h1 h2 h3=>?_)⟩
     · simp only[wM]
       repeat(first|rw[if_pos trivial]|rw[if_pos rfl]|rw[if_neg o_]|simp only[wM]|rw[qi d1])
       simp
     · simp only[wM]
       repeat(first|rw[if_pos trivial]|rw[if_pos rfl]|rw[if_neg o_]|simp only[wM])
     · simp only[wM]
       repeat(first|rw[if_pos trivial]|rw[if_pos rfl]|rw[if_neg o_]|simp only[wM]|rw[qi h3])
   · have hxe:qhY M.types M.lefts[i]={name:=M.lefts[i]}:=by
      unfold qhY;rw[if_neg hk]
     rw[hxe]at hnx2 hnl2
     repeat' with_reducible first
      |refine s_ ?_
      |simp -implicitDefEqProofs only[wZZ,seval,g1,g2,g6,g18,g1,g2,g6,g18,hm,hLl,qi d1]
      |apply qa<;>intro h h_<;>(try simp only[wD,reduceCtorEq]at h_)<;>(try exact wb_)<;>(try simp only[h])
      |apply ze (hp:=zq ?_);(focus(refine(hM.mono (Nat.le_refl _) (fun j hj=>?_)).er;(try simp only[wM]);(repeat rw[if_neg o_])));exact qc;exact wu_;exact Flat.int _ _;rotate_left;exact wf_
      |apply za rfl (hN1.mono (Nat.le_refl _) (fun id h1 h2=>by(try simp only[wM]);(repeat rw[if_neg o_])));(focus(first|exact qU.sl|exact qU.asl));(focus(simp only[wZ]<;>omega));(focus(unfold maxLen;simp only[wZ]<;>omega))
      |apply qq0 eL qbO;omega;(focus(first|assumption|exact ge_ o_))
      |refine t_ ?_
      |simp -implicitDefEqProofs (disch:=omega) only[w64,if_neg]
     refine⟨by(try simp only[wN])<;>omega,i+1,o_,f1.symm,f2.symm,f6.symm,rfl,o_,?_⟩
     rw[hnx2,hnl2]
     refine⟨_,hA1.non (id:=s.next+7+10+5+2+8) hN1 wl_ wl_ wl_ wg_ o_ wg_ ?_ ?_ (fun j h1 h2 h3=>?_)⟩
     · simp only[wM]
       repeat(first|rw[if_pos trivial]|rw[if_pos rfl]|rw[if_neg o_]|simp only[wM]|rw[qi d1])
       simp
     · simp only[wM]
       repeat(first|rw[if_pos trivial]|rw[if_pos rfl]|rw[if_neg o_]|simp only[wM])
     · simp only[wM]
       repeat(first|rw[if_pos trivial]|rw[if_pos rfl]|rw[if_neg o_]|simp only[wM]|rw[qi h3])
 · have e:VQ M i={M with nons:=M.nons++yI M.types M.lefts}:=by unfold VQ;rw[List.take_of_length_le o_]
   rw[e]at hA1
   rw[List.take_of_length_le o_]at hN1
   repeat' with_reducible first
    |refine s_ ?_
    |simp -implicitDefEqProofs only[wZZ,seval,g1,g2,g6,g18,g1,g2,g6,g18,hm,hLl]
    |apply qa<;>intro h h_<;>(try simp only[wD,reduceCtorEq]at h_)<;>(try exact wb_)<;>(try simp only[h])
    |refine t_ ?_
   exact hQ _ vN1 (hA1.mono wl_ wl_ wl_ wg_ (fun j hj=>by first|rfl|simp only[wM])) (hN1.mono wg_ (fun j h1 hj=>by first|rfl|simp only[wM]))

def qck (n:Nat):List Non:=(List.range n).map fun k=>{name:=64::qjY (k+1)}
theorem qam (n:Nat):qck (n+1)=qck n++[{name:=64::qjY (n+1)}]:=by unfold qck;rw[List.range_succ,List.map_append];rfl
theorem qcv (n:Nat):(qck n).length=n:=by simp[qck]
theorem qhJ (n:Nat):(qjY n).length≤25:=by have:=qaO 25 n [];simpa[qjY]using this
abbrev qgr (M:Mk) (i:Nat):Mk:={M with nons:=M.nons++qck i}
theorem qq2 {s0:St} {m ti gi n:Nat} {src:Source} {vN vP vT vL:V} {M:Mk} {E:EC} {Q:Exit→St→Prop} (h:OfAt s0 m src ti gi vN vP vT vL M) (hN:Gr s0.H s0.next 2 (M.nons.map Non.V) vN) (b1:M.nons.length≤1000000000) (hi:M.inner=n) (b2:n≤2000000000)
 (hQ: ∀s' vN',OfAt s' m src ti gi vN' vP vT vL (qgr M n)→ewp Try.prog E Q s'):ewp Try.prog (.seq yQ E) Q s0:=by
 have hA0:=h
 have f1:=h.f1;have f2:=h.f2;have f6:=h.f6
 repeat' with_reducible first
  |refine s_ ?_
  |simp only[wZZ,seval,f1,f2,f6]
 refine qb ?nx9 (fun(i:Nat) s=>s.f 1=?v9_1∧s.f 2=?v9_2∧s.f 6=?v9_6∧s.f 21=vi i∧(1≤i)∧(i≤n+1)∧((∃vN,OfAt s m src ti gi vN vP vT vL (qgr M (i - 1))∧Gr s.H s.next 2 ((M.nons++qck (i - 1)).map Non.V) vN))) (fun i=>n+1 - i) (1) wj_ (by refine⟨?_,?_,?_,?_,wo_,wo_,(by exact⟨vN,(by have e:qgr M (1 - 1)=M:=(by show {M with nons:=M.nons++qck 0}=M;unfold qck;simp);rw[e];exact hA0.mono wl_ wl_ wl_ wg_ (fun j hj=>by first|rfl|simp only[wM])),(by have e:M.nons++qck (1 - 1)=M.nons:=(by unfold qck;simp);rw[e];exact hN.mono wg_ (fun j h1 hj=>by first|rfl|simp only[wM]))⟩)⟩<;>first|(simp only[wL,wM,wN,wX,seval,Option.some.injEq]<;>exact wt_)|rfl|exact⟨_,rfl⟩) ?_
 intro i s hnx ⟨g1,g2,g6,g21,k9_0,k9_1,k9_2⟩
 obtain ⟨vN1,hA1,hN1⟩:=k9_2
 have g1:=hA1.f1;have g2:=hA1.f2;have g6:=hA1.f6;have ln:=hA1.ln
 have hM:=hA1.at_;have lm:=hM.lm;have lt:=hM.lt;have lg:=hM.lg
 have hm:s.H m=some (.own 13 [mkC ti gi vN1 vP vT vL M] false):=hM.hm
 obtain ⟨n1,n2,n3⟩:=hM.mt
 obtain ⟨c1,c2,c3⟩:=hM.nt
 have d1:=hN1.ne c1
 have hlen:=qcv (i - 1)
 by_cases hk:i≤n
 · obtain ⟨j,rfl⟩: ∃j,i=j+1:=⟨i - 1,o_⟩
   have ej:j+1 - 1=j:=rfl
   rw[ej]at hA1 hN1 hlen
   have hdl:=qhJ (j+1)
   have hnx2:qgr M (j+1+1 - 1)=qhf (qgr M j) {name:=64::qjY (j+1)}:=by
    show ({M with nons:=M.nons++qck (j+1)}:Mk)=_
    unfold qhf qgr;rw[qam,List.append_assoc]
   have hnl2:M.nons++qck (j+1+1 - 1)=(qhf (qgr M j) {name:=64::qjY (j+1)}).nons:=by
    show M.nons++qck (j+1)=_
    rw[qam,← List.append_assoc]
   have hz:IntKind.i64.wrap ((j+1+1:Nat):Int)=((j+1+1:Nat):Int):=wrap64 o_ o_
   repeat' with_reducible first
    |refine s_ ?_
    |simp only[wZZ,seval,g1,g2,g6,g21,g1,g2,g6,g21,hm,hi,qi d1,hz]
    |apply qa<;>intro h h_<;>(try simp only[wD,reduceCtorEq]at h_)<;>(try exact wb_)<;>(try simp only[h])
    |apply za rfl (hN1.mono (Nat.le_refl _) (fun id h1 h2=>by(try simp only[wM]);(repeat rw[if_neg o_])));(focus(first|exact qU.sl|exact qU.asl));(focus(simp only[wZ]<;>omega));(focus(unfold maxLen;simp only[wZ]<;>omega))
    |refine t_ ?_
    |apply qjy;(focus(first|omega|(simp only[wZ]<;>omega)))
    |refine JA we_ (JS wf_) ?_
    |simp(disch:=omega) only[w64,if_neg]
   refine⟨by(try simp only[wN])<;>omega,j+1+1,o_,f1.symm,f2.symm,f6.symm,rfl,o_,o_,?_⟩
   rw[hnx2,hnl2]
   refine⟨_,hA1.non (id:=s.next+6+11) hN1 wl_ wl_ wl_ wg_ o_ wg_ ?_ ?_ (fun j h1 h2 h3=>?_)⟩
   · simp only[wM]
     repeat(first|rw[if_pos trivial]|rw[if_pos rfl]|rw[if_neg o_]|simp only[wM]|rw[qi d1])
     simp[hi]
   · simp only[wM]
     repeat(first|rw[if_pos trivial]|rw[if_pos rfl]|rw[if_neg o_]|simp only[wM])
   · simp only[wM]
     repeat(first|rw[if_pos trivial]|rw[if_pos rfl]|rw[if_neg o_]|simp only[wM]|rw[qi h3])
 · have e:i - 1=n:=o_
   rw[e]at hA1
   repeat' with_reducible first
    |refine s_ ?_
    |simp only[wZZ,seval,g1,g2,g6,g21,g1,g2,g6,g21,hm,hi]
    |apply qa<;>intro h h_<;>(try simp only[wD,reduceCtorEq]at h_)<;>(try exact wb_)<;>(try simp only[h])
    |refine t_ ?_
   exact hQ _ vN1 (hA1.mono wl_ wl_ wl_ wg_ (fun j hj=>by first|rfl|simp only[wM]))
def Kn (given:List Bool):Nat→Nat→List Tok×Int→List Tok×Int
 |0,_,q=>q
 |f+1,i,(l,n)=>Kn given f (i+1) (if given.getD i false=true then(l,n)else(l.set i {l.getD i {} with num:=n},n+1))
theorem Va (given:List Bool) (f i:Nat) (l:List Tok) (n:Int):Kn given (f+1) i (l,n)=Kn given f (i+1) (if given.getD i false=true then(l,n)else(l.set i {l.getD i {} with num:=n},n+1)):=rfl
abbrev qcV (M:Mk) (l:List Tok):Mk:={M with toks:=l}
theorem qkj {s0:St} {m ti gi:Nat} {src:Source} {vN vP vT vL:V} {M:Mk} {E:EC} {Q:Exit→St→Prop} (h:OfAt s0 m src ti gi vN vP vT vL M) (f22:s0.f 22=vi 57346) (b1:M.toks.length≤10000000000)
 (hQ: ∀s',OfAt s' m src ti gi vN vP vT vL (qcV M (Kn M.given (M.toks.length - 3) 3 (M.toks,57346)).1)→ewp Try.prog E Q s'):ewp Try.prog (.seq xC E) Q s0:=by
 generalize hR:Kn M.given (M.toks.length - 3) 3 (M.toks,57346)=R at hQ
 have hA0:=h
 have f1:=h.f1;have f2:=h.f2;have f6:=h.f6
 have hl3:=h.at_.len3;have hgl:=h.at_.len
 repeat' with_reducible first
  |refine s_ ?_
  |simp only[wZZ,seval,f1,f2,f6]
 refine qb ?nx10 (fun(z:Nat×List Tok×Int) s=>s.f 1=?v10_1∧s.f 2=?v10_2∧s.f 6=?v10_6∧s.f 23=vi z.1∧(3≤z.1)∧(z.1≤M.toks.length)∧((OfAt s m src ti gi vN vP vT vL (qcV M z.2.1)))∧(Kn M.given (M.toks.length - z.1) z.1 z.2=R)∧((z.2.1.length=M.toks.length))∧((57346≤z.2.2∧z.2.2≤57346+z.1))∧(s.f 22=vi z.2.2)) (fun z=>M.toks.length - z.1) ((3,M.toks,57346)) wj_ (by refine⟨?_,?_,?_,?_,wo_,wo_,(by exact hA0.mono wl_ wl_ wl_ wg_ (fun j hj=>by first|rfl|simp only[wM])),(by exact hR),(by rfl),(by dsimp only;omega),(by(try simp only[wL,wM,wN,seval]);exact f22)⟩<;>first|(simp only[wL,wM,wN,wX,seval,Option.some.injEq]<;>exact wt_)|rfl|exact⟨_,rfl⟩) ?_
 intro z s hnx ⟨g1,g2,g6,g23,k10_0,k10_1,k10_2,k10_3,k10_4,k10_5,g22⟩
 obtain ⟨i,l,n⟩:=z
 dsimp only at g22 g23 k10_0 k10_1 k10_2 k10_3 k10_4 k10_5
 have hA1:=k10_2
 have g1:=hA1.f1;have g2:=hA1.f2;have g6:=hA1.f6;have ln:=hA1.ln
 have hM:=hA1.at_;have lm:=hM.lm;have lt:=hM.lt;have lg:=hM.lg
 have hm:s.H m=some (.own 13 [.agg [.msl ti 6 0 l.length,vN,vP,.str [],.str [],.msl gi 1 0 M.given.length,vT,vL,vi M.e,vi M.at_,.str M.name,vi M.level,vi M.inner]] false):=hM.hm
 have ht:s.H ti=some (.own 6 (l.map Tok.V) false):=hM.ht
 have hg:s.H gi=some (.own 1 (M.given.map V.bool) false):=hM.hg
 obtain ⟨n1,n2,n3⟩:=hM.mt
 by_cases hk:i<M.toks.length
 · rw [show M.toks.length - i=(M.toks.length - (i+1))+1 by omega,Va]at k10_3
   have hgt:M.given[i]?=some (M.given.getD i false):=by
    rw[ge_ o_];simp[List.getD,show i<M.given.length by omega]
   generalize hgb:M.given.getD i false=gb at hgt k10_3
   have hlt:l[i]?=some (l.getD i {}):=by
    rw[ge_ o_];simp[List.getD,show i<l.length by omega]
   generalize hkt:l.getD i {}=kt at hlt k10_3
   cases gb
   · rw[if_neg (by simp)]at k10_3
     have hz:IntKind.i64.wrap (n+1)=n+1:=wrap64 o_ o_
     have hs0:Qi (qcV M l) i {kt with num:=n}=qcV M (l.set i {kt with num:=n}):=rfl
     repeat' with_reducible first
      |refine s_ ?_
      |simp only[wZZ,seval,g1,g2,g6,g23,g22,g1,g2,g6,g22,g23,hm,ht,hg,hz]
      |apply qa<;>intro h h_<;>(try simp only[wD,reduceCtorEq]at h_)<;>(try exact wb_)<;>(try simp only[h])
      |apply stT ({kt with num:=n});(focus(first|assumption|exact List.getElem?_set_self (by first|omega|(simp only[List.length_set];omega))));exact wu_;exact wu_;exact wu_;decide;exact wu_
      |refine t_ ?_
      |apply QI;exact wd_;exact wu_
      |simp(disch:=omega) only[w64,if_neg]
     refine⟨by(try simp only[wN])<;>omega,(i+1,l.set i {kt with num:=n},n+1),by dsimp only;omega,f1.symm,f2.symm,f6.symm,rfl,by dsimp only;omega,by dsimp only;omega,?_,k10_3,by dsimp only;rw[List.length_set];exact k10_4,by dsimp only;omega,rfl⟩
     dsimp only
     rw[← hs0]
     refine hA1.upd (hM.Qi wg_ ?_ (fun j h1 h2=>?_)) wl_ wl_ wl_ wg_ (fun j h1 h2 h3 h4 h5=>?_)
     · simp only[wM]
       repeat(first|rw[if_pos trivial]|rw[if_pos rfl]|rw[if_neg o_])
     · simp only[wM]
       repeat(first|rw[if_pos trivial]|rw[if_pos rfl]|rw[if_neg o_])
     · simp only[wM]
       repeat(first|rw[if_pos trivial]|rw[if_pos rfl]|rw[if_neg o_])
   · rw[if_pos rfl]at k10_3
     repeat' with_reducible first
      |refine s_ ?_
      |simp only[wZZ,seval,g1,g2,g6,g23,g22,g1,g2,g6,g22,g23,hm,ht,hg]
      |apply qa<;>intro h h_<;>(try simp only[wD,reduceCtorEq]at h_)<;>(try exact wb_)<;>(try simp only[h])
      |refine t_ ?_
      |apply QI;exact wd_;exact wu_
      |simp(disch:=omega) only[w64,if_neg]
     exact⟨by(try simp only[wN])<;>omega,(i+1,l,n),by dsimp only;omega,f1.symm,f2.symm,f6.symm,rfl,by dsimp only;omega,by dsimp only;omega,hA1.mono wl_ wl_ wl_ wg_ (fun j hj=>by first|rfl|simp only[wM]),k10_3,k10_4,by dsimp only;omega,rfl⟩
 · have e:M.toks.length - i=0:=o_
   rw[e]at k10_3
   subst k10_3
   repeat' with_reducible first
    |refine s_ ?_
    |simp only[wZZ,seval,g1,g2,g6,g23,g22,g1,g2,g6,g22,g23,hm]
    |apply qa<;>intro h h_<;>(try simp only[wD,reduceCtorEq]at h_)<;>(try exact wb_)<;>(try simp only[h])
    |refine t_ ?_
   exact hQ _ (hA1.mono wl_ wl_ wl_ wg_ (fun j hj=>by first|rfl|simp only[wM]))

theorem qD4 {vP:V} {l:List GPr} {i:Nat} {p:GPr} (h:ErP vP (.sl 6 false (l.map GPr.V))) (hp:l[i]?=some p): ∃w1 w2,jk 6 vP (vi i)=some (.iptr 6 (.agg [vi p.left,w1,vi p.prec,.str p.code,w2,vi p.at_]) 0)∧ErP w1 (.sl 1 false (p.right.map (V.int .i64)))∧ErP w2 (.sl 1 false (p.args.map (V.int .i64))):=by
 obtain ⟨es,h1,h2,h3⟩:=ErP.shape h
 rw[List.length_map]at h1
 have hi:i<l.length:=(List.getElem?_eq_some_iff.1 hp).1
 have he:es[i]?=some es[i]:=ge_ o_
 have hE:=h2 i _ _ he (by rw[List.getElem?_map,hp];rfl)
 generalize es[i]=e at he hE
 unfold ErP at hE
 cases hE with
 | agg cs _ hl hc=>
   match cs,hl with
   | [c0,c1,c2,c3,c4,c5],_=>
     have e0:=XH (hc 0 _ _ rfl rfl) (.int _ _);have e2:=XH (hc 2 _ _ rfl rfl) (.int _ _);have e3:=XH (hc 3 _ _ rfl rfl) (.str _);have e5:=XH (hc 5 _ _ rfl rfl) (.int _ _)
     subst e0 e2 e3 e5
     refine⟨c1,c4,?_,hc 1 _ _ rfl rfl,hc 4 _ _ rfl rfl⟩
     rcases h3 with ⟨b,rfl⟩|⟨id,fin,rfl⟩
     · simp[jk,idxOf,he]
     · simp[jk,idxOf,he]
def YG (M:Mk):Bool:=decide (40<M.toks.length) || decide (24<M.nons.length) || decide (60<M.prods.length) || M.prods.any fun p=>decide (8<p.right.length)
theorem qgD {s0:St} {m ti gi:Nat} {src:Source} {vN vP vT vL:V} {M:Mk} {E:EC} {Q:Exit→St→Prop} (h:OfAt s0 m src ti gi vN vP vT vL M) (b1:M.prods.length≤10000000000)
 (hQ: ∀s',OfAt s' m src ti gi vN vP vT vL M→s'.f 24=.bool (YG M)→ewp Try.prog E Q s'):ewp Try.prog (.seq (.reg xH) (.seq jH E)) Q s0:=by
 have hA0:=h
 have f1:=h.f1;have f2:=h.f2;have f6:=h.f6
 have hM:=h.at_;have hm:=hM.hm
 have hNl:Zw vN=some (.int .i64 (M.nons.length:Int)):=by have:=ErP.Zw hM.eN;rwa [List.length_map]at this
 have hPl:Zw vP=some (.int .i64 (M.prods.length:Int)):=by have:=ErP.Zw hM.eP;rwa [List.length_map]at this
 generalize hB:(decide (40<M.toks.length) || decide (24<M.nons.length) || decide (60<M.prods.length))=B
 have hR:YG M=(B || M.prods.any fun p=>decide (8<p.right.length)):=by unfold YG;rw[hB]
 rw[hR]at hQ
 have tail: ∀s1,OfAt s1 m src ti gi vN vP vT vL M→s1.f 24=.bool B→ewp Try.prog (.seq jH E) Q s1:=by
  intro s1 hA f24
  have f1:=hA.f1;have f2:=hA.f2;have f6:=hA.f6
  generalize hRR:(B || M.prods.any fun p=>decide (8<p.right.length))=R at hQ
  repeat' with_reducible first
   |refine s_ ?_
   |simp only[wZZ,seval,f1,f2,f6,f24]
  refine qb ?nx11 (fun(z:Nat×Bool) s=>s.f 1=?v11_1∧s.f 2=?v11_2∧s.f 6=?v11_6∧s.f 25=vi z.1∧(z.1≤M.prods.length)∧((OfAt s m src ti gi vN vP vT vL M))∧(((z.2 || (M.prods.drop z.1).any fun p=>decide (8<p.right.length))=R))∧(s.f 24=.bool z.2)) (fun z=>M.prods.length - z.1) ((0,B)) wj_ (by refine⟨?_,?_,?_,?_,wo_,(by exact hA.mono wl_ wl_ wl_ wg_ (fun j hj=>by first|rfl|simp only[wM])),(by exact hRR),(by(try simp only[wL,wM,wN,seval]);exact f24)⟩<;>first|(simp only[wL,wM,wN,wX,seval,Option.some.injEq]<;>exact wt_)|rfl|exact⟨_,rfl⟩) ?_
  intro z s hnx ⟨g1,g2,g6,g25,k11_0,k11_1,k11_2,g24⟩
  obtain ⟨i,b⟩:=z
  dsimp only at g24 g25 k11_0 k11_1 k11_2
  have hA1:=k11_1
  have g1:=hA1.f1;have g2:=hA1.f2;have g6:=hA1.f6;have ln:=hA1.ln
  have hM1:=hA1.at_;have hm1:=hM1.hm
  by_cases hk:i<M.prods.length
  · obtain ⟨w1,w2,hia,hw1,hw2⟩:=qD4 hM.eP (ge_ hk)
    have hwl:Zw w1=some (.int .i64 (M.prods[i].right.length:Int)):=by have:=ErP.Zw hw1;rwa [List.length_map]at this
    rw[List.drop_eq_getElem_cons hk,List.any_cons]at k11_2
    cases b
    · repeat' with_reducible first
       |refine s_ ?_
       |simp only[wZZ,seval,g1,g2,g6,g25,g24,g1,g2,g6,g24,g25,hm1,hPl,hia,hwl]
       |apply qa<;>intro h h_<;>(try simp only[wD,reduceCtorEq]at h_)<;>(try exact wb_)<;>(try simp only[h])
       |refine t_ ?_
       |simp(disch:=omega) only[w64,if_neg]
      exact⟨by(try simp only[wN])<;>omega,(i+1,decide (8<(M.prods[i].right.length:Int))),by dsimp only;omega,f1.symm,f2.symm,f6.symm,rfl,by dsimp only;omega,hA1.mono wl_ wl_ wl_ wg_ (fun j hj=>by first|rfl|simp only[wM]),by rw[← k11_2,Bool.false_or];congr 1;simp;omega,rfl⟩
    · repeat' with_reducible first
       |refine s_ ?_
       |simp only[wZZ,seval,g1,g2,g6,g25,g24,g1,g2,g6,g24,g25,hm1,hPl,hia,hwl]
       |apply qa<;>intro h h_<;>(try simp only[wD,reduceCtorEq]at h_)<;>(try exact wb_)<;>(try simp only[h])
       |refine t_ ?_
       |simp(disch:=omega) only[w64,if_neg]
      exact⟨by(try simp only[wN])<;>omega,(i+1,true),by dsimp only;omega,f1.symm,f2.symm,f6.symm,rfl,by dsimp only;omega,hA1.mono wl_ wl_ wl_ wg_ (fun j hj=>by first|rfl|simp only[wM]),by rw[← k11_2];simp,rfl⟩
  · rw[List.drop_eq_nil_of_le o_,List.any_nil,Bool.or_false]at k11_2
    subst k11_2
    repeat' with_reducible first
     |refine s_ ?_
     |simp only[wZZ,seval,g1,g2,g6,g25,g24,g1,g2,g6,g24,g25,hm1,hPl]
     |apply qa<;>intro h h_<;>(try simp only[wD,reduceCtorEq]at h_)<;>(try exact wb_)<;>(try simp only[h])
     |refine t_ ?_
    exact hQ _ (hA1.mono wl_ wl_ wl_ wg_ (fun j hj=>by first|rfl|simp only[wM])) (by simp only[wL,seval];exact g24)
 generalize (EC.seq jH E)=F at tail
 skip
 repeat' with_reducible first
  |refine s_ ?_
  |simp only[wZZ,seval,f1,f2,f6,hm,hNl,hPl]
  |(first|apply qg|apply qh)<;>intro h h_<;>(try simp only[wD,reduceCtorEq]at h_)<;>(try exact wb_)<;>(try simp only[h])
  |refine t_ ?_
 all_goals(refine tail _ (hA0.mono wl_ wl_ wl_ wg_ (fun j hj=>by first|rfl|simp only[wM])) ?_)
 all_goals(simp only[wL,seval])
 all_goals(refine congrArg V.bool ?_;rw[← hB])
 all_goals first
  |(rw[show decide (40<M.toks.length)=false from decide_eq_false o_,show decide (24<M.nons.length)=false from decide_eq_false o_];simp only[Bool.false_or,decide_eq_decide];omega)
  |(rw[decide_eq_false o_,decide_eq_true o_];rfl)
  |(rw[decide_eq_true o_];rfl)

theorem qhk {ef:EF} {t a b c id:Nat} {ro:Bool} {v res:V} {e:Exit} {s:St} (he:ef.res=[.inr (t,true,5),.inl a,.inl b,.inl c]) (hx:e=.normal∨e=.ret) (hp:s.f t=.ptr id 0 0) (hH:s.H id=some (.own 5 [v] ro)) (ha:v.isAgg=true)
 (h:Er true s.H (.tup [v,s.f a,s.f b,s.f c]) res):zu ef res e s:=by
 have hv:zb s true 5 (s.f t)=some v:=by rw[hp];simp only[zb,hH,List.getElem?_cons_zero,zX,ha,and_self,if_true]
 exact⟨hx,_,by rw[he];simp[Y2,YK,hv,one],h⟩
theorem j3 {b:Bool} {H:Nat→Option MObj} (src:Source):Er b H src.V src.V:=ErL.agg (.cons (.str _) (.cons qc (.cons qc (.cons (.str _) .nil))))
def xw (m:Mk):Mk:=
 let m1:Mk:={m with nons:=[{name:=[36,97,99,99,101,112,116]}]}
 let m2:Mk:={m1 with nons:=m1.nons++yI m1.types m1.lefts}
 let m3:=qgr m2 m.inner.toNat
 qcV m3 (Kn m3.given (m3.toks.length - 3) 3 (m3.toks,57346)).1
def ofS (src:Source):Grammar×Int×Int×List UInt8:=
 if jM src=true then
  if (jJ src).e≠0 then({},(jJ src).e,(jJ src).at_,(jJ src).name)
  else if YG (xw (jJ src))=true then({},4,0,[])
  else({toks:=(xw (jJ src)).toks,nons:=(xw (jJ src)).nons,prods:=(xw (jJ src)).prods,pro:=src.pro,tail:=src.tail},0,0,[])
 else({},1,0,[])
@[reducible] def ofV (q:Grammar×Int×Int×List UInt8):V:= .tup [q.1.V,vi q.2.1,vi q.2.2.1,.str q.2.2.2]
theorem qst {s0:St} {m ti gi:Nat} {src:Source} {vN vP vT vL:V} {M:Mk} (h:OfAt s0 m src ti gi vN vP vT vL M) (hm0:jM src=true) (hM0:jJ src=M)
 (b1:M.toks.length≤5000000000) (b2:M.lefts.length≤1000000) (b3:M.types.length≤1000000000) (b4:M.prods.length≤5000000000) (b5:0≤M.inner) (b6:M.inner≤1000000000) (hnn:M.nons=[]):
 ewp Try.prog (.seq Jj (.seq (.reg Ja) (.seq yO (.seq yQ (.seq (.reg kK) (.seq xC (.seq (.reg xH) (.seq jH (.seq xZ (.seq (.reg yg) (.seq (.reg xV) .ret))))))))))) (zu e72 (ofV (ofS src))) s0:=by
 have hA0:=h
 have f1:=h.f1;have f2:=h.f2;have f6:=h.f6;have h1:=h.h1;have ln:=h.ln
 have hM:=h.at_;have hm:=hM.hm;have lm:=hM.lm;have lt:=hM.lt;have lg:=hM.lg
 obtain ⟨n1,n2,n3⟩:=hM.mt
 obtain ⟨z1,z2,z3,z4⟩:=hM.far h1 (by decide) (by decide)
 by_cases he:M.e=0
 · show ewp _ (.seq Jj (.seq (.reg Ja) (.seq yO (.seq yQ (.seq (.reg kK) (.seq xC (.seq (.reg xH) (.seq jH (.seq xZ (.seq (.reg yg) (.seq (.reg xV) .ret))))))))))) _ _
   have hof:ofS src=if YG (xw M)=true then({},4,0,[])else({toks:=(xw M).toks,nons:=(xw M).nons,prods:=(xw M).prods,pro:=src.pro,tail:=src.tail},0,0,[]):=by
    unfold ofS;rw[if_pos hm0,hM0,if_neg (by simp[he])]
   obtain ⟨n,hn⟩: ∃n:Nat,M.inner=n:=⟨M.inner.toNat,o_⟩
   have tail: ∀s1 vN1,OfAt s1 m src ti gi vN1 vP vT vL {M with nons:=[{name:=[36,97,99,99,101,112,116]}]}→Gr s1.H s1.next 2 ([({name:=[36,97,99,99,101,112,116]}:Non)].map Non.V) vN1→
    ewp Try.prog (.seq yO (.seq yQ (.seq (.reg kK) (.seq xC (.seq (.reg xH) (.seq jH (.seq xZ (.seq (.reg yg) (.seq (.reg xV) .ret))))))))) (zu e72 (ofV (ofS src))) s1:=by
    intro s1 vN1 hA1 hN1
    refine qnX hA1 hN1 (by dsimp only;omega) b3 (by simp) fun s2 vN2 hA2 hN2=>?_
    have hnl:([({name:=[36,97,99,99,101,112,116]}:Non)]++yI M.types M.lefts).length=1+M.lefts.length:=by rw[List.length_append,Yb];rfl
    refine qq2 (n:=n) hA2 hN2 (by dsimp only;rw[hnl];omega) hn o_ fun s3 vN3 hA3=>?_
    have tail2: ∀s4,OfAt s4 m src ti gi vN3 vP vT vL (qgr {M with nons:=[({name:=[36,97,99,99,101,112,116]}:Non)]++yI M.types M.lefts} n)→s4.f 22=vi 57346→ewp Try.prog (.seq xC (.seq (.reg xH) (.seq jH (.seq xZ (.seq (.reg yg) (.seq (.reg xV) .ret)))))) (zu e72 (ofV (ofS src))) s4:=by
     intro s4 hA4 f22
     refine qkj hA4 f22 (by dsimp only;omega) fun s5 hA5=>?_
     have hmn:xw M=qcV (qgr {M with nons:=[({name:=[36,97,99,99,101,112,116]}:Non)]++yI M.types M.lefts} n) (Kn M.given (M.toks.length - 3) 3 (M.toks,57346)).1:=by
      unfold xw;rw[hn];rfl
     have hA5':OfAt s5 m src ti gi vN3 vP vT vL (xw M):=by rw[hmn];exact hA5
     refine qgD hA5' (by rw[hmn];exact Nat.le_trans b4 (by decide)) fun s6 hA6 f24=>?_
     have f1:=hA6.f1;have f2:=hA6.f2;have f6:=hA6.f6;have h1:=hA6.h1;have h0:=hA6.h0;have ln:=hA6.ln
     have hM:=hA6.at_;have hm:=hM.hm;have lm:=hM.lm;have lt:=hM.lt;have lg:=hM.lg
     obtain ⟨n1,n2,n3⟩:=hM.mt
     obtain ⟨z1,z2,z3,z4⟩:=hM.far h1 (by decide) (by decide)
     obtain ⟨y1,y2,y3,y4⟩:=hM.far h0 (by decide) (by decide)
     by_cases hlo:YG (xw M)=true
     · rw[hof,if_pos hlo]
       repeat' with_reducible first
        |refine s_ ?_
        |simp only[wZZ,seval,f1,f2,f6,f24,hlo,h1]
        |refine t_ ?_
       refine qhk (id:=1) rfl (Or.inr rfl) (by simp only[wL,seval,f2]) wi_ rfl ?_
       simp only[wL,seval]
       exact ErL.tup (.cons (ErL.agg (.cons (ErL.sl .nil) (.cons (ErL.sl .nil) (.cons (ErL.sl .nil) (.cons (.str _) (.cons (.str _) .nil)))))) (.cons (.int _ _) (.cons (.int _ _) (.cons (.str _) .nil))))
     · have hlf:YG (xw M)=false:=by simpa using hlo
       rw[hof,if_neg hlo]
       repeat' with_reducible first
        |refine s_ ?_
        |simp only[wZZ,seval,f1,f2,f6,f24,hlf,h0,h1,hm]
        |(refine And.intro ?_ ?_;(focus(first|with_unfolding_all rfl|exact congrArg some (qgl (by first|omega|(simp only[List.length_set];omega))))))
        |apply Jk;exact wu_;exact wu_;(focus((try simp only[wE,Nat.reduceAdd]);rfl))
        |refine t_ ?_
        |simp(disch:=omega) only[w64,if_neg]
       refine qhk (id:=1) rfl (Or.inr rfl) (by simp only[wL,seval,f2]) wi_ rfl ?_
       simp only[wL,seval]
       refine ErL.tup (.cons (ErL.agg (.cons ?_ (.cons hM.eN.er (.cons hM.eP.er (.cons (.str _) (.cons (.str _) .nil)))))) (.cons (.int _ _) (.cons (.int _ _) (.cons (.str _) .nil))))
       refine yD (es:=(xw M).toks.map Tok.V) (ro:=false) ?_ (by simp) (by rw[List.drop_zero];exact List.take_of_length_le (by simp))
       simp only[wM]
       repeat(first|rw[if_pos trivial]|rw[if_pos rfl]|rw[if_neg o_])
       exact hM.ht
    generalize (EC.seq xC (.seq (.reg xH) (.seq jH (.seq xZ (.seq (.reg yg) (.seq (.reg xV) .ret))))))=F2 at tail2
    have f1:=hA3.f1
    repeat' with_reducible first
     |refine zV ?_
     |simp only[wZZ,seval,f1]
    exact tail2 _ (hA3.mono wl_ wl_ wl_ wg_ (fun j hj=>by first|rfl|simp only[wM])) wl_
   generalize (EC.seq yO (.seq yQ (.seq (.reg kK) (.seq xC (.seq (.reg xH) (.seq jH (.seq xZ (.seq (.reg yg) (.seq (.reg xV) .ret)))))))))=F at tail
   repeat' with_reducible first
    |refine s_ ?_
    |simp only[wZZ,seval,f1,f2,f6,h1,hm,he]
    |refine t_ ?_
   refine tail _ (.sl 2 true [.agg [.str [36,97,99,99,101,112,116],.str []]]) (hA0.upd ⟨?_,?_,?_,?_,hM.eP,hM.eT,hM.eL,by simp only[wN]<;>omega,by simp only[wN]<;>omega,by simp only[wN]<;>omega,hM.len,hM.len3⟩ wl_ wl_ wl_ wh_ (fun j g1 g2 g3 g4 g5=>?_)) Gr.clip
   · simp only[wM]
     repeat(first|rw[if_pos trivial]|rw[if_pos rfl]|rw[if_neg o_])
     simp[he]
   · simp only[wM]
     repeat(first|rw[if_pos trivial]|rw[if_pos rfl]|rw[if_neg o_])
     exact hM.ht
   · simp only[wM]
     repeat(first|rw[if_pos trivial]|rw[if_pos rfl]|rw[if_neg o_])
     exact hM.hg
   · exact jA
   · simp only[wM]
     repeat(first|rw[if_pos trivial]|rw[if_pos rfl]|rw[if_neg o_])
 · have hof:ofS src=({},M.e,M.at_,M.name):=by unfold ofS;rw[if_pos hm0,hM0,if_pos he]
   rw[hof]
   repeat' with_reducible first
    |refine s_ ?_
    |simp only[wZZ,seval,f1,f2,f6,h1,hm]
    |apply qa<;>intro h h_<;>(try simp only[wD,reduceCtorEq]at h_)<;>(try exact wb_)<;>(try simp only[h])
    |(refine And.intro ?_ ?_;(focus(first|with_unfolding_all rfl|exact congrArg some (qgl (by first|omega|(simp only[List.length_set];omega))))))
    |refine t_ ?_
   refine qhk (id:=1) rfl (Or.inr rfl) (by simp only[wL,seval,f2]) wi_ rfl ?_
   simp only[wL,seval]
   exact ErL.tup (.cons (ErL.agg (.cons (ErL.sl .nil) (.cons (ErL.sl .nil) (.cons (ErL.sl .nil) (.cons (.str _) (.cons (.str _) .nil)))))) (.cons (.int _ _) (.cons (.int _ _) (.cons (.str _) .nil))))
theorem Kw {src:Source} (hf:src.Fits) (hS:jM src=true→Small src):Pure Try.prog 72 [src.V] (ofV (ofS src)):=by
 refine pure_intro Try.func72 nm_ qIL (by show 1≤435;decide) ?_
 show ewp _ qeU _ _
 show ewp _ (.seq (.reg qKS) (.seq qy0 (.seq (.reg qHz) (.seq (.reg qLB) (.seq (.reg qBK) (.seq qaI (.seq qad (.seq qag (.seq Yt (.seq (.reg Ye) (.seq Yp (.seq Jj (.seq (.reg Ja) (.seq yO (.seq yQ (.seq (.reg kK) (.seq xC (.seq (.reg xH) (.seq jH (.seq xZ (.seq (.reg yg) (.seq (.reg xV) .ret)))))))))))))))))))))) _ _
 have tail: ∀s m ti gi,jM src=true→OfAt s m src ti gi (.sl 2 true []) (.sl 6 true []) (.sl 2 true []) (.sl 1 true []) {}→s.f 7=.str []→
  ewp Try.prog (.seq qaI (.seq qad (.seq qag (.seq Yt (.seq (.reg Ye) (.seq Yp (.seq Jj (.seq (.reg Ja) (.seq yO (.seq yQ (.seq (.reg kK) (.seq xC (.seq (.reg xH) (.seq jH (.seq xZ (.seq (.reg yg) (.seq (.reg xV) .ret))))))))))))))))) (zu e72 (ofV (ofS src))) s:=by
  intro s m ti gi hm0 hA f7
  have hSm:=hS hm0
  have hr0:0<src.rules.length:=by
   have:=hm0;unfold jM at this
   simp only[Bool.and_eq_true,Bool.not_eq_true',decide_eq_false_iff_not]at this
   exact List.length_pos_iff.2 this.2
  refine qoI hA Gr.nil f7 hSm (by decide) (by decide) (by decide) (by decide) fun s1 ti1 gi1 vT1 hA1 f71 hs1 ht1 hy1=>?_
  generalize hq:jw src.decls ({},[])=q at hA1 f71 hs1 ht1 hy1
  obtain ⟨a1,a2,a3,a4⟩:=hs1
  refine qpB hA1 (by rw[a1];exact Gr.nil) hSm (Nat.le_trans ht1 (by decide)) (by rw[a1];decide) fun s2 vL2 hA2 f72 hn2 c1 c2 c3 c4 c5 c6=>?_
  generalize hm2:xI src.rules q.1=m2 at hA2 c1 c2 c3 c4 c5 c6
  rw[a1]at c3
  refine qr2 hA2 hSm (Nat.le_trans c3 (by decide)) fun s3 hA3 f73 hn3 hs3=>?_
  generalize hm3:vI src.decls m2=m3 at hA3 hs3
  obtain ⟨d1,d2,d3,d4,d5,d6,d7⟩:=hs3
  refine qfb hA3 (f73.trans (f72.trans f71)) hr0 fun s4 hA4 f74 hn4=>?_
  refine qeb hA4 f74 (by rw[d3];exact Nat.le_trans c3 (by decide)) fun s5 hA5 hn5=>?_
  have hmm:jJ src=yh src.rules (firstM m3 (Qq src q.2)):=by
   unfold jJ;simp only[hq,hm2,hm3]
  have kt:({}:Mk).toks.length=3:=rfl
  have kl:({}:Mk).lefts.length=0:=rfl
  have ky:({}:Mk).types.length=0:=rfl
  have ki:({}:Mk).inner=0:=rfl
  have kn:({}:Mk).nons=[]:=rfl
  have t3:m3.toks.length≤1000003:=by rw[d1,c1];omega
  have l3:m3.lefts.length≤1000:=by rw[d3];omega
  have y3:m3.types.length≤1000000:=by rw[d4,c2];omega
  have i3:m3.inner=0:=by rw[d7,c6,a4]
  have n3:m3.nons=[]:=by rw[d6,c5,a3]
  have l1:[qiS m3 (Qq src q.2)].length=1:=rfl
  refine qmD hA5 Gr.clip ?_ hSm ?_ ?_ (by rw[l1];omega) ?_ ?_ fun s6 ti6 gi6 vP6 hA6 hn6 hs6 e1 e2 e3=>?_
  · exact .cons (ErL.agg (.cons (.int _ _) (.cons (ErL.sl (.cons (.int _ _) .nil)) (.cons (.int _ _) (.cons (.str _) (.cons (ErL.sl .nil) (.cons (.int _ _) .nil))))))) .nil
  · show m3.toks.length≤_;omega
  · show m3.lefts.length≤_;omega
  · show 0≤m3.inner;omega
  · show m3.inner≤_;omega
  · obtain ⟨u1,u2,u3,u4,u5⟩:=hs6
    have v1:(firstM m3 (Qq src q.2)).toks.length=m3.toks.length:=rfl
    have v2:(firstM m3 (Qq src q.2)).lefts.length=m3.lefts.length:=rfl
    have v3:(firstM m3 (Qq src q.2)).types.length=m3.types.length:=rfl
    have v4:(firstM m3 (Qq src q.2)).inner=m3.inner:=rfl
    have v5:(firstM m3 (Qq src q.2)).nons=m3.nons:=rfl
    exact qst hA6 hm0 hmm o_ (by rw[u1];omega) (by rw[u2];omega) (by rw[l1]at e2;omega) o_ o_ (by rw[u3,v5];exact n3)
 generalize (EC.seq qaI (.seq qad (.seq qag (.seq Yt (.seq (.reg Ye) (.seq Yp (.seq Jj (.seq (.reg Ja) (.seq yO (.seq yQ (.seq (.reg kK) (.seq xC (.seq (.reg xH) (.seq jH (.seq xZ (.seq (.reg yg) (.seq (.reg xV) .ret)))))))))))))))))=F at tail
 by_cases hm0:jM src=true
 · repeat' with_reducible first
    |refine s_ ?_
    |simp only[wZZ,seval,hm0]
    |refine cq1 (QY hf) (j3 src) ?_
    |refine t_ ?_
    |apply qbj;exact wf_;exact wf_;(focus(unfold maxLen;first|omega|(simp only[wZ]<;>omega)))
   refine tail _ 10 16 8 hm0 ⟨⟨?_,?_,?_,ErL.sl .nil,ErL.sl .nil,ErL.sl .nil,ErL.sl .nil,by simp only[wN]<;>omega,by simp only[wN]<;>omega,by simp only[wN]<;>omega,rfl,by decide⟩,?_,?_,?_,?_,?_,by simp only[wN]<;>omega⟩ ?_
   · simp only[wM,seval]
     rfl
   · simp only[wM,seval]
     rfl
   · simp only[wM,seval]
     rfl
   · simp only[wL,seval]
   · simp only[wL,seval]
   · simp only[wL,seval]
   · simp only[wM,seval]
   · simp only[wM,seval]
   · simp only[wL,seval]
 · have hmf:jM src=false:=by simpa using hm0
   have hof:ofS src=({},1,0,[]):=by unfold ofS;rw[if_neg hm0]
   rw[hof]
   repeat' with_reducible first
    |refine s_ ?_
    |simp only[wZZ,seval,hmf]
    |refine cq1 (QY hf) (j3 src) ?_
    |refine t_ ?_
   refine qhk (id:=1) rfl (Or.inr rfl) wl_ (by simp only[wM,seval];rfl) rfl ?_
   simp only[wL,seval]
   exact ErL.tup (.cons (ErL.agg (.cons (ErL.sl .nil) (.cons (ErL.sl .nil) (.cons (ErL.sl .nil) (.cons (.str _) (.cons (.str _) .nil)))))) (.cons (.int _ _) (.cons (.int _ _) (.cons (.str _) .nil))))

theorem qGe {ef:EF} {t a id:Nat} {ro:Bool} {v res:V} {e:Exit} {s:St} (he:ef.res=[.inr (t,true,5),.inl a]) (hx:e=.normal∨e=.ret) (hp:s.f t=.ptr id 0 0) (hH:s.H id=some (.own 5 [v] ro)) (ha:v.isAgg=true)
 (h:Er true s.H (.tup [v,s.f a]) res):zu ef res e s:=by
 have hv:zb s true 5 (s.f t)=some v:=by rw[hp];simp only[zb,hH,List.getElem?_cons_zero,zX,ha,and_self,if_true]
 exact⟨hx,_,by rw[he];simp[Y2,YK,hv,one],h⟩
instance (g:Grammar):Cl g.V:=⟨fun b H=>ErL.agg (.cons qc (.cons qc (.cons qc (.cons (.str _) (.cons (.str _) .nil)))))⟩
abbrev qL (src:Source):Grammar:=(ofS src).1
abbrev YP (src:Source):Bool:=decide ((ofS src).2.1=0)
theorem Q6 {src:Source} (hf:src.Fits) (hS:jM src=true→Small src):Pure Try.prog 52 [src.V] (.tup [(qL src).V,.bool (YP src)]):=by
 refine pure_intro Try.func52 nm_ qwL (by show 1≤18;decide) ?_
 show ewp _ qvc _ _
 repeat' with_reducible first
  |refine s_ ?_
  |simp only[wZZ,seval]
  |refine cq1 (Kw hf hS) (j3 src) ?_
  |refine t_ ?_
 refine qGe (id:=1) rfl (Or.inr rfl) wl_ (by simp only[wM,seval];rfl) rfl ?_
 simp only[wL,seval]
 exact ErL.tup (.cons qc (.cons (.bool _) .nil))
end Go.Proofs
