/- Part of a proof that a law of the given program answers true. -/
import Derived.Test.YthgkeppkcjcmjaaTPC
set_option linter.unusedSimpArgs false
set_option linter.unusedVariables false
namespace Go.Proofs
open Go.E
theorem ja (n:List UInt8) (l:List (List UInt8)) (i:Nat): -1≤qE n l i∧qE n l i<(i:Int)+l.length:=by
 induction l generalizing i with
 |nil=>simp[qE];omega
 | cons a r ih=>
   have:=ih (i+1)
   unfold qE;split
   · simp;omega
   · simp at this ⊢;omega
theorem qcj (n:List UInt8) (l:List Non) (i:Nat): -1≤yt n l i∧yt n l i<(i:Int)+l.length:=by
 induction l generalizing i with
 |nil=>simp[yt];omega
 | cons a r ih=>
   have:=ih (i+1)
   unfold yt;split
   · simp;omega
   · simp at this ⊢;omega
theorem qhr (x:Sym) (l:List Tok) (i:Nat): -1≤QZ x l i∧QZ x l i<(i:Int)+l.length:=by
 induction l generalizing i with
 |nil=>simp[QZ];omega
 | cons a r ih=>
   have:=ih (i+1)
   unfold QZ;split
   · simp;omega
   · simp at this ⊢;omega
theorem V4 (x:Sym) (l:List Tok) (h:1≤l.length): -1≤Ki l x∧Ki l x<l.length:=by
 have:=qhr x (l.drop 1) 1
 unfold Ki
 rw[List.length_drop]at this;omega
theorem zB (M:Mk) (a:Int) (n:List UInt8):(zl M a n).toks=M.toks∧(zl M a n).given=M.given∧(zl M a n).lefts=M.lefts∧(zl M a n).types=M.types∧(zl M a n).prods=M.prods∧(zl M a n).nons=M.nons∧(zl M a n).level=M.level∧(zl M a n).inner=M.inner:=by
 unfold zl;split<;>exact⟨rfl,rfl,rfl,rfl,rfl,rfl,rfl,rfl⟩
theorem qSA {H:Nat→Option MObj} {next m ti gi:Nat} {vN vP vT vL:V} {M:Mk} {x:Sym} (hM:MkAt H next m ti gi vN vP vT vL M) (hb:M.toks.length≤1099511627776) (hbl:M.lefts.length≤1099511627776) (hx:x.lit=true→x.name≠[]):qZ Try.prog 110 [.ptr m 0 0,x.V] H next (fun v H' next'=>next≤next'∧v=vi (xP M x).2∧(∃ti' gi',(ti'=ti∨next≤ti')∧(gi'=gi∨next≤gi')∧MkAt H' next' m ti' gi' vN vP vT vL (xP M x).1)∧ ∀j,j<next→j≠m→j≠ti→j≠gi→H' j=H j):=by
 refine qO Try.func110 nm_ qqQ (by show 2≤32;decide) ?_
 show ewp _ qeB _ _
 have hm:=hM.hm;have lm:=hM.lm;have lt:=hM.lt;have lg:=hM.lg
 obtain ⟨n1,n2,n3⟩:=hM.mt
 by_cases hl:x.lit=true
 · have e:xP M x=QR M x:=by unfold xP;rw[if_pos hl]
   rw[e]
   repeat' with_reducible first
    |refine s_ ?_
    |simp only[wZZ,seval,hm]
    |apply qa<;>intro h h_<;>(try simp only[wD,reduceCtorEq]at h_)<;>(try exact wb_)<;>(try simp only[h])
    |(refine zk rfl rfl rfl ((qSC (hM.mono wh_ (fun j hj=>by(try simp only[wM]);(repeat rw[if_neg o_]))) hb hx).mono ?_);rintro v1 H1 n1 ⟨q1,rfl,⟨ti',gi',q3,q4,q5⟩,q6⟩;(try simp only[wN]at q1 q3 q4);(try simp only[wM,wN]at q6))
    |refine t_ ?_
   · refine kQ rfl (Or.inr rfl) ?_
     simp only[wL,seval]
     refine⟨by simp only[wN]<;>omega,trivial,⟨ti',gi',o_,o_,q5⟩,fun j hj h1 h2 h3=>?_⟩
     show H1 j=H j
     rw[q6 j o_ h1 h2 h3,if_neg o_]
 · have hb2:=ja x.name M.lefts 0
   have ht2:=V4 x M.toks (by have:=hM.len3;omega)
   have hlf:x.lit=false:=by simpa using hl
   by_cases h0:0≤qE x.name M.lefts 0
   · have e:xP M x=(M,1001+qE x.name M.lefts 0):=by unfold xP;rw[if_neg hl,if_pos h0]
     rw[e]
     have hz:IntKind.i64.wrap (1001+qE x.name M.lefts 0)=1001+qE x.name M.lefts 0:=wrap64 o_ o_
     repeat' with_reducible first
      |refine s_ ?_
      |simp only[wZZ,seval,hm,hz]
      |apply qa<;>intro h h_<;>(try simp only[wD,reduceCtorEq]at h_)<;>(try exact wb_)<;>(try simp only[h])
      |apply ze (hp:=qD ?_);(focus(refine(hM.mono (Nat.le_refl _) (fun j hj=>?_)).er;(try simp only[wM]);(repeat rw[if_neg o_])));exact qc;exact wu_;exact Flat.int _ _;rotate_left;exact wf_
      |refine t_ ?_
     refine kQ rfl (Or.inr rfl) ?_
     simp only[wL,seval]
     refine⟨by simp only[wN]<;>omega,by first|trivial|rfl,⟨ti,gi,Or.inl rfl,Or.inl rfl,hM.mono wh_ (fun j hj=>?_)⟩,fun j hj h1 h2 h3=>?_⟩
     · simp only[wM]
       repeat first|rw[if_pos trivial]|rw[if_neg o_]
     · simp only[wM]
       repeat first|rw[if_pos trivial]|rw[if_neg o_]
   · by_cases h1:Ki M.toks x<0
     · have e:xP M x=(zl M x.at_ x.name,0):=by unfold xP;rw[if_neg hl,if_neg h0,if_pos h1]
       rw[e]
       repeat' with_reducible first
        |refine s_ ?_
        |simp only[wZZ,seval,hm]
        |apply qa<;>intro h h_<;>(try simp only[wD,reduceCtorEq]at h_)<;>(try exact wb_)<;>(try simp only[h])
        |apply ze (hp:=qD ?_);(focus(refine(hM.mono (Nat.le_refl _) (fun j hj=>?_)).er;(try simp only[wM]);(repeat rw[if_neg o_])));exact qc;exact wu_;exact Flat.int _ _;rotate_left;exact wf_
        |apply ze (hp:=qY ?_);(focus(refine(hM.mono (Nat.le_refl _) (fun j hj=>?_)).er;(try simp only[wM]);(repeat rw[if_neg o_])));exact qc;exact wu_;exact Flat.int _ _;rotate_left;exact wf_
        |(refine zk rfl rfl rfl ((YD (hM.mono wh_ (fun j hj=>by(try simp only[wM]);(repeat rw[if_neg o_])))).mono ?_);rintro v1 H1 n1 ⟨q1,q2,q3⟩;(try simp only[wN]at q1);(try simp only[wM]at q3))
        |refine t_ ?_
       refine kQ rfl (Or.inr rfl) ?_
       simp only[wL,seval]
       refine⟨by simp only[wN]<;>omega,by first|trivial|rfl,⟨ti,gi,Or.inl rfl,Or.inl rfl,q2.mono wh_ (fun j hj=>by simp only[wM])⟩,fun j hj h1 h2 h3=>?_⟩
       show H1 j=H j
       rw[q3 j wg_ h1]
       (try simp only[wM])
       rw[if_neg o_]
     · have e:xP M x=(M,Ki M.toks x):=by unfold xP;rw[if_neg hl,if_neg h0,if_neg h1]
       rw[e]
       repeat' with_reducible first
        |refine s_ ?_
        |simp only[wZZ,seval,hm]
        |apply qa<;>intro h h_<;>(try simp only[wD,reduceCtorEq]at h_)<;>(try exact wb_)<;>(try simp only[h])
        |apply ze (hp:=qD ?_);(focus(refine(hM.mono (Nat.le_refl _) (fun j hj=>?_)).er;(try simp only[wM]);(repeat rw[if_neg o_])));exact qc;exact wu_;exact Flat.int _ _;rotate_left;exact wf_
        |apply ze (hp:=qY ?_);(focus(refine(hM.mono (Nat.le_refl _) (fun j hj=>?_)).er;(try simp only[wM]);(repeat rw[if_neg o_])));exact qc;exact wu_;exact Flat.int _ _;rotate_left;exact wf_
        |refine t_ ?_
       refine kQ rfl (Or.inr rfl) ?_
       simp only[wL,seval]
       refine⟨by simp only[wN]<;>omega,by first|trivial|rfl,⟨ti,gi,Or.inl rfl,Or.inl rfl,hM.mono wh_ (fun j hj=>?_)⟩,fun j hj h1 h2 h3=>?_⟩
       · simp only[wM]
         repeat first|rw[if_pos trivial]|rw[if_neg o_]
       · simp only[wM]
         repeat first|rw[if_pos trivial]|rw[if_neg o_]

abbrev qjW (x:Tok):List V:=[.str x.name,.bool x.lit,vi x.num,vi x.level,vi x.assoc,.str x.tag]
theorem ldT {K:V→Prop} {l:List Tok} {k off:Nat} {ro:Bool} {x:Tok} {c:V} (hx:l[k]?=some x) (hc:(qjW x)[off]?=some c) (hk:K c):onS (ldQ (some (.own 6 (l.map Tok.V) ro)) false 1 k off) K:=
 qps (f:=qjW) hx hc hk
theorem stT (x':Tok) {K:St→Prop} {s:St} {id k off:Nat} {l:List Tok} {x:Tok} {v:V} (hx:l[k]?=some x) (hv:v.cells=[v]) (hc:v.okCell=true) (ha:v.isAgg=false) (ho:off<6) (he:(qjW x).set off v=qjW x')
 (hk:K (s.setO id (some (.own 6 ((l.set k x').map Tok.V) false)))):onS (stQ s (some (.own 6 (l.map Tok.V) false)) 1 id k off v) K:=by
 have e:zZ 1 6 (.agg (qjW x)) v off=some (.agg ((qjW x).set off v)):=by
  unfold zZ
  rw[if_neg (by rw[ha];simp[V.isAgg])]
  cases v<;>simp_all [V.isAgg]
 have e2:stQ s (some (.own 6 (l.map Tok.V) false)) 1 id k off v=some (s.setO id (some (.own 6 ((l.set k x').map Tok.V) false))):=by
  have e3:(Tok.V x)=V.agg (qjW x):=rfl
  have e4:V.agg (qjW x')=Tok.V x':=rfl
  simp only[stQ,List.getElem?_map,hx,Option.map_some,hv,hc,List.length_singleton,and_self,↓reduceIte,e3,e,he,e4,List.map_set]
 rw[e2];exact hk
theorem qgl {l:List Tok} {ro:Bool} (h:0<l.length):lab (.own 6 (l.map Tok.V) ro)=13:=by
 cases l with
 |nil=>simp at h
 |cons a r=>rfl
structure DAt (s:St) (H:Nat→Option MObj) (next m ti gi:Nat) (vN vP vT vL:V) (d:Decl) (x:Sym) (t ti1 gi1:Nat) (M:Mk):Prop where
 at_:MkAt s.H s.next m ti1 gi1 vN vP vT vL M
 it:ti1=ti∨next≤ti1
 ig:gi1=gi∨next≤gi1
 f0:s.f 0=.ptr m 0 0
 f4:s.f 4=.ptr next 0 0
 f5:s.f 5=.ptr (next+1) 0 0
 f7:s.f 7=vi t
 f8:s.f 8=.ptr ti1 t 0
 h4:s.H next=some (.own 4 [d.V] false)
 h5:s.H (next+1)=some (.own 4 [x.V] false)
 lt:t<M.toks.length
 ln:next+2≤s.next
 fr: ∀j,j<next→j≠m→j≠ti→j≠gi→s.H j=H j
theorem MkAt.Qi {H H':Nat→Option MObj} {next n' m ti gi t:Nat} {vN vP vT vL:V} {M:Mk} {k:Tok} (h:MkAt H next m ti gi vN vP vT vL M) (hn:next≤n') (ht:H' ti=some (.own 6 ((M.toks.set t k).map Tok.V) false))
 (hf: ∀j,j<next→j≠ti→H' j=H j):MkAt H' n' m ti gi vN vP vT vL (Qi M t k):=by
 obtain ⟨n1,n2,n3⟩:=h.mt
 have:=h.lm;have:=h.lt;have:=h.lg
 refine⟨?_,?_,?_,h.eN,h.eP,h.eT,h.eL,o_,o_,o_,?_,?_⟩
 · rw[hf m h.lm (fun e=>n1 e.symm),h.hm]
   simp[Go.Proofs.Qi]
 · rw[ht];rfl
 · rw[hf gi h.lg n3];exact h.hg
 · simp[Go.Proofs.Qi,h.len]
 · simp[Go.Proofs.Qi,h.len3]
theorem DAt.ap4 {s:St} {H:Nat→Option MObj} {next m ti gi t ti1 gi1:Nat} {vN vP vT vL:V} {d:Decl} {x:Sym} {M:Mk} (h:DAt s H next m ti gi vN vP vT vL d x t ti1 gi1 M):next≠m∧next≠ti1∧next≠gi1:=by
 have hj:=h.h4
 refine⟨fun q=>?_,fun q=>?_,fun q=>?_⟩
 · rw[q,h.at_.hm]at hj;cases hj
 · rw[q,h.at_.ht]at hj;cases hj
 · rw[q,h.at_.hg]at hj;cases hj
theorem DAt.upd {s s':St} {H:Nat→Option MObj} {next m ti gi t ti1 gi1:Nat} {vN vP vT vL:V} {d:Decl} {x:Sym} {M M':Mk} (h:DAt s H next m ti gi vN vP vT vL d x t ti1 gi1 M)
 (hA:MkAt s'.H s'.next m ti1 gi1 vN vP vT vL M') (hl:M'.toks.length=M.toks.length) (h0:s'.f 0=s.f 0) (h4:s'.f 4=s.f 4) (h5:s'.f 5=s.f 5) (h7:s'.f 7=s.f 7) (h8:s'.f 8=s.f 8) (hn:s.next≤s'.next)
 (hH: ∀j,j<s.next→j≠m→j≠ti1→j≠gi1→s'.H j=s.H j):DAt s' H next m ti gi vN vP vT vL d x t ti1 gi1 M':=by
 have ln:=h.ln
 have hap: ∀j e,s.H j=some (.own 4 e false)→j≠m∧j≠ti1∧j≠gi1:=fun j e hj=>by
  refine⟨fun q=>?_,fun q=>?_,fun q=>?_⟩
  · rw[q,h.at_.hm]at hj;cases hj
  · rw[q,h.at_.ht]at hj;cases hj
  · rw[q,h.at_.hg]at hj;cases hj
 obtain ⟨a1,a2,a3⟩:=hap _ _ h.h4
 obtain ⟨b1,b2,b3⟩:=hap _ _ h.h5
 refine⟨hA,h.it,h.ig,h0.trans h.f0,h4.trans h.f4,h5.trans h.f5,h7.trans h.f7,h8.trans h.f8,?_,?_,by rw[hl];exact h.lt,o_,fun j hj c1 c2 c3=>?_⟩
 · rw[hH next o_ a1 a2 a3];exact h.h4
 · rw[hH (next+1) o_ b1 b2 b3];exact h.h5
 · have:=h.it;have:=h.ig
   rw[hH j o_ c1 o_ o_];exact h.fr j hj c1 c2 c3
theorem qdC {s:St} {H:Nat→Option MObj} {next m ti gi t ti1 gi1:Nat} {vN vP vT vL:V} {d:Decl} {x:Sym} {M:Mk} {E:EC} {Q:Exit→St→Prop} (h:DAt s H next m ti gi vN vP vT vL d x t ti1 gi1 M) (hk:1≤d.kind∧d.kind≤6)
 (hQ: ∀s',DAt s' H next m ti gi vN vP vT vL d x t ti1 gi1 (xO M d.kind x t)→ewp Try.prog E Q s'):ewp Try.prog (.seq qaG E) Q s:=by
 have hD:=h
 obtain ⟨hM,it,ig,f0,f4,f5,f7,f8,h4,h5,lt,ln,fr⟩:=h
 have hm:=hM.hm;have lm:=hM.lm;have ht:=hM.ht;have hg:=hM.hg;have lt1:=hM.lt;have lg:=hM.lg
 obtain ⟨n1,n2,n3⟩:=hM.mt
 by_cases hk1:d.kind=1
 · have e:xO M d.kind x t=M:=by unfold xO;rw[if_pos hk1]
   rw[e]at hQ
   repeat' with_reducible first
    |refine s_ ?_
    |simp only[wZZ,seval,f0,f4,f5,f7,f8,h4,h5,hm,hk1]
    |refine t_ ?_
   exact hQ _ (hD.upd (hM.mono wh_ (fun j hj=>by simp only[wM])) rfl wl_ wl_ wl_ wl_ wl_ wh_ (fun j h1 h2 h3 h4=>by simp only[wM]))
 · have hget:M.toks[t]?=some (VX M t):=by
    unfold VX;rw[Int.toNat_natCast,ge_ lt];simp[List.getD,lt]
   generalize hk0:VX M t=k at hget
   by_cases hl:0<k.level
   · have e:xO M d.kind x t=Qi (zl M x.at_ x.name) t {k with level:=M.level,assoc:=d.kind - 1}:=by unfold xO;simp only[hk0];rw[if_neg hk1,if_pos hl]
     rw[e]at hQ
     have hz:IntKind.i64.wrap (d.kind - 1)=d.kind - 1:=wrap64 o_ o_
     obtain ⟨ff1,ff2,ff3,ff4,ff5,ff6,ff7,ff8⟩:=zB M x.at_ x.name
     repeat' with_reducible first
      |refine s_ ?_
      |simp only[wZZ,seval,f0,f4,f5,f7,f8,h4,h5,hm,ht,hz]
      |apply qa<;>intro h h_<;>(try simp only[wD,reduceCtorEq]at h_)<;>(try exact wb_)<;>(try simp only[h])
      |apply ldT;assumption;exact wu_
      |(refine zk rfl rfl rfl ((YD (hM.mono wh_ (fun j hj=>by(try simp only[wM]);(repeat rw[if_neg o_])))).mono ?_);rintro v1 H1 n1 ⟨q1,q2,q3⟩;(try simp only[wN]at q1);(try simp only[wM]at q3))
      |refine t_ ?_
     simp only[wN]at q3
     have hm1:=q2.hm;have ht1:=q2.ht
     rw[ff1]at ht1
     obtain ⟨a1,a2,a3⟩:=hD.ap4
     have h41:H1 next=some (.own 4 [d.V] false):=by rw[q3 next o_ a1];exact h4
     have hm2:(mkC ti1 gi1 vN vP vT vL (zl M x.at_ x.name))=.agg [.msl ti1 6 0 (zl M x.at_ x.name).toks.length,vN,vP,.str [],.str [],.msl gi1 1 0 (zl M x.at_ x.name).given.length,vT,vL,vi (zl M x.at_ x.name).e,vi (zl M x.at_ x.name).at_,.str (zl M x.at_ x.name).name,vi M.level,vi (zl M x.at_ x.name).inner]:=by rw[← ff7]
     rw[hm2]at hm1
     repeat' with_reducible first
      |refine qs1 ?_
      |simp only[wZZ,seval,f0,f4,f5,f7,f8,h41,hm1,ht1,hz]
      |(refine And.intro ?_ ?_;(focus(first|with_unfolding_all rfl|exact congrArg some (qgl (by first|omega|(simp only[List.length_set];omega))))))
      |apply stT ({k with level:=M.level});(focus(first|assumption|exact List.getElem?_set_self (by first|omega|(simp only[List.length_set];omega))));exact wu_;exact wu_;exact wu_;decide;exact wu_
      |apply stT ({k with level:=M.level,assoc:=d.kind - 1});(focus(first|assumption|exact List.getElem?_set_self (by first|omega|(simp only[List.length_set];omega))));exact wu_;exact wu_;exact wu_;decide;exact wu_
      |refine t_ ?_
     refine hQ _ (hD.upd (q2.Qi wh_ ?_ (fun j h1 h2=>?_)) (by simp[Qi,ff1]) wl_ wl_ wl_ wl_ wl_ wh_ (fun j h1 h2 h3 h4=>?_))
     · simp only[wM]
       repeat first|rw[if_pos trivial]|rw[if_pos rfl]|rw[if_neg o_]
       simp[List.set_set,ff1]
     · simp only[wM]
       repeat first|rw[if_pos trivial]|rw[if_pos rfl]|rw[if_neg o_]
     · simp only[wM]
       repeat first|rw[if_pos trivial]|rw[if_pos rfl]|rw[if_neg o_]
       exact q3 j o_ h2
   · have e:xO M d.kind x t=Qi M t {k with level:=M.level,assoc:=d.kind - 1}:=by unfold xO;simp only[hk0];rw[if_neg hk1,if_neg hl]
     rw[e]at hQ
     have hz:IntKind.i64.wrap (d.kind - 1)=d.kind - 1:=wrap64 o_ o_
     repeat' with_reducible first
      |refine s_ ?_
      |simp only[wZZ,seval,f0,f4,f5,f7,f8,h4,h5,hm,ht,hz]
      |apply qa<;>intro h h_<;>(try simp only[wD,reduceCtorEq]at h_)<;>(try exact wb_)<;>(try simp only[h])
      |apply ldT;assumption;exact wu_
      |(refine And.intro ?_ ?_;(focus(first|with_unfolding_all rfl|exact congrArg some (qgl (by first|omega|(simp only[List.length_set];omega))))))
      |apply stT ({k with level:=M.level});(focus(first|assumption|exact List.getElem?_set_self (by first|omega|(simp only[List.length_set];omega))));exact wu_;exact wu_;exact wu_;decide;exact wu_
      |apply stT ({k with level:=M.level,assoc:=d.kind - 1});(focus(first|assumption|exact List.getElem?_set_self (by first|omega|(simp only[List.length_set];omega))));exact wu_;exact wu_;exact wu_;decide;exact wu_
      |refine t_ ?_
     refine hQ _ (hD.upd (hM.Qi wh_ ?_ (fun j h1 h2=>?_)) (by simp[Qi]) wl_ wl_ wl_ wl_ wl_ wh_ (fun j h1 h2 h3 h4=>?_))
     · simp only[wM]
       repeat first|rw[if_pos trivial]|rw[if_pos rfl]|rw[if_neg o_]
       simp[List.set_set]
     · simp only[wM]
       repeat first|rw[if_pos trivial]|rw[if_pos rfl]|rw[if_neg o_]
     · simp only[wM]
       repeat first|rw[if_pos trivial]|rw[if_pos rfl]|rw[if_neg o_]

def qdG (M:Mk) (t:Nat) (n:Int):Mk:={Qi M t {VX M t with num:=n} with given:=M.given.set t true}
theorem MkAt.qdG {H H':Nat→Option MObj} {next n' m ti gi t:Nat} {n:Int} {vN vP vT vL:V} {M:Mk} (h:MkAt H next m ti gi vN vP vT vL M) (hn:next≤n') (ht:H' ti=some (.own 6 ((M.toks.set t {VX M t with num:=n}).map Tok.V) false))
 (hg:H' gi=some (.own 1 ((M.given.set t true).map V.bool) false)) (hf: ∀j,j<next→j≠ti→j≠gi→H' j=H j):MkAt H' n' m ti gi vN vP vT vL (qdG M t n):=by
 obtain ⟨n1,n2,n3⟩:=h.mt
 have:=h.lm;have:=h.lt;have:=h.lg
 refine⟨?_,?_,?_,h.eN,h.eP,h.eT,h.eL,o_,o_,o_,?_,?_⟩
 · rw[hf m h.lm (fun e=>n1 e.symm) (fun e=>n2 e.symm),h.hm]
   simp[Go.Proofs.qdG,Go.Proofs.Qi]
 · rw[ht];rfl
 · rw[hg];rfl
 · simp[Go.Proofs.qdG,Go.Proofs.Qi,h.len]
 · simp[Go.Proofs.qdG,Go.Proofs.Qi,h.len3]
theorem YW {s:St} {H:Nat→Option MObj} {next m ti gi t ti1 gi1:Nat} {vN vP vT vL:V} {d:Decl} {x:Sym} {M:Mk} {Q:Exit→St→Prop} (h:DAt s H next m ti gi vN vP vT vL d x t ti1 gi1 M)
 (hQ: ∀s',DAt s' H next m ti gi vN vP vT vL d x t ti1 gi1 (qdG M t x.num)→Q .normal s'):ewp Try.prog XW Q s:=by
 have hD:=h
 obtain ⟨hM,it,ig,f0,f4,f5,f7,f8,h4,h5,lt,ln,fr⟩:=h
 have hm:=hM.hm;have lm:=hM.lm;have ht:=hM.ht;have hg:=hM.hg;have lt1:=hM.lt;have lg:=hM.lg
 have hlen:=hM.len
 obtain ⟨n1,n2,n3⟩:=hM.mt
 have hget:M.toks[t]?=some (VX M t):=by
  unfold VX;rw[Int.toNat_natCast,ge_ lt];simp[List.getD,lt]
 generalize hk0:VX M t=k at hget
 repeat' with_reducible first
  |refine s_ ?_
  |simp only[wZZ,seval,f0,f4,f5,f7,f8,h4,h5,hm,ht,hg]
  |apply stT ({k with num:=x.num});(focus(first|assumption|exact List.getElem?_set_self (by first|omega|(simp only[List.length_set];omega))));exact wu_;exact wu_;exact wu_;decide;exact wu_
  |refine t_ ?_
  |apply qlh;exact wf_;exact wu_;exact wu_;(focus(intro _;with_unfolding_all rfl))
  |simp(disch:=omega) only[w64,if_neg]
 refine hQ _ (hD.upd (hM.qdG wh_ ?_ ?_ (fun j h1 h2 h3=>?_)) (by simp[qdG,Qi]) wl_ wl_ wl_ wl_ wl_ wh_ (fun j h1 h2 h3 h4=>?_))
 · simp only[wM]
   repeat first|rw[if_pos trivial]|rw[if_pos rfl]|rw[if_neg o_]
   rw[hk0]
 · simp only[wM]
   repeat first|rw[if_pos trivial]|rw[if_pos rfl]|rw[if_neg o_]
 · simp only[wM]
   repeat first|rw[if_pos trivial]|rw[if_pos rfl]|rw[if_neg o_]
 · simp only[wM]
   repeat first|rw[if_pos trivial]|rw[if_pos rfl]|rw[if_neg o_]
theorem qdq {s:St} {H:Nat→Option MObj} {next m ti gi t ti1 gi1:Nat} {vN vP vT vL:V} {d:Decl} {x:Sym} {M:Mk} {E:EC} {Q:Exit→St→Prop} (h:DAt s H next m ti gi vN vP vT vL d x t ti1 gi1 M) (hb:M.toks.length≤1099511627776)
 (hQ: ∀s',DAt s' H next m ti gi vN vP vT vL d x t ti1 gi1 (ji M x t)→ewp Try.prog E Q s'):ewp Try.prog (.seq KQ E) Q s:=by
 have hD:=h
 obtain ⟨hM,it,ig,f0,f4,f5,f7,f8,h4,h5,lt,ln,fr⟩:=h
 have hm:=hM.hm;have lm:=hM.lm;have ht:=hM.ht;have hg:=hM.hg;have lt1:=hM.lt;have lg:=hM.lg
 have hlen:=hM.len
 obtain ⟨n1,n2,n3⟩:=hM.mt
 by_cases hn:0<x.num
 · have hgt:M.given[t]?=some (M.given.getD t false):=by
    rw[ge_ o_];simp[List.getD,show t<M.given.length by omega]
   generalize hgb:M.given.getD t false=gb at hgt
   obtain ⟨ff1,ff2,ff3,ff4,ff5,ff6,ff7,ff8⟩:=zB M x.at_ x.name
   show ewp _ (.seq (.seq (.reg qjS) (.cond (.t 88) (.seq qiQ XW) .skip)) E) Q s
   by_cases hC:(t:Int)=1∨gb=true∨0≤ql1 M.toks x.num
   · have e:ji M x t=qdG (zl M x.at_ x.name) t x.num:=by
      unfold ji qdG
      simp only[if_pos hn,Int.toNat_natCast,hgb,if_pos hC,ff2,VX,ff1]
     rw[e]at hQ
     have tail: ∀s',DAt s' H next m ti gi vN vP vT vL d x t ti1 gi1 (zl M x.at_ x.name)→ewp Try.prog XW (vB (ewp Try.prog E Q) Q) s':=fun s' h'=>YW h' fun s2 h2=>hQ s2 h2
     generalize XW=F at tail
     repeat' with_reducible first
      |refine s_ ?_
      |simp only[wZZ,seval,f0,f4,f5,f7,f8,h4,h5,hm,ht,hg]
      |(first|apply qa|apply qg|apply qh)<;>intro h h_<;>(try simp only[wD,reduceCtorEq]at h_)<;>(try exact wb_)<;>(try simp only[h])
      |apply ze (hp:=zU ?_);(focus(refine(hM.mono (Nat.le_refl _) (fun j hj=>?_)).er;(try simp only[wM]);(repeat rw[if_neg o_])));exact qc;exact wu_;exact Flat.int _ _;rotate_left;exact wf_
      |(refine zk rfl rfl rfl ((YD (hM.mono wh_ (fun j hj=>by(try simp only[wM]);(repeat rw[if_neg o_])))).mono ?_);rintro v1 H1 n1 ⟨q1,q2,q3⟩;(try simp only[wN]at q1);(try simp only[wM]at q3))
      |refine t_ ?_
      |apply QI;exact wd_;exact wu_
     all_goals first
      |(exfalso;rcases hC with hC|hC|hC<;>first|omega|(rw[hC]at h_;cases h_)|(simp_all;done))
      |(simp only[wN]at q3;exact tail _ (hD.upd (q2.mono wh_ (fun j hj=>by simp only[wM])) (by rw[ff1]) wl_ wl_ wl_ wl_ wl_ wh_ (fun j h1 h2 h3 h4=>(show H1 j=s.H j from q3 j o_ h2))))
   · have e:ji M x t=qdG M t x.num:=by
      unfold ji qdG
      simp only[if_pos hn,Int.toNat_natCast,hgb,if_neg hC,VX]
     rw[e]at hQ
     have tail: ∀s',DAt s' H next m ti gi vN vP vT vL d x t ti1 gi1 M→ewp Try.prog XW (vB (ewp Try.prog E Q) Q) s':=fun s' h'=>YW h' fun s2 h2=>hQ s2 h2
     generalize XW=F at tail
     have c1: ¬ (t:Int)=1:=fun e=>hC (Or.inl e)
     have c2:gb=false:=by cases gb with|true=>exact absurd (Or.inr (Or.inl rfl)) hC|false=>rfl
     have c3: ¬ 0≤ql1 M.toks x.num:=fun e=>hC (Or.inr (Or.inr e))
     subst c2
     repeat' with_reducible first
      |refine s_ ?_
      |simp only[wZZ,seval,f0,f4,f5,f7,f8,h4,h5,hm,ht,hg]
      |(first|apply qa|apply qg|apply qh)<;>intro h h_<;>(try simp only[wD,reduceCtorEq]at h_)<;>(try exact wb_)<;>(try simp only[h])
      |apply ze (hp:=zU ?_);(focus(refine(hM.mono (Nat.le_refl _) (fun j hj=>?_)).er;(try simp only[wM]);(repeat rw[if_neg o_])));exact qc;exact wu_;exact Flat.int _ _;rotate_left;exact wf_
      |refine t_ ?_
      |apply QI;exact wd_;exact wu_
     exact tail _ (hD.upd (hM.mono wh_ (fun j hj=>by simp only[wM])) rfl wl_ wl_ wl_ wl_ wl_ wh_ (fun j h1 h2 h3 h4=>by simp only[wM]))
 · have e:ji M x t=M:=by unfold ji;rw[if_neg hn]
   rw[e]at hQ
   repeat' with_reducible first
    |refine s_ ?_
    |simp only[wZZ,seval,f0,f4,f5,f7,f8,h4,h5,hm]
    |apply qa<;>intro h h_<;>(try simp only[wD,reduceCtorEq]at h_)<;>(try exact wb_)<;>(try simp only[h])
    |refine t_ ?_
   exact hQ _ (hD.upd (hM.mono wh_ (fun j hj=>by simp only[wM])) rfl wl_ wl_ wl_ wl_ wl_ wh_ (fun j h1 h2 h3 h4=>by simp only[wM]))
theorem qdb {s:St} {H:Nat→Option MObj} {next m ti gi t ti1 gi1:Nat} {vN vP vT vL:V} {d:Decl} {x:Sym} {M:Mk} {Q:Exit→St→Prop} (h:DAt s H next m ti gi vN vP vT vL d x t ti1 gi1 M)
 (hQ: ∀s',DAt s' H next m ti gi vN vP vT vL d x t ti1 gi1 (vQ M d.tag x t)→Q .normal s'):ewp Try.prog qaA Q s:=by
 have hD:=h
 obtain ⟨hM,it,ig,f0,f4,f5,f7,f8,h4,h5,lt,ln,fr⟩:=h
 have hm:=hM.hm;have lm:=hM.lm;have ht:=hM.ht;have hg:=hM.hg;have lt1:=hM.lt;have lg:=hM.lg
 have hlen:=hM.len
 obtain ⟨n1,n2,n3⟩:=hM.mt
 obtain ⟨ff1,ff2,ff3,ff4,ff5,ff6,ff7,ff8⟩:=zB M x.at_ x.name
 have hget:M.toks[t]?=some (VX M t):=by
  unfold VX;rw[Int.toNat_natCast,ge_ lt];simp[List.getD,lt]
 generalize hk0:VX M t=k at hget
 by_cases hg0:d.tag=[]
 · have e:vQ M d.tag x t=M:=by unfold vQ;rw[if_neg (by simp[hg0])]
   rw[e]at hQ
   repeat' with_reducible first
    |refine s_ ?_
    |simp only[wZZ,seval,f0,f4,f5,f7,f8,h4,h5,hm]
    |apply qa<;>intro h h_<;>(try simp only[wD,reduceCtorEq]at h_)<;>(try exact wb_)<;>(try simp only[h])
    |refine t_ ?_
   exact hQ _ (hD.upd (hM.mono wh_ (fun j hj=>by simp only[wM])) rfl wl_ wl_ wl_ wl_ wl_ wh_ (fun j h1 h2 h3 h4=>by simp only[wM]))
 · by_cases hC:k.tag≠[]∧k.tag≠d.tag
   · have e:vQ M d.tag x t=Qi (zl M x.at_ x.name) t {k with tag:=d.tag}:=by unfold vQ;simp only[hk0];rw[if_pos hg0,if_pos hC]
     rw[e]at hQ
     repeat' with_reducible first
      |refine s_ ?_
      |simp only[wZZ,seval,f0,f4,f5,f7,f8,h4,h5,hm,ht]
      |(first|apply qa|apply qg|apply qh)<;>intro h h_<;>(try simp only[wD,reduceCtorEq]at h_)<;>(try exact wb_)<;>(try simp only[h])
      |apply ldT;assumption;exact wu_
      |(refine zk rfl rfl rfl ((YD (hM.mono wh_ (fun j hj=>by(try simp only[wM]);(repeat rw[if_neg o_])))).mono ?_);rintro v1 H1 n1 ⟨q1,q2,q3⟩;(try simp only[wN]at q1);(try simp only[wM]at q3))
      |refine t_ ?_
     · simp only[wN]at q3
       have ht1:=q2.ht
       rw[ff1]at ht1
       obtain ⟨a1,a2,a3⟩:=hD.ap4
       have h41:H1 next=some (.own 4 [d.V] false):=by rw[q3 next o_ a1];exact h4
       repeat' with_reducible first
        |simp only[wZZ,seval,f0,f4,f5,f7,f8,h41,ht1]
        |apply stT ({k with tag:=d.tag});(focus(first|assumption|exact List.getElem?_set_self (by first|omega|(simp only[List.length_set];omega))));exact wu_;exact wu_;exact wu_;decide;exact wu_
        |refine t_ ?_
       refine hQ _ (hD.upd (q2.Qi wh_ ?_ (fun j h1 h2=>?_)) (by simp[Qi,ff1]) wl_ wl_ wl_ wl_ wl_ wh_ (fun j h1 h2 h3 h4=>?_))
       · simp only[wM]
         repeat first|rw[if_pos trivial]|rw[if_pos rfl]|rw[if_neg o_]
         simp[ff1]
       · simp only[wM]
         repeat first|rw[if_pos trivial]|rw[if_pos rfl]|rw[if_neg o_]
       · simp only[wM]
         repeat first|rw[if_pos trivial]|rw[if_pos rfl]|rw[if_neg o_]
         exact q3 j o_ h2
     · exact absurd h_ hC.2
     · exact absurd h_ hC.1
   · have e:vQ M d.tag x t=Qi M t {k with tag:=d.tag}:=by unfold vQ;simp only[hk0];rw[if_pos hg0,if_neg hC]
     rw[e]at hQ
     repeat' with_reducible first
      |refine s_ ?_
      |simp only[wZZ,seval,f0,f4,f5,f7,f8,h4,h5,hm,ht]
      |(first|apply qa|apply qg|apply qh)<;>intro h h_<;>(try simp only[wD,reduceCtorEq]at h_)<;>(try exact wb_)<;>(try simp only[h])
      |apply ldT;assumption;exact wu_
      |apply stT ({k with tag:=d.tag});(focus(first|assumption|exact List.getElem?_set_self (by first|omega|(simp only[List.length_set];omega))));exact wu_;exact wu_;exact wu_;decide;exact wu_
      |refine t_ ?_
     all_goals first
      |exact absurd ⟨by assumption,by assumption⟩ hC
      |(refine hQ _ (hD.upd (hM.Qi wh_ wi_ (fun j h1 h2=>wi_)) (by simp[Qi]) wl_ wl_ wl_ wl_ wl_ wh_ (fun j h1 h2 h3 h4=>wi_)))

theorem qem (M:Mk) (x:Sym) (h:1≤M.toks.length):0≤(QR M x).2∧(QR M x).2<(QR M x).1.toks.length:=by
 have:=V4 x M.toks h
 unfold QR;split
 · exact⟨by assumption,by simpa using this.2⟩
 · dsimp only;constructor
   · omega
   · simp;omega
theorem qeA (M:Mk) (x:Sym):(QR M x).1.types=M.types∧(QR M x).1.lefts=M.lefts∧(QR M x).1.prods=M.prods∧(QR M x).1.nons=M.nons∧(QR M x).1.level=M.level∧(QR M x).1.inner=M.inner∧M.toks.length≤(QR M x).1.toks.length∧(QR M x).1.toks.length≤M.toks.length+1:=by
 obtain ⟨ff1,ff2,ff3,ff4,ff5,ff6,ff7,ff8⟩:=zB M x.at_ x.name
 unfold QR;split
 · exact⟨rfl,rfl,rfl,rfl,rfl,rfl,Nat.le_refl _,by dsimp only;omega⟩
 · dsimp only
   split<;>simp_all
theorem qb4 (M:Mk) (kind:Int) (x:Sym) (t:Int):(xO M kind x t).types=M.types∧(xO M kind x t).toks.length=M.toks.length:=by
 obtain ⟨ff1,ff2,ff3,ff4,ff5,ff6,ff7,ff8⟩:=zB M x.at_ x.name
 unfold xO;split
 · exact⟨rfl,rfl⟩
 · dsimp only
   split<;>simp_all [Qi]
theorem qcN (M:Mk) (x:Sym) (t:Int):(ji M x t).types=M.types∧(ji M x t).toks.length=M.toks.length:=by
 obtain ⟨ff1,ff2,ff3,ff4,ff5,ff6,ff7,ff8⟩:=zB M x.at_ x.name
 unfold ji;split
 · dsimp only
   split<;>simp_all [Qi]
 · exact⟨rfl,rfl⟩
theorem qcu (M:Mk) (tag:List UInt8) (x:Sym) (t:Int):(vQ M tag x t).types=M.types∧(vQ M tag x t).toks.length=M.toks.length:=by
 obtain ⟨ff1,ff2,ff3,ff4,ff5,ff6,ff7,ff8⟩:=zB M x.at_ x.name
 unfold vQ;split
 · dsimp only
   split<;>simp_all [Qi]
 · exact⟨rfl,rfl⟩
def FrO (H H':Nat→Option MObj) (next m ti gi:Nat):Prop:= ∀j,j<next→j≠m→j≠ti→j≠gi→(∀f,H j≠some (.tok f))→H' j=H j
theorem qi {F:Nat→Option MObj} {g:Option Nat} {j:Nat} (h:g≠some j):kS F g j=F j:=if_neg h
theorem _root_.Go.E.Gr.ne {H:Nat→Option MObj} {next z j:Nat} {es:List V} {v:V} (h:Gr H next z es v) (ho: ∀f,H j≠some (.tok f)):gid v≠some j:=by
 rcases h with rfl|⟨id,fin,rfl,h1,_⟩
 · intro e;cases e
 · intro e;cases e;exact ho _ h1
theorem MkAt.nt {H:Nat→Option MObj} {next m ti gi:Nat} {vN vP vT vL:V} {M:Mk} (h:MkAt H next m ti gi vN vP vT vL M):(∀f,H m≠some (.tok f))∧(∀f,H ti≠some (.tok f))∧(∀f,H gi≠some (.tok f)):=
 ⟨fun f e=>(by rw[h.hm]at e;cases e),fun f e=>(by rw[h.ht]at e;cases e),fun f e=>(by rw[h.hg]at e;cases e)⟩
theorem _root_.Go.E.Gr.stay {H H':Nat→Option MObj} {next n' m ti gi z:Nat} {es:List V} {v:V} {vN vP vT vL:V} {M:Mk} (h:Gr H next z es v) (hM:MkAt H next m ti gi vN vP vT vL M) (hn:next≤n') (hf: ∀j,j<next→j≠m→j≠ti→j≠gi→H' j=H j):Gr H' n' z es v:=by
 obtain ⟨a1,a2,a3⟩:=hM.nt
 refine h.mono hn fun id h1 h2=>hf id h2 (fun e=>?_) (fun e=>?_) (fun e=>?_)
 · subst e;exact h.ne a1 h1
 · subst e;exact h.ne a2 h1
 · subst e;exact h.ne a3 h1
theorem qR0 {H:Nat→Option MObj} {next m ti gi:Nat} {vN vP vT vL:V} {M:Mk} {d:Decl} {x:Sym} (hM:MkAt H next m ti gi vN vP vT vL M) (hT:Gr H next 2 (M.types.map Non.V) vT) (hb:M.toks.length≤549755813888) (hbt:M.types.length≤549755813888) (hx:x.lit=true→x.name≠[]) (hk:1≤d.kind∧d.kind≤6):qZ Try.prog 89 [.ptr m 0 0,d.V,x.V] H next (fun _ H' next'=>next≤next'∧(∃ti' gi' vT',(ti'=ti∨next≤ti')∧(gi'=gi∨next≤gi')∧MkAt H' next' m ti' gi' vN vP vT' vL (yT M d x)∧Gr H' next' 2 ((yT M d x).types.map Non.V) vT')∧FrO H H' next m ti gi):=by
 refine qO Try.func89 nm_ qE1 (by show 3≤152;decide) ?_
 show ewp _ qjt _ _
 have hm:=hM.hm;have lm:=hM.lm;have lt:=hM.lt;have lg:=hM.lg
 obtain ⟨n1,n2,n3⟩:=hM.mt
 by_cases hk5:d.kind=5
 · by_cases hn:yt x.name M.types 0<0
   · have e:yT M d x={M with types:=M.types++[{name:=x.name,tag:=d.tag}]}:=by unfold yT;rw[if_pos hk5];simp only[if_pos hn]
     rw[e]
     obtain ⟨a1,a2,a3⟩:=hM.nt
     repeat' with_reducible first
      |refine s_ ?_
      |simp only[wZZ,seval,hm,hk5,qi (hT.ne a1)]
      |apply qa<;>intro h h_<;>(try simp only[wD,reduceCtorEq]at h_)<;>(try exact wb_)<;>(try simp only[h])
      |apply ze (hp:=zq ?_);(focus(refine(hM.mono (Nat.le_refl _) (fun j hj=>?_)).er;(try simp only[wM]);(repeat rw[if_neg o_])));exact qc;exact wu_;exact Flat.int _ _;rotate_left;exact wf_
      |apply za rfl (hT.mono (Nat.le_refl _) (fun id h1 h2=>by(try simp only[wM]);(repeat rw[if_neg o_])));(focus(first|exact qU.sl|exact qU.asl));(focus(simp only[wZ]<;>omega));(focus(unfold maxLen;simp only[wZ]<;>omega))
      |refine t_ ?_
      |simp(disch:=omega) only[w64,if_neg]
     refine Qt rfl (Or.inr rfl) ?_
     refine⟨by simp only[wN]<;>omega,⟨ti,gi,_,Or.inl rfl,Or.inl rfl,⟨?_,?_,?_,hM.eN,hM.eP,?_,hM.eL,by simp only[wN]<;>omega,by simp only[wN]<;>omega,by simp only[wN]<;>omega,hM.len,hM.len3⟩,Gr.tok (id:=next+2+3+5+2+11) (fin:=M.types.length+1) ?_ wh_⟩,fun j h1 h2 h3 h4 h5=>?_⟩
     · simp only[wM,↓reduceIte]
       simp
     · simp only[wM]
       repeat first|rw[if_pos trivial]|rw[if_pos rfl]|rw[if_neg o_]
       rw[qi (hT.ne a2)]
       simp only[wM]
       repeat first|rw[if_pos trivial]|rw[if_pos rfl]|rw[if_neg o_]
       exact hM.ht
     · simp only[wM]
       repeat first|rw[if_pos trivial]|rw[if_pos rfl]|rw[if_neg o_]
       rw[qi (hT.ne a3)]
       simp only[wM]
       repeat first|rw[if_pos trivial]|rw[if_pos rfl]|rw[if_neg o_]
       exact hM.hg
     · exact .asl _ _ _ _ _ rfl (QD fun v hv=>by obtain ⟨a,_,rfl⟩:=List.mem_map.1 hv;exact qc)
     · simp only[wM]
       repeat first|rw[if_pos trivial]|rw[if_pos rfl]|rw[if_neg o_]
     · simp only[wM]
       repeat first|rw[if_pos trivial]|rw[if_pos rfl]|rw[if_neg o_]
       rw[qi (hT.ne h5)]
       simp only[wM]
       repeat first|rw[if_pos trivial]|rw[if_pos rfl]|rw[if_neg o_]
   · have hbd:=qcj x.name M.types 0
     obtain ⟨k,hk2⟩: ∃k:Nat,yt x.name M.types 0=k:=⟨(yt x.name M.types 0).toNat,o_⟩
     have hkl:k<M.types.length:=o_
     have hgk:M.types.getD k {}=M.types[k]:=by simp[List.getD,hkl]
     have e:yT M d x=if M.types[k].tag≠d.tag then zl M x.at_ x.name else M:=by
      unfold yT;rw[if_pos hk5];simp only[hk2,Int.toNat_natCast,hgk];rw[if_neg o_]
     rw[e]
     repeat' with_reducible first
      |refine s_ ?_
      |simp only[wZZ,seval,hm,hk5,hk2]
      |apply qa<;>intro h h_<;>(try simp only[wD,reduceCtorEq]at h_)<;>(try exact wb_)<;>(try simp only[h])
      |apply ze (hp:=zq ?_);(focus(refine(hM.mono (Nat.le_refl _) (fun j hj=>?_)).er;(try simp only[wM]);(repeat rw[if_neg o_])));exact qc;exact wu_;exact Flat.int _ _;rotate_left;exact wf_
      |apply Gr.iaQ hT;omega;(focus(first|assumption|exact ge_ o_))
      |(refine zk rfl rfl rfl ((YD (hM.mono wh_ (fun j hj=>by(try simp only[wM]);(repeat rw[if_neg o_])))).mono ?_);rintro v1 H1 n1 ⟨q1,q2,q3⟩;(try simp only[wN]at q1);(try simp only[wM]at q3))
      |refine t_ ?_
      |simp(disch:=omega) only[w64,if_neg]
     · rw[if_pos h_]
       refine Qt rfl (Or.inr rfl) ?_
       simp only[wN]at q3
       have hfr: ∀j,j<next→j≠m→H1 j=H j:=fun j h1 h2=>by rw[q3 j o_ h2,if_neg o_,if_neg o_]
       refine⟨by simp only[wN]<;>omega,⟨ti,gi,vT,Or.inl rfl,Or.inl rfl,q2.mono wh_ (fun j hj=>by simp only[wM]),?_⟩,fun j h1 h2 h3 h4 h5=>?_⟩
       · rw[(zB M x.at_ x.name).2.2.2.1]
         exact hT.stay hM wh_ (fun j h1 h2 h3 h4=>by simp only[wM];exact hfr j h1 h2)
       · simp only[wM];exact hfr j h1 h2
     · rw[if_neg (by simp[h_])]
       refine Qt rfl (Or.inr rfl) ?_
       have hfr: ∀j,j<next→(if j=next+1 then some (.own 4 [x.V] false)else if j=next then some (.own 4 [d.V] false)else H j)=H j:=fun j h1=>by rw[if_neg o_,if_neg o_]
       refine⟨by simp only[wN]<;>omega,⟨ti,gi,vT,Or.inl rfl,Or.inl rfl,hM.mono wh_ (fun j hj=>by simp only[wM];exact hfr j hj),?_⟩,fun j h1 h2 h3 h4 h5=>?_⟩
       · exact hT.stay hM wh_ (fun j h1 h2 h3 h4=>by simp only[wM];exact hfr j h1)
       · simp only[wM];exact hfr j h1
 · obtain ⟨t1,t2⟩:=qem M x (by have:=hM.len3;omega)
   obtain ⟨p1,p2,p3,p4,p5,p6,p7,p8⟩:=qeA M x
   obtain ⟨t,ht⟩: ∃t:Nat,(QR M x).2=t:=⟨(QR M x).2.toNat,o_⟩
   have e:yT M d x=vQ (ji (xO (QR M x).1 d.kind x t) x t) d.tag x t:=by unfold yT;rw[if_neg hk5];simp only[ht]
   rw[e]
   generalize hM1:(QR M x).1=M1 at *
   obtain ⟨u1,u2⟩:=qb4 M1 d.kind x t
   obtain ⟨u3,u4⟩:=qcN (xO M1 d.kind x t) x t
   obtain ⟨u5,u6⟩:=qcu (ji (xO M1 d.kind x t) x t) d.tag x t
   show ewp _ (.seq (.reg qDC) (.seq qi9 (.seq (.reg qiv) (.seq (.reg qje) (.seq qaG (.seq KQ qaA)))))) _ _
   have tail: ∀(s:St) (ti1 gi1:Nat),DAt s H next m ti gi vN vP vT vL d x t ti1 gi1 M1→ewp Try.prog (.seq qaG (.seq KQ qaA)) (jI e89 fun _ H' next'=>next≤next'∧(∃ti' gi' vT',(ti'=ti∨next≤ti')∧(gi'=gi∨next≤gi')∧MkAt H' next' m ti' gi' vN vP vT' vL (vQ (ji (xO M1 d.kind x t) x t) d.tag x t)∧Gr H' next' 2 ((vQ (ji (xO M1 d.kind x t) x t) d.tag x t).types.map Non.V) vT')∧FrO H H' next m ti gi) s:=by
    intro s ti1 gi1 hD
    refine qdC hD hk fun s2 h2=>qdq h2 o_ fun s3 h3=>qdb h3 fun s4 h4=>?_
    refine Qt rfl (Or.inl rfl) ⟨by have:=h4.ln;omega,⟨ti1,gi1,vT,h4.it,h4.ig,h4.at_,?_⟩,fun j h5 h6 h7 h8 _=>h4.fr j h5 h6 h7 h8⟩
    rw[u5,u3,u1,p1]
    exact hT.stay hM (by have:=h4.ln;omega) h4.fr
   generalize (EC.seq qaG (.seq KQ qaA))=F at tail
   repeat' with_reducible first
    |refine s_ ?_
    |simp only[wZZ,seval,hm]
    |apply qa<;>intro h h_<;>(try simp only[wD,reduceCtorEq]at h_)<;>(try exact wb_)<;>(try simp only[h])
    |(refine zk rfl rfl rfl ((qSC (hM.mono wh_ (fun j hj=>by(try simp only[wM]);(repeat rw[if_neg o_]))) o_ hx).mono ?_);rintro v1 H1 n1 ⟨q1,rfl,⟨ti',gi',q3,q4,q5⟩,q6⟩;(try simp only[wN]at q1 q3 q4);(try simp only[wM,wN]at q6))
    |refine t_ ?_
    |simp(disch:=omega) only[w64,if_neg]
   rw[hM1]at q5
   rw[ht]
   have hm1:=q5.hm
   repeat' with_reducible first
    |simp only[wZZ,seval,hm1]
    |refine t_ ?_
   have hj4:H1 next=some (.own 4 [d.V] false):=by rw[q6 next o_ o_ o_ o_,if_neg o_,if_pos rfl]
   have hj5:H1 (next+1)=some (.own 4 [x.V] false):=by rw[q6 (next+1) o_ o_ o_ o_,if_pos rfl]
   refine tail _ ti' gi' ⟨q5.mono wh_ (fun j hj=>by simp only[wM]),o_,o_,by simp only[wL,seval],by simp only[wL,seval],by simp only[wL,seval],by simp only[wL,seval],by simp only[wL,seval],by simp only[wM];exact hj4,by simp only[wM];exact hj5,o_,by simp only[wN]<;>omega,fun j h1 h2 h3 h4=>?_⟩
   simp only[wM]
   rw[q6 j o_ h2 h3 h4,if_neg o_,if_neg o_]

set_option maxHeartbeats 4000000
theorem ErP.shape {v:V} {z:Nat} {l:List V} (h:ErP v (.sl z false l)): ∃es,es.length=l.length∧(∀(i:Nat) c c',es[i]?=some c→l[i]?=some c'→ErP c c')∧((∃b,v=.sl z b es)∨ ∃id f,v=.asl id f z es):=by
 unfold ErP at h
 cases h with
 |sl _ b cs _ hl h=>exact⟨cs,hl.symm,h,.inl ⟨b,rfl⟩⟩
 |asl id f _ cs _ hl h=>exact⟨cs,hl.symm,h,.inr ⟨id,f,rfl⟩⟩
 |msl id _ off len es ro _ hb=>cases hb
theorem ErP.Zw {v:V} {z:Nat} {l:List V} (h:ErP v (.sl z false l)):Zw v=some (.int .i64 (l.length:Int)):=by
 obtain ⟨es,h1,_,⟨b,rfl⟩|⟨id,f,rfl⟩⟩:=ErP.shape h
 · rw[← h1];rfl
 · rw[← h1];rfl
theorem qRC {H:Nat→Option MObj} {next m ti gi:Nat} {vN vP vT vL:V} {M:Mk} (h:MkAt H next m ti gi vN vP vT vL M) {H':Nat→Option MObj} (hf: ∀j,j<next→j≠m→j≠ti→j≠gi→H' j=H j):
 ∀id ob,id<next→H id=some ob→lab ob=12→H' id=some ob:=by
 intro id ob hid ho hl
 rw[hf id hid ?_ ?_ ?_]
 · exact ho
 · intro e;rw[e,h.hm]at ho;cases ho;cases hl
 · intro e;rw[e,h.ht]at ho;cases ho
   rw[qgl (by have:=h.len3;omega)]at hl;cases hl
 · intro e;rw[e,h.hg]at ho;cases ho
   cases hgv:M.given with
   |nil=>rw[hgv]at hl;cases hl
   |cons a r=>rw[hgv]at hl;cases hl
theorem qjs {P:Program} [Glob P] {z id:Nat} {s:St} {K:V→St→Prop} {f:FuncId} {vs:List V} {H:Nat→Option MObj} {N:Nat} (hH:s.H=H) (hN:s.next=N)
 (h:qZ P f vs H N fun v H' next'=>(∀id ob,id<N→H id=some ob→lab ob=z→H' id=some ob)∧K v {s with H:=H',next:=next'}):vF P (.v z) id s K f vs:=by
 subst hN hH
 refine Or.inr ⟨rfl,?_⟩
 rw[List.append_nil]
 exact h
@[reducible] def prC (p:GPr) (vR:V):V:= .agg [vi p.left,vR,vi p.prec,.str p.code,.sl 1 true [],vi p.at_]
structure AAt (s:St) (H:Nat→Option MObj) (next m ti gi pb:Nat) (vN vP vT vL vR:V) (ps:List V) (a:Alt) (ti1 gi1:Nat) (M:Mk) (p:GPr):Prop where
 at_:MkAt s.H s.next m ti1 gi1 vN vP vT vL M
 it:ti1=ti∨next≤ti1
 ig:gi1=gi∨next≤gi1
 f0:s.f 0=.ptr m 0 0
 f5:s.f 5=.ptr next 0 0
 f6:s.f 6=.ptr pb 0 0
 h5:s.H next=some (.own 6 [a.V] false)
 h6:s.H pb=some (.own 6 [prC p vR] false)
 gR:Gr s.H s.next 1 (p.right.map (V.int .i64)) vR
 gP:Gr s.H s.next 6 ps vP
 eP:QM ps (M.prods.map GPr.V)
 sp:Sep vR vP
 ln:next<pb
 lp:pb<s.next
 fr: ∀j,j<next→j≠m→j≠ti→j≠gi→(∀f,H j≠some (.tok f))→s.H j=H j
theorem AAt.ap {s:St} {H:Nat→Option MObj} {next m ti gi pb:Nat} {vN vP vT vL vR:V} {ps:List V} {a:Alt} {ti1 gi1:Nat} {M:Mk} {p:GPr} (h:AAt s H next m ti gi pb vN vP vT vL vR ps a ti1 gi1 M p) (j:Nat) (e:V) (hj:s.H j=some (.own 6 [e] false)):
 j≠m∧j≠ti1∧j≠gi1∧gid vR≠some j∧gid vP≠some j:=by
 refine⟨fun q=>?_,fun q=>?_,fun q=>?_,h.gR.ne fun f q=>?_,h.gP.ne fun f q=>?_⟩
 · rw[q,h.at_.hm]at hj;cases hj
 · rw[q,h.at_.ht]at hj
   have:=h.at_.len3
   injection hj with hj;injection hj with _ hj
   have:=congrArg List.length hj
   simp at this;omega
 · rw[q,h.at_.hg]at hj;cases hj
 · rw[hj]at q;cases q
 · rw[hj]at q;cases q
theorem AAt.upd {s s':St} {H:Nat→Option MObj} {next m ti gi pb:Nat} {vN vP vT vL vR vP' vR':V} {ps ps':List V} {a:Alt} {ti1 gi1 ti2 gi2:Nat} {M M':Mk} {p p':GPr} (h:AAt s H next m ti gi pb vN vP vT vL vR ps a ti1 gi1 M p)
 (hA:MkAt s'.H s'.next m ti2 gi2 vN vP' vT vL M') (it:ti2=ti1∨s.next≤ti2) (ig:gi2=gi1∨s.next≤gi2) (h0:s'.f 0=s.f 0) (h5:s'.f 5=s.f 5) (h6:s'.f 6=s.f 6) (hn:s.next≤s'.next)
 (h6o:s'.H pb=some (.own 6 [prC p' vR'] false)) (gR:Gr s'.H s'.next 1 (p'.right.map (V.int .i64)) vR') (gP:Gr s'.H s'.next 6 ps' vP') (eP:QM ps' (M'.prods.map GPr.V)) (sp:Sep vR' vP')
 (hH: ∀j,j<s.next→j≠m→j≠ti1→j≠gi1→j≠pb→gid vR≠some j→gid vP≠some j→s'.H j=s.H j):AAt s' H next m ti gi pb vN vP' vT vL vR' ps' a ti2 gi2 M' p':=by
 have ln:=h.ln;have lp:=h.lp
 obtain ⟨a1,a2,a3,a4,a5⟩:=h.ap next _ h.h5
 have it0:=h.it;have ig0:=h.ig
 refine⟨hA,o_,o_,h0.trans h.f0,h5.trans h.f5,h6.trans h.f6,?_,h6o,gR,gP,eP,sp,ln,o_,fun j hj c1 c2 c3 c4=>?_⟩
 · rw[hH next o_ a1 a2 a3 o_ a4 a5];exact h.h5
 · have e:=h.fr j hj c1 c2 c3 c4
   rw[hH j o_ c1 o_ o_ o_ (h.gR.ne fun f q=>c4 f (by rw[← e];exact q)) (h.gP.ne fun f q=>c4 f (by rw[← e];exact q))]
   exact e
theorem MkAt.mono3 {H H':Nat→Option MObj} {next n' m ti gi:Nat} {vN vP vT vL:V} {M:Mk} (h:MkAt H next m ti gi vN vP vT vL M) (hn:next≤n') (hm:H' m=H m) (ht:H' ti=H ti) (hg:H' gi=H gi):MkAt H' n' m ti gi vN vP vT vL M:=by
 have:=h.lm;have:=h.lt;have:=h.lg
 exact⟨by rw[hm];exact h.hm,by rw[ht];exact h.ht,by rw[hg];exact h.hg,h.eN,h.eP,h.eT,h.eL,o_,o_,o_,h.len,h.len3⟩
theorem vg (M:Mk) (x:Sym):(xP M x).1.types=M.types∧(xP M x).1.lefts=M.lefts∧(xP M x).1.prods=M.prods∧(xP M x).1.nons=M.nons∧(xP M x).1.level=M.level∧(xP M x).1.inner=M.inner∧M.toks.length≤(xP M x).1.toks.length∧(xP M x).1.toks.length≤M.toks.length+1:=by
 obtain ⟨ff1,ff2,ff3,ff4,ff5,ff6,ff7,ff8⟩:=zB M x.at_ x.name
 unfold xP;split
 · exact qeA M x
 · split
   · exact⟨rfl,rfl,rfl,rfl,rfl,rfl,Nat.le_refl _,by dsimp only;omega⟩
   · split
     · dsimp only
       exact⟨ff4,ff3,ff5,ff6,ff7,ff8,by rw[ff1];omega,by rw[ff1];omega⟩
     · exact⟨rfl,rfl,rfl,rfl,rfl,rfl,Nat.le_refl _,by dsimp only;omega⟩
theorem qmX {s:St} {H:Nat→Option MObj} {next m ti gi pb wb:Nat} {vN vP vT vL vR:V} {ps:List V} {a:Alt} {ti1 gi1:Nat} {M:Mk} {p:GPr} {w:Part} {Q:Exit→St→Prop} (h:AAt s H next m ti gi pb vN vP vT vL vR ps a ti1 gi1 M p)
 (f8:s.f 8=.ptr wb 0 0) (hw:s.H wb=some (.own 6 [w.V] false)) (hb:M.toks.length≤1099511627776) (hbl:M.lefts.length≤1099511627776) (hbr:p.right.length≤549755813888) (hx:w.sym.lit=true→w.sym.name≠[])
 (hQ: ∀s' ti2 gi2 vR',s'.f 7=s.f 7→s.next≤s'.next→AAt s' H next m ti gi pb vN vP vT vL vR' ps a ti2 gi2 (xP M w.sym).1 {p with right:=p.right++[(xP M w.sym).2]}→Q .normal s'):ewp Try.prog (.reg qet) Q s:=by
 have hM:=h.at_
 have f0:=h.f0;have f6:=h.f6;have h6:=h.h6;have lp:=h.lp
 have lm:=hM.lm;have lt:=hM.lt;have lg:=hM.lg
 obtain ⟨b1,b2,b3,b4,b5⟩:=h.ap pb _ h6
 repeat' with_reducible first
  |refine qbb ?_
  |simp only[wZZ,seval,f0,f6,f8,h6,hw]
  |(refine And.intro ?_ ?_;(focus(first|with_unfolding_all rfl|exact congrArg some (qgl (by first|omega|(simp only[List.length_set];omega))))))
  |(refine qjs rfl rfl ((qSA (hM.mono wh_ (fun j hj=>by simp only[wM])) hb hbl hx).mono ?_);rintro v1 H1 n1 ⟨q1,rfl,⟨ti',gi',q3,q4,q5⟩,q6⟩;refine⟨qRC (hM.mono wh_ (fun j hj=>by simp only[wM])) q6,?_⟩;(try simp only[wN]at q1 q3 q4);(try simp only[wM,wN]at q6))
  |apply Jk;exact wu_;exact wu_;(focus((try simp only[wE,Nat.reduceAdd]);rfl))
  |refine t_ ?_
 have hG1:Gr H1 n1 1 (p.right.map (V.int .i64)) vR:=h.gR.stay hM o_ (fun j h1 h2 h3 h4=>q6 j o_ h2 h3 h4)
 have hP1:Gr H1 n1 6 ps vP:=h.gP.stay hM o_ (fun j h1 h2 h3 h4=>q6 j o_ h2 h3 h4)
 have h61:H1 pb=some (.own 6 [prC p vR] false):=by rw[q6 pb o_ b1 b2 b3];exact h6
 obtain ⟨y1,y2,y3,y4,y5,y6,y7,y8⟩:=vg M w.sym
 obtain ⟨c1,c2,c3⟩:=q5.nt
 repeat' with_reducible first
  |simp only[wZZ,seval,f6,h61,qi b4]
  |apply za rfl (hG1.mono (Nat.le_refl _) (fun id h1 h2=>by(try simp only[wM]);(repeat rw[if_neg o_])));(focus(first|exact qU.sl|exact qU.asl));(focus(simp only[wZ]<;>omega));(focus(unfold maxLen;simp only[wZ]<;>omega))
  |refine t_ ?_
  |simp(disch:=omega) only[w64,if_neg]
 refine hQ _ ti' gi' (.asl (s.next+7) (p.right.length+1) 1 ((p.right++[(xP M w.sym).2]).map (V.int .i64))) wl_ wh_ (h.upd (q5.mono3 wh_ ?_ ?_ ?_) o_ o_ wl_ wl_ wl_ wh_ ?_ (Gr.tok ?_ wh_) (hP1.mono wh_ (fun id g1 g2=>?_)) (by rw[y3];exact h.eP) (Sep.newL h.gP o_) (fun j g1 g2 g3 g4 g5 g6 g7=>?_))
 · simp only[wM]
   repeat first|rw[if_pos trivial]|rw[if_pos rfl]|rw[if_neg o_]
   exact qi (hG1.ne c1)
 · simp only[wM]
   repeat first|rw[if_pos trivial]|rw[if_pos rfl]|rw[if_neg o_]
   exact qi (hG1.ne c2)
 · simp only[wM]
   repeat first|rw[if_pos trivial]|rw[if_pos rfl]|rw[if_neg o_]
   exact qi (hG1.ne c3)
 · simp only[wM]
   repeat first|rw[if_pos trivial]|rw[if_pos rfl]|rw[if_neg o_]
   try simp
 · simp only[wM]
   repeat first|rw[if_pos trivial]|rw[if_pos rfl]|rw[if_neg o_]
 · have g3:=h.gP.lt g1
   have g4:id≠pb:=fun e=>b5 (by rw[← e];exact g1)
   simp only[wM]
   repeat first|rw[if_pos trivial]|rw[if_pos rfl]|rw[if_neg o_]
   exact qi (fun e=>h.sp id e g1)
 · simp only[wM]
   repeat first|rw[if_pos trivial]|rw[if_pos rfl]|rw[if_neg o_]
   rw[qi g6]
   exact q6 j o_ g2 g3 g4
theorem qhp {s:St} {H:Nat→Option MObj} {next m ti gi pb wb:Nat} {vN vP vT vL vR:V} {ps:List V} {a:Alt} {ti1 gi1:Nat} {M:Mk} {p:GPr} {w:Part} {Q:Exit→St→Prop} (h:AAt s H next m ti gi pb vN vP vT vL vR ps a ti1 gi1 M p)
 (f8:s.f 8=.ptr wb 0 0) (hw:s.H wb=some (.own 6 [w.V] false))
 (hQ: ∀s',s'.f 7=s.f 7→s.next≤s'.next→AAt s' H next m ti gi pb vN vP vT vL vR ps a ti1 gi1 M {p with code:=w.code,at_:=w.at_}→Q .normal s'):ewp Try.prog (.reg KX) Q s:=by
 have hM:=h.at_
 have f0:=h.f0;have f6:=h.f6;have h6:=h.h6;have lp:=h.lp
 have lm:=hM.lm;have lt:=hM.lt;have lg:=hM.lg
 obtain ⟨b1,b2,b3,b4,b5⟩:=h.ap pb _ h6
 repeat' with_reducible first
  |refine qbb ?_
  |simp only[wZZ,seval,f0,f6,f8,h6,hw]
  |(refine And.intro ?_ ?_;(focus(first|with_unfolding_all rfl|exact congrArg some (qgl (by first|omega|(simp only[List.length_set];omega))))))
  |refine t_ ?_
 refine hQ _ wl_ wh_ (h.upd (hM.mono3 wh_ ?_ ?_ ?_) (Or.inl rfl) (Or.inl rfl) wl_ wl_ wl_ wh_ ?_ (h.gR.mono wh_ (fun id g1 g2=>?_)) (h.gP.mono wh_ (fun id g1 g2=>?_)) h.eP h.sp (fun j g1 g2 g3 g4 g5 g6 g7=>?_))
 · simp only[wM]
   repeat first|rw[if_pos trivial]|rw[if_pos rfl]|rw[if_neg o_]
 · simp only[wM]
   repeat first|rw[if_pos trivial]|rw[if_pos rfl]|rw[if_neg o_]
 · simp only[wM]
   repeat first|rw[if_pos trivial]|rw[if_pos rfl]|rw[if_neg o_]
 · simp only[wM]
   repeat first|rw[if_pos trivial]|rw[if_pos rfl]|rw[if_neg o_]
 · have g4:id≠pb:=fun e=>b4 (by rw[← e];exact g1)
   simp only[wM]
   repeat first|rw[if_pos trivial]|rw[if_pos rfl]|rw[if_neg o_]
 · have g4:id≠pb:=fun e=>b5 (by rw[← e];exact g1)
   simp only[wM]
   repeat first|rw[if_pos trivial]|rw[if_pos rfl]|rw[if_neg o_]
 · simp only[wM]
   repeat first|rw[if_pos trivial]|rw[if_pos rfl]|rw[if_neg o_]
theorem qf6 {s:St} {H:Nat→Option MObj} {next m ti gi pb wb:Nat} {vN vP vT vL vR:V} {ps:List V} {a:Alt} {ti1 gi1:Nat} {M:Mk} {p:GPr} {w:Part} {Q:Exit→St→Prop} (h:AAt s H next m ti gi pb vN vP vT vL vR ps a ti1 gi1 M p)
 (f8:s.f 8=.ptr wb 0 0) (hw:s.H wb=some (.own 6 [w.V] false)) (lw:wb<s.next) (hbl:M.lefts.length≤1099511627776) (hbr:p.right.length≤549755813888) (hbp:ps.length≤549755813888) (hi:0≤M.inner) (hi2:M.inner≤1099511627776)
 (hQ: ∀s' vP' vR' ps',s'.f 7=s.f 7→s.next≤s'.next→ps'.length=ps.length+1→AAt s' H next m ti gi pb vN vP' vT vL vR' ps' a ti1 gi1 {M with inner:=M.inner+1,prods:=M.prods++[{left:=M.lefts.length+(M.inner+1),prec:= -1,code:=w.code,args:=p.right,at_:=w.at_}]} {p with right:=p.right++[1000+M.lefts.length+(M.inner+1)]}→Q .normal s'):ewp Try.prog K6 Q s:=by
 have hM:=h.at_
 have f0:=h.f0;have f6:=h.f6;have h6:=h.h6;have lp:=h.lp;have hm:=hM.hm
 have lm:=hM.lm;have lt:=hM.lt;have lg:=hM.lg
 obtain ⟨n1,n2,n3⟩:=hM.mt
 obtain ⟨b1,b2,b3,b4,b5⟩:=h.ap pb _ h6
 have hLl:Zw vL=some (.int .i64 (M.lefts.length:Int)):=by have:=ErP.Zw hM.eL;rwa [List.length_map]at this
 have hz1:IntKind.i64.wrap (M.inner+1)=M.inner+1:=wrap64 o_ o_
 have hz2:IntKind.i64.wrap ((M.lefts.length:Int)+(M.inner+1))=M.lefts.length+(M.inner+1):=wrap64 o_ o_
 have hz3:IntKind.i64.wrap (1000+(M.lefts.length:Int))=1000+M.lefts.length:=wrap64 o_ o_
 have hz4:IntKind.i64.wrap (1000+(M.lefts.length:Int)+(M.inner+1))=1000+M.lefts.length+(M.inner+1):=wrap64 o_ o_
 obtain ⟨c1,c2,c3⟩:=hM.nt
 obtain ⟨w1,w2,w3,w4,w5⟩:=h.ap wb _ hw
 have w6:wb≠pb:=fun e=>by
  rw[e,h6]at hw
  injection hw with hw;injection hw with _ hw
  simp at hw
 have d4:=h.gR.ne c1
 have d5:=h.gP.ne c1
 have hneP: ∀id,gid vP=some id→id≠m:=fun id h1 e=>d5 (by rw[← e];exact h1)
 have hneR: ∀id,gid vR=some id→id≠m:=fun id h1 e=>d4 (by rw[← e];exact h1)
 have hsp: ∀id,gid vR=some id→gid vP≠some id:=fun id h1 e=>h.sp id h1 e
 repeat' with_reducible first
  |refine s_ ?_
  |simp only[wZZ,seval,f0,f6,f8,h6,hw,hm,hLl,hz1,hz2,hz3,hz4,qi b4,qi b5,qi d4,qi d5,qi w5]
  |apply XE (qU.gr h.gR);(focus(simp only[wZ]<;>omega));(focus(unfold maxLen;simp only[wZ]<;>omega))
  |apply za rfl (h.gP.mono (Nat.le_refl _) (fun id h1 h2=>by have hne:=hneP id h1;(try simp only[wM]);(repeat rw[if_neg o_])));exact qU.sl;(focus(simp only[wZ]<;>omega));(focus(unfold maxLen;simp only[wZ]<;>omega))
  |apply za rfl (h.gR.mono (Nat.le_refl _) (fun id h1 h2=>by have hne:=hneR id h1;(try simp only[wM]);(repeat rw[if_neg o_]);rw[qi (hsp id h1)];simp only[wM];(repeat rw[if_neg o_])));exact qU.sl;(focus(simp only[wZ]<;>omega));(focus(unfold maxLen;simp only[wZ]<;>omega))
  |refine t_ ?_
  |simp(disch:=omega) only[w64,if_neg]
 have hv:Er false (fun _=>none) (.agg [vi (M.lefts.length+(M.inner+1)),.sl 1 true [],vi (-1),.str w.code,.asl (s.next+8+21) p.right.length 1 (p.right.map (V.int .i64)),vi w.at_]) (GPr.V {left:=M.lefts.length+(M.inner+1),prec:= -1,code:=w.code,args:=p.right,at_:=w.at_}):=
  ErL.agg (.cons (.int _ _) (.cons (ErL.sl .nil) (.cons (.int _ _) (.cons (.str _) (.cons QN (.cons (.int _ _) .nil))))))
 have heP:QM (ps++[(.agg [vi (M.lefts.length+(M.inner+1)),.sl 1 true [],vi (-1),.str w.code,.asl (s.next+8+21) p.right.length 1 (p.right.map (V.int .i64)),vi w.at_])]) ((M.prods++[({left:=M.lefts.length+(M.inner+1),prec:= -1,code:=w.code,args:=p.right,at_:=w.at_}:GPr)]).map GPr.V):=by
  rw[List.map_append];exact h.eP.snoc hv
 have e2:=h.gP.ne c2;have e3:=h.gP.ne c3
 have e2r:=h.gR.ne c2;have e3r:=h.gR.ne c3
 refine hQ _ (.asl (s.next+8+26) (ps.length+1) 6 (ps++[(.agg [vi (M.lefts.length+(M.inner+1)),.sl 1 true [],vi (-1),.str w.code,.asl (s.next+8+21) p.right.length 1 (p.right.map (V.int .i64)),vi w.at_])])) (.asl (s.next+8+31+14) (p.right.length+1) 1 ((p.right++[1000+(M.lefts.length:Int)+(M.inner+1)]).map (V.int .i64))) (ps++[(.agg [vi (M.lefts.length+(M.inner+1)),.sl 1 true [],vi (-1),.str w.code,.asl (s.next+8+21) p.right.length 1 (p.right.map (V.int .i64)),vi w.at_])]) wl_ wh_ (by simp)
  (h.upd ⟨?_,?_,?_,hM.eN,ErL.asl heP,hM.eT,hM.eL,by simp only[wN]<;>omega,by simp only[wN]<;>omega,by simp only[wN]<;>omega,hM.len,hM.len3⟩ (Or.inl rfl) (Or.inl rfl) wl_ wl_ wl_ wh_ ?_ (Gr.tok ?_ wh_) (Gr.tok ?_ wh_) heP (Sep.ids o_) (fun j g1 g2 g3 g4 g5 g6 g7=>?_))
 · simp only[wM]
   repeat first|rw[if_pos trivial]|rw[if_pos rfl]|rw[if_neg o_]|simp only[wM]|rw[qi d4]|rw[qi d5]
 · simp only[wM]
   repeat first|rw[if_pos trivial]|rw[if_pos rfl]|rw[if_neg o_]|simp only[wM]|rw[qi e2]|rw[qi e2r]
   exact hM.ht
 · simp only[wM]
   repeat first|rw[if_pos trivial]|rw[if_pos rfl]|rw[if_neg o_]|simp only[wM]|rw[qi e3]|rw[qi e3r]
   exact hM.hg
 · simp only[wM]
   repeat first|rw[if_pos trivial]|rw[if_pos rfl]|rw[if_neg o_]
   try simp
 · simp only[wM]
   repeat first|rw[if_pos trivial]|rw[if_pos rfl]|rw[if_neg o_]
 · have l1:gid vR≠some (s.next+8+26):=fun e=>by have:=h.gR.lt e;omega
   simp only[wM]
   repeat first|rw[if_pos trivial]|rw[if_pos rfl]|rw[if_neg o_]|simp only[wM]|rw[qi l1]
 · simp only[wM]
   repeat first|rw[if_pos trivial]|rw[if_pos rfl]|rw[if_neg o_]|simp only[wM]|rw[qi g6]|rw[qi g7]
end Go.Proofs
