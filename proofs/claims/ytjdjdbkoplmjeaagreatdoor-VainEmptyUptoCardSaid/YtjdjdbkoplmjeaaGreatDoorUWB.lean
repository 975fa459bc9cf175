/- Part of a proof that a law of the given program answers true. -/
import Derived.Test.YtjdjdbkoplmjeaaGreatDoorUWA
import Derived.Test.YtjdjdbkoplmjeaaGreatDoorUCA
import Derived.Test.YtjdjdbkoplmjeaaGreatDoorUTA
import Derived.Shelf.SlSortCmp.NoneTotal
set_option linter.unusedSimpArgs false
set_option linter.unusedVariables false
set_option maxHeartbeats 4000000
namespace Go.Proofs
open Go.E
def ofK (k:Nat):Nat→Int:=fun j=>if j<k then -1 else 0
theorem qgB (k:Nat):ZB (ofK k) k (-1)=ofK (k+1):=by
 funext j
 show (if j=k then(-1:Int)else if j<k then -1 else 0)=if j<k+1 then -1 else 0
 omega
theorem row0 (n:Nat):List.replicate n (V.int .i64 0)=ivs (ji n (fun _=>0)):=by
 refine List.ext_getElem? fun k=>?_
 by_cases h:k<n
 · rw[List.getElem?_map,zh h];simp[h]
 · rw[List.getElem?_eq_none (by simp;omega),List.getElem?_eq_none (by simp[yg];omega)]
def qfD:TS:={num:=fun _=>0,low:=fun _=>0,of:=fun _=> -1,stack:=[],groups:=[],next:=0}
def qcX (rel:Nat→List Int) (n k:Nat):TS:=(List.range k).foldl (fun s i=>if s.num i=0 then Zy rel n n i s else s) qfD
theorem KV (rel:Nat→List Int) (n k:Nat):qcX rel n (k+1)=if (qcX rel n k).num k=0 then Zy rel n n k (qcX rel n k)else qcX rel n k:=by
 unfold qcX
 rw[List.range_succ,List.foldl_append];rfl
theorem quO (rel:Nat→List Int) (n:Nat):qcX rel n n=qcZ rel n:=rfl
theorem qiz (n:Nat) (s:TS):XK n s≤n:=by
 unfold XK
 have:=List.countP_le_length (p:=fun x=>decide (s.num x=0)) (l:=List.range n)
 rwa [List.length_range]at this
theorem qgR (rel:Nat→List Int) (n:Nat):TInv rel n (fun _=>False) qfD:=
 ⟨fun _=>⟨by show (0:Int)≤0;omega,by show (0:Int)≤_;omega⟩,fun x h=>absurd rfl h,fun x _ h=>absurd rfl h,fun _ _=>rfl,fun _=>⟨by show (-1:Int)≤ -1;omega,by show (-1:Int)<_;omega⟩,fun x=>by simp[qfD],List.Pairwise.nil,fun x h=>h.elim,fun x _ h=>absurd rfl h,fun x _ h=>by simp[qfD]at h,fun x y h=>by simp[qfD]at h,fun y h=>by simp[qfD]at h,fun x h=>by simp[qfD]at h,fun k l h=>by simp[qfD]at h⟩
theorem qbX (rel:Nat→List Int) (n:Nat): ∀k,k≤n→TInv rel n (fun _=>False) (qcX rel n k)∧BdT n (qcX rel n k)
 |0,_=>⟨qgR rel n,by have:=qiz n qfD;show 0+_≤n;unfold qcX;simpa using this⟩
 | k +1,hk=>by
   obtain ⟨a,b⟩:=qbX rel n k o_
   rw[KV]
   split
   · rename_i h0
     exact⟨(Y0 rel n n k _ _ h0 o_ (qiz n _) a (fun g h=>h.elim)).1,qfl rel n n k _ o_ h0 b⟩
   · exact⟨a,b⟩
abbrev qJN (H:Nat→Option MObj) (next n:Nat) (rl:List (List Int)):V→(Nat→Option MObj)→Nat→Prop:=fun v H' n'=>
 ∃wi ni li oi lo,v=.ptr wi 0 0∧WD wi ni li oi lo∧(next≤wi∧next≤ni∧next≤li∧next≤oi∧next≤lo)∧WAt H' n' wi ni li oi lo n rl (qcZ (qR rl) n)∧ ∀j,j<next→H' j=H j
theorem qAM {H:Nat→Option MObj} {next n:Nat} {rl:List (List Int)} (hn:n≤1000000) (hrl:rl.length=n) (hrk: ∀l∈rl,l.length≤1000000):zy Tryz.prog 71 [.sl 1 false (rl.map jl)] H next (qJN H next n rl):=by
 refine zC Tryz.func71 qtD qyB (by show 1≤48;decide) ?_
 show ewp _ qhP _ _
 repeat' with_reducible first
  |refine s_ ?_
  |simp -implicitDefEqProofs only[wZZ,seval,hrl]
  |refine t_ ?_
  |apply Jh;exact wf_;exact wf_;(focus(unfold maxLen;first|omega|(simp only[wZ]<;>omega)))
 have hD:WD (next+1+11) (next+1+3) (next+1+6) (next+1+9) (next+14):=⟨o_,o_⟩
 refine qf ?nx1 (fun(k:Nat) s=>s.f 0=?v1_0∧s.f 3=?v1_3∧s.f 19=?v1_19∧s.f 20=vi k∧(k≤n)∧((s.H (next+1+11)=some (.own 7 [wkV rl (next+1+3) (next+1+6) (next+1+9) n (.sl 1 true []) (.sl 1 true []) 0] false)))∧((s.H (next+1+3)=some (.own 1 (ivs (ji n (fun _=>0))) false)))∧((s.H (next+1+6)=some (.own 1 (ivs (ji n (fun _=>0))) false)))∧((s.H (next+1+9)=some (.own 1 (ivs (ji n (ofK k))) false)))∧((∀j,j<next→s.H j=H j))) (fun k=>n - k) (0) wj_ (by refine⟨?_,?_,?_,?_,wo_,(by((simp only[wM];(repeat first|rw[if_pos trivial]|rw[if_pos rfl]|rw[if_neg o_]));rfl)),(by((simp only[wM];(repeat first|rw[if_pos trivial]|rw[if_pos rfl]|rw[if_neg o_]));rw[row0])),(by((simp only[wM];(repeat first|rw[if_pos trivial]|rw[if_pos rfl]|rw[if_neg o_]));rw[row0])),(by((simp only[wM];(repeat first|rw[if_pos trivial]|rw[if_pos rfl]|rw[if_neg o_]));rw[row0];rfl)),(by(intro j h;(simp only[wM];(repeat first|rw[if_pos trivial]|rw[if_pos rfl]|rw[if_neg o_]))))⟩<;>first|(simp -implicitDefEqProofs only[wL,wM,wN,wX,seval,Option.some.injEq]<;>exact wt_)|rfl|exact⟨_,rfl⟩) ?_
 intro k s hnx ⟨g0,g3,g19,g20,k1_0,k1_1,k1_2,k1_3,k1_4,k1_5⟩
 by_cases hk:k<n
 · repeat' with_reducible first
    |refine s_ ?_
    |simp -implicitDefEqProofs only[wZZ,seval,g0,g3,g19,g20,k1_1]
    |apply qc<;>intro h h_<;>(try simp only[wD,reduceCtorEq]at h_)<;>(try exact wb_)<;>(try simp only[h])
    |apply qF;omega;omega
    |(refine stI k k1_4 o_ hk ?_)
    |refine t_ ?_
    |simp -implicitDefEqProofs (disch:=omega) only[w64,if_neg]
   refine⟨wg_,k+1,o_,?_⟩;(repeat refine⟨True.intro,?_⟩)
   exact⟨rfl,o_,by((try simp only[wM]);(repeat first|rw[if_pos trivial]|rw[if_pos rfl]|rw[if_neg o_]));(try exact k1_1),by((try simp only[wM]);(repeat first|rw[if_pos trivial]|rw[if_pos rfl]|rw[if_neg o_]));(try exact k1_2),by((try simp only[wM]);(repeat first|rw[if_pos trivial]|rw[if_pos rfl]|rw[if_neg o_]));(try exact k1_3),by((try simp only[wM]);(repeat first|rw[if_pos trivial]|rw[if_pos rfl]|rw[if_neg o_]));(try rw[qgB]),fun j h=>by((try simp only[wM]);(repeat first|rw[if_pos trivial]|rw[if_pos rfl]|rw[if_neg o_]));(try exact k1_5 j h)⟩
 · have hkn:ji n (ofK k)=ji n (fun _=>(-1:Int)):=yR fun j hj=>if_pos o_
   rw[hkn]at k1_4
   have W0:WIn s.H s.next (next+1+11) (next+1+3) (next+1+6) (next+1+9) (next+14) n rl (qcX (qR rl) n 0) (.sl 1 true []) (.sl 1 true []) []:=⟨k1_1,k1_2,k1_3,k1_4,Or.inl ⟨rfl,rfl⟩,Or.inl ⟨rfl,rfl⟩,⟨rfl,fun k l h=>by simp[qcX,qfD]at h⟩,fun j h=>(by cases h),o_⟩
   repeat' with_reducible first
    |refine s_ ?_
    |simp -implicitDefEqProofs only[wZZ,seval,g0,g3,g19,g20,hrl]
    |apply qc<;>intro h h_<;>(try simp only[wD,reduceCtorEq]at h_)<;>(try exact wb_)<;>(try simp only[h])
   refine qf ?nx2 (fun(i:Nat) s=>s.f 3=?v2_3∧s.f 31=?v2_31∧s.f 32=vi i∧(i≤n)∧((∃sv gv gs,WIn s.H s.next (next+1+11) (next+1+3) (next+1+6) (next+1+9) (next+14) n rl (qcX (qR rl) n i) sv gv gs))∧((∀j,j<next→s.H j=H j))) (fun i=>n - i) (0) wj_ (by refine⟨?_,?_,?_,wo_,(by(exact⟨_,_,_,WIn.mono W0 hD wg_ (fun j _=>by(simp only[wM];(repeat first|rw[if_pos trivial]|rw[if_pos rfl]|rw[if_neg o_])))⟩)),(by(intro j h;(simp only[wM];(repeat first|rw[if_pos trivial]|rw[if_pos rfl]|rw[if_neg o_]));exact k1_5 j h))⟩<;>first|(simp -implicitDefEqProofs only[wL,wM,wN,wX,seval,Option.some.injEq,g0,g3,g19,g20]<;>exact wt_)|rfl|exact⟨_,rfl⟩) ?_
   intro i s hnx ⟨g3,g31,g32,k2_0,k2_1,k2_2⟩
   obtain ⟨sv1,gv1,gs1,W1⟩:=k2_1
   by_cases hi:i<n
   · obtain ⟨hinv,hbd⟩:=qbX (qR rl) n i o_
     have hts:=KV (qR rl) n i
     generalize qcX (qR rl) n i=t at *
     have gni:=zh (l:=t.num) hi
     by_cases h0:t.num i=0
     · rw[if_pos h0]at hts
       have hrec:=fun HH nn W=>qeR hD hn hrl hrk n HH nn i t (fun _=>False) h0 hi (qiz n t) hbd hinv (fun g h=>h.elim) W
       repeat' with_reducible first
        |refine s_ ?_
        |simp -implicitDefEqProofs only[wZZ,seval,g3,g31,g32,W1.w]
        |apply qc<;>intro h h_<;>(try simp only[wD,reduceCtorEq]at h_)<;>(try exact wb_)<;>(try simp only[h])
        |apply qF;omega;omega
        |(refine ldI i W1.nu o_ gni ?_)
        |(refine qV rfl rfl rfl ((hrec _ _ ⟨_,_,_,WIn.mono W1 hD wg_ (fun j _=>hh_)⟩).mono ?_);rintro v1 H1 n1 ⟨rfl,q1,⟨sv2,gv2,gs2,W2⟩,q3⟩;(try simp only[wN]at q1);(try simp only[wN]at q3))
        |refine t_ ?_
        |simp -implicitDefEqProofs (disch:=omega) only[w64,if_neg]
       refine⟨wg_,i+1,o_,?_⟩;(repeat refine⟨True.intro,?_⟩)
       exact⟨rfl,o_,⟨_,_,_,by rw[hts];exact WIn.mono W2 hD wg_ (fun j _=>hh_)⟩,fun j h=>by((try simp only[wM]);(repeat first|rw[if_pos trivial]|rw[if_pos rfl]|rw[if_neg o_]));rw[q3 j o_ o_ o_ o_ o_];((try simp only[wM]);(repeat first|rw[if_pos trivial]|rw[if_pos rfl]|rw[if_neg o_]));(try exact k2_2 j h)⟩
     · rw[if_neg h0]at hts
       repeat' with_reducible first
        |refine s_ ?_
        |simp -implicitDefEqProofs only[wZZ,seval,g3,g31,g32,W1.w]
        |apply qc<;>intro h h_<;>(try simp only[wD,reduceCtorEq]at h_)<;>(try exact wb_)<;>(try simp only[h])
        |apply qF;omega;omega
        |(refine ldI i W1.nu o_ gni ?_)
        |refine t_ ?_
        |simp -implicitDefEqProofs (disch:=omega) only[w64,if_neg]
       refine⟨wg_,i+1,o_,?_⟩;(repeat refine⟨True.intro,?_⟩)
       exact⟨rfl,o_,⟨_,_,_,by rw[hts];exact WIn.mono W1 hD wg_ (fun j _=>hh_)⟩,fun j h=>by((try simp only[wM]);(repeat first|rw[if_pos trivial]|rw[if_pos rfl]|rw[if_neg o_]));(try exact k2_2 j h)⟩
   · rw[show i=n by omega,quO]at W1
     repeat' with_reducible first
      |refine s_ ?_
      |simp -implicitDefEqProofs only[wZZ,seval,g3,g31,g32]
      |apply qc<;>intro h h_<;>(try simp only[wD,reduceCtorEq]at h_)<;>(try exact wb_)<;>(try simp only[h])
     refine Xn rfl (Or.inr rfl) ⟨next+1+11,next+1+3,next+1+6,next+1+9,next+14,?_,hD,o_,⟨_,_,_,WIn.mono W1 hD wg_ (fun j _=>hh_)⟩,fun j h=>by((try simp only[wM]);(repeat first|rw[if_pos trivial]|rw[if_pos rfl]|rw[if_neg o_]));(try exact k2_2 j h)⟩
     (simp -implicitDefEqProofs only[wL,seval])

def xU (n:Nat) (S:Nat→Nat→Bool):List V:=(List.range n).map fun k=>Zz (S k)
theorem kQ (n:Nat) (S:Nat→Nat→Bool):(xU n S).length=n:=by simp[xU]
theorem kK {n k:Nat} {S:Nat→Nat→Bool} (h:k<n):(xU n S)[k]?=some (Zz (S k)):=by simp[xU,h]
theorem qeF {n k:Nat} {S:Nat→Nat→Bool} {v:Nat→Bool} (h:k<n):(xU n S).set k (Zz v)=xU n (qcY S k v):=by
 refine List.ext_getElem? fun i=>?_
 rw[List.getElem?_set]
 by_cases hi:i<n
 · rw[kK hi,kQ,kK hi]
   by_cases e:k=i
   · subst e;simp[hi,qcY]
   · simp[e,qcY,Ne.symm e]
 · rw[List.getElem?_eq_none (by rw[kQ];omega),List.getElem?_eq_none (by rw[kQ];omega)]
   rw[kQ];simp;omega
theorem qyr:V.agg [.int .u64 0,.int .u64 0,.int .u64 0,.int .u64 0,.int .u64 0,.int .u64 0,.int .u64 0,.int .u64 0,.int .u64 0,.int .u64 0,.int .u64 0,.int .u64 0,.int .u64 0,.int .u64 0,.int .u64 0,.int .u64 0]=Zz (fun _=>false):=by
 show V.agg _=V.agg (zm _)
 rw[vM]
theorem qIa (n:Nat):List.replicate n (V.agg [.int .u64 0,.int .u64 0,.int .u64 0,.int .u64 0,.int .u64 0,.int .u64 0,.int .u64 0,.int .u64 0,.int .u64 0,.int .u64 0,.int .u64 0,.int .u64 0,.int .u64 0,.int .u64 0,.int .u64 0,.int .u64 0])=xU n (fun _ _=>false):=by
 rw[qyr]
 refine List.ext_getElem? fun i=>?_
 by_cases h:i<n
 · rw[kK h];simp[h]
 · rw[List.getElem?_eq_none (by simp;omega),List.getElem?_eq_none (by rw[kQ];omega)]
theorem ldS {K:V→Prop} {nn k:Nat} {S:Nat→Nat→Bool} {ro:Bool} (h:k<nn) (hk:K (Zz (S k))):onS (ldQ (some (.own 16 (xU nn S) ro)) true 16 k 0) K:=by
 have e:ldQ (some (.own 16 (xU nn S) ro)) true 16 k 0=some (Zz (S k)):=by simp[ldQ,kK h,jN,V.isAgg]
 rw[e];exact hk
theorem stS {K:St→Prop} {s:St} {nn k id:Nat} {x:Nat→Bool} {S:Nat→Nat→Bool} (h:k<nn) (hk:K (s.setO id (some (.own 16 (xU nn (qcY S k x)) false)))):onS (stQ s (some (.own 16 (xU nn S) false)) 16 id k 0 (.agg (zm x))) K:=by
 have e:stQ s (some (.own 16 (xU nn S) false)) 16 id k 0 (.agg (zm x))=some (s.setO id (some (.own 16 (xU nn (qcY S k x)) false))):=by
  rw[← qeF h]
  simp[stQ,kK h,V.cells,V.okCell,zS,V.isAgg,qK]
 rw[e];exact hk
def ofL (n:Nat) (S:Nat→Nat→Bool):List (List Int):=(List.range n).map fun k=>lst (S k) 1024
def lsC (n i:Nat) (S:Nat→Nat→Bool):List V:=(List.range n).map fun k=>if k<i then jl (lst (S k) 1024)else .sl 1 true []
theorem Y4 (n i:Nat) (S:Nat→Nat→Bool):(lsC n i S).length=n:=by simp[lsC]
theorem qG1 (n:Nat) (S:Nat→Nat→Bool):List.replicate n (V.sl 1 true [])=lsC n 0 S:=by
 refine List.ext_getElem? fun i=>?_
 by_cases h:i<n
 · simp[lsC,h]
 · rw[List.getElem?_eq_none (by simp;omega),List.getElem?_eq_none (by rw[Y4];omega)]
theorem qF1 (n:Nat) (S:Nat→Nat→Bool):lsC n n S=(ofL n S).map jl:=by
 unfold lsC ofL
 rw[List.map_map]
 refine List.map_congr_left fun k hk=>?_
 rw[if_pos (List.mem_range.1 hk)];rfl
theorem qKw {K:St→Prop} {s:St} {nn i id:Nat} {S:Nat→Nat→Bool} (h:i<nn) (hk:K (s.setO id (some (.own 1 (lsC nn (i+1) S) false)))):onS (stQ s (some (.own 1 (lsC nn i S) false)) 1 id i 0 (jl (lst (S i) 1024))) K:=by
 have hg:(lsC nn i S)[i]?=some (.sl 1 true []):=by simp[lsC,h]
 have hs:(lsC nn i S).set i (jl (lst (S i) 1024))=lsC nn (i+1) S:=by
  refine List.ext_getElem? fun k=>?_
  rw[List.getElem?_set,Y4]
  by_cases hk:k<nn
  · by_cases e:i=k
    · subst e;simp[lsC,hk]
    · rw[if_neg e]
      simp only[lsC,List.getElem?_map,List.getElem?_range hk,Option.map_some]
      by_cases e2:k<i
      · rw[if_pos e2,if_pos o_]
      · rw[if_neg e2,if_neg o_]
  · rw[List.getElem?_eq_none (by rw[Y4];omega),List.getElem?_eq_none (by rw[Y4];omega)]
    split
    · rename_i e;exact absurd (e ▸ h) hk
    · rfl
 have e:stQ s (some (.own 1 (lsC nn i S) false)) 1 id i 0 (jl (lst (S i) 1024))=some (s.setO id (some (.own 1 (lsC nn (i+1) S) false))):=by
  rw[← hs]
  simp[stQ,hg,V.cells,V.okCell,zS,V.isAgg]
 rw[e];exact hk
theorem qEJ {K:V→Prop} {nn k:Nat} (k':Nat) {S:Nat→Nat→Bool} {ro:Bool} {o:Option MObj} (ho:o=some (.own 16 (xU nn S) ro)) (e:k=k') (h:k'<nn) (hk:K (Zz (S k'))):onS (ldQ o true 16 k 0) K:=by
 subst ho e;exact ldS h hk
theorem qJ2 {K:St→Prop} {s:St} {nn k id:Nat} (k':Nat) {x:Nat→Bool} {S:Nat→Nat→Bool} {o:Option MObj} (ho:o=some (.own 16 (xU nn S) false)) (e:k=k') (h:k'<nn) (hk:K (s.setO id (some (.own 16 (xU nn (qcY S k' x)) false)))):onS (stQ s o 16 id k 0 (.agg (zm x))) K:=by
 subst ho e;exact stS h hk
theorem ldG {K:V→Prop} {k:Nat} (k':Nat) {gs:List V} {v:V} {ro:Bool} {o:Option MObj} (ho:o=some (.own 1 gs ro)) (e:k=k') (hv:gs[k']?=some v) (ha:v.isAgg=false) (hk:K v):onS (ldQ o false 1 k 0) K:=by
 subst ho e
 have e:ldQ (some (.own 1 gs ro)) false 1 k 0=some v:=by simp[ldQ,hv,jN,ha]
 rw[e];exact hk
theorem qFj {K:St→Prop} {s:St} {nn k id:Nat} (i:Nat) {S:Nat→Nat→Bool} {o:Option MObj} (ho:o=some (.own 1 (lsC nn i S) false)) (e:k=i) (h:i<nn) (hk:K (s.setO id (some (.own 1 (lsC nn (i+1) S) false)))):onS (stQ s o 1 id k 0 (jl (lst (S i) 1024))) K:=by
 subst ho e;exact qKw h hk
theorem qKh {s0:St} {n n1 wi ni li oi lo k x ng:Nat} {rl:List (List Int)} {t:TS} {G:Nat→Prop} {sv gv:V} {gs:List V} {A:Nat→Nat→Bool} {sl:Nat→List Int} {L:Nat→Prop} {Q:Exit→St→Prop}
 (f0:s0.f 0=.sl 1 false (rl.map jl)) (f5:s0.f 5=.ptr wi 0 0) (f6:s0.f 6=.msl (n1+5) 16 0 ng) (f7:s0.f 7=vi (k:Int)) (f10:s0.f 10=vi (x:Int))
 (hrl:rl.length=n) (hn:n≤1000000) (hrk: ∀l∈rl,l.length≤1000000) (hD:WD wi ni li oi lo) (W:WIn s0.H n1 wi ni li oi lo n rl t sv gv gs) (hN:n1+6≤s0.next) (hA:s0.H (n1+5)=some (.own 16 (xU ng A) false)) (hC:CloI (qR rl) n t.of sl A k (fun y=>L y∨y=x) (fun y j=>L y∧(j:Int)∈qR rl y)) (hI:TInv (qR rl) n G t) (hx:t.of x=(k:Int)) (hxn:x<n) (hk:k<ng)
 (hQ: ∀s' A',s'.f 0=s0.f 0→s'.f 1=s0.f 1→s'.f 5=s0.f 5→s'.f 6=s0.f 6→s'.f 7=s0.f 7→s'.f 29=s0.f 29→s'.f 30=s0.f 30→s'.f 31=s0.f 31→s'.f 36=s0.f 36→s'.f 37=s0.f 37→s'.f 38=s0.f 38→s0.next≤s'.next→s'.H (n1+5)=some (.own 16 (xU ng A') false)→CloI (qR rl) n t.of sl A' k (fun y=>L y∨y=x) (fun y j=>(L y∨y=x)∧(j:Int)∈qR rl y)→(∀j,j<n1→s'.H j=s0.H j)→Q .normal s'):ewp Tryz.prog qcv Q s0:=by
 have hri:rl[x]?=some (qR rl x):=by unfold qR;rw[List.getD_eq_getElem?_getD,ge_ o_];rfl
 have hrl2:(qR rl x).length≤1000000:=hrk _ (List.mem_of_getElem? hri)
 obtain ⟨b1,b2,b3,b4⟩:=hD.b
 have hwl:lo≤n1:=W.nx
 repeat' with_reducible first
  |refine s_ ?_
  |simp -implicitDefEqProofs only[wZZ,seval,f0,f10]
  |refine t_ ?_
 refine qf ?nx3 (fun(r:Nat) s=>s.f 0=?v3_0∧s.f 1=?v3_1∧s.f 5=?v3_5∧s.f 6=?v3_6∧s.f 7=?v3_7∧s.f 29=?v3_29∧s.f 30=?v3_30∧s.f 31=?v3_31∧s.f 36=?v3_36∧s.f 37=?v3_37∧s.f 38=?v3_38∧s.f 62=?v3_62∧s.f 63=?v3_63∧s.f 64=vi r∧(r≤(qR rl x).length)∧(s0.next≤s.next)∧((∃A,s.H (n1+5)=some (.own 16 (xU ng A) false)∧CloI (qR rl) n t.of sl A k (fun y=>L y∨y=x) (fun y j=>(L y∧(j:Int)∈qR rl y)∨(y=x∧(j:Int)∈(qR rl x).take r))))∧((∀j,j<n1→s.H j=s0.H j))) (fun r=>(qR rl x).length - r) (0) wj_ (by refine⟨?_,?_,?_,?_,?_,?_,?_,?_,?_,?_,?_,?_,?_,?_,wo_,wg_,(by(exact⟨A,by((try simp only[wM]);(repeat first|rw[if_pos trivial]|rw[if_pos rfl]|rw[if_neg o_]));exact hA,hC.weak (fun _ h=>h) (fun y j h=>by rcases h with h|⟨_,h⟩;exact h;simp at h)⟩)),(by(intro j h;((try simp only[wM]);(repeat first|rw[if_pos trivial]|rw[if_pos rfl]|rw[if_neg o_]))))⟩<;>first|(simp -implicitDefEqProofs only[wL,wM,wN,wX,seval,Option.some.injEq]<;>exact wt_)|rfl|exact⟨_,rfl⟩) ?_
 intro r s hnx ⟨g0,g1,g5,g6,g7,g29,g30,g31,g36,g37,g38,g62,g63,g64,k3_0,k3_1,k3_2,k3_3⟩
 obtain ⟨A1,hA1,hC1⟩:=k3_2
 have W1:=W.mono (H':=s.H) (n':=n1) hD (Nat.le_refl _) k3_3
 by_cases hr:r<(qR rl x).length
 · obtain ⟨z,hz⟩: ∃z,(qR rl x)[r]?=some z:=⟨_,ge_ hr⟩
   have htk:(qR rl x).take (r+1)=(qR rl x).take r++[z]:=by rw[List.take_add_one,hz];rfl
   by_cases hv:z<0∨(n:Int)≤z
   · have hC2:CloI (qR rl) n t.of sl A1 k (fun y=>L y∨y=x) (fun y j=>(L y∧(j:Int)∈qR rl y)∨(y=x∧(j:Int)∈(qR rl x).take (r+1))):=⟨hC1.lt,hC1.sd,hC1.d1,fun y j k' hy ho hk' v hv'=>by
      refine hC1.d2 y j k' ?_ ho hk' v hv'
      rcases hy with hy|⟨e,hy⟩
      · exact Or.inl hy
      · rw[htk]at hy
        rcases List.mem_append.1 hy with hy|hy
        · exact Or.inr ⟨e,hy⟩
        · have:=of_lt hI (x:=j) o_
          rw[List.mem_singleton]at hy
          omega,hC1.hi⟩
     rcases hv with hv|hv
     · repeat' with_reducible first
        |refine s_ ?_
        |simp -implicitDefEqProofs only[wZZ,seval,g0,g1,g5,g6,g7,g29,g30,g31,g36,g37,g38,g62,g63,g64,f0,hrl]
        |(first|apply qc|apply qi|apply qj)<;>intro h h_<;>(try simp only[wD,reduceCtorEq]at h_)<;>(try exact wb_)<;>(try simp only[h])
        |refine t_ ?_
        |simp -implicitDefEqProofs (disch:=omega) only[w64,if_neg]
       refine⟨wg_,r+1,o_,?_⟩;(repeat refine⟨True.intro,?_⟩)
       exact⟨rfl,o_,wg_,⟨A1,by((try simp only[wM]);(repeat first|rw[if_pos trivial]|rw[if_pos rfl]|rw[if_neg o_]));exact hA1,hC2⟩,fun j h=>by((try simp only[wM]);(repeat first|rw[if_pos trivial]|rw[if_pos rfl]|rw[if_neg o_]));exact k3_3 j h⟩
     · repeat' with_reducible first
        |refine s_ ?_
        |simp -implicitDefEqProofs only[wZZ,seval,g0,g1,g5,g6,g7,g29,g30,g31,g36,g37,g38,g62,g63,g64,f0,hrl]
        |(first|apply qc|apply qi|apply qj)<;>intro h h_<;>(try simp only[wD,reduceCtorEq]at h_)<;>(try exact wb_)<;>(try simp only[h])
        |refine t_ ?_
        |simp -implicitDefEqProofs (disch:=omega) only[w64,if_neg]
       refine⟨wg_,r+1,o_,?_⟩;(repeat refine⟨True.intro,?_⟩)
       exact⟨rfl,o_,wg_,⟨A1,by((try simp only[wM]);(repeat first|rw[if_pos trivial]|rw[if_pos rfl]|rw[if_neg o_]));exact hA1,hC2⟩,fun j h=>by((try simp only[wM]);(repeat first|rw[if_pos trivial]|rw[if_pos rfl]|rw[if_neg o_]));exact k3_3 j h⟩
   · obtain ⟨m,rfl⟩: ∃m:Nat,z=m:=⟨z.toNat,o_⟩
     have hm:m<n:=o_
     have hE:Edge (qR rl) n x m:=⟨hxn,hm,List.mem_of_getElem? hz⟩
     obtain ⟨k2,ho2,hk2,hsd⟩:=hC1.edge hI hx hE
     have hom:=zh (l:=t.of) hm
     rw[ho2]at hom
     have hor:=qaR (a:=A1 k) (b:=A1 k2)
     repeat' with_reducible first
      |refine s_ ?_
      |simp -implicitDefEqProofs only[wZZ,seval,g0,g1,g5,g6,g7,g29,g30,g31,g36,g37,g38,g62,g63,g64,f0,f5,f6,f7,hrl,W1.w]
      |(first|apply qc|apply qi|apply qj)<;>intro h h_<;>(try simp only[wD,reduceCtorEq]at h_)<;>(try exact wb_)<;>(try simp only[h])
      |refine t_ ?_
      |apply qF;omega;omega
      |(refine ldI m W1.of o_ hom ?_)
      |(refine qEJ k hA1 o_ hk ?_)
      |(refine qEJ k2 hA1 o_ o_ ?_)
      |refine cq2 hor qm qm ?_
      |(refine qJ2 k hA1 o_ hk ?_)
      |simp -implicitDefEqProofs (disch:=omega) only[w64,if_neg]
     refine⟨wg_,r+1,o_,?_⟩;(repeat refine⟨True.intro,?_⟩)
     exact ⟨rfl,o_,wg_,⟨_,hh_,hC1.join hsd (fun y hy=>Or.inl hy) (fun y j hy=>by
      rcases hy with hy|⟨e,hy⟩
      · exact Or.inl (Or.inl hy)
      · rw [htk]at hy
        rcases List.mem_append.1 hy with hy|hy
        · exact Or.inl (Or.inr ⟨e,hy⟩)
        · rw[List.mem_singleton]at hy
          have:j=m:=o_
          subst this
          exact Or.inr fun k' hk' _ v hv=>by
           have:k'=k2:=o_
           subst this;exact hv)⟩,fun j h=>by((try simp only[wM]);(repeat first|rw[if_pos trivial]|rw[if_pos rfl]|rw[if_neg o_]));exact k3_3 j h⟩
 · have htk:(qR rl x).take r=qR rl x:=List.take_of_length_le o_
   rw[htk]at hC1
   repeat' with_reducible first
    |refine s_ ?_
    |simp -implicitDefEqProofs only[wZZ,seval,g0,g1,g5,g6,g7,g29,g30,g31,g36,g37,g38,g62,g63,g64]
    |apply qc<;>intro h h_<;>(try simp only[wD,reduceCtorEq]at h_)<;>(try exact wb_)<;>(try simp only[h])
   refine hQ _ A1 ?_ ?_ ?_ ?_ ?_ ?_ ?_ ?_ ?_ ?_ ?_ ?_ ?_ (hC1.weak (fun _ h=>h) (fun y j h=>?_)) ?_
   · (simp -implicitDefEqProofs only[wL,seval,g0])
   · (simp -implicitDefEqProofs only[wL,seval,g1])
   · (simp -implicitDefEqProofs only[wL,seval,g5])
   · (simp -implicitDefEqProofs only[wL,seval,g6])
   · (simp -implicitDefEqProofs only[wL,seval,g7])
   · (simp -implicitDefEqProofs only[wL,seval,g29])
   · (simp -implicitDefEqProofs only[wL,seval,g30])
   · (simp -implicitDefEqProofs only[wL,seval,g31])
   · (simp -implicitDefEqProofs only[wL,seval,g36])
   · (simp -implicitDefEqProofs only[wL,seval,g37])
   · (simp -implicitDefEqProofs only[wL,seval,g38])
   · ((try simp only[wN])<;>omega)
   · ((try simp only[wM]);(repeat first|rw[if_pos trivial]|rw[if_pos rfl]|rw[if_neg o_]));exact hA1
   · rcases h with ⟨h|h,h2⟩
     · exact Or.inl ⟨h,h2⟩
     · subst h;exact Or.inr ⟨rfl,h2⟩
   · intro j h;((try simp only[wM]);(repeat first|rw[if_pos trivial]|rw[if_pos rfl]|rw[if_neg o_]));exact k3_3 j h
theorem qaN {rl sets:List (List Int)} (hl:rl.length≤1000000) (hrk: ∀l∈rl,l.length≤1000000) (hsl:sets.length≤1000000) (hsk: ∀l∈sets,l.length≤1000000):Pure Tryz.prog 39 [.sl 1 false (rl.map jl),.sl 1 false (sets.map jl)] (.sl 1 false ((if 4000<rl.length then[]else ofL rl.length (YH (qR rl) rl.length (qR sets))).map jl)):=by
 refine pure_intro Tryz.func39 qoX qxo (by show 2≤121;decide) ?_
 show ewp _ qis _ _
 by_cases hbig:4000<rl.length
 · rw[if_pos hbig]
   repeat' with_reducible first
    |refine s_ ?_
    |simp -implicitDefEqProofs only[wZZ,seval]
    |apply qc<;>intro h h_<;>(try simp only[wD,reduceCtorEq]at h_)<;>(try exact wb_)<;>(try simp only[h])
   refine qA rfl (Or.inr rfl) ?_
   simp -implicitDefEqProofs only[wL,seval]
   refine er_ ?_
   try(with_reducible rfl)
 · rw [if_neg hbig]
   obtain ⟨n,hrl⟩: ∃n,n=rl.length:=⟨_,rfl⟩
   have hrl:=hrl.symm
   rw[hrl]at hbig hl ⊢
   repeat' with_reducible first
    |refine s_ ?_
    |simp -implicitDefEqProofs only[wZZ,seval,hrl]
    |apply qc<;>intro h h_<;>(try simp only[wD,reduceCtorEq]at h_)<;>(try exact wb_)<;>(try simp only[h])
    |(refine qV rfl rfl rfl ((qAM hl hrl hrk).mono ?_);rintro v1 H1 n1 ⟨wi,ni,li,oi,lo,rfl,hD,q2,⟨sv,gv,gs,W⟩,q4⟩)
   obtain ⟨hI,hst,hof⟩:=qha (qR rl) n
   generalize ht:qcZ (qR rl) n=t at *
   have hgn:=qaZ hI
   have hln:ZL gv=some (vi (t.groups.length:Int)):=by rw[W.gr.len,W.ga.ln]
   have hs0:=qIa t.groups.length
   have hwl:lo≤n1:=W.nx
   obtain ⟨b1,b2,b3,b4⟩:=hD.b
   repeat' with_reducible first
    |refine s_ ?_
    |simp -implicitDefEqProofs only[wZZ,seval,W.w,hln]
    |refine t_ ?_
    |apply Jh;exact wf_;exact wf_;(focus(unfold maxLen;first|omega|(simp only[wZ]<;>omega)))
    |simp -implicitDefEqProofs (disch:=omega) only[w64,if_neg]
   rw[hs0]
   refine qf ?nx1 (fun(k:Nat) s=>s.f 0=?v1_0∧s.f 1=?v1_1∧s.f 5=?v1_5∧s.f 6=?v1_6∧s.f 29=?v1_29∧s.f 30=?v1_30∧s.f 31=vi k∧(k≤t.groups.length)∧((∃A,s.H (n1+5)=some (.own 16 (xU t.groups.length A) false)∧CloI (qR rl) n t.of (qR sets) A k (fun _=>False) (fun _ _=>False)))∧((∀j,j<n1→s.H j=H1 j))) (fun k=>t.groups.length - k) (0) wj_ (by refine⟨?_,?_,?_,?_,?_,?_,?_,wo_,(by(exact⟨fun _ _=>false,hh_,CloI.start _ _ _ _⟩)),(by(intro j h;((try simp only[wM]);(repeat first|rw[if_pos trivial]|rw[if_pos rfl]|rw[if_neg o_]))))⟩<;>first|(simp -implicitDefEqProofs only[wL,wM,wN,wX,seval,Option.some.injEq]<;>exact wt_)|rfl|exact⟨_,rfl⟩) ?_
   intro k s hnx ⟨g0,g1,g5,g6,g29,g30,g31,k1_0,k1_1,k1_2⟩
   have W1:=W.mono (H':=s.H) (n':=n1) hD (Nat.le_refl _) k1_2
   obtain ⟨A,hA,hC⟩:=k1_1
   by_cases hk:k<t.groups.length
   · rcases W1.gr with ⟨h0,_⟩|⟨gid,rfl,hgH,hg1,hg2⟩
     · have:=W1.ga.ln;rw[h0]at this;simp at this;omega
     obtain ⟨l,hlk⟩: ∃l,t.groups[k]?=some l:=⟨_,ge_ hk⟩
     obtain ⟨id,hgs,hid,hi1,hi2,_,_⟩:=W1.ga.pl k l hlk
     obtain ⟨hl0,hlr,hlm⟩:=hI.grp k l hlk
     have hgl:=W1.ga.ln
     have hid1:H1 id=some (.own 1 (ivs (xW l)) false):=(k1_2 id hi2).symm.trans hid
     have hln2:l.length≤n:=Zn (hlr.imp fun h=>by omega) (fun x hx=>of_lt hI (by rw[(hlm x).1 hx];omega))
     repeat' with_reducible first
      |refine s_ ?_
      |simp -implicitDefEqProofs only[wZZ,seval,g0,g1,g5,g6,g29,g30,g31]
      |apply qc<;>intro h h_<;>(try simp only[wD,reduceCtorEq]at h_)<;>(try exact wb_)<;>(try simp only[h])
      |apply qF;omega;omega
      |(refine ldG k hgH o_ hgs rfl ?_)
     refine qf ?nx2 (fun(p:Nat) s=>s.f 0=?v2_0∧s.f 1=?v2_1∧s.f 5=?v2_5∧s.f 6=?v2_6∧s.f 7=?v2_7∧s.f 29=?v2_29∧s.f 30=?v2_30∧s.f 31=?v2_31∧s.f 36=?v2_36∧s.f 37=?v2_37∧s.f 38=vi p∧(p≤l.length)∧((∃A,s.H (n1+5)=some (.own 16 (xU t.groups.length A) false)∧CloI (qR rl) n t.of (qR sets) A k (fun x=>x∈l.take p) (fun x j=>x∈l.take p∧(j:Int)∈qR rl x)))∧((∀j,j<n1→s.H j=H1 j))) (fun p=>l.length - p) (0) wj_ (by refine⟨?_,?_,?_,?_,?_,?_,?_,?_,?_,?_,?_,wo_,(by(exact⟨A,by((try simp only[wM]);(repeat first|rw[if_pos trivial]|rw[if_pos rfl]|rw[if_neg o_]));exact hA,hC.weak (fun x h=>by simp at h) (fun x j h=>by simp at h)⟩)),(by(intro j h;((try simp only[wM]);(repeat first|rw[if_pos trivial]|rw[if_pos rfl]|rw[if_neg o_]));exact k1_2 j h))⟩<;>first|(simp -implicitDefEqProofs only[wL,wM,wN,wX,seval,Option.some.injEq,g0,g1,g5,g6,g29,g30,g31]<;>exact wt_)|rfl|exact⟨_,rfl⟩) ?_
     intro p s hnx ⟨g0,g1,g5,g6,g7,g29,g30,g31,g36,g37,g38,k2_0,k2_1,k2_2⟩
     obtain ⟨A2,hA2,hC2⟩:=k2_1
     by_cases hp:p<l.length
     · obtain ⟨x,hlx⟩: ∃x,l[p]?=some x:=⟨_,ge_ hp⟩
       have htk:l.take (p+1)=l.take p++[x]:=by rw[List.take_add_one,hlx];rfl
       have hxk:t.of x=(k:Int):=(hlm x).1 (List.mem_of_getElem? hlx)
       have hxn:x<n:=of_lt hI o_
       have oid:s.H id=some (.own 1 (ivs (xW l)) false):=(k2_2 id hi2).trans hid1
       show ewp Tryz.prog (.seq (.reg qio) (.seq qg9 (.seq (.block 3 (.seq (.reg qip) (.seq qh7 qcv))) (.reg qhl)))) _ _
       generalize hE36:qcv=E36
       by_cases hxs:x<sets.length
       · have hsx:sets[x]?=some (qR sets x):=by unfold qR;rw[List.getD_eq_getElem?_getD,ge_ hxs];rfl
         have hof:=qfi (l:=qR sets x) (by have:=hsk _ (List.mem_of_getElem? hsx);omega)
         have hor:=qaR (a:=A2 k) (b:=XL (qR sets x))
         repeat' with_reducible first
          |refine s_ ?_
          |simp -implicitDefEqProofs only[wZZ,seval,g0,g1,g5,g6,g7,g29,g30,g31,g36,g37,g38]
          |apply qc<;>intro h h_<;>(try simp only[wD,reduceCtorEq]at h_)<;>(try exact wb_)<;>(try simp only[h])
          |apply qF;omega;omega
          |(refine ldI p oid o_ (QY hlx) ?_)
          |(refine qEJ k hA2 o_ hk ?_)
          |refine t_ ?_
          |refine cq1 hof qm ?_
          |refine cq2 hor qm qm ?_
          |(refine qJ2 k hA2 o_ hk ?_)
         have hC5:CloI (qR rl) n t.of (qR sets) (qcY A2 k (fun y=>A2 k y || XL (qR sets x) y)) k (fun y=>y∈l.take p∨y=x) (fun y j=>y∈l.take p∧(j:Int)∈qR rl y):=hC2.join (fun v hv=>⟨x,x,hxk,.refl _,hv⟩) (fun y hy=>by
          rcases hy with hy|rfl
          · exact Or.inl hy
          · exact Or.inr fun v hv=>hv) (fun y j h=>Or.inl h)
         subst hE36
         refine qKh (n1:=n1) (ng:=t.groups.length) (A:=qcY A2 k (fun y=>A2 k y || XL (qR sets x) y)) (L:=fun y=>y∈l.take p) (t:=t) (k:=k) (x:=x) (by(simp -implicitDefEqProofs only[wL,seval,g0])) (by(simp -implicitDefEqProofs only[wL,seval,g5])) (by(simp -implicitDefEqProofs only[wL,seval,g6])) (by(simp -implicitDefEqProofs only[wL,seval,g7])) (by(simp -implicitDefEqProofs only[wL,seval])) hrl hl hrk hD (W.mono hD (Nat.le_refl _) (fun j h=>by((try simp only[wM]);(repeat first|rw[if_pos trivial]|rw[if_pos rfl]|rw[if_neg o_]));exact k2_2 j h)) wg_ (by((try simp only[wM]);(repeat first|rw[if_pos trivial]|rw[if_pos rfl]|rw[if_neg o_]));(try exact hA2)) hC5 hI hxk hxn hk (fun s2 A3 h0 h1 h5 h6 h7 h29 h30 h31 h36 h37 h38 hn2 hA3 hC3 hH3=>?_)
         have e0:s2.f 0=.sl 1 false (rl.map jl):=h0.trans (by(simp -implicitDefEqProofs only[wL,seval,g0]))
         have e1:s2.f 1=.sl 1 false (sets.map jl):=h1.trans (by(simp -implicitDefEqProofs only[wL,seval,g1]))
         have e5:s2.f 5=.ptr wi 0 0:=h5.trans (by(simp -implicitDefEqProofs only[wL,seval,g5]))
         have e6:s2.f 6=.msl (n1+5) 16 0 t.groups.length:=h6.trans (by(simp -implicitDefEqProofs only[wL,seval,g6]))
         have e7:s2.f 7=vi (k:Int):=h7.trans (by(simp -implicitDefEqProofs only[wL,seval,g7]))
         have e29:s2.f 29=.msl gid 1 0 gs.length:=h29.trans (by(simp -implicitDefEqProofs only[wL,seval,g29]))
         have e30:s2.f 30=vi (t.groups.length:Int):=h30.trans (by(simp -implicitDefEqProofs only[wL,seval,g30]))
         have e31:s2.f 31=vi (k:Int):=h31.trans (by(simp -implicitDefEqProofs only[wL,seval,g31]))
         have e36:s2.f 36=.msl id 1 0 l.length:=h36.trans (by(simp -implicitDefEqProofs only[wL,seval,g36]))
         have e37:s2.f 37=.int .i64 (l.length:Int):=h37.trans (by(simp -implicitDefEqProofs only[wL,seval,g37]))
         have e38:s2.f 38=vi (p:Int):=h38.trans (by(simp -implicitDefEqProofs only[wL,seval,g38]))
         (try simp only[wN]at hn2)
         have hH4: ∀j,j<n1→s2.H j=H1 j:=fun j h=>(hH3 j h).trans (by((try simp only[wM]);(repeat first|rw[if_pos trivial]|rw[if_pos rfl]|rw[if_neg o_]));exact k2_2 j h)
         repeat' with_reducible first
          |refine s_ ?_
          |simp -implicitDefEqProofs only[wZZ,seval,g0,g1,g5,g6,g7,g29,g30,g31,g36,g37,g38,e38]
          |simp -implicitDefEqProofs (disch:=omega) only[w64,if_neg]
         refine⟨wg_,p+1,o_,?_⟩
         refine⟨(by(simp -implicitDefEqProofs only[wL,seval,e0])),(by(simp -implicitDefEqProofs only[wL,seval,e1])),(by(simp -implicitDefEqProofs only[wL,seval,e5])),(by(simp -implicitDefEqProofs only[wL,seval,e6])),(by(simp -implicitDefEqProofs only[wL,seval,e7])),(by(simp -implicitDefEqProofs only[wL,seval,e29])),(by(simp -implicitDefEqProofs only[wL,seval,e30])),(by(simp -implicitDefEqProofs only[wL,seval,e31])),(by(simp -implicitDefEqProofs only[wL,seval,e36])),(by(simp -implicitDefEqProofs only[wL,seval,e37])),rfl,o_,⟨A3,by((try simp only[wM]);(repeat first|rw[if_pos trivial]|rw[if_pos rfl]|rw[if_neg o_]));exact hA3,hC3.weak (fun y h=>?_) (fun y j h=>?_)⟩,fun j h=>by((try simp only[wM]);(repeat first|rw[if_pos trivial]|rw[if_pos rfl]|rw[if_neg o_]));exact hH4 j h⟩
         · rw[htk]at h
           rcases List.mem_append.1 h with h|h
           · exact Or.inl h
           · exact Or.inr (List.mem_singleton.1 h)
         · rw[htk]at h
           rcases List.mem_append.1 h.1 with h1|h1
           · exact⟨Or.inl h1,h.2⟩
           · exact⟨Or.inr (List.mem_singleton.1 h1),h.2⟩
       · have hsx:qR sets x=[]:=by unfold qR;rw[List.getD_eq_getElem?_getD,List.getElem?_eq_none o_];rfl
         repeat' with_reducible first
          |refine s_ ?_
          |simp -implicitDefEqProofs only[wZZ,seval,g0,g1,g5,g6,g7,g29,g30,g31,g36,g37,g38]
          |apply qc<;>intro h h_<;>(try simp only[wD,reduceCtorEq]at h_)<;>(try exact wb_)<;>(try simp only[h])
          |apply qF;omega;omega
          |(refine ldI p oid o_ (QY hlx) ?_)
         have hC5:CloI (qR rl) n t.of (qR sets) A2 k (fun y=>y∈l.take p∨y=x) (fun y j=>y∈l.take p∧(j:Int)∈qR rl y):=⟨hC2.lt,hC2.sd,fun y hy v hv=>(by
          rcases hy with hy|rfl
          · exact hC2.d1 y hy v hv
          · obtain ⟨z,_,hz⟩:=hv
            rw[hsx,qbQ]at hz;cases hz),hC2.d2,hC2.hi⟩
         subst hE36
         refine qKh (n1:=n1) (ng:=t.groups.length) (A:=A2) (L:=fun y=>y∈l.take p) (t:=t) (k:=k) (x:=x) (by(simp -implicitDefEqProofs only[wL,seval,g0])) (by(simp -implicitDefEqProofs only[wL,seval,g5])) (by(simp -implicitDefEqProofs only[wL,seval,g6])) (by(simp -implicitDefEqProofs only[wL,seval,g7])) (by(simp -implicitDefEqProofs only[wL,seval])) hrl hl hrk hD (W.mono hD (Nat.le_refl _) (fun j h=>by((try simp only[wM]);(repeat first|rw[if_pos trivial]|rw[if_pos rfl]|rw[if_neg o_]));exact k2_2 j h)) wg_ (by((try simp only[wM]);(repeat first|rw[if_pos trivial]|rw[if_pos rfl]|rw[if_neg o_]));(try exact hA2)) hC5 hI hxk hxn hk (fun s2 A3 h0 h1 h5 h6 h7 h29 h30 h31 h36 h37 h38 hn2 hA3 hC3 hH3=>?_)
         have e0:s2.f 0=.sl 1 false (rl.map jl):=h0.trans (by(simp -implicitDefEqProofs only[wL,seval,g0]))
         have e1:s2.f 1=.sl 1 false (sets.map jl):=h1.trans (by(simp -implicitDefEqProofs only[wL,seval,g1]))
         have e5:s2.f 5=.ptr wi 0 0:=h5.trans (by(simp -implicitDefEqProofs only[wL,seval,g5]))
         have e6:s2.f 6=.msl (n1+5) 16 0 t.groups.length:=h6.trans (by(simp -implicitDefEqProofs only[wL,seval,g6]))
         have e7:s2.f 7=vi (k:Int):=h7.trans (by(simp -implicitDefEqProofs only[wL,seval,g7]))
         have e29:s2.f 29=.msl gid 1 0 gs.length:=h29.trans (by(simp -implicitDefEqProofs only[wL,seval,g29]))
         have e30:s2.f 30=vi (t.groups.length:Int):=h30.trans (by(simp -implicitDefEqProofs only[wL,seval,g30]))
         have e31:s2.f 31=vi (k:Int):=h31.trans (by(simp -implicitDefEqProofs only[wL,seval,g31]))
         have e36:s2.f 36=.msl id 1 0 l.length:=h36.trans (by(simp -implicitDefEqProofs only[wL,seval,g36]))
         have e37:s2.f 37=.int .i64 (l.length:Int):=h37.trans (by(simp -implicitDefEqProofs only[wL,seval,g37]))
         have e38:s2.f 38=vi (p:Int):=h38.trans (by(simp -implicitDefEqProofs only[wL,seval,g38]))
         (try simp only[wN]at hn2)
         have hH4: ∀j,j<n1→s2.H j=H1 j:=fun j h=>(hH3 j h).trans (by((try simp only[wM]);(repeat first|rw[if_pos trivial]|rw[if_pos rfl]|rw[if_neg o_]));exact k2_2 j h)
         repeat' with_reducible first
          |refine s_ ?_
          |simp -implicitDefEqProofs only[wZZ,seval,g0,g1,g5,g6,g7,g29,g30,g31,g36,g37,g38,e38]
          |simp -implicitDefEqProofs (disch:=omega) only[w64,if_neg]
         refine⟨wg_,p+1,o_,?_⟩
         refine⟨(by(simp -implicitDefEqProofs only[wL,seval,e0])),(by(simp -implicitDefEqProofs only[wL,seval,e1])),(by(simp -implicitDefEqProofs only[wL,seval,e5])),(by(simp -implicitDefEqProofs only[wL,seval,e6])),(by(simp -implicitDefEqProofs only[wL,seval,e7])),(by(simp -implicitDefEqProofs only[wL,seval,e29])),(by(simp -implicitDefEqProofs only[wL,seval,e30])),(by(simp -implicitDefEqProofs only[wL,seval,e31])),(by(simp -implicitDefEqProofs only[wL,seval,e36])),(by(simp -implicitDefEqProofs only[wL,seval,e37])),rfl,o_,⟨A3,by((try simp only[wM]);(repeat first|rw[if_pos trivial]|rw[if_pos rfl]|rw[if_neg o_]));exact hA3,hC3.weak (fun y h=>?_) (fun y j h=>?_)⟩,fun j h=>by((try simp only[wM]);(repeat first|rw[if_pos trivial]|rw[if_pos rfl]|rw[if_neg o_]));exact hH4 j h⟩
         · rw[htk]at h
           rcases List.mem_append.1 h with h|h
           · exact Or.inl h
           · exact Or.inr (List.mem_singleton.1 h)
         · rw[htk]at h
           rcases List.mem_append.1 h.1 with h1|h1
           · exact⟨Or.inl h1,h.2⟩
           · exact⟨Or.inr (List.mem_singleton.1 h1),h.2⟩
     · have htk:l.take p=l:=List.take_of_length_le o_
       rw[htk]at hC2
       have hC6:=hC2.next hI (fun y hy=>(hlm y).2 hy) (fun y j hy hE=>⟨(hlm y).2 hy,hE.2.2⟩)
       repeat' with_reducible first
        |refine s_ ?_
        |simp -implicitDefEqProofs only[wZZ,seval,g0,g1,g5,g6,g7,g29,g30,g31,g36,g37,g38]
        |apply qc<;>intro h h_<;>(try simp only[wD,reduceCtorEq]at h_)<;>(try exact wb_)<;>(try simp only[h])
        |simp -implicitDefEqProofs (disch:=omega) only[w64,if_neg]
       refine⟨wg_,k+1,o_,?_⟩;(repeat refine⟨True.intro,?_⟩)
       exact⟨rfl,o_,⟨A2,by((try simp only[wM]);(repeat first|rw[if_pos trivial]|rw[if_pos rfl]|rw[if_neg o_]));exact hA2,hC6⟩,fun j h=>by((try simp only[wM]);(repeat first|rw[if_pos trivial]|rw[if_pos rfl]|rw[if_neg o_]));exact k2_2 j h⟩
   · skip
     have hkg:k=t.groups.length:=o_
     rw[hkg]at hC
     have hl0:=qG1 n (YH (qR rl) n (qR sets))
     repeat' with_reducible first
      |refine s_ ?_
      |simp -implicitDefEqProofs only[wZZ,seval,g0,g1,g5,g6,g29,g30,g31,hrl]
      |apply qc<;>intro h h_<;>(try simp only[wD,reduceCtorEq]at h_)<;>(try exact wb_)<;>(try simp only[h])
      |apply Jh;exact wf_;exact wf_;(focus(unfold maxLen;first|omega|(simp only[wZ]<;>omega)))
     rw[hl0]
     obtain ⟨oid,ho2⟩: ∃oid,oid=s.next+1+2:=⟨_,rfl⟩
     have ho1:n1+6<oid:=o_
     rw[← ho2]
     skip
     refine qf ?nx4 (fun(i:Nat) s=>s.f 5=?v4_5∧s.f 6=?v4_6∧s.f 13=?v4_13∧s.f 101=?v4_101∧s.f 102=vi i∧(i≤n)∧((s.H oid=some (.own 1 (lsC n i (YH (qR rl) n (qR sets))) false)))∧((s.H (n1+5)=some (.own 16 (xU t.groups.length A) false)))∧((∀j,j<n1→s.H j=H1 j))) (fun i=>n - i) (0) wj_ (by refine⟨?_,?_,?_,?_,?_,wo_,(by(((try simp only[wM]);(repeat first|rw[if_pos trivial]|rw[if_pos rfl]|rw[if_neg o_])))),(by(((try simp only[wM]);(repeat first|rw[if_pos trivial]|rw[if_pos rfl]|rw[if_neg o_]));exact hA)),(by(intro j h;((try simp only[wM]);(repeat first|rw[if_pos trivial]|rw[if_pos rfl]|rw[if_neg o_]));exact k1_2 j h))⟩<;>first|(simp -implicitDefEqProofs only[wL,wM,wN,wX,seval,Option.some.injEq,g0,g1,g5,g6,g29,g30,g31]<;>exact wt_)|rfl|exact⟨_,rfl⟩) ?_
     intro i s hnx ⟨g5,g6,g13,g101,g102,k4_0,k4_1,k4_2,k4_3⟩
     have W4:=W.mono (H':=s.H) (n':=n1) hD (Nat.le_refl _) k4_3
     by_cases hi:i<n
     · have ho:=hof i hi
       obtain ⟨g,hg⟩: ∃g:Nat,t.of i=g:=⟨(t.of i).toNat,o_⟩
       have hgl:=(hI.ofb i).2
       have hgl2:g<t.groups.length:=o_
       have hAg:=hC.out hI hg hgl2
       have hgo:=zh (l:=t.of) hi
       rw[hg]at hgo
       have hls:Pure Tryz.prog 58 [Zz (A g)] (jl (lst (YH (qR rl) n (qR sets) i) 1024)):=by rw[hAg];exact Vn
       repeat' with_reducible first
        |refine s_ ?_
        |simp -implicitDefEqProofs only[wZZ,seval,g5,g6,g13,g101,g102,W4.w]
        |apply qc<;>intro h h_<;>(try simp only[wD,reduceCtorEq]at h_)<;>(try exact wb_)<;>(try simp only[h])
        |apply qF;omega;omega
        |(refine ldI i W4.of o_ hgo ?_)
        |(refine qEJ g k4_2 o_ hgl2 ?_)
        |refine cq1 hls qm ?_
        |(refine qFj i k4_1 o_ hi ?_)
        |refine t_ ?_
        |simp -implicitDefEqProofs (disch:=omega) only[w64,if_neg]
       refine⟨wg_,i+1,o_,?_⟩;(repeat refine⟨True.intro,?_⟩)
       exact⟨rfl,o_,hh_,by((try simp only[wM]);(repeat first|rw[if_pos trivial]|rw[if_pos rfl]|rw[if_neg o_]));exact k4_2,fun j h=>by((try simp only[wM]);(repeat first|rw[if_pos trivial]|rw[if_pos rfl]|rw[if_neg o_]));exact k4_3 j h⟩
     · have e:i=n:=o_
       rw[e,qF1]at k4_1
       repeat' with_reducible first
        |refine s_ ?_
        |simp -implicitDefEqProofs only[wZZ,seval,g5,g6,g13,g101,g102]
        |apply qc<;>intro h h_<;>(try simp only[wD,reduceCtorEq]at h_)<;>(try exact wb_)<;>(try simp only[h])
       refine qA (t:=4) rfl (Or.inr rfl) ?_
       (simp -implicitDefEqProofs only[wL,seval])
       exact zV (ro:=false) (by((try simp only[wM]);(repeat first|rw[if_pos trivial]|rw[if_pos rfl]|rw[if_neg o_]));exact k4_1) (by simp[ofL]) (by rw[List.drop_zero];exact List.take_of_length_le (by simp[ofL]))

theorem qfh {α:Type} {H:Nat→Option MObj} {f g:α→V}: ∀{l:List α},(∀x∈l,Er true H (f x) (g x))→ErL true H (l.map f) (l.map g)
 |[],_=>.nil
 |x::l,h=>.cons (h x (by simp)) (qfh fun y hy=>h y (List.mem_cons_of_mem _ hy))
theorem qJj:Pure Tryz.prog 72 [.sl 1 false [],.fn 73 []] (.tup []):=by
 refine⟨⟨Tryz.f72,Tryz.func72,by kernel_rfl,by kernel_rfl⟩,fun w lim ra hg hra=>?_⟩
 obtain ⟨hsz,hrs⟩:=hra
 obtain ⟨r,r2,rfl⟩: ∃r r2,ra= #[r,r2]:=by
  rcases ra with ⟨l⟩
  match l,hsz with
  |[r,r2],_=>exact⟨r,r2,rfl⟩
 have h0:=hrs 0 _ r rfl rfl
 obtain ⟨a,cap,rfl⟩: ∃a cap,r=.slice a 0 cap:=by
  generalize hv:V.sl 1 false []=v at h0
  cases h0<;>cases hv
  · exact⟨_,_,rfl⟩
  · exact⟨_,_,rfl⟩
 refine(AnyF.slices_SortFunc_none {Tryz.sortL with} a cap r2 w).mono ?_
 rintro e w' ⟨rfl,rfl⟩
 exact⟨.tuple #[],rfl,RowKit.Below.refl _ _,.tup [] #[] rfl (by simp)⟩
theorem qaI {rl:List (List Int)} (hl:rl.length≤1000000) (hrk: ∀l∈rl,l.length≤1000000):Pure Tryz.prog 43 [.sl 1 false (rl.map jl)] (.sl 1 false (((if 4000<rl.length then[]else ZM (qR rl) rl.length).map xW).map jl)):=by
 refine pure_intro Tryz.func43 qDn quV (by show 1≤15;decide) ?_
 show ewp _ qg1 _ _
 by_cases hbig:4000<rl.length
 · rw[if_pos hbig]
   repeat' with_reducible first
    |refine s_ ?_
    |simp -implicitDefEqProofs only[wZZ,seval]
    |apply qc<;>intro h h_<;>(try simp only[wD,reduceCtorEq]at h_)<;>(try exact wb_)<;>(try simp only[h])
   refine qA rfl (Or.inr rfl) ?_
   simp -implicitDefEqProofs only[wL,seval]
   refine er_ ?_
   try(with_reducible rfl)
 · rw [if_neg hbig]
   obtain ⟨n,hrl⟩: ∃n,n=rl.length:=⟨_,rfl⟩
   have hrl:=hrl.symm
   rw[hrl]at hbig hl ⊢
   repeat' with_reducible first
    |refine s_ ?_
    |simp -implicitDefEqProofs only[wZZ,seval,hrl]
    |apply qc<;>intro h h_<;>(try simp only[wD,reduceCtorEq]at h_)<;>(try exact wb_)<;>(try simp only[h])
    |(refine qV rfl rfl rfl ((qAM hl hrl hrk).mono ?_);rintro v1 H1 n1 ⟨wi,ni,li,oi,lo,rfl,hD,q2,⟨sv,gv,gs,W⟩,q4⟩)
   obtain ⟨hI,hst,hof⟩:=qha (qR rl) n
   generalize ht:qcZ (qR rl) n=t at *
   by_cases h0:gs=[]
   · have hg0:t.groups.length=0:=by rw[← W.ga.ln,h0];rfl
     have hn0:n=0:=by
      rcases Nat.eq_zero_or_pos n with e|e
      · exact e
      · have:=hof 0 e
        have:=(hI.ofb 0).2
        omega
     have hge: ∀HH:Nat→Option MObj,HH=H1→Er true HH gv (.sl 1 false []):=fun HH e=>W.gr.er e h0
     repeat' with_reducible first
      |refine s_ ?_
      |simp -implicitDefEqProofs only[wZZ,seval,W.w]
      |apply qL (hp:=qJj);exact hge _ rfl;exact .fn _ _ _ rfl (fun i c c' h=>by simp at h);exact wu_;exact .tup _ (fun c h=>by simp at h)
      |refine t_ ?_
     refine qA (t:=2) rfl (Or.inr rfl) ?_
     (simp -implicitDefEqProofs only[wL,seval])
     rw[hn0]
     exact hge _ rfl
   · rcases W.gr with ⟨h1,_⟩|⟨gid,rfl,hgH,hg1,hg2⟩
     · exact absurd h1 h0
     have hgl:=W.ga.ln
     have hpl: ∀k,k<t.groups.length→ ∃id,gs[k]?=some (.msl id 1 0 (t.groups.getD k []).length)∧H1 id=some (.own 1 (ivs (xW (t.groups.getD k []))) false)∧id≠gid∧0<(t.groups.getD k []).length:=fun k hk=>by
      have hgk:t.groups[k]?=some (t.groups.getD k []):=by simp[List.getD,hk]
      obtain ⟨id,a,b,_,_,_,c⟩:=W.ga.pl k _ hgk
      exact⟨id,a,b,fun e=>c (by rw[e];rfl),List.length_pos_iff.2 (hI.grp k _ hgk).1⟩
     have hgp:0<gs.length:=List.length_pos_iff.2 h0
     have hsrt:=fun(HH:Nat→Option MObj) (nn:Nat) (e: ∀j,HH j=H1 j)=>slices_SortFunc (H:=HH) (next:=nn) (id:=gid) (key:=fun k=>hdK (t.groups.getD k [])) ((e gid).trans hgH) hgp (by have:=qaZ hI;omega) (fun i e2 he=>by
      have hi:i<t.groups.length:=by have:=(List.getElem?_eq_some_iff.1 he).1;omega
      obtain ⟨id,a,b,c,d⟩:=hpl i hi
      rw[he]at a
      refine⟨id,_,false,xW (t.groups.getD i []),Option.some.inj a,c,(e id).trans b,d,?_⟩
      cases hl:t.groups.getD i []with
      |nil=>rw[hl]at d;simp at d
      |cons x r=>simp[xW,hdK])
     repeat' with_reducible first
      |refine s_ ?_
      |simp -implicitDefEqProofs only[wZZ,seval,W.w]
      |(refine qV rfl rfl rfl ((hsrt _ _ (fun j=>by first|rfl|((try simp only[wM]);(repeat first|rw[if_pos trivial]|rw[if_pos rfl]|rw[if_neg o_])))).mono ?_);rintro v2 H2 n2 ⟨rfl,rfl,⟨p,hp1,hp2,hp3⟩,u4⟩)
      |refine t_ ?_
     refine qA (t:=2) rfl (Or.inr rfl) ?_
     (simp -implicitDefEqProofs only[wL,seval])
     have hpl2:p.length=gs.length:=by have:=hp1.length_eq;simpa using this
     rw[hgl]at hp1
     rw[← qgl hI hof hp1 hp2,List.map_map,List.map_map]
     refine qbn (ro:=false) (by((try simp only[wM]);(repeat first|rw[if_pos trivial]|rw[if_pos rfl]|rw[if_neg o_]));exact hp3) (qfh fun k hk=>?_) (by simp[hpl2])
     have hkl:=List.mem_range.1 (hp1.mem_iff.1 hk)
     obtain ⟨id,a,b,c,d⟩:=hpl k hkl
     have ea:gs.getD k .undef=.msl id 1 0 (t.groups.getD k []).length:=by rw[List.getD_eq_getElem?_getD,a];rfl
     rw[ea]
     have hb2:=(u4 id c).trans b
     exact zV (ro:=false) (by((try simp only[wM]);(repeat first|rw[if_pos trivial]|rw[if_pos rfl]|rw[if_neg o_]));exact hb2) (by simp[jd]) (by rw[List.drop_zero];exact List.take_of_length_le (by simp[jd]))
end Go.Proofs
