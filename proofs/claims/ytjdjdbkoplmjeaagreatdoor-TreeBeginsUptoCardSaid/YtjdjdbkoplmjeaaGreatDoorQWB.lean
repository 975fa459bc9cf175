/- Part of a proof that a law of the given program answers true. -/
import Derived.Test.YtjdjdbkoplmjeaaGreatDoorQWA
import Derived.Test.YtjdjdbkoplmjeaaGreatDoorQCA
import Derived.Test.YtjdjdbkoplmjeaaGreatDoorQTA
import Derived.Shelf.SlSortCmp.NoneTotal
set_option linter.unusedSimpArgs false
set_option linter.unusedVariables false
set_option maxHeartbeats 4000000
namespace Go.Proofs
open Go.E
def ofK (k:Nat):Nat→Int:=fun j=>if j<k then -1 else 0
theorem qfu (k:Nat):Jp (ofK k) k (-1)=ofK (k+1):=by
 funext j
 show (if j=k then(-1:Int)else if j<k then -1 else 0)=if j<k+1 then -1 else 0
 omega
theorem row0 (n:Nat):List.replicate n (V.int .i64 0)=ivs (xW n (fun _=>0)):=by
 refine List.ext_getElem? fun k=>?_
 by_cases h:k<n
 · rw[List.getElem?_map,je h];simp[h]
 · rw[List.getElem?_eq_none (by simp;omega),List.getElem?_eq_none (by simp[vz];omega)]
def qfm:TS:={num:=fun _=>0,low:=fun _=>0,of:=fun _=> -1,stack:=[],groups:=[],next:=0}
def qcG (rel:Nat→List Int) (n k:Nat):TS:=(List.range k).foldl (fun s i=>if s.num i=0 then Zp rel n n i s else s) qfm
theorem VX (rel:Nat→List Int) (n k:Nat):qcG rel n (k+1)=if (qcG rel n k).num k=0 then Zp rel n n k (qcG rel n k)else qcG rel n k:=by
 unfold qcG
 rw[List.range_succ,List.foldl_append];rfl
theorem qpH (rel:Nat→List Int) (n:Nat):qcG rel n n=qdc rel n:=rfl
theorem qnr (n:Nat) (s:TS):Xv n s≤n:=by
 unfold Xv
 have:=List.countP_le_length (p:=fun x=>decide (s.num x=0)) (l:=List.range n)
 rwa [List.length_range]at this
theorem qfD (rel:Nat→List Int) (n:Nat):TInv rel n (fun _=>False) qfm:=
 ⟨fun _=>⟨by show (0:Int)≤0;omega,by show (0:Int)≤_;omega⟩,fun x h=>absurd rfl h,fun x _ h=>absurd rfl h,fun _ _=>rfl,fun _=>⟨by show (-1:Int)≤ -1;omega,by show (-1:Int)<_;omega⟩,fun x=>by simp[qfm],List.Pairwise.nil,fun x h=>h.elim,fun x _ h=>absurd rfl h,fun x _ h=>by simp[qfm]at h,fun x y h=>by simp[qfm]at h,fun y h=>by simp[qfm]at h,fun x h=>by simp[qfm]at h,fun k l h=>by simp[qfm]at h⟩
theorem qbP (rel:Nat→List Int) (n:Nat): ∀k,k≤n→TInv rel n (fun _=>False) (qcG rel n k)∧BdT n (qcG rel n k)
 |0,_=>⟨qfD rel n,by have:=qnr n qfm;show 0+_≤n;unfold qcG;simpa using this⟩
 | k +1,hk=>by
   obtain ⟨a,b⟩:=qbP rel n k o_
   rw[VX]
   split
   · rename_i h0
     exact⟨(Yx rel n n k _ _ h0 o_ (qnr n _) a (fun g h=>h.elim)).1,qeM rel n n k _ o_ h0 b⟩
   · exact⟨a,b⟩
abbrev qFx (H:Nat→Option MObj) (next n:Nat) (rl:List (List Int)):V→(Nat→Option MObj)→Nat→Prop:=fun v H' n'=>
 ∃wi ni li oi lo,v=.ptr wi 0 0∧WD wi ni li oi lo∧(next≤wi∧next≤ni∧next≤li∧next≤oi∧next≤lo)∧WAt H' n' wi ni li oi lo n rl (qdc (yH rl) n)∧ ∀j,j<next→H' j=H j
theorem qH8 {H:Nat→Option MObj} {next n:Nat} {rl:List (List Int)} (hn:n≤1000000) (hrl:rl.length=n) (hrk: ∀l∈rl,l.length≤1000000):qJ Tryz.prog 71 [.sl 1 false (rl.map Xm)] H next (qFx H next n rl):=by
 refine qF Tryz.func71 nm_ qpk (by show 1≤48;decide) ?_
 show ewp _ qhI _ _
 repeat' with_reducible first
  |refine s_ ?_
  |simp -implicitDefEqProofs only[wZZ,seval,hrl]
  |refine t_ ?_
  |apply qat;exact wf_;exact wf_;(focus(unfold maxLen;first|omega|(simp only[wZ]<;>omega)))
 have hD:WD (next+1+11) (next+1+3) (next+1+6) (next+1+9) (next+14):=⟨o_,o_⟩
 refine qb ?nx1 (fun(k:Nat) s=>s.f 0=?v1_0∧s.f 3=?v1_3∧s.f 19=?v1_19∧s.f 20=vi k∧(k≤n)∧((s.H (next+1+11)=some (.own 7 [wkV rl (next+1+3) (next+1+6) (next+1+9) n (.sl 1 true []) (.sl 1 true []) 0] false)))∧((s.H (next+1+3)=some (.own 1 (ivs (xW n (fun _=>0))) false)))∧((s.H (next+1+6)=some (.own 1 (ivs (xW n (fun _=>0))) false)))∧((s.H (next+1+9)=some (.own 1 (ivs (xW n (ofK k))) false)))∧((∀j,j<next→s.H j=H j))) (fun k=>n - k) (0) wj_ (by refine⟨?_,?_,?_,?_,wo_,(by((simp only[wM];(repeat first|rw[if_pos trivial]|rw[if_pos rfl]|rw[if_neg o_]));rfl)),(by((simp only[wM];(repeat first|rw[if_pos trivial]|rw[if_pos rfl]|rw[if_neg o_]));rw[row0])),(by((simp only[wM];(repeat first|rw[if_pos trivial]|rw[if_pos rfl]|rw[if_neg o_]));rw[row0])),(by((simp only[wM];(repeat first|rw[if_pos trivial]|rw[if_pos rfl]|rw[if_neg o_]));rw[row0];rfl)),(by(intro j h;(simp only[wM];(repeat first|rw[if_pos trivial]|rw[if_pos rfl]|rw[if_neg o_]))))⟩<;>first|(simp -implicitDefEqProofs only[wL,wM,wN,wX,seval,Option.some.injEq]<;>exact wt_)|rfl|exact⟨_,rfl⟩) ?_
 intro k s hnx ⟨g0,g3,g19,g20,k1_0,k1_1,k1_2,k1_3,k1_4,k1_5⟩
 by_cases hk:k<n
 · repeat' with_reducible first
    |refine s_ ?_
    |simp -implicitDefEqProofs only[wZZ,seval,g0,g3,g19,g20,k1_1]
    |apply qa<;>intro h h_<;>(try simp only[wD,reduceCtorEq]at h_)<;>(try exact wb_)<;>(try simp only[h])
    |apply zm;omega;omega
    |(refine stI k k1_4 o_ hk ?_)
    |refine t_ ?_
    |simp -implicitDefEqProofs (disch:=omega) only[w64,if_neg]
   refine⟨wg_,k+1,o_,?_⟩;(repeat refine⟨True.intro,?_⟩)
   exact⟨rfl,o_,by((try simp only[wM]);(repeat first|rw[if_pos trivial]|rw[if_pos rfl]|rw[if_neg o_]));(try exact k1_1),by((try simp only[wM]);(repeat first|rw[if_pos trivial]|rw[if_pos rfl]|rw[if_neg o_]));(try exact k1_2),by((try simp only[wM]);(repeat first|rw[if_pos trivial]|rw[if_pos rfl]|rw[if_neg o_]));(try exact k1_3),by((try simp only[wM]);(repeat first|rw[if_pos trivial]|rw[if_pos rfl]|rw[if_neg o_]));(try rw[qfu]),fun j h=>by((try simp only[wM]);(repeat first|rw[if_pos trivial]|rw[if_pos rfl]|rw[if_neg o_]));(try exact k1_5 j h)⟩
 · have hkn:xW n (ofK k)=xW n (fun _=>(-1:Int)):=XW fun j hj=>if_pos o_
   rw[hkn]at k1_4
   have W0:WIn s.H s.next (next+1+11) (next+1+3) (next+1+6) (next+1+9) (next+14) n rl (qcG (yH rl) n 0) (.sl 1 true []) (.sl 1 true []) []:=⟨k1_1,k1_2,k1_3,k1_4,Or.inl ⟨rfl,rfl⟩,Or.inl ⟨rfl,rfl⟩,⟨rfl,fun k l h=>by simp[qcG,qfm]at h⟩,fun j h=>(by cases h),o_⟩
   repeat' with_reducible first
    |refine s_ ?_
    |simp -implicitDefEqProofs only[wZZ,seval,g0,g3,g19,g20,hrl]
    |apply qa<;>intro h h_<;>(try simp only[wD,reduceCtorEq]at h_)<;>(try exact wb_)<;>(try simp only[h])
   refine qb ?nx2 (fun(i:Nat) s=>s.f 3=?v2_3∧s.f 31=?v2_31∧s.f 32=vi i∧(i≤n)∧((∃sv gv gs,WIn s.H s.next (next+1+11) (next+1+3) (next+1+6) (next+1+9) (next+14) n rl (qcG (yH rl) n i) sv gv gs))∧((∀j,j<next→s.H j=H j))) (fun i=>n - i) (0) wj_ (by refine⟨?_,?_,?_,wo_,(by(exact⟨_,_,_,WIn.mono W0 hD wg_ (fun j _=>by(simp only[wM];(repeat first|rw[if_pos trivial]|rw[if_pos rfl]|rw[if_neg o_])))⟩)),(by(intro j h;(simp only[wM];(repeat first|rw[if_pos trivial]|rw[if_pos rfl]|rw[if_neg o_]));exact k1_5 j h))⟩<;>first|(simp -implicitDefEqProofs only[wL,wM,wN,wX,seval,Option.some.injEq,g0,g3,g19,g20]<;>exact wt_)|rfl|exact⟨_,rfl⟩) ?_
   intro i s hnx ⟨g3,g31,g32,k2_0,k2_1,k2_2⟩
   obtain ⟨sv1,gv1,gs1,W1⟩:=k2_1
   by_cases hi:i<n
   · obtain ⟨hinv,hbd⟩:=qbP (yH rl) n i o_
     have hts:=VX (yH rl) n i
     generalize qcG (yH rl) n i=t at *
     have gni:=je (l:=t.num) hi
     by_cases h0:t.num i=0
     · rw[if_pos h0]at hts
       have hrec:=fun HH nn W=>qfg hD hn hrl hrk n HH nn i t (fun _=>False) h0 hi (qnr n t) hbd hinv (fun g h=>h.elim) W
       repeat' with_reducible first
        |refine s_ ?_
        |simp -implicitDefEqProofs only[wZZ,seval,g3,g31,g32,W1.w]
        |apply qa<;>intro h h_<;>(try simp only[wD,reduceCtorEq]at h_)<;>(try exact wb_)<;>(try simp only[h])
        |apply zm;omega;omega
        |(refine ldI i W1.nu o_ gni ?_)
        |(refine qI rfl rfl rfl ((hrec _ _ ⟨_,_,_,WIn.mono W1 hD wg_ (fun j _=>hh_)⟩).mono ?_);rintro v1 H1 n1 ⟨rfl,q1,⟨sv2,gv2,gs2,W2⟩,q3⟩;(try simp only[wN]at q1);(try simp only[wN]at q3))
        |refine t_ ?_
        |simp -implicitDefEqProofs (disch:=omega) only[w64,if_neg]
       refine⟨wg_,i+1,o_,?_⟩;(repeat refine⟨True.intro,?_⟩)
       exact⟨rfl,o_,⟨_,_,_,by rw[hts];exact WIn.mono W2 hD wg_ (fun j _=>hh_)⟩,fun j h=>by((try simp only[wM]);(repeat first|rw[if_pos trivial]|rw[if_pos rfl]|rw[if_neg o_]));rw[q3 j o_ o_ o_ o_ o_];((try simp only[wM]);(repeat first|rw[if_pos trivial]|rw[if_pos rfl]|rw[if_neg o_]));(try exact k2_2 j h)⟩
     · rw[if_neg h0]at hts
       repeat' with_reducible first
        |refine s_ ?_
        |simp -implicitDefEqProofs only[wZZ,seval,g3,g31,g32,W1.w]
        |apply qa<;>intro h h_<;>(try simp only[wD,reduceCtorEq]at h_)<;>(try exact wb_)<;>(try simp only[h])
        |apply zm;omega;omega
        |(refine ldI i W1.nu o_ gni ?_)
        |refine t_ ?_
        |simp -implicitDefEqProofs (disch:=omega) only[w64,if_neg]
       refine⟨wg_,i+1,o_,?_⟩;(repeat refine⟨True.intro,?_⟩)
       exact⟨rfl,o_,⟨_,_,_,by rw[hts];exact WIn.mono W1 hD wg_ (fun j _=>hh_)⟩,fun j h=>by((try simp only[wM]);(repeat first|rw[if_pos trivial]|rw[if_pos rfl]|rw[if_neg o_]));(try exact k2_2 j h)⟩
   · rw[show i=n by omega,qpH]at W1
     repeat' with_reducible first
      |refine s_ ?_
      |simp -implicitDefEqProofs only[wZZ,seval,g3,g31,g32]
      |apply qa<;>intro h h_<;>(try simp only[wD,reduceCtorEq]at h_)<;>(try exact wb_)<;>(try simp only[h])
     refine yt rfl (Or.inr rfl) ⟨next+1+11,next+1+3,next+1+6,next+1+9,next+14,?_,hD,o_,⟨_,_,_,WIn.mono W1 hD wg_ (fun j _=>hh_)⟩,fun j h=>by((try simp only[wM]);(repeat first|rw[if_pos trivial]|rw[if_pos rfl]|rw[if_neg o_]));(try exact k2_2 j h)⟩
     (simp -implicitDefEqProofs only[wL,seval])

def vC (n:Nat) (S:Nat→Nat→Bool):List V:=(List.range n).map fun k=>kJ (S k)
theorem xO (n:Nat) (S:Nat→Nat→Bool):(vC n S).length=n:=by simp[vC]
theorem yQ {n k:Nat} {S:Nat→Nat→Bool} (h:k<n):(vC n S)[k]?=some (kJ (S k)):=by simp[vC,h]
theorem qne:V.agg [.int .u64 0,.int .u64 0,.int .u64 0,.int .u64 0,.int .u64 0,.int .u64 0,.int .u64 0,.int .u64 0,.int .u64 0,.int .u64 0,.int .u64 0,.int .u64 0,.int .u64 0,.int .u64 0,.int .u64 0,.int .u64 0]=kJ (fun _=>false):=by
 show V.agg _=V.agg (zl _)
 rw[vI]
theorem qF5 (n:Nat):List.replicate n (V.agg [.int .u64 0,.int .u64 0,.int .u64 0,.int .u64 0,.int .u64 0,.int .u64 0,.int .u64 0,.int .u64 0,.int .u64 0,.int .u64 0,.int .u64 0,.int .u64 0,.int .u64 0,.int .u64 0,.int .u64 0,.int .u64 0])=vC n (fun _ _=>false):=by
 rw[qne]
 refine List.ext_getElem? fun i=>?_
 by_cases h:i<n
 · rw[yQ h];simp[h]
 · rw[List.getElem?_eq_none (by simp;omega),List.getElem?_eq_none (by rw[xO];omega)]
theorem ldS {K:V→Prop} {nn k:Nat} {S:Nat→Nat→Bool} {ro:Bool} (h:k<nn) (hk:K (kJ (S k))):onS (ldQ (some (.own 16 (vC nn S) ro)) true 16 k 0) K:=by
 have e:ldQ (some (.own 16 (vC nn S) ro)) true 16 k 0=some (kJ (S k)):=by simp[ldQ,yQ h,jv,V.isAgg]
 rw[e];exact hk

theorem qez {α:Type} {H:Nat→Option MObj} {f g:α→V}: ∀{l:List α},(∀x∈l,Er true H (f x) (g x))→ErL true H (l.map f) (l.map g)
 |[],_=>.nil
 |x::l,h=>.cons (h x (by simp)) (qez fun y hy=>h y (List.mem_cons_of_mem _ hy))
theorem qHF:Pure Tryz.prog 72 [.sl 1 false [],.fn 73 []] (.tup []):=by
 refine⟨⟨Tryz.f72,Tryz.func72,by kernel_rfl,by kernel_rfl⟩,fun w lim ra hg hra=>?_⟩
 obtain ⟨hsz,hrs⟩:=hra
 obtain ⟨r,r2,rfl⟩: ∃r r2,ra= #[r,r2]:=by
  rcases ra with ⟨l⟩
  match l,hsz with
  |[r,r2],_=>exact⟨r,r2,rfl⟩
 have h0:=hrs 0 _ r rfl rfl
 obtain ⟨a,cap,rfl⟩: ∃a cap,r=.slice a 0 cap:=by
  generalize hv:V.sl 1 false []=v at h0
  cases h0<;>cases hv
  · exact⟨_,_,rfl⟩
  · exact⟨_,_,rfl⟩
 refine(AnyF.slices_SortFunc_none {Tryz.sortL with} a cap r2 w).mono ?_
 rintro e w' ⟨rfl,rfl⟩
 exact⟨.tuple #[],rfl,RowKit.Below.refl _ _,.tup [] #[] rfl (by simp)⟩
theorem qa8 {rl:List (List Int)} (hl:rl.length≤1000000) (hrk: ∀l∈rl,l.length≤1000000):Pure Tryz.prog 43 [.sl 1 false (rl.map Xm)] (.sl 1 false (((if 4000<rl.length then[]else Zt (yH rl) rl.length).map yx).map Xm)):=by
 refine pure_intro Tryz.func43 nm_ qyc (by show 1≤15;decide) ?_
 show ewp _ qhL _ _
 by_cases hbig:4000<rl.length
 · rw[if_pos hbig]
   repeat' with_reducible first
    |refine s_ ?_
    |simp -implicitDefEqProofs only[wZZ,seval]
    |apply qa<;>intro h h_<;>(try simp only[wD,reduceCtorEq]at h_)<;>(try exact wb_)<;>(try simp only[h])
   refine qD rfl (Or.inr rfl) ?_
   simp -implicitDefEqProofs only[wL,seval]
   refine er_ ?_
   try(with_reducible rfl)
 · rw [if_neg hbig]
   obtain ⟨n,hrl⟩: ∃n,n=rl.length:=⟨_,rfl⟩
   have hrl:=hrl.symm
   rw[hrl]at hbig hl ⊢
   repeat' with_reducible first
    |refine s_ ?_
    |simp -implicitDefEqProofs only[wZZ,seval,hrl]
    |apply qa<;>intro h h_<;>(try simp only[wD,reduceCtorEq]at h_)<;>(try exact wb_)<;>(try simp only[h])
    |(refine qI rfl rfl rfl ((qH8 hl hrl hrk).mono ?_);rintro v1 H1 n1 ⟨wi,ni,li,oi,lo,rfl,hD,q2,⟨sv,gv,gs,W⟩,q4⟩)
   obtain ⟨hI,hst,hof⟩:=qCq (yH rl) n
   generalize ht:qdc (yH rl) n=t at *
   by_cases h0:gs=[]
   · have hg0:t.groups.length=0:=by rw[← W.ga.ln,h0];rfl
     have hn0:n=0:=by
      rcases Nat.eq_zero_or_pos n with e|e
      · exact e
      · have:=hof 0 e
        have:=(hI.ofb 0).2
        omega
     have hge: ∀HH:Nat→Option MObj,HH=H1→Er true HH gv (.sl 1 false []):=fun HH e=>W.gr.er e h0
     repeat' with_reducible first
      |refine s_ ?_
      |simp -implicitDefEqProofs only[wZZ,seval,W.w]
      |apply qW (hp:=qHF);exact hge _ rfl;exact .fn _ _ _ rfl (fun i c c' h=>by simp at h);exact wu_;exact .tup _ (fun c h=>by simp at h)
      |refine t_ ?_
     refine qD (t:=2) rfl (Or.inr rfl) ?_
     (simp -implicitDefEqProofs only[wL,seval])
     rw[hn0]
     exact hge _ rfl
   · rcases W.gr with ⟨h1,_⟩|⟨gid,rfl,hgH,hg1,hg2⟩
     · exact absurd h1 h0
     have hgl:=W.ga.ln
     have hpl: ∀k,k<t.groups.length→ ∃id,gs[k]?=some (.msl id 1 0 (t.groups.getD k []).length)∧H1 id=some (.own 1 (ivs (yx (t.groups.getD k []))) false)∧id≠gid∧0<(t.groups.getD k []).length:=fun k hk=>by
      have hgk:t.groups[k]?=some (t.groups.getD k []):=by simp[List.getD,hk]
      obtain ⟨id,a,b,_,_,_,c⟩:=W.ga.pl k _ hgk
      exact⟨id,a,b,fun e=>c (by rw[e];rfl),List.length_pos_iff.2 (hI.grp k _ hgk).1⟩
     have hgp:0<gs.length:=List.length_pos_iff.2 h0
     have hsrt:=fun(HH:Nat→Option MObj) (nn:Nat) (e: ∀j,HH j=H1 j)=>slices_SortFunc (H:=HH) (next:=nn) (id:=gid) (key:=fun k=>hdK (t.groups.getD k [])) ((e gid).trans hgH) hgp (by have:=qeh hI;omega) (fun i e2 he=>by
      have hi:i<t.groups.length:=by have:=(List.getElem?_eq_some_iff.1 he).1;omega
      obtain ⟨id,a,b,c,d⟩:=hpl i hi
      rw[he]at a
      refine⟨id,_,false,yx (t.groups.getD i []),Option.some.inj a,c,(e id).trans b,d,?_⟩
      cases hl:t.groups.getD i []with
      |nil=>rw[hl]at d;simp at d
      |cons x r=>simp[yx,hdK])
     repeat' with_reducible first
      |refine s_ ?_
      |simp -implicitDefEqProofs only[wZZ,seval,W.w]
      |(refine qI rfl rfl rfl ((hsrt _ _ (fun j=>by first|rfl|((try simp only[wM]);(repeat first|rw[if_pos trivial]|rw[if_pos rfl]|rw[if_neg o_])))).mono ?_);rintro v2 H2 n2 ⟨rfl,rfl,⟨p,hp1,hp2,hp3⟩,u4⟩)
      |refine t_ ?_
     refine qD (t:=2) rfl (Or.inr rfl) ?_
     (simp -implicitDefEqProofs only[wL,seval])
     have hpl2:p.length=gs.length:=by have:=hp1.length_eq;simpa using this
     rw[hgl]at hp1
     rw[← qfH hI hof hp1 hp2,List.map_map,List.map_map]
     refine qe6 (ro:=false) (by((try simp only[wM]);(repeat first|rw[if_pos trivial]|rw[if_pos rfl]|rw[if_neg o_]));exact hp3) (qez fun k hk=>?_) (by simp[hpl2])
     have hkl:=List.mem_range.1 (hp1.mem_iff.1 hk)
     obtain ⟨id,a,b,c,d⟩:=hpl k hkl
     have ea:gs.getD k .undef=.msl id 1 0 (t.groups.getD k []).length:=by rw[List.getD_eq_getElem?_getD,a];rfl
     rw[ea]
     have hb2:=(u4 id c).trans b
     exact zX (ro:=false) (by((try simp only[wM]);(repeat first|rw[if_pos trivial]|rw[if_pos rfl]|rw[if_neg o_]));exact hb2) (by simp[jd]) (by rw[List.drop_zero];exact List.take_of_length_le (by simp[jd]))
end Go.Proofs
