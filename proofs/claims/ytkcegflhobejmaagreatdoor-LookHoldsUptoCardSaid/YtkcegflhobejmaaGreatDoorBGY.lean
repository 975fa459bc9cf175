import Derived.Test.YtkcegflhobejmaaGreatDoorBGX
import Derived.Test.YtkcegflhobejmaaGreatDoorBZA
set_option linter.all false
set_option maxRecDepth 20000
set_option maxHeartbeats 4000000
namespace Go.Proofs
open Go.E
def ofK(k:Nat):Nat->Int:=λj=>if j<k then -1 else 0
theorem qlg(k:Nat):Yq (ofK k) k (-1)=ofK (k+1):=by
 funext j
 show (if j=k then(-1:Int)else if j<k then -1 else 0)=if j<k+1 then -1 else 0;omega
theorem row0(n:Nat):List.replicate n (V.int .i64 0)=ivs (J7 n (λ_=>0)):=by
 refine List.ext_getElem? λk=>?_;by_cases h:k<n
 . rw[List.getElem?_map,jv h];simp[h]
 . rw[List.getElem?_eq_none so_,List.getElem?_eq_none (by simp[Q9];omega)]
def qjJ:TS:={num:=λ_=>0,low:=λ_=>0,of:=λ_=> -1,stack:=[],groups:=[],next:=0}
def qfH(rel:Nat->List Int)(n k:Nat):TS:=(List.range k).foldl (λs i=>if s.num i=0 then JY rel n n i s else s) qjJ
theorem qb7(rel:Nat->List Int)(n k:Nat):qfH rel n (k+1)=if (qfH rel n k).num k=0 then JY rel n n k (qfH rel n k)else qfH rel n k:=by unfold qfH;rw[List.range_succ,List.foldl_append];rfl
theorem quz(rel:Nat->List Int)(n:Nat):qfH rel n n=qgo rel n:=rfl
theorem qpq(n:Nat)(s:TS):VL n s<=n:=by unfold VL;have:=List.countP_le_length (p:=λx=>decide (s.num x=0)) (l:=List.range n);rwa [List.length_range]at this
theorem qks(rel:Nat->List Int)(n:Nat):TInv rel n (λ_=>False) qjJ:=
 ⟨λ_=>⟨by show (0:Int)<=0;omega,by show (0:Int)<=_;omega⟩,λx h=>absurd rfl h,λx _ h=>absurd rfl h,λ_ _=>rfl,λ_=>⟨by show (-1:Int)<= -1;omega,by show (-1:Int)<_;omega⟩,λx=>by simp[qjJ],List.Pairwise.nil,λx h=>h.elim,λx _ h=>absurd rfl h,λx _ h=>by simp[qjJ]at h,λx y h=>by simp[qjJ]at h,λy h=>by simp[qjJ]at h,λx h=>by simp[qjJ]at h,λk l h=>by simp[qjJ]at h⟩
theorem qey(rel:Nat->List Int)(n:Nat):∀k,k<=n->TInv rel n (λ_=>False) (qfH rel n k)/\BdT n (qfH rel n k)
 |0,_=>⟨qks rel n,by have:=qpq n qjJ;show 0+_<=n;unfold qfH;simpa using this⟩
 | k +1,hk=>by
   obtain ⟨a,b⟩:=qey rel n k o_;rw[qb7];split
   . rename_i h0;exact⟨(qa6 rel n n k _ _ h0 o_ (qpq n _) a (λg h=>h.elim)).1,qiM rel n n k _ o_ h0 b⟩
   . exact⟨a,b⟩
abbrev qyD(H:Nat->Option MObj)(next n:Nat)(rl:List (List Int)):V->(Nat->Option MObj)->Nat->Prop:=λv H' n'=>
 ∃wi ni li oi lo,v=.ptr wi 0 0/\WD wi ni li oi lo/\(next<=wi/\next<=ni/\next<=li/\next<=oi/\next<=lo)/\WAt H' n' wi ni li oi lo n rl (qgo (zI rl) n)/\∀j,j<next->H' j=H j
variable {n:Nat} {rl:List (List Int)}
theorem qyl{H:Nat->Option MObj}{next:Nat}(hn:n<=1000000)(hrl:rl.length=n)(hrk:∀l∈rl,l.length<=1000000):zh Tryz.prog 75 [.sl 1 false (rl.map zS)] H next (qyD H next n rl):=by
 refine zb Tryz.func75 nm_ qr4 (by show 1<=48;decide) ?_
 show ewp _ qrN _ _;repeat' with_reducible first|refine s_ ?_|simp -implicitDefEqProofs only[wZZ,seval,hrl]|refine t_ ?_|apply V5;exact wf_;exact wf_;(focus(unfold maxLen;first|omega|(simp only[wZ]<;>omega)))
 have hD:WD (next+1+11) (next+1+3) (next+1+6) (next+1+9) (next+14):=⟨o_,o_⟩;refine qb ?nx1 (λ(k:Nat) s=>s.f 0=?v1_0/\s.f 3=?v1_3/\s.f 19=?v1_19/\s.f 20=vi k/\(k<=n)/\((s.H (next+1+11)=some (.own 7 [wkV rl (next+1+3) (next+1+6) (next+1+9) n (.sl 1 true []) (.sl 1 true []) 0] false)))/\((s.H (next+1+3)=some (.own 1 (ivs (J7 n (λ_=>0))) false)))/\((s.H (next+1+6)=some (.own 1 (ivs (J7 n (λ_=>0))) false)))/\((s.H (next+1+9)=some (.own 1 (ivs (J7 n (ofK k))) false)))/\((∀j,j<next->s.H j=H j))) (λk=>n - k) (0) wj_ (by refine⟨?_,?_,?_,?_,wo_,(by((simp only[wM];(repeat first|rw[if_pos trivial]|rw[if_pos rfl]|rw[if_neg o_]));rfl)),(by((simp only[wM];(repeat first|rw[if_pos trivial]|rw[if_pos rfl]|rw[if_neg o_]));rw[row0])),(by((simp only[wM];(repeat first|rw[if_pos trivial]|rw[if_pos rfl]|rw[if_neg o_]));rw[row0])),(by((simp only[wM];(repeat first|rw[if_pos trivial]|rw[if_pos rfl]|rw[if_neg o_]));rw[row0];rfl)),(by(intro j h;(simp only[wM];(repeat first|rw[if_pos trivial]|rw[if_pos rfl]|rw[if_neg o_]))))⟩<;>first|(simp -implicitDefEqProofs only[wL,wM,wN,wX,seval,Option.some.injEq]<;>exact wt_)|rfl|exact⟨_,rfl⟩) ?_;intro k s hnx ⟨g0,g3,g19,g20,k1_0,k1_1,k1_2,k1_3,k1_4,k1_5⟩;by_cases hk:k<n
 . repeat' with_reducible first|refine s_ ?_|simp -implicitDefEqProofs only[wZZ,seval,g0,g3,g19,g20,k1_1]|apply qa<;>intro h h_<;>(try simp only[wD,reduceCtorEq]at h_)<;>(try exact wb_)<;>(try simp only[h])|apply qZ;omega;omega|(refine stI k k1_4 o_ hk ?_)|refine t_ ?_|simp -implicitDefEqProofs (disch:=omega) only[w64,if_neg]
   refine⟨wg_,k+1,o_,?_⟩;(repeat refine⟨True.intro,?_⟩);exact⟨rfl,o_,by((try simp only[wM]);(repeat first|rw[if_pos trivial]|rw[if_pos rfl]|rw[if_neg o_]));(try exact k1_1),by((try simp only[wM]);(repeat first|rw[if_pos trivial]|rw[if_pos rfl]|rw[if_neg o_]));(try exact k1_2),by((try simp only[wM]);(repeat first|rw[if_pos trivial]|rw[if_pos rfl]|rw[if_neg o_]));(try exact k1_3),by((try simp only[wM]);(repeat first|rw[if_pos trivial]|rw[if_pos rfl]|rw[if_neg o_]));(try rw[qlg]),λj h=>by((try simp only[wM]);(repeat first|rw[if_pos trivial]|rw[if_pos rfl]|rw[if_neg o_]));(try exact k1_5 j h)⟩
 . have hkn:J7 n (ofK k)=J7 n (λ_=>(-1:Int)):=qfQ λj hj=>if_pos o_;rw[hkn]at k1_4;have W0:WIn s.H s.next (next+1+11) (next+1+3) (next+1+6) (next+1+9) (next+14) n rl (qfH (zI rl) n 0) (.sl 1 true []) (.sl 1 true []) []:=⟨k1_1,k1_2,k1_3,k1_4,Or.inl ⟨rfl,rfl⟩,Or.inl ⟨rfl,rfl⟩,⟨rfl,λk l h=>by simp[qfH,qjJ]at h⟩,λj h=>(by cases h),o_⟩;repeat' with_reducible first|refine s_ ?_|simp -implicitDefEqProofs only[wZZ,seval,g0,g3,g19,g20,hrl]|apply qa<;>intro h h_<;>(try simp only[wD,reduceCtorEq]at h_)<;>(try exact wb_)<;>(try simp only[h])
   refine qb ?nx2 (λ(i:Nat) s=>s.f 3=?v2_3/\s.f 31=?v2_31/\s.f 32=vi i/\(i<=n)/\((∃sv gv gs,WIn s.H s.next (next+1+11) (next+1+3) (next+1+6) (next+1+9) (next+14) n rl (qfH (zI rl) n i) sv gv gs))/\((∀j,j<next->s.H j=H j))) (λi=>n - i) (0) wj_ (by refine⟨?_,?_,?_,wo_,(by(exact⟨_,_,_,WIn.mono W0 hD wg_ (λj _=>by(simp only[wM];(repeat first|rw[if_pos trivial]|rw[if_pos rfl]|rw[if_neg o_])))⟩)),(by(intro j h;(simp only[wM];(repeat first|rw[if_pos trivial]|rw[if_pos rfl]|rw[if_neg o_]));exact k1_5 j h))⟩<;>first|(simp -implicitDefEqProofs only[wL,wM,wN,wX,seval,Option.some.injEq,g0,g3,g19,g20]<;>exact wt_)|rfl|exact⟨_,rfl⟩) ?_;intro i s hnx ⟨g3,g31,g32,k2_0,k2_1,k2_2⟩;obtain ⟨sv1,gv1,gs1,W1⟩:=k2_1;by_cases hi:i<n
   . obtain ⟨hinv,hbd⟩:=qey (zI rl) n i o_;have hts:=qb7 (zI rl) n i;generalize qfH (zI rl) n i=t at *;have gni:=jv (l:=t.num) hi;by_cases h0:t.num i=0
     . rw[if_pos h0]at hts;have hrec:=λHH nn W=>qg8 hD hn hrl hrk n HH nn i t (λ_=>False) h0 hi (qpq n t) hbd hinv (λg h=>h.elim) W;repeat' with_reducible first|refine s_ ?_|simp -implicitDefEqProofs only[wZZ,seval,g3,g31,g32,W1.w]|apply qa<;>intro h h_<;>(try simp only[wD,reduceCtorEq]at h_)<;>(try exact wb_)<;>(try simp only[h])|apply qZ;omega;omega|(refine ldI i W1.nu o_ gni ?_)|(refine qR rfl rfl rfl ((hrec _ _ ⟨_,_,_,WIn.mono W1 hD wg_ (λj _=>hh_)⟩).mono ?_);rintro v1 H1 n1 ⟨rfl,q1,⟨sv2,gv2,gs2,W2⟩,q3⟩;(try simp only[wN]at q1);(try simp only[wN]at q3))|refine t_ ?_|simp -implicitDefEqProofs (disch:=omega) only[w64,if_neg]
       refine⟨wg_,i+1,o_,?_⟩;(repeat refine⟨True.intro,?_⟩);exact⟨rfl,o_,⟨_,_,_,by rw[hts];exact WIn.mono W2 hD wg_ (λj _=>hh_)⟩,λj h=>by((try simp only[wM]);(repeat first|rw[if_pos trivial]|rw[if_pos rfl]|rw[if_neg o_]));rw[q3 j o_ o_ o_ o_ o_];((try simp only[wM]);(repeat first|rw[if_pos trivial]|rw[if_pos rfl]|rw[if_neg o_]));(try exact k2_2 j h)⟩
     . rw[if_neg h0]at hts;repeat' with_reducible first|refine s_ ?_|simp -implicitDefEqProofs only[wZZ,seval,g3,g31,g32,W1.w]|apply qa<;>intro h h_<;>(try simp only[wD,reduceCtorEq]at h_)<;>(try exact wb_)<;>(try simp only[h])|apply qZ;omega;omega|(refine ldI i W1.nu o_ gni ?_)|refine t_ ?_|simp -implicitDefEqProofs (disch:=omega) only[w64,if_neg]
       refine⟨wg_,i+1,o_,?_⟩;(repeat refine⟨True.intro,?_⟩);exact⟨rfl,o_,⟨_,_,_,by rw[hts];exact WIn.mono W1 hD wg_ (λj _=>hh_)⟩,λj h=>by((try simp only[wM]);(repeat first|rw[if_pos trivial]|rw[if_pos rfl]|rw[if_neg o_]));(try exact k2_2 j h)⟩
   . rw[show i=n by omega,quz]at W1;repeat' with_reducible first|refine s_ ?_|simp -implicitDefEqProofs only[wZZ,seval,g3,g31,g32]|apply qa<;>intro h h_<;>(try simp only[wD,reduceCtorEq]at h_)<;>(try exact wb_)<;>(try simp only[h])
     refine JU rfl (Or.inr rfl) ⟨next+1+11,next+1+3,next+1+6,next+1+9,next+14,?_,hD,o_,⟨_,_,_,WIn.mono W1 hD wg_ (λj _=>hh_)⟩,λj h=>by((try simp only[wM]);(repeat first|rw[if_pos trivial]|rw[if_pos rfl]|rw[if_neg o_]));(try exact k2_2 j h)⟩;(simp -implicitDefEqProofs only[wL,seval])

def yO(n:Nat)(S:Nat->Nat->Bool):List V:=(List.range n).map λk=>Yd (S k)
theorem QT(n:Nat)(S:Nat->Nat->Bool):(yO n S).length=n:=by simp[yO]
variable {k:Nat} {S:Nat->Nat->Bool}
theorem Q7(h:k<n):(yO n S)[k]?=some (Yd (S k)):=by simp[yO,h]
theorem qjx{v:Nat->Bool}(h:k<n):(yO n S).set k (Yd v)=yO n (qfG S k v):=by
 refine List.ext_getElem? λi=>?_;rw[List.getElem?_set];by_cases hi:i<n
 . rw[Q7 hi,QT,Q7 hi];by_cases e:k=i
   . subst e;simp[hi,qfG]
   . simp[e,qfG,Ne.symm e]
 . rw[List.getElem?_eq_none (by rw[QT];omega),List.getElem?_eq_none (by rw[QT];omega)];rw[QT];simp;omega
theorem qrS:V.agg [.int .u64 0,.int .u64 0,.int .u64 0,.int .u64 0,.int .u64 0,.int .u64 0,.int .u64 0,.int .u64 0,.int .u64 0,.int .u64 0,.int .u64 0,.int .u64 0,.int .u64 0,.int .u64 0,.int .u64 0,.int .u64 0]=Yd (λ_=>false):=by show V.agg _=V.agg (jP _);rw[Jf]
theorem qyu(n:Nat):List.replicate n (V.agg [.int .u64 0,.int .u64 0,.int .u64 0,.int .u64 0,.int .u64 0,.int .u64 0,.int .u64 0,.int .u64 0,.int .u64 0,.int .u64 0,.int .u64 0,.int .u64 0,.int .u64 0,.int .u64 0,.int .u64 0,.int .u64 0])=yO n (λ_ _=>false):=by
 rw[qrS];refine List.ext_getElem? λi=>?_;by_cases h:i<n
 . rw[Q7 h];simp[h]
 . rw[List.getElem?_eq_none so_,List.getElem?_eq_none (by rw[QT];omega)]
variable {nn:Nat} {ro:Bool}
theorem ldS{K:V->Prop}(h:k<nn)(hk:K (Yd (S k))):onS (ldQ (some (.own 16 (yO nn S) ro)) true 16 k 0) K:=by
 have e:ldQ (some (.own 16 (yO nn S) ro)) true 16 k 0=some (Yd (S k)):=by simp[ldQ,Q7 h,jD,V.isAgg]
 rw[e];exact hk
variable {K:St->Prop} {s:St}
theorem stS{id:Nat}{x:Nat->Bool}(h:k<nn)(hk:K (s.setO id (some (.own 16 (yO nn (qfG S k x)) false)))):onS (stQ s (some (.own 16 (yO nn S) false)) 16 id k 0 (.agg (jP x))) K:=by
 have e:stQ s (some (.own 16 (yO nn S) false)) 16 id k 0 (.agg (jP x))=some (s.setO id (some (.own 16 (yO nn (qfG S k x)) false))):=by rw[<- qjx h];simp[stQ,Q7 h,V.cells,V.okCell,je,V.isAgg,zx]
 rw[e];exact hk
def ofL(n:Nat)(S:Nat->Nat->Bool):List (List Int):=(List.range n).map λk=>lst (S k) 1024
theorem qiI(n:Nat)(S:Nat->Nat->Bool):(ofL n S).length=n:=by simp[ofL]
def lsC(n i:Nat)(S:Nat->Nat->Bool):List V:=(List.range n).map λk=>if k<i then zS (lst (S k) 1024)else .sl 1 true []
theorem qaV(n i:Nat)(S:Nat->Nat->Bool):(lsC n i S).length=n:=by simp[lsC]
theorem qxO(n:Nat)(S:Nat->Nat->Bool):List.replicate n (V.sl 1 true [])=lsC n 0 S:=by
 refine List.ext_getElem? λi=>?_;by_cases h:i<n
 . simp[lsC,h]
 . rw[List.getElem?_eq_none so_,List.getElem?_eq_none (by rw[qaV];omega)]
theorem qym(n:Nat)(S:Nat->Nat->Bool):lsC n n S=(ofL n S).map zS:=by unfold lsC ofL;rw[List.map_map];refine List.map_congr_left λk hk=>?_;rw[if_pos (List.mem_range.1 hk)];rfl
theorem qz1{i id:Nat}(h:i<nn)(hk:K (s.setO id (some (.own 1 (lsC nn (i+1) S) false)))):onS (stQ s (some (.own 1 (lsC nn i S) false)) 1 id i 0 (zS (lst (S i) 1024))) K:=by
 have hg:(lsC nn i S)[i]?=some (.sl 1 true []):=by simp[lsC,h]
 have hs:(lsC nn i S).set i (zS (lst (S i) 1024))=lsC nn (i+1) S:=by
  refine List.ext_getElem? λk=>?_;rw[List.getElem?_set,qaV];by_cases hk:k<nn
  . by_cases e:i=k
    . subst e;simp[lsC,hk]
    . rw[if_neg e];simp only[lsC,List.getElem?_map,List.getElem?_range hk,Option.map_some];by_cases e2:k<i
      . rw[if_pos e2,if_pos o_]
      . rw[if_neg e2,if_neg o_]
  . rw[List.getElem?_eq_none (by rw[qaV];omega),List.getElem?_eq_none (by rw[qaV];omega)];split
    . rename_i e;exact absurd (e ▸ h) hk
    . rfl
 have e:stQ s (some (.own 1 (lsC nn i S) false)) 1 id i 0 (zS (lst (S i) 1024))=some (s.setO id (some (.own 1 (lsC nn (i+1) S) false))):=by rw[<- hs];simp[stQ,hg,V.cells,V.okCell,je,V.isAgg]
 rw[e];exact hk
variable {o:Option MObj}
theorem qxC{K:V->Prop}(k':Nat)(ho:o=some (.own 16 (yO nn S) ro))(e:k=k')(h:k'<nn)(hk:K (Yd (S k'))):onS (ldQ o true 16 k 0) K:=by subst ho e;exact ldS h hk
theorem qzF{id:Nat}(k':Nat){x:Nat->Bool}(ho:o=some (.own 16 (yO nn S) false))(e:k=k')(h:k'<nn)(hk:K (s.setO id (some (.own 16 (yO nn (qfG S k' x)) false)))):onS (stQ s o 16 id k 0 (.agg (jP x))) K:=by subst ho e;exact stS h hk
variable {gs:List Go.E.V}
theorem ldG{K:V->Prop}(k':Nat){v:V}(ho:o=some (.own 1 gs ro))(e:k=k')(hv:gs[k']?=some v)(ha:v.isAgg=false)(hk:K v):onS (ldQ o false 1 k 0) K:=by
 subst ho e;have e:ldQ (some (.own 1 gs ro)) false 1 k 0=some v:=by simp[ldQ,hv,jD,ha]
 rw[e];exact hk
theorem qyQ{id:Nat}(i:Nat)(ho:o=some (.own 1 (lsC nn i S) false))(e:k=i)(h:i<nn)(hk:K (s.setO id (some (.own 1 (lsC nn (i+1) S) false)))):onS (stQ s o 1 id k 0 (zS (lst (S i) 1024))) K:=by subst ho e;exact qz1 h hk
theorem qzv{s0:St}{n1 wi ni li oi lo x ng:Nat}{t:TS}{G:Nat->Prop}{sv gv:V}{A:Nat->Nat->Bool}{sl:Nat->List Int}{L:Nat->Prop}{Q:Exit->St->Prop}
(f0:s0.f 0=.sl 1 false (rl.map zS))(f5:s0.f 5=.ptr wi 0 0)(f6:s0.f 6=.msl (n1+5) 16 0 ng)(f7:s0.f 7=vi (k:Int))(f10:s0.f 10=vi (x:Int))
(hrl:rl.length=n)(hn:n<=1000000)(hrk:∀l∈rl,l.length<=1000000)(hD:WD wi ni li oi lo)(W:WIn s0.H n1 wi ni li oi lo n rl t sv gv gs)(hN:n1+6<=s0.next)(hA:s0.H (n1+5)=some (.own 16 (yO ng A) false))(hC:CloI (zI rl) n t.of sl A k (λy=>L y\/y=x) (λy j=>L y/\(j:Int)∈zI rl y))(hI:TInv (zI rl) n G t)(hx:t.of x=(k:Int))(hxn:x<n)(hk:k<ng)
(hQ:∀s' A',s'.f 0=s0.f 0->s'.f 1=s0.f 1->s'.f 5=s0.f 5->s'.f 6=s0.f 6->s'.f 7=s0.f 7->s'.f 29=s0.f 29->s'.f 30=s0.f 30->s'.f 31=s0.f 31->s'.f 36=s0.f 36->s'.f 37=s0.f 37->s'.f 38=s0.f 38->s0.next<=s'.next->s'.H (n1+5)=some (.own 16 (yO ng A') false)->CloI (zI rl) n t.of sl A' k (λy=>L y\/y=x) (λy j=>(L y\/y=x)/\(j:Int)∈zI rl y)->(∀j,j<n1->s'.H j=s0.H j)->Q .normal s'):ewp Tryz.prog qja Q s0:=by
 have hri:rl[x]?=some (zI rl x):=by unfold zI;rw[List.getD_eq_getElem?_getD,ge_ o_];rfl
 have hrl2:(zI rl x).length<=1000000:=hrk _ (List.mem_of_getElem? hri);obtain ⟨b1,b2,b3,b4⟩:=hD.b;have hwl:lo<=n1:=W.nx;repeat' with_reducible first|refine s_ ?_|simp -implicitDefEqProofs only[wZZ,seval,f0,f10]|refine t_ ?_
 refine qb ?nx3 (λ(r:Nat) s=>s.f 0=?v3_0/\s.f 1=?v3_1/\s.f 5=?v3_5/\s.f 6=?v3_6/\s.f 7=?v3_7/\s.f 29=?v3_29/\s.f 30=?v3_30/\s.f 31=?v3_31/\s.f 36=?v3_36/\s.f 37=?v3_37/\s.f 38=?v3_38/\s.f 62=?v3_62/\s.f 63=?v3_63/\s.f 64=vi r/\(r<=(zI rl x).length)/\(s0.next<=s.next)/\((∃A,s.H (n1+5)=some (.own 16 (yO ng A) false)/\CloI (zI rl) n t.of sl A k (λy=>L y\/y=x) (λy j=>(L y/\(j:Int)∈zI rl y)\/(y=x/\(j:Int)∈(zI rl x).take r))))/\((∀j,j<n1->s.H j=s0.H j))) (λr=>(zI rl x).length - r) (0) wj_ (by refine⟨?_,?_,?_,?_,?_,?_,?_,?_,?_,?_,?_,?_,?_,?_,wo_,wg_,(by(exact⟨A,by((try simp only[wM]);(repeat first|rw[if_pos trivial]|rw[if_pos rfl]|rw[if_neg o_]));exact hA,hC.weak (λ_ h=>h) (λy j h=>by rcases h with h|⟨_,h⟩;exact h;simp at h)⟩)),(by(intro j h;((try simp only[wM]);(repeat first|rw[if_pos trivial]|rw[if_pos rfl]|rw[if_neg o_]))))⟩<;>first|(simp -implicitDefEqProofs only[wL,wM,wN,wX,seval,Option.some.injEq]<;>exact wt_)|rfl|exact⟨_,rfl⟩) ?_;intro r s hnx ⟨g0,g1,g5,g6,g7,g29,g30,g31,g36,g37,g38,g62,g63,g64,k3_0,k3_1,k3_2,k3_3⟩;obtain ⟨A1,hA1,hC1⟩:=k3_2;have W1:=W.mono (H':=s.H) (n':=n1) hD (Nat.le_refl _) k3_3;by_cases hr:r<(zI rl x).length
 . obtain ⟨z,hz⟩:∃z,(zI rl x)[r]?=some z:=⟨_,ge_ hr⟩;have htk:(zI rl x).take (r+1)=(zI rl x).take r++[z]:=(by rw[List.take_add_one,hz];rfl);by_cases hv:z<0\/(n:Int)<=z
   . have hC2:CloI (zI rl) n t.of sl A1 k (λy=>L y\/y=x) (λy j=>(L y/\(j:Int)∈zI rl y)\/(y=x/\(j:Int)∈(zI rl x).take (r+1))):=⟨hC1.lt,hC1.sd,hC1.d1,λy j k' hy ho hk' v hv'=>by
      refine hC1.d2 y j k' ?_ ho hk' v hv';rcases hy with hy|⟨e,hy⟩
      . exact Or.inl hy
      . rw[htk]at hy;rcases List.mem_append.1 hy with hy|hy
        . exact Or.inr ⟨e,hy⟩
        . have:=of_lt hI (x:=j) o_;rw[List.mem_singleton]at hy;omega,hC1.hi⟩
     rcases hv with hv|hv
     . repeat' with_reducible first|refine s_ ?_|simp -implicitDefEqProofs only[wZZ,seval,g0,g1,g5,g6,g7,g29,g30,g31,g36,g37,g38,g62,g63,g64,f0,hrl]|(first|apply qa|apply qA|apply qB)<;>intro h h_<;>(try simp only[wD,reduceCtorEq]at h_)<;>(try exact wb_)<;>(try simp only[h])|refine t_ ?_|simp -implicitDefEqProofs (disch:=omega) only[w64,if_neg]
       refine⟨wg_,r+1,o_,?_⟩;(repeat refine⟨True.intro,?_⟩);exact⟨rfl,o_,wg_,⟨A1,by((try simp only[wM]);(repeat first|rw[if_pos trivial]|rw[if_pos rfl]|rw[if_neg o_]));exact hA1,hC2⟩,λj h=>by((try simp only[wM]);(repeat first|rw[if_pos trivial]|rw[if_pos rfl]|rw[if_neg o_]));exact k3_3 j h⟩
     . repeat' with_reducible first|refine s_ ?_|simp -implicitDefEqProofs only[wZZ,seval,g0,g1,g5,g6,g7,g29,g30,g31,g36,g37,g38,g62,g63,g64,f0,hrl]|(first|apply qa|apply qA|apply qB)<;>intro h h_<;>(try simp only[wD,reduceCtorEq]at h_)<;>(try exact wb_)<;>(try simp only[h])|refine t_ ?_|simp -implicitDefEqProofs (disch:=omega) only[w64,if_neg]
       refine⟨wg_,r+1,o_,?_⟩;(repeat refine⟨True.intro,?_⟩);exact⟨rfl,o_,wg_,⟨A1,by((try simp only[wM]);(repeat first|rw[if_pos trivial]|rw[if_pos rfl]|rw[if_neg o_]));exact hA1,hC2⟩,λj h=>by((try simp only[wM]);(repeat first|rw[if_pos trivial]|rw[if_pos rfl]|rw[if_neg o_]));exact k3_3 j h⟩
   . obtain ⟨m,rfl⟩:∃m:Nat,z=m:=⟨z.toNat,o_⟩;have hm:m<n:=o_;have hE:Edge (zI rl) n x m:=⟨hxn,hm,List.mem_of_getElem? hz⟩;obtain ⟨k2,ho2,hk2,hsd⟩:=hC1.edge hI hx hE;have hom:=jv (l:=t.of) hm;rw[ho2]at hom;have hor:=qdo (a:=A1 k) (b:=A1 k2);repeat' with_reducible first|refine s_ ?_|simp -implicitDefEqProofs only[wZZ,seval,g0,g1,g5,g6,g7,g29,g30,g31,g36,g37,g38,g62,g63,g64,f0,f5,f6,f7,hrl,W1.w]|(first|apply qa|apply qA|apply qB)<;>intro h h_<;>(try simp only[wD,reduceCtorEq]at h_)<;>(try exact wb_)<;>(try simp only[h])|refine t_ ?_|apply qZ;omega;omega|(refine ldI m W1.of o_ hom ?_)|(refine qxC k hA1 o_ hk ?_)|(refine qxC k2 hA1 o_ o_ ?_)|refine cq2 hor qd qd ?_|(refine qzF k hA1 o_ hk ?_)|simp -implicitDefEqProofs (disch:=omega) only[w64,if_neg]
     refine⟨wg_,r+1,o_,?_⟩;(repeat refine⟨True.intro,?_⟩);exact ⟨rfl,o_,wg_,⟨_,hh_,hC1.join hsd (λy hy=>Or.inl hy) (λy j hy=>by
      rcases hy with hy|⟨e,hy⟩
      . exact Or.inl (Or.inl hy)
      . rw [htk]at hy;rcases List.mem_append.1 hy with hy|hy
        . exact Or.inl (Or.inr ⟨e,hy⟩)
        . rw[List.mem_singleton]at hy
          have:j=m:=o_
          subst this;exact Or.inr λk' hk' _ v hv=>by
           have:k'=k2:=o_
           subst this;exact hv)⟩,λj h=>by((try simp only[wM]);(repeat first|rw[if_pos trivial]|rw[if_pos rfl]|rw[if_neg o_]));exact k3_3 j h⟩
 . have htk:(zI rl x).take r=zI rl x:=List.take_of_length_le o_;rw[htk]at hC1;repeat' with_reducible first|refine s_ ?_|simp -implicitDefEqProofs only[wZZ,seval,g0,g1,g5,g6,g7,g29,g30,g31,g36,g37,g38,g62,g63,g64]|apply qa<;>intro h h_<;>(try simp only[wD,reduceCtorEq]at h_)<;>(try exact wb_)<;>(try simp only[h])
   refine hQ _ A1 ?_ ?_ ?_ ?_ ?_ ?_ ?_ ?_ ?_ ?_ ?_ ?_ ?_ (hC1.weak (λ_ h=>h) (λy j h=>?_)) ?_
   . (simp -implicitDefEqProofs only[wL,seval,g0])
   . (simp -implicitDefEqProofs only[wL,seval,g1])
   . (simp -implicitDefEqProofs only[wL,seval,g5])
   . (simp -implicitDefEqProofs only[wL,seval,g6])
   . (simp -implicitDefEqProofs only[wL,seval,g7])
   . (simp -implicitDefEqProofs only[wL,seval,g29])
   . (simp -implicitDefEqProofs only[wL,seval,g30])
   . (simp -implicitDefEqProofs only[wL,seval,g31])
   . (simp -implicitDefEqProofs only[wL,seval,g36])
   . (simp -implicitDefEqProofs only[wL,seval,g37])
   . (simp -implicitDefEqProofs only[wL,seval,g38])
   . ((try simp only[wN])<;>omega)
   . ((try simp only[wM]);(repeat first|rw[if_pos trivial]|rw[if_pos rfl]|rw[if_neg o_]));exact hA1
   . rcases h with ⟨h|h,h2⟩
     . exact Or.inl ⟨h,h2⟩
     . subst h;exact Or.inr ⟨rfl,h2⟩
   . intro j h;((try simp only[wM]);(repeat first|rw[if_pos trivial]|rw[if_pos rfl]|rw[if_neg o_]));exact k3_3 j h
theorem qdr{sets:List (List Int)}(hl:rl.length<=1000000)(hrk:∀l∈rl,l.length<=1000000)(hsl:sets.length<=1000000)(hsk:∀l∈sets,l.length<=1000000):Pure Tryz.prog 36 [.sl 1 false (rl.map zS),.sl 1 false (sets.map zS)] (.sl 1 false ((if 4000<rl.length then[]else ofL rl.length (qjL (zI rl) rl.length (zI sets))).map zS)):=by
 refine pure_intro Tryz.func36 nm_ qud (by show 2<=121;decide) ?_
 show ewp _ qwg _ _;by_cases hbig:4000<rl.length
 . rw[if_pos hbig];repeat' with_reducible first|refine s_ ?_|simp -implicitDefEqProofs only[wZZ,seval]|apply qa<;>intro h h_<;>(try simp only[wD,reduceCtorEq]at h_)<;>(try exact wb_)<;>(try simp only[h])
   refine qz rfl (Or.inr rfl) ?_;simp -implicitDefEqProofs only[wL,seval];refine er_ ?_
   try(with_reducible rfl)
 . rw [if_neg hbig];obtain ⟨n,hrl⟩:∃n,n=rl.length:=⟨_,rfl⟩;have hrl:=hrl.symm;rw[hrl]at hbig hl ⊢;repeat' with_reducible first|refine s_ ?_|simp -implicitDefEqProofs only[wZZ,seval,hrl]|apply qa<;>intro h h_<;>(try simp only[wD,reduceCtorEq]at h_)<;>(try exact wb_)<;>(try simp only[h])|(refine qR rfl rfl rfl ((qyl hl hrl hrk).mono ?_);rintro v1 H1 n1 ⟨wi,ni,li,oi,lo,rfl,hD,q2,⟨sv,gv,gs,W⟩,q4⟩)
   obtain ⟨hI,hst,hof⟩:=qxz (zI rl) n;generalize ht:qgo (zI rl) n=t at *;have hgn:=qjo hI;have hln:J9 gv=some (vi (t.groups.length:Int)):=(by rw[W.gr.len,W.ga.ln]);have hs0:=qyu t.groups.length;have hwl:lo<=n1:=W.nx;obtain ⟨b1,b2,b3,b4⟩:=hD.b;repeat' with_reducible first|refine s_ ?_|simp -implicitDefEqProofs only[wZZ,seval,W.w,hln]|refine t_ ?_|apply V5;exact wf_;exact wf_;(focus(unfold maxLen;first|omega|(simp only[wZ]<;>omega)))|simp -implicitDefEqProofs (disch:=omega) only[w64,if_neg]
   rw[hs0];refine qb ?nx1 (λ(k:Nat) s=>s.f 0=?v1_0/\s.f 1=?v1_1/\s.f 5=?v1_5/\s.f 6=?v1_6/\s.f 29=?v1_29/\s.f 30=?v1_30/\s.f 31=vi k/\(k<=t.groups.length)/\((∃A,s.H (n1+5)=some (.own 16 (yO t.groups.length A) false)/\CloI (zI rl) n t.of (zI sets) A k (λ_=>False) (λ_ _=>False)))/\((∀j,j<n1->s.H j=H1 j))) (λk=>t.groups.length - k) (0) wj_ (by refine⟨?_,?_,?_,?_,?_,?_,?_,wo_,(by(exact⟨λ_ _=>false,hh_,CloI.start _ _ _ _⟩)),(by(intro j h;((try simp only[wM]);(repeat first|rw[if_pos trivial]|rw[if_pos rfl]|rw[if_neg o_]))))⟩<;>first|(simp -implicitDefEqProofs only[wL,wM,wN,wX,seval,Option.some.injEq]<;>exact wt_)|rfl|exact⟨_,rfl⟩) ?_;intro k s hnx ⟨g0,g1,g5,g6,g29,g30,g31,k1_0,k1_1,k1_2⟩;have W1:=W.mono (H':=s.H) (n':=n1) hD (Nat.le_refl _) k1_2;obtain ⟨A,hA,hC⟩:=k1_1;by_cases hk:k<t.groups.length
   . rcases W1.gr with ⟨h0,_⟩|⟨gid,rfl,hgH,hg1,hg2⟩
     . have:=W1.ga.ln;rw[h0]at this;simp at this;omega
     obtain ⟨l,hlk⟩:∃l,t.groups[k]?=some l:=⟨_,ge_ hk⟩;obtain ⟨id,hgs,hid,hi1,hi2,_,_⟩:=W1.ga.pl k l hlk;obtain ⟨hl0,hlr,hlm⟩:=hI.grp k l hlk;have hgl:=W1.ga.ln;have hid1:H1 id=some (.own 1 (ivs (Qy l)) false):=(k1_2 id hi2).symm.trans hid;have hln2:l.length<=n:=JR (hlr.imp λh=>o_) (λx hx=>of_lt hI (by rw[(hlm x).1 hx];omega));repeat' with_reducible first|refine s_ ?_|simp -implicitDefEqProofs only[wZZ,seval,g0,g1,g5,g6,g29,g30,g31]|apply qa<;>intro h h_<;>(try simp only[wD,reduceCtorEq]at h_)<;>(try exact wb_)<;>(try simp only[h])|apply qZ;omega;omega|(refine ldG k hgH o_ hgs rfl ?_)
     refine qb ?nx2 (λ(p:Nat) s=>s.f 0=?v2_0/\s.f 1=?v2_1/\s.f 5=?v2_5/\s.f 6=?v2_6/\s.f 7=?v2_7/\s.f 29=?v2_29/\s.f 30=?v2_30/\s.f 31=?v2_31/\s.f 36=?v2_36/\s.f 37=?v2_37/\s.f 38=vi p/\(p<=l.length)/\((∃A,s.H (n1+5)=some (.own 16 (yO t.groups.length A) false)/\CloI (zI rl) n t.of (zI sets) A k (λx=>x∈l.take p) (λx j=>x∈l.take p/\(j:Int)∈zI rl x)))/\((∀j,j<n1->s.H j=H1 j))) (λp=>l.length - p) (0) wj_ (by refine⟨?_,?_,?_,?_,?_,?_,?_,?_,?_,?_,?_,wo_,(by(exact⟨A,by((try simp only[wM]);(repeat first|rw[if_pos trivial]|rw[if_pos rfl]|rw[if_neg o_]));exact hA,hC.weak (λx h=>by simp at h) (λx j h=>by simp at h)⟩)),(by(intro j h;((try simp only[wM]);(repeat first|rw[if_pos trivial]|rw[if_pos rfl]|rw[if_neg o_]));exact k1_2 j h))⟩<;>first|(simp -implicitDefEqProofs only[wL,wM,wN,wX,seval,Option.some.injEq,g0,g1,g5,g6,g29,g30,g31]<;>exact wt_)|rfl|exact⟨_,rfl⟩) ?_;intro p s hnx ⟨g0,g1,g5,g6,g7,g29,g30,g31,g36,g37,g38,k2_0,k2_1,k2_2⟩;obtain ⟨A2,hA2,hC2⟩:=k2_1;by_cases hp:p<l.length
     . obtain ⟨x,hlx⟩:∃x,l[p]?=some x:=⟨_,ge_ hp⟩;have htk:l.take (p+1)=l.take p++[x]:=(by rw[List.take_add_one,hlx];rfl);have hxk:t.of x=(k:Int):=(hlm x).1 (List.mem_of_getElem? hlx);have hxn:x<n:=of_lt hI o_;have oid:s.H id=some (.own 1 (ivs (Qy l)) false):=(k2_2 id hi2).trans hid1
       show ewp Tryz.prog (.seq (.reg qth) (.seq qw0 (.seq (.block 3 (.seq (.reg qum) (.seq qre qja))) (.reg qtN)))) _ _;generalize hE36:qja=E36;by_cases hxs:x<sets.length
       . have hsx:sets[x]?=some (zI sets x):=(by unfold zI;rw[List.getD_eq_getElem?_getD,ge_ hxs];rfl);have hof:=qiU (l:=zI sets x) (by have:=hsk _ (List.mem_of_getElem? hsx);omega);have hor:=qdo (a:=A2 k) (b:=JZ (zI sets x));repeat' with_reducible first|refine s_ ?_|simp -implicitDefEqProofs only[wZZ,seval,g0,g1,g5,g6,g7,g29,g30,g31,g36,g37,g38]|apply qa<;>intro h h_<;>(try simp only[wD,reduceCtorEq]at h_)<;>(try exact wb_)<;>(try simp only[h])|apply qZ;omega;omega|(refine ldI p oid o_ (X9 hlx) ?_)|(refine qxC k hA2 o_ hk ?_)|refine t_ ?_|refine cq1 hof qd ?_|refine cq2 hor qd qd ?_|(refine qzF k hA2 o_ hk ?_)
         have hC5:CloI (zI rl) n t.of (zI sets) (qfG A2 k (λy=>A2 k y || JZ (zI sets x) y)) k (λy=>y∈l.take p\/y=x) (λy j=>y∈l.take p/\(j:Int)∈zI rl y):=hC2.join (λv hv=>⟨x,x,hxk,.refl _,hv⟩) (λy hy=>by
          rcases hy with hy|rfl
          . exact Or.inl hy
          . exact Or.inr λv hv=>hv) (λy j h=>Or.inl h)
         subst hE36;refine qzv (n1:=n1) (ng:=t.groups.length) (A:=qfG A2 k (λy=>A2 k y || JZ (zI sets x) y)) (L:=λy=>y∈l.take p) (t:=t) (k:=k) (x:=x) (by(simp -implicitDefEqProofs only[wL,seval,g0])) (by(simp -implicitDefEqProofs only[wL,seval,g5])) (by(simp -implicitDefEqProofs only[wL,seval,g6])) (by(simp -implicitDefEqProofs only[wL,seval,g7])) (by(simp -implicitDefEqProofs only[wL,seval])) hrl hl hrk hD (W.mono hD (Nat.le_refl _) (λj h=>by((try simp only[wM]);(repeat first|rw[if_pos trivial]|rw[if_pos rfl]|rw[if_neg o_]));exact k2_2 j h)) wg_ (by((try simp only[wM]);(repeat first|rw[if_pos trivial]|rw[if_pos rfl]|rw[if_neg o_]));(try exact hA2)) hC5 hI hxk hxn hk (λs2 A3 h0 h1 h5 h6 h7 h29 h30 h31 h36 h37 h38 hn2 hA3 hC3 hH3=>?_);have e0:s2.f 0=.sl 1 false (rl.map zS):=h0.trans (by(simp -implicitDefEqProofs only[wL,seval,g0]));have e1:s2.f 1=.sl 1 false (sets.map zS):=h1.trans (by(simp -implicitDefEqProofs only[wL,seval,g1]));have e5:s2.f 5=.ptr wi 0 0:=h5.trans (by(simp -implicitDefEqProofs only[wL,seval,g5]));have e6:s2.f 6=.msl (n1+5) 16 0 t.groups.length:=h6.trans (by(simp -implicitDefEqProofs only[wL,seval,g6]));have e7:s2.f 7=vi (k:Int):=h7.trans (by(simp -implicitDefEqProofs only[wL,seval,g7]));have e29:s2.f 29=.msl gid 1 0 gs.length:=h29.trans (by(simp -implicitDefEqProofs only[wL,seval,g29]));have e30:s2.f 30=vi (t.groups.length:Int):=h30.trans (by(simp -implicitDefEqProofs only[wL,seval,g30]));have e31:s2.f 31=vi (k:Int):=h31.trans (by(simp -implicitDefEqProofs only[wL,seval,g31]));have e36:s2.f 36=.msl id 1 0 l.length:=h36.trans (by(simp -implicitDefEqProofs only[wL,seval,g36]));have e37:s2.f 37=.int .i64 (l.length:Int):=h37.trans (by(simp -implicitDefEqProofs only[wL,seval,g37]));have e38:s2.f 38=vi (p:Int):=h38.trans (by(simp -implicitDefEqProofs only[wL,seval,g38]));(try simp only[wN]at hn2);have hH4:∀j,j<n1->s2.H j=H1 j:=λj h=>(hH3 j h).trans (by((try simp only[wM]);(repeat first|rw[if_pos trivial]|rw[if_pos rfl]|rw[if_neg o_]));exact k2_2 j h);repeat' with_reducible first|refine s_ ?_|simp -implicitDefEqProofs only[wZZ,seval,g0,g1,g5,g6,g7,g29,g30,g31,g36,g37,g38,e38]|simp -implicitDefEqProofs (disch:=omega) only[w64,if_neg]
         refine⟨wg_,p+1,o_,?_⟩;refine⟨(by(simp -implicitDefEqProofs only[wL,seval,e0])),(by(simp -implicitDefEqProofs only[wL,seval,e1])),(by(simp -implicitDefEqProofs only[wL,seval,e5])),(by(simp -implicitDefEqProofs only[wL,seval,e6])),(by(simp -implicitDefEqProofs only[wL,seval,e7])),(by(simp -implicitDefEqProofs only[wL,seval,e29])),(by(simp -implicitDefEqProofs only[wL,seval,e30])),(by(simp -implicitDefEqProofs only[wL,seval,e31])),(by(simp -implicitDefEqProofs only[wL,seval,e36])),(by(simp -implicitDefEqProofs only[wL,seval,e37])),rfl,o_,⟨A3,by((try simp only[wM]);(repeat first|rw[if_pos trivial]|rw[if_pos rfl]|rw[if_neg o_]));exact hA3,hC3.weak (λy h=>?_) (λy j h=>?_)⟩,λj h=>by((try simp only[wM]);(repeat first|rw[if_pos trivial]|rw[if_pos rfl]|rw[if_neg o_]));exact hH4 j h⟩
         . rw[htk]at h;rcases List.mem_append.1 h with h|h
           . exact Or.inl h
           . exact Or.inr (List.mem_singleton.1 h)
         . rw[htk]at h;rcases List.mem_append.1 h.1 with h1|h1
           . exact⟨Or.inl h1,h.2⟩
           . exact⟨Or.inr (List.mem_singleton.1 h1),h.2⟩
       . have hsx:zI sets x=[]:=(by unfold zI;rw[List.getD_eq_getElem?_getD,List.getElem?_eq_none o_];rfl);repeat' with_reducible first|refine s_ ?_|simp -implicitDefEqProofs only[wZZ,seval,g0,g1,g5,g6,g7,g29,g30,g31,g36,g37,g38]|apply qa<;>intro h h_<;>(try simp only[wD,reduceCtorEq]at h_)<;>(try exact wb_)<;>(try simp only[h])|apply qZ;omega;omega|(refine ldI p oid o_ (X9 hlx) ?_)
         have hC5:CloI (zI rl) n t.of (zI sets) A2 k (λy=>y∈l.take p\/y=x) (λy j=>y∈l.take p/\(j:Int)∈zI rl y):=⟨hC2.lt,hC2.sd,λy hy v hv=>(by
          rcases hy with hy|rfl
          . exact hC2.d1 y hy v hv
          . obtain ⟨z,_,hz⟩:=hv;rw[hsx,qfc]at hz;cases hz),hC2.d2,hC2.hi⟩
         subst hE36;refine qzv (n1:=n1) (ng:=t.groups.length) (A:=A2) (L:=λy=>y∈l.take p) (t:=t) (k:=k) (x:=x) (by(simp -implicitDefEqProofs only[wL,seval,g0])) (by(simp -implicitDefEqProofs only[wL,seval,g5])) (by(simp -implicitDefEqProofs only[wL,seval,g6])) (by(simp -implicitDefEqProofs only[wL,seval,g7])) (by(simp -implicitDefEqProofs only[wL,seval])) hrl hl hrk hD (W.mono hD (Nat.le_refl _) (λj h=>by((try simp only[wM]);(repeat first|rw[if_pos trivial]|rw[if_pos rfl]|rw[if_neg o_]));exact k2_2 j h)) wg_ (by((try simp only[wM]);(repeat first|rw[if_pos trivial]|rw[if_pos rfl]|rw[if_neg o_]));(try exact hA2)) hC5 hI hxk hxn hk (λs2 A3 h0 h1 h5 h6 h7 h29 h30 h31 h36 h37 h38 hn2 hA3 hC3 hH3=>?_);have e0:s2.f 0=.sl 1 false (rl.map zS):=h0.trans (by(simp -implicitDefEqProofs only[wL,seval,g0]));have e1:s2.f 1=.sl 1 false (sets.map zS):=h1.trans (by(simp -implicitDefEqProofs only[wL,seval,g1]));have e5:s2.f 5=.ptr wi 0 0:=h5.trans (by(simp -implicitDefEqProofs only[wL,seval,g5]));have e6:s2.f 6=.msl (n1+5) 16 0 t.groups.length:=h6.trans (by(simp -implicitDefEqProofs only[wL,seval,g6]));have e7:s2.f 7=vi (k:Int):=h7.trans (by(simp -implicitDefEqProofs only[wL,seval,g7]));have e29:s2.f 29=.msl gid 1 0 gs.length:=h29.trans (by(simp -implicitDefEqProofs only[wL,seval,g29]));have e30:s2.f 30=vi (t.groups.length:Int):=h30.trans (by(simp -implicitDefEqProofs only[wL,seval,g30]));have e31:s2.f 31=vi (k:Int):=h31.trans (by(simp -implicitDefEqProofs only[wL,seval,g31]));have e36:s2.f 36=.msl id 1 0 l.length:=h36.trans (by(simp -implicitDefEqProofs only[wL,seval,g36]));have e37:s2.f 37=.int .i64 (l.length:Int):=h37.trans (by(simp -implicitDefEqProofs only[wL,seval,g37]));have e38:s2.f 38=vi (p:Int):=h38.trans (by(simp -implicitDefEqProofs only[wL,seval,g38]));(try simp only[wN]at hn2);have hH4:∀j,j<n1->s2.H j=H1 j:=λj h=>(hH3 j h).trans (by((try simp only[wM]);(repeat first|rw[if_pos trivial]|rw[if_pos rfl]|rw[if_neg o_]));exact k2_2 j h);repeat' with_reducible first|refine s_ ?_|simp -implicitDefEqProofs only[wZZ,seval,g0,g1,g5,g6,g7,g29,g30,g31,g36,g37,g38,e38]|simp -implicitDefEqProofs (disch:=omega) only[w64,if_neg]
         refine⟨wg_,p+1,o_,?_⟩;refine⟨(by(simp -implicitDefEqProofs only[wL,seval,e0])),(by(simp -implicitDefEqProofs only[wL,seval,e1])),(by(simp -implicitDefEqProofs only[wL,seval,e5])),(by(simp -implicitDefEqProofs only[wL,seval,e6])),(by(simp -implicitDefEqProofs only[wL,seval,e7])),(by(simp -implicitDefEqProofs only[wL,seval,e29])),(by(simp -implicitDefEqProofs only[wL,seval,e30])),(by(simp -implicitDefEqProofs only[wL,seval,e31])),(by(simp -implicitDefEqProofs only[wL,seval,e36])),(by(simp -implicitDefEqProofs only[wL,seval,e37])),rfl,o_,⟨A3,by((try simp only[wM]);(repeat first|rw[if_pos trivial]|rw[if_pos rfl]|rw[if_neg o_]));exact hA3,hC3.weak (λy h=>?_) (λy j h=>?_)⟩,λj h=>by((try simp only[wM]);(repeat first|rw[if_pos trivial]|rw[if_pos rfl]|rw[if_neg o_]));exact hH4 j h⟩
         . rw[htk]at h;rcases List.mem_append.1 h with h|h
           . exact Or.inl h
           . exact Or.inr (List.mem_singleton.1 h)
         . rw[htk]at h;rcases List.mem_append.1 h.1 with h1|h1
           . exact⟨Or.inl h1,h.2⟩
           . exact⟨Or.inr (List.mem_singleton.1 h1),h.2⟩
     . have htk:l.take p=l:=List.take_of_length_le o_;rw[htk]at hC2;have hC6:=hC2.next hI (λy hy=>(hlm y).2 hy) (λy j hy hE=>⟨(hlm y).2 hy,hE.2.2⟩);repeat' with_reducible first|refine s_ ?_|simp -implicitDefEqProofs only[wZZ,seval,g0,g1,g5,g6,g7,g29,g30,g31,g36,g37,g38]|apply qa<;>intro h h_<;>(try simp only[wD,reduceCtorEq]at h_)<;>(try exact wb_)<;>(try simp only[h])|simp -implicitDefEqProofs (disch:=omega) only[w64,if_neg]
       refine⟨wg_,k+1,o_,?_⟩;(repeat refine⟨True.intro,?_⟩);exact⟨rfl,o_,⟨A2,by((try simp only[wM]);(repeat first|rw[if_pos trivial]|rw[if_pos rfl]|rw[if_neg o_]));exact hA2,hC6⟩,λj h=>by((try simp only[wM]);(repeat first|rw[if_pos trivial]|rw[if_pos rfl]|rw[if_neg o_]));exact k2_2 j h⟩
   . skip
     have hkg:k=t.groups.length:=o_;rw[hkg]at hC;have hl0:=qxO n (qjL (zI rl) n (zI sets));repeat' with_reducible first|refine s_ ?_|simp -implicitDefEqProofs only[wZZ,seval,g0,g1,g5,g6,g29,g30,g31,hrl]|apply qa<;>intro h h_<;>(try simp only[wD,reduceCtorEq]at h_)<;>(try exact wb_)<;>(try simp only[h])|apply V5;exact wf_;exact wf_;(focus(unfold maxLen;first|omega|(simp only[wZ]<;>omega)))
     rw[hl0];obtain ⟨oid,ho2⟩:∃oid,oid=s.next+1+2:=⟨_,rfl⟩;have ho1:n1+6<oid:=o_;rw[<- ho2]
     skip
     refine qb ?nx4 (λ(i:Nat) s=>s.f 5=?v4_5/\s.f 6=?v4_6/\s.f 13=?v4_13/\s.f 101=?v4_101/\s.f 102=vi i/\(i<=n)/\((s.H oid=some (.own 1 (lsC n i (qjL (zI rl) n (zI sets))) false)))/\((s.H (n1+5)=some (.own 16 (yO t.groups.length A) false)))/\((∀j,j<n1->s.H j=H1 j))) (λi=>n - i) (0) wj_ (by refine⟨?_,?_,?_,?_,?_,wo_,(by(((try simp only[wM]);(repeat first|rw[if_pos trivial]|rw[if_pos rfl]|rw[if_neg o_])))),(by(((try simp only[wM]);(repeat first|rw[if_pos trivial]|rw[if_pos rfl]|rw[if_neg o_]));exact hA)),(by(intro j h;((try simp only[wM]);(repeat first|rw[if_pos trivial]|rw[if_pos rfl]|rw[if_neg o_]));exact k1_2 j h))⟩<;>first|(simp -implicitDefEqProofs only[wL,wM,wN,wX,seval,Option.some.injEq,g0,g1,g5,g6,g29,g30,g31]<;>exact wt_)|rfl|exact⟨_,rfl⟩) ?_;intro i s hnx ⟨g5,g6,g13,g101,g102,k4_0,k4_1,k4_2,k4_3⟩;have W4:=W.mono (H':=s.H) (n':=n1) hD (Nat.le_refl _) k4_3;by_cases hi:i<n
     . have ho:=hof i hi;obtain ⟨g,hg⟩:∃g:Nat,t.of i=g:=⟨(t.of i).toNat,o_⟩;have hgl:=(hI.ofb i).2;have hgl2:g<t.groups.length:=o_;have hAg:=hC.out hI hg hgl2;have hgo:=jv (l:=t.of) hi;rw[hg]at hgo;have hls:Pure Tryz.prog 68 [Yd (A g)] (zS (lst (qjL (zI rl) n (zI sets) i) 1024)):=(by rw[hAg];exact Jv);repeat' with_reducible first|refine s_ ?_|simp -implicitDefEqProofs only[wZZ,seval,g5,g6,g13,g101,g102,W4.w]|apply qa<;>intro h h_<;>(try simp only[wD,reduceCtorEq]at h_)<;>(try exact wb_)<;>(try simp only[h])|apply qZ;omega;omega|(refine ldI i W4.of o_ hgo ?_)|(refine qxC g k4_2 o_ hgl2 ?_)|refine cq1 hls qd ?_|(refine qyQ i k4_1 o_ hi ?_)|refine t_ ?_|simp -implicitDefEqProofs (disch:=omega) only[w64,if_neg]
       refine⟨wg_,i+1,o_,?_⟩;(repeat refine⟨True.intro,?_⟩);exact⟨rfl,o_,hh_,by((try simp only[wM]);(repeat first|rw[if_pos trivial]|rw[if_pos rfl]|rw[if_neg o_]));exact k4_2,λj h=>by((try simp only[wM]);(repeat first|rw[if_pos trivial]|rw[if_pos rfl]|rw[if_neg o_]));exact k4_3 j h⟩
     . have e:i=n:=o_;rw[e,qym]at k4_1;repeat' with_reducible first|refine s_ ?_|simp -implicitDefEqProofs only[wZZ,seval,g5,g6,g13,g101,g102]|apply qa<;>intro h h_<;>(try simp only[wD,reduceCtorEq]at h_)<;>(try exact wb_)<;>(try simp only[h])
       refine qz (t:=4) rfl (Or.inr rfl) ?_;(simp -implicitDefEqProofs only[wL,seval]);exact xD (ro:=false) (by((try simp only[wM]);(repeat first|rw[if_pos trivial]|rw[if_pos rfl]|rw[if_neg o_]));exact k4_1) (by simp[ofL]) (by rw[List.drop_zero];exact List.take_of_length_le (by simp[ofL]))

theorem Zf{o:List (List Int)}{x:Int}:∀(r l:List Int),x∈qf6 o r l↔x∈l\/ ∃j∈r,x∈o.getD j.toNat []
 |[],l=>by simp[qf6]
 | a::r,l=>by
   have:=Zf (o:=o) (x:=x) r (joinL l (o.getD a.toNat []))
   show x∈qf6 o r (joinL l (o.getD a.toNat []))↔_;rw[this]
   show (x∈(o.getD a.toNat []).foldl xw l\/_)↔_;rw[Yi,or_assoc];simp
theorem Xv(rel o:List (List Int))(i a:Nat):(qbx rel o i).getD a []=if i=a/\a<o.length then qf6 o (rel.getD i []) (o.getD a [])else o.getD a []:=by
 have e1:∀(L:List (List Int)),L.getD a []=(L[a]?).getD []:=λL=>List.getD_eq_getElem?_getD;rw[e1 (qbx rel o i)];unfold qbx;rw[List.getElem?_modify];by_cases h:a<o.length
 . have e0:o.getD a []=o[a]:=(by rw[e1,ge_ h];rfl);rw[ge_ h,e0];by_cases e:i=a
   . rw[if_pos ⟨e,h⟩];simp[e]
   . rw[if_neg (λh=>e h.1)];simp[e]
 . have e0:o.getD a []=[]:=(by rw[e1,List.getElem?_eq_none o_];rfl);rw[List.getElem?_eq_none o_,if_neg (λe=>h e.2),e0];rfl
theorem JV(rel out:List (List Int))(a:Nat)(x:Int)(i:Nat):∀d,x∈(kg rel out i).getD a []->x∈(kg rel out (i+d)).getD a []
 |0,h=>h
 | d+1,h=>by
   have ih:=JV rel out a x i d h;rw[show i+(d+1)=i+d+1 by omega,xZ,Xv];split
   . exact(Zf _ _).2 (Or.inl ih)
   . exact ih
theorem JE{rel out:List (List Int)}{T:Nat->Int->Prop}(h0:∀a x,x∈out.getD a []->T a x)(h1:∀(a:Nat) (j x:Int),j∈rel.getD a []->T j.toNat x->T a x):∀i a x,x∈(kg rel out i).getD a []->T a x
 |0,a,x,h=>h0 a x h
 | i +1,a,x,h=>by
   rw[xZ,Xv]at h;split at h
   . rename_i e;rcases (Zf _ _).1 h with h|⟨j,hj,h⟩
     . exact JE h0 h1 i a x h
     . exact h1 a j x (by rw[<- e.1];exact hj) (JE h0 h1 i _ x h)
   . exact JE h0 h1 i a x h
theorem kJ{rel:List (List Int)}{a:Nat}{x:Int}:∀(n:Nat) {out:List (List Int)},x∈out.getD a []->x∈(jX n out rel).getD a []
 |0,out,h=>h
 | n +1,out,h=>by
   unfold jX;split
   . exact h
   . refine kJ n ?_;have:=JV rel out a x 0 out.length h;rw[Nat.zero_add]at this;exact this
theorem qbH{rel:List (List Int)}{T:Nat->Int->Prop}(h1:∀(a:Nat) (j x:Int),j∈rel.getD a []->T j.toNat x->T a x):∀(n:Nat) {out:List (List Int)},(∀a x,x∈out.getD a []->T a x)->∀a x,x∈(jX n out rel).getD a []->T a x
 |0,out,h,a,x,hx=>h a x hx
 | n+1,out,h,a,x,hx=>by
   unfold jX at hx;split at hx
   . exact h a x hx
   . exact qbH h1 n (λa x hx=>JE h h1 _ a x hx) a x hx
theorem qdY{rel out:List (List Int)}(ho:yG out):∀i,i<=out.length->szL out<=szL (kg rel out i)/\(szL (kg rel out i)=szL out->kg rel out i=out)
 |0,_=>⟨Nat.le_refl _,λ_=>rfl⟩
 | i+1,hi=>by obtain ⟨a,b⟩:=qdY (rel:=rel) ho i o_;have h1:=X7 (rel:=rel) ho i o_;have hlt:i<(kg rel out i).length:=(by rw[kL];omega);obtain ⟨l,hg⟩:∃l,(kg rel out i)[i]?=some l:=⟨_,ge_ hlt⟩;rw[xZ,qcu hg];have hs:=h1 _ (List.mem_of_getElem? hg);have h2:=qh0 (l:=qf6 (kg rel out i) (rel.getD i []) l) hg;have h3:=qqp h1 (r:=rel.getD i []) hs;refine⟨o_,λe=>?_⟩;have e2:=qkO h1 (r:=rel.getD i []) hs o_;rw[e2,qls hg];exact b o_
theorem Vi{rel:List (List Int)}:∀(n:Nat) {out:List (List Int)},yG out->40 *out.length<n+szL out->qaM (jX n out rel) rel=jX n out rel
 |0,out,h,hn=>by have:=qrd h;omega
 | n +1,out,h,hn=>by
   unfold jX;split
   . assumption
   . rename_i hne;have h1:=qdY (rel:=rel) h out.length (Nat.le_refl _);rw[<- Zh]at h1;have hok:yG (qaM out rel):=(by rw[Zh];exact X7 h _ (Nat.le_refl _));have hl:(qaM out rel).length=out.length:=(by rw[Zh,kL]);refine Vi n hok ?_
     have:szL (qaM out rel)≠szL out:=λe=>hne (h1.2 e)
     rw[hl];omega
variable {rel:List (List Int)}
theorem qgW{o:List (List Int)}(h:qaM o rel=o){a:Nat}(ha:a<o.length){j:Int}(hj:j∈rel.getD a []){x:Int}(hx:x∈o.getD j.toNat []):x∈o.getD a []:=by
 rw[Zh]at h;have h1:x∈(kg rel o a).getD j.toNat []:=by have:=JV rel o j.toNat x 0 a hx;rwa [Nat.zero_add]at this
 have h2:x∈(kg rel o (a+1)).getD a []:=by rw[xZ,Xv,if_pos ⟨rfl,by rw[kL];exact ha⟩];exact(Zf _ _).2 (Or.inr ⟨j,hj,h1⟩)
 have h3:=JV rel o a x (a+1) (o.length - (a+1)) h2;rw[show a+1+(o.length - (a+1))=o.length by omega,h]at h3;exact h3
theorem qkk{N:Nat}{out:List (List Int)}(hN:N<=9600)(hr:qko N rel)(ho:yG out)(hl:out.length=N):ofL N (qjL (zI rel) N (zI out))=jX 400000 out rel:=by
 obtain ⟨g1,g2⟩:=Qd (rel:=rel) 400000 ho;have hfx:=Vi (rel:=rel) 400000 ho o_;have hup:∀{i j:Nat} {x:Int},Rch (zI rel) N i j->x∈(jX 400000 out rel).getD j []->x∈(jX 400000 out rel).getD i []:=λ{i j x} h=>by
  induction h with
  |refl=>exact id
  | step h e ih=>
    intro hx;obtain ⟨e1,e2,e3⟩:=e;exact ih (qgW hfx o_ e3 (by simpa using hx))
 refine List.ext_getElem (by rw[qiI,g2,hl]) λi h1 h2=>?_;have hi:i<N:=by rw[qiI]at h1;exact h1
 have e1:(ofL N (qjL (zI rel) N (zI out)))[i]=lst (qjL (zI rel) N (zI out) i) 1024:=by simp[ofL]
 have e2:(jX 400000 out rel)[i]=(jX 400000 out rel).getD i []:=by rw[List.getD_eq_getElem?_getD,ge_ h2];rfl
 rw[e1];refine vw (qfh _ _) (g1 _ (List.getElem_mem h2)).1 λx=>?_;rw[e2,qiB];constructor
 . rintro ⟨y,hy,hc,rfl⟩;obtain ⟨j,hj,hm⟩:= @of_decide_eq_true _ (Classical.propDecidable _) hc;have hm2:(y:Int)∈out.getD j []:=by
    unfold JZ at hm;rw[Bool.and_eq_true]at hm;exact of_decide_eq_true hm.2
   exact hup hj (kJ 400000 hm2)
 . intro hx;obtain ⟨j,hj,hm⟩:=qbH (rel:=rel) (T:=λa x=>a<N->∃j,Rch (zI rel) N a j/\x∈out.getD j []) (λa j x hj hT ha=>by
    have hmem:rel.getD a []∈rel:=by rw[List.getD_eq_getElem?_getD,ge_ (by rw[hr.1];exact ha)];exact List.getElem_mem _
    obtain ⟨k,rfl,hk⟩:=(hr.2 _ hmem).2 j hj;obtain ⟨b,hb,hm⟩:=hT hk;exact⟨b,(Rch.one ⟨ha,hk,hj⟩).trans hb,hm⟩) 400000 (out:=out) (λa x hx ha=>⟨a,.refl a,hx⟩) i x hx hi
   have hb:=(ho.getD j).2 x hm;refine⟨x.toNat,o_,?_,o_⟩;unfold qjL;refine @decide_eq_true _ (Classical.propDecidable _) ⟨j,hj,?_⟩
   show JZ (out.getD j []) x.toNat=true;unfold JZ;rw[Bool.and_eq_true];exact⟨decide_eq_true o_,decide_eq_true (by rw[show ((x.toNat:Nat):Int)=x by omega];exact hm)⟩
end Go.Proofs
