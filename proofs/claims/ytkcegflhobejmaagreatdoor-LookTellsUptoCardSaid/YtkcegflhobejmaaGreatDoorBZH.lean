import Derived.Test.YtkcegflhobejmaaGreatDoorBZK
set_option maxRecDepth 20000
set_option linter.all false
set_option maxHeartbeats 4000000
namespace Go.Proofs
open Go.E
abbrev qdR:List Int->Int×Int->List Int:=λl p=>if p.1<1000 then jm l p.1 else l
theorem qkm(l:List (Int×Int)):∀b:List Int,(l.foldl qdR b).length<=b.length+l.length:=by
 induction l with
 |nil=>intro b;exact Nat.le_refl _
 | cons p l ih=>
   intro b;have h1:(qdR b p).length<=b.length+1:=by
    unfold qdR;split
    . exact Yh _ _
    . omega
   have:=ih (qdR b p);rw[List.foldl_cons,List.length_cons];omega
def qgr(m:List Sta)(t:Int×Int):List Int:=(xO m (goS m t.1 t.2)).foldl qdR (if (1:Int)∈zl m (goS m t.1 t.2).toNat then[0]else[])
theorem qkP{s0:St}{next r:Nat}{m:List Sta}{xk:List Int}{xm:List (Int×Int)}{L0:List Int}{v3 v4 v5 w:V}{es:List V}{L:List (List Int)}{Q:Exit->St->Prop}(f0:s0.f 0=.sl 2 false (m.map Sta.V))(f3:s0.f 3=v3)(f4:s0.f 4=v4)(f5:s0.f 5=v5)(f6:s0.f 6=w)(f7:s0.f 7=vi r)(hw:qoy w L0)(hLl:L0.length<=1)(hgr:m[r]?=some {ker:=xk,mov:=xm})(hxl:xm.length<=64)(hnx:next<=s0.next)(hH:GrM s0.H next s0.next 1 es v4)(hT:Zy es L)(hL:L.length<=150000)(hml:m.length<=150)
(hQ:∀s' v es',s'.f 0=.sl 2 false (m.map Sta.V)->s'.f 3=v3->s'.f 5=v5->s'.f 4=v->s0.next<=s'.next->(∀j,j<next->s'.H j=s0.H j)->GrM s'.H next s'.next 1 es' v->Zy es' (L++[xm.foldl qdR L0])->Q .normal s'):ewp Tryz.prog qdT Q s0:=by
 repeat' with_reducible first|refine s_ ?_|simp -implicitDefEqProofs only[wZZ,seval,f0,f4,f6,f7]
 refine qc ?nx2 (λ(j:Nat) s=>s.f 0=?v2_0/\s.f 3=?v2_3/\s.f 4=?v2_4/\s.f 5=?v2_5/\s.f 7=?v2_7/\s.f 8=vi j/\(j<=xm.length)/\(s0.next<=s.next)/\((s.f 3=s0.f 3))/\((s.f 5=s0.f 5))/\((∀j,j<next->s.H j=s0.H j))/\(GrM s.H next s.next 1 es v4)/\((∃v,s.f 6=v/\qoy v ((xm.take j).foldl qdR L0)))) (λj=>xm.length - j) (0) wj_ (by refine⟨?_,?_,?_,?_,?_,?_,wo_,wg_,(by(simp -implicitDefEqProofs only[wL,seval])),(by(simp -implicitDefEqProofs only[wL,seval])),(by intro j hj;((try simp only[wM]);(repeat first|rw[if_pos trivial]|rw[if_pos rfl]|rw[if_neg o_]))),(by exact hH.keep rfl wg_ (λj h1 h2=>hh_)),(by exact⟨w,(by(simp -implicitDefEqProofs only[wL,seval]);exact f6),hw⟩)⟩<;>first|(simp -implicitDefEqProofs only[wL,wM,wN,wX,seval,Option.some.injEq]<;>exact wt_)|rfl|exact⟨_,rfl⟩) ?_;intro j s hnx ⟨g0,g3,g4,g5,g7,g8,k2_0,k2_1,k2_2,k2_3,k2_4,k2_5,k2_6⟩;obtain ⟨v6,g6,hv6⟩:=k2_6;have hzj:=w1_ j;have hln:=qkm (xm.take j) L0;rw[List.length_take]at hln;by_cases hj:j<xm.length
 . have hgj:xm[j]?=some xm[j]:=ge_ hj;have hst2:=jM qdR L0 hgj;generalize (xm.take j).foldl qdR L0=U at *;generalize xm[j]=p at *;obtain ⟨p1,p2⟩:=p;have hput:=je (l:=U) (x:=p1) o_;by_cases hp:p1<1000
   . have hst3:(xm.take (j+1)).foldl qdR L0=jm U p1:=(by rw[hst2];simp[qdR,hp]);repeat' with_reducible first|refine s_ ?_|simp -implicitDefEqProofs only[wZZ,seval,g0,g3,g4,g5,g7,g8,hzj,g6,f0,f7]|apply qa<;>intro h h_<;>(try simp only[wD,reduceCtorEq]at h_)<;>(try exact wb_)<;>(try simp only[h])|refine t_ ?_|refine cq2 hput hv6.2.2.1.er qf ?_
     refine⟨wg_,j+1,o_,?_⟩;(repeat refine⟨True.intro,?_⟩);exact⟨rfl,o_,wg_,trivial,trivial,k2_4,k2_5.keep rfl wg_ (λ_ _ _=>rfl),_,rfl,by rw[hst3];exact XH _ _⟩
   . have hst3:(xm.take (j+1)).foldl qdR L0=U:=(by rw[hst2];simp[qdR,hp]);repeat' with_reducible first|refine s_ ?_|simp -implicitDefEqProofs only[wZZ,seval,g0,g3,g4,g5,g7,g8,hzj,g6,f0,f7]|apply qa<;>intro h h_<;>(try simp only[wD,reduceCtorEq]at h_)<;>(try exact wb_)<;>(try simp only[h])|refine t_ ?_
     refine⟨wg_,j+1,o_,?_⟩;(repeat refine⟨True.intro,?_⟩);exact⟨rfl,o_,wg_,trivial,trivial,k2_4,k2_5.keep rfl wg_ (λ_ _ _=>rfl),v6,rfl,by rw[hst3];exact hv6⟩
 . have e:xm.take j=xm:=List.take_of_length_le o_;rw[e]at hv6;have hel:=hT.1;repeat' with_reducible first|refine s_ ?_|simp -implicitDefEqProofs only[wZZ,seval,g0,g3,g4,g5,g7,g8,g6,f0,f7,f4]|apply qa<;>intro h h_<;>(try simp only[wD,reduceCtorEq]at h_)<;>(try exact wb_)<;>(try simp only[h])|refine t_ ?_|apply qfg;(focus(rw[hv6.2.2.2.1];with_unfolding_all rfl));exact hv6.2.2.2.2.1;exact hv6.2.2.2.2.2;exact wu_
   apply qwJ (hg:=k2_5)
   . rfl
   . first|rfl|(simp only[wM];done)
   . exact qM.sl
   . rw[hel,List.length_singleton];omega
   . unfold maxLen;rw[hel,List.length_singleton];omega
   intro H1 h1 h2;refine hQ _ (.msl (s.next+8+3) 1 0 (es++[v6]).length) (es++[v6]) ?_ ?_ ?_ ?_ ?_ ?_ ?_ (hT.snoc hv6)
   . (simp -implicitDefEqProofs only[wL,seval]);rw[g0,f0]
   . (simp -implicitDefEqProofs only[wL,seval]);rw[g3,f3]
   . (simp -implicitDefEqProofs only[wL,seval]);rw[g5,f5]
   . (simp -implicitDefEqProofs only[wL,seval])
   . ((try simp only[wN])<;>omega)
   . intro j hj;rw[<- k2_4 j hj];exact h2 j hj o_
   . exact Or.inr ⟨_,rfl,h1,o_,wg_⟩
theorem qiz{H:Nat->Option MObj}{next:Nat}{g:Grammar}{m:List Sta}(hM:MOk g m)(hg:GOk g):qV Tryz.prog 19 [.sl 2 false (m.map Sta.V)] H next (λv H' n'=>next<=n'/\(∃es,GrM H' next n' 1 es v/\Zy es (zX m))/\∀j,j<next->H' j=H j):=by
 refine qN Tryz.func19 nm_ qpF (by show 1<=74;decide) ?_
 show ewp _ qgJ _ _;have hml:=hM.len;have hmv:=hM.mvl;have hpl:=hg.pl2;have htr:=jB (m:=m) o_ (λq h=>by have:=hmv q h;omega);have hdef:zX m=(qg m).map (qgr m):=rfl;have htg:∀t∈qg m,∃r:Nat,goS m t.1 t.2=r/\r<m.length:=λt h=>hM.trans_go h;rw[hdef];have htl:(qg m).length<=150000:=by have:=Zg (m:=m) (λq h=>by have:=hmv q h;omega) m.length;have e:qg m=jV m m.length:=rfl;rw[e];omega
 generalize qg m=T at *;repeat' with_reducible first|refine s_ ?_|simp -implicitDefEqProofs only[wZZ,seval]|refine cq1 htr qf ?_
 refine qc ?nx1 (λ(i:Nat) s=>s.f 0=?v1_0/\s.f 3=?v1_3/\s.f 5=vi i/\(i<=T.length)/\(next<=s.next)/\((∀j,j<next->s.H j=H j))/\((∃v es,s.f 4=v/\GrM s.H next s.next 1 es v/\Zy es ((T.take i).map (qgr m))))) (λi=>T.length - i) (0) wj_ (by refine⟨?_,?_,?_,wo_,wg_,(by intro j hj;((try simp only[wM]);(repeat first|rw[if_pos trivial]|rw[if_pos rfl]|rw[if_neg o_]))),(by exact⟨_,[],by(simp -implicitDefEqProofs only[wL,seval]),Or.inl ⟨rfl,rfl⟩,Zy.nil⟩)⟩<;>first|(simp -implicitDefEqProofs only[wL,wM,wN,wX,seval,Option.some.injEq]<;>exact wt_)|rfl|exact⟨_,rfl⟩) ?_;intro i s hnx ⟨g0,g3,g5,k1_0,k1_1,k1_2,k1_3⟩;obtain ⟨v4,es,g4,hG4,hT4⟩:=k1_3;have hz:=w1_ i;by_cases hi:i<T.length
 . have hgi:T[i]?=some T[i]:=ge_ hi;obtain ⟨r,hr,hrm⟩:=htg _ (List.getElem_mem hi);have hst:(T.take (i+1)).map (qgr m)=(T.take i).map (qgr m)++[qgr m T[i]]:=(by rw[List.take_add_one,hgi,List.map_append];rfl);have hgo:=kZ (m:=m) (q:=T[i].1) (sy:=T[i].2) o_ (λq h=>by have:=hmv q h;omega);have hgr:m[r]?=some m[r]:=ge_ hrm;have hxl:=hmv _ (List.getElem_mem hrm);have hkl:=hM.kl hpl _ (List.getElem_mem hrm);have hdn:=YE (k:=m[r].ker) o_;have hF:qgr m T[i]=m[r].mov.foldl qdR (if (1:Int)∈m[r].ker then[0]else[]):=by
    unfold qgr xO zl;rw[hr,show ((r:Int)).toNat=r from rfl,hgr];rfl
   rw[hr]at hgo;rw[hF]at hst;generalize m[r]=x at *;generalize T[i]=t at *;obtain ⟨t1,t2⟩:=t;obtain ⟨xk,xm⟩:=x;dsimp only at hgo hxl hkl hdn hst;obtain ⟨L0,hL0,hLl⟩:∃L0,L0=(if (1:Int)∈xk then([0]:List Int)else[])/\L0.length<=1:=⟨_,rfl,by split<;>simp⟩;rw[<- hL0]at hst;have hel:=hT4.1;rw[List.length_map,List.length_take]at hel;have W:= @qkP;unfold qiI qjD qhb qhv qgA qhG;generalize qdT=E at W ⊢;by_cases hc:(1:Int)∈xk
   . rw[decide_eq_true hc]at hdn;rw[if_pos hc]at hL0;repeat' with_reducible first|refine s_ ?_|simp -implicitDefEqProofs only[wZZ,seval,g0,g3,g5,hz,g4]|apply qa<;>intro h h_<;>(try simp only[wD,reduceCtorEq]at h_)<;>(try exact wb_)<;>(try simp only[h])|refine t_ ?_|refine cq3 hgo qf qf qf ?_|refine cq1 hdn qf ?_|apply VQ;(focus(first|exact qM.sl|exact qM.asl|exact qM.str));exact wf_;(focus(unfold maxLen;first|omega|(simp only[wZ]<;>omega)))
     refine W (r:=r) (v4:=v4) (es:=es) (L0:=L0) (L:=(T.take i).map (qgr m)) (next:=next) (v3:= .sl 2 false (T.map prV)) (v5:=vi i) (by(simp -implicitDefEqProofs only[wL,seval]);exact g0) (by(simp -implicitDefEqProofs only[wL,seval]);exact g3) (by(simp -implicitDefEqProofs only[wL,seval]);exact g4) (by(simp -implicitDefEqProofs only[wL,seval]);exact g5) (by(simp -implicitDefEqProofs only[wL,seval])<;>rfl) (by(simp -implicitDefEqProofs only[wL,seval])) (by rw[hL0];exact qkE _ _ [0]) hLl hgr hxl wg_ (hG4.keep rfl wg_ (λj h1 h2=>hh_)) hT4 (by rw[List.length_map,List.length_take];omega) hml ?_;intro s' v es' q0 q3 q5 q4 qn qH qG qT;(try simp only[wN]at qn);repeat' with_reducible first|refine s_ ?_|simp -implicitDefEqProofs only[wZZ,seval,g0,g3,g5,q0,q3,q5,q4,hz]
     refine⟨wg_,i+1,o_,?_⟩;(repeat refine⟨True.intro,?_⟩);exact⟨rfl,o_,wg_,λj hj=>by rw[qH j hj];((try simp only[wM]);(repeat first|rw[if_pos trivial]|rw[if_pos rfl]|rw[if_neg o_]));exact k1_2 j hj,v,es',rfl,qG.keep rfl wg_ (λ_ _ _=>rfl),by rw[hst];exact qT⟩
   . rw[decide_eq_false hc]at hdn;rw[if_neg hc]at hL0;repeat' with_reducible first|refine s_ ?_|simp -implicitDefEqProofs only[wZZ,seval,g0,g3,g5,hz,g4]|apply qa<;>intro h h_<;>(try simp only[wD,reduceCtorEq]at h_)<;>(try exact wb_)<;>(try simp only[h])|refine t_ ?_|refine cq3 hgo qf qf qf ?_|refine cq1 hdn qf ?_
     refine W (r:=r) (v4:=v4) (es:=es) (L0:=L0) (L:=(T.take i).map (qgr m)) (next:=next) (v3:= .sl 2 false (T.map prV)) (v5:=vi i) (by(simp -implicitDefEqProofs only[wL,seval]);exact g0) (by(simp -implicitDefEqProofs only[wL,seval]);exact g3) (by(simp -implicitDefEqProofs only[wL,seval]);exact g4) (by(simp -implicitDefEqProofs only[wL,seval]);exact g5) (by(simp -implicitDefEqProofs only[wL,seval])<;>rfl) (by(simp -implicitDefEqProofs only[wL,seval])) (by rw[hL0];exact XH true []) hLl hgr hxl wg_ (hG4.keep rfl wg_ (λj h1 h2=>hh_)) hT4 (by rw[List.length_map,List.length_take];omega) hml ?_;intro s' v es' q0 q3 q5 q4 qn qH qG qT;(try simp only[wN]at qn);repeat' with_reducible first|refine s_ ?_|simp -implicitDefEqProofs only[wZZ,seval,g0,g3,g5,q0,q3,q5,q4,hz]
     refine⟨wg_,i+1,o_,?_⟩;(repeat refine⟨True.intro,?_⟩);exact⟨rfl,o_,wg_,λj hj=>by rw[qH j hj];((try simp only[wM]);(repeat first|rw[if_pos trivial]|rw[if_pos rfl]|rw[if_neg o_]));exact k1_2 j hj,v,es',rfl,qG.keep rfl wg_ (λ_ _ _=>rfl),by rw[hst];exact qT⟩
 . have e:i=T.length:=o_;subst e;rw[List.take_length]at hT4;repeat' with_reducible first|refine s_ ?_|simp -implicitDefEqProofs only[wZZ,seval,g0,g3,g5,g4]
   exact Ji rfl (Or.inr rfl) ⟨wg_,⟨es,by(simp -implicitDefEqProofs only[wL,seval]);exact hG4.keep rfl wg_ (λ_ _ _=>rfl),hT4⟩,k1_2⟩

set_option maxHeartbeats 8000000
theorem qsE{H:Nat->Option MObj}{next id n:Nat}{es:List V}{L rel:List (List Int)}(hn:n<=9600)(hid:id<next)(hH:H id=some (.own 1 es false))(hT:Zy es L)(hO:xH L)(hL:L.length=n)(hR:qhH n rel):qV Tryz.prog 64 [.msl id 1 0 n,.sl 1 false (rel.map zF)] H next (λv H' n'=>next<=n'/\v=.msl id 1 0 n/\(∃es',H' id=some (.own 1 es' false)/\Zy es' (j6 400000 L rel))/\∀j,j<next->j≠id->H' j=H j):=by
 refine qN Tryz.func64 nm_ qrO (by show 2<=74;decide) ?_
 show ewp _ qre _ _;obtain ⟨R,hRR⟩:∃R,R=j6 400000 L rel:=⟨_,rfl⟩;rw[<- hRR];have hRl:=hR.1;repeat' with_reducible first|refine s_ ?_|simp -implicitDefEqProofs only[wZZ,seval]
 refine qc ?nx1 (λ(q:List (List Int)×Bool) s=>s.f 0=?v1_0/\s.f 1=?v1_1/\s.f 5=.bool q.2/\(xH q.1)/\((q.1.length=n))/\((q.2=true->∃f,j6 f q.1 rel=R/\400000<=f+szL q.1))/\((q.2=false->q.1=R))/\((∃es,s.H id=some (.own 1 es false)/\Zy es q.1))/\((∀j,j<next->j≠id->s.H j=H j))) (λq=>2 *(400000 - szL q.1)+(if q.2=true then 1 else 0)) ((L,true)) wj_ (by refine⟨?_,?_,?_,(by exact hO),(by exact hL),(by exact λ_=>⟨400000,hRR.symm,Nat.le_add_right _ _⟩),(by exact λe=>(by cases e)),(by exact⟨es,by first|exact hH|(((try simp only[wM]);(repeat first|rw[if_pos trivial]|rw[if_pos rfl]|rw[if_neg o_]));exact hH),hT⟩),(by intro j hj hne;((try simp only[wM]);(repeat first|rw[if_pos trivial]|rw[if_pos rfl]|rw[if_neg o_])))⟩<;>first|(simp -implicitDefEqProofs only[wL,wM,wN,wX,seval,Option.some.injEq]<;>exact wt_)|rfl|exact⟨_,rfl⟩) ?_;intro q s hnx ⟨g0,g1,g5,k1_0,k1_1,k1_2,k1_3,k1_4,k1_5⟩;obtain ⟨o,b⟩:=q;dsimp only at *;obtain ⟨es1,oo1,hT1⟩:=k1_4;have hsz:=qhe k1_0;cases b with
 | false=>
   have e:=k1_3 rfl;subst e;repeat' with_reducible first|refine s_ ?_|simp -implicitDefEqProofs only[wZZ,seval,g0,g1,g5]
   exact Ji rfl (Or.inr rfl) ⟨wg_,by(simp -implicitDefEqProofs only[wL,seval]),⟨es1,oo1,hT1⟩,k1_5⟩
 | true =>
   obtain ⟨f,hf1,hf2⟩:=k1_2 rfl;obtain ⟨f,rfl⟩:∃f',f=f'+1:=⟨f - 1,o_⟩;unfold j6 at hf1;rw[kX,k1_1]at hf1;repeat' with_reducible first|refine s_ ?_|simp -implicitDefEqProofs only[wZZ,seval,g0,g1,g5]
   refine qc ?nx2 (λ(p:Nat×Bool) s=>s.f 0=?v2_0/\s.f 1=?v2_1/\s.f 5=.bool p.2/\s.f 6=vi p.1/\(p.1<=n)/\((∃es,s.H id=some (.own 1 es false)/\Zy es (xS rel o p.1)))/\((∀j,j<next->j≠id->s.H j=H j))/\((p.2=false->xS rel o p.1=o))/\((p.2=true->szL o<szL (xS rel o p.1)))) (λp=>n - p.1) ((0,false)) wj_ (by refine⟨?_,?_,?_,?_,wo_,(by exact⟨es1,by((try simp only[wM]);(repeat first|rw[if_pos trivial]|rw[if_pos rfl]|rw[if_neg o_]));exact oo1,hT1⟩),(by intro j hj hne;((try simp only[wM]);(repeat first|rw[if_pos trivial]|rw[if_pos rfl]|rw[if_neg o_]));exact k1_5 j hj hne),(by exact λ_=>rfl),(by exact λe=>(by cases e))⟩<;>first|(simp -implicitDefEqProofs only[wL,wM,wN,wX,seval,Option.some.injEq,g0,g1,g5]<;>exact wt_)|rfl|exact⟨_,rfl⟩) ?_;intro p s hnx ⟨g0,g1,g5,g6,k2_0,k2_1,k2_2,k2_3,k2_4⟩;obtain ⟨i,b⟩:=p;dsimp only at *;obtain ⟨es2,oo2,hT2⟩:=k2_1;have hz:=w1_ i;by_cases hi:i<n
   . have hPl:=xG rel o i;have hPo:=Zr (rel:=rel) k1_0 i o_;obtain ⟨O,hOe⟩:∃O,O=xS rel o i:=⟨_,rfl⟩;have hsu:=xC rel o i;rw[<- hOe]at hPl hPo hsu hT2 k2_3 k2_4;have hgO:O[i]?=some O[i]:=ge_ o_;have hgr:rel[i]?=some rel[i]:=ge_ o_;obtain ⟨hrl,hrm⟩:=hR.2 _ (List.getElem_mem (show i<rel.length by omega));have hrD:rel.getD i []=rel[i]:=(by rw[List.getD,hgr];rfl);rw[VX hgO,hrD]at hsu;have hl0:=hPo _ (List.getElem_mem (show i<O.length by omega));generalize rel[i]=r at *;generalize O[i]=l0 at *;obtain ⟨w0,hw0,hw1⟩:=hT2.2 i l0 hgO;have hwl:=hw1.1;have hwa:=hw1.2.2.2.2.2;have hset:O.set i (Xg O (r.take 0) l0)=O:=qa2 hgO;have hl0l:=hl0.len;repeat' with_reducible first|refine s_ ?_|simp -implicitDefEqProofs only[wZZ,seval,g0,g1,g5,g6,hwl]|apply qa<;>intro h h_<;>(try simp only[wD,reduceCtorEq]at h_)<;>(try exact wb_)<;>(try simp only[h])|refine t_ ?_|apply qP;omega;(focus(rw[Int.toNat_natCast];exact hi))|(rw[oo2];refine ldV rfl hw0 hwa ?_)
     refine qc ?nx3 (λ(k:Nat) s=>s.f 0=?v3_0/\s.f 1=?v3_1/\s.f 5=?v3_5/\s.f 6=?v3_6/\s.f 7=?v3_7/\s.f 8=?v3_8/\s.f 9=vi k/\(k<=r.length)/\((∃es,s.H id=some (.own 1 es false)/\Zy es (O.set i (Xg O (r.take k) l0))))/\((∀j,j<next->j≠id->s.H j=H j))) (λk=>r.length - k) (0) wj_ (by refine⟨?_,?_,?_,?_,?_,?_,?_,wo_,(by exact⟨es2,by((try simp only[wM]);(repeat first|rw[if_pos trivial]|rw[if_pos rfl]|rw[if_neg o_]));exact oo2,by rw[hset];exact hT2⟩),(by intro j hj hne;((try simp only[wM]);(repeat first|rw[if_pos trivial]|rw[if_pos rfl]|rw[if_neg o_]));exact k2_2 j hj hne)⟩<;>first|(simp -implicitDefEqProofs only[wL,wM,wN,wX,seval,Option.some.injEq,g0,g1,g5,g6]<;>exact wt_)|rfl|exact⟨_,rfl⟩) ?_;intro k s hnx ⟨g0,g1,g5,g6,g7,g8,g9,k3_0,k3_1,k3_2⟩;obtain ⟨es3,oo3,hT3⟩:=k3_1;have hzk:=w1_ k;by_cases hk:k<r.length
     . have hgk:r[k]?=some r[k]:=ge_ hk;obtain ⟨fk,hfk,hfn⟩:=hrm _ (List.getElem_mem hk);rw[hfk]at hgk;obtain ⟨S,hS1,hS2,hS3⟩:=qpG hPo (r:=r) hgO hgk o_;have hC:=(yx hPo (r:=r.take k) hl0).1;have hSl:=hS1.len;generalize Xg O (r.take k) l0=C at *;repeat' with_reducible first|refine s_ ?_|simp -implicitDefEqProofs only[wZZ,seval,g0,g1,g5,g6,g7,g8,g9]|apply qa<;>intro h h_<;>(try simp only[wD,reduceCtorEq]at h_)<;>(try exact wb_)<;>(try simp only[h])
       refine qc ?nx4 (λ(j:Nat) s=>s.f 0=?v4_0/\s.f 1=?v4_1/\s.f 5=?v4_5/\s.f 6=?v4_6/\s.f 7=?v4_7/\s.f 8=?v4_8/\s.f 9=?v4_9/\s.f 10=vi j/\(j<=S.length)/\((∃es,s.H id=some (.own 1 es false)/\Zy es (O.set i ((S.take j).foldl jm C))))/\((∀j,j<next->j≠id->s.H j=H j))) (λj=>S.length - j) (0) wj_ (by refine⟨?_,?_,?_,?_,?_,?_,?_,?_,wo_,(by exact⟨es3,by((try simp only[wM]);(repeat first|rw[if_pos trivial]|rw[if_pos rfl]|rw[if_neg o_]));exact oo3,hT3⟩),(by intro j hj hne;((try simp only[wM]);(repeat first|rw[if_pos trivial]|rw[if_pos rfl]|rw[if_neg o_]));exact k3_2 j hj hne)⟩<;>first|(simp -implicitDefEqProofs only[wL,wM,wN,wX,seval,Option.some.injEq,g0,g1,g5,g6,g7,g8,g9]<;>exact wt_)|rfl|exact⟨_,rfl⟩) ?_;intro j s hnx ⟨g0,g1,g5,g6,g7,g8,g9,g10,k4_0,k4_1,k4_2⟩;obtain ⟨es4,oo4,hT4⟩:=k4_1;have hzj:=w1_ j;obtain ⟨wf,hf0,hf1'⟩:=hT4.2 fk S (hS3 j);have hfl:=hf1'.1;have hfa:=hf1'.2.2.2.2.2;have hfi:=hf1'.2.1;by_cases hj:j<S.length
       . have hgj:S[j]?=some S[j]:=ge_ hj;have hU:=(hC.join (hS1.take j));have hUl:=hU.len;have hst:=jM jm C hgj;obtain ⟨wi,hi0,hi1⟩:=hT4.2 i ((S.take j).foldl jm C) (by rw[List.getElem?_set,if_pos rfl,if_pos o_]);have hia:=hi1.2.2.2.2.2;generalize (S.take j).foldl jm C=U at *;generalize S[j]=y at *;have hput:=je (l:=U) (x:=y) o_;have hT5:=hT4.set (XH false (jm U y)) i;rw[List.set_set]at hT5;repeat' with_reducible first|refine s_ ?_|simp -implicitDefEqProofs only[wZZ,seval,g0,g1,g5,g6,g7,g8,g9,g10,hzj,hfl]|apply qa<;>intro h h_<;>(try simp only[wD,reduceCtorEq]at h_)<;>(try exact wb_)<;>(try simp only[h])|refine t_ ?_|apply qP;omega;(focus(rw[Int.toNat_natCast];first|exact hi|exact hfn))|(rw[oo4];refine ldV rfl hf0 hfa ?_)|(rw[oo4];refine ldV rfl hi0 hia ?_)|(refine yc (hfi _ _ _ o_ (by with_unfolding_all exact hgj)) ?_)|refine cq2 hput hi1.2.2.1.er qf ?_|(refine stV oo4 hi0 hia rfl rfl rfl ?_)
         exact⟨wg_,j+1,o_,trivial,trivial,trivial,trivial,trivial,trivial,trivial,rfl,o_,⟨_,rfl,by rw[hst];exact hT5⟩,λx hx hne=>by((try simp only[wM]);(repeat first|rw[if_pos trivial]|rw[if_pos rfl]|rw[if_neg o_]));exact k4_2 x hx hne⟩
       . have e:S.take j=S:=List.take_of_length_le o_;rw[e,hS2]at hT4;repeat' with_reducible first|refine s_ ?_|simp -implicitDefEqProofs only[wZZ,seval,g0,g1,g5,g6,g7,g8,g9,g10,hzk,hfl]|apply qa<;>intro h h_<;>(try simp only[wD,reduceCtorEq]at h_)<;>(try exact wb_)<;>(try simp only[h])|refine t_ ?_|apply qP;omega;(focus(rw[Int.toNat_natCast];exact hfn))|(rw[oo4];refine ldV rfl hf0 hfa ?_)
         exact⟨wg_,k+1,o_,trivial,trivial,trivial,trivial,trivial,trivial,rfl,o_,⟨es4,oo4,hT4⟩,k4_2⟩
     . have e:r.take k=r:=List.take_of_length_le o_;rw[e]at hT3;have hrow:=qd1 hPo (r:=r) hl0;have hrle:=qit hPo (r:=r) hl0;have hrok:=(yx hPo (r:=r) hl0).1.len;have hsz2:=qcU (l:=Xg O r l0) hgO;obtain ⟨wi,hi0,hi1⟩:=hT3.2 i (Xg O r l0) (by rw[List.getElem?_set,if_pos rfl,if_pos o_]);have hil:=hi1.1;have hia:=hi1.2.2.2.2.2;generalize Xg O r l0=l1 at *
       skip
       cases b with
       | true=>
         repeat' with_reducible first|refine s_ ?_|simp -implicitDefEqProofs only[wZZ,seval,g0,g1,g5,g6,g7,g8,g9,hil]|apply qa<;>intro h h_<;>(try simp only[wD,reduceCtorEq]at h_)<;>(try exact wb_)<;>(try simp only[h])|simp -implicitDefEqProofs (disch:=omega) only[w64,if_neg]
         exact⟨wg_,(i+1,true),d_,trivial,trivial,rfl,rfl,d_,⟨es3,oo3,by dsimp only;rw[hsu];exact hT3⟩,k3_2,λe=>(by cases e),λ_=>(by dsimp only;rw[hsu];have:=k2_4 rfl;omega)⟩
       | false=>
         by_cases he:l1.length=l0.length
         . repeat' with_reducible first|refine s_ ?_|simp -implicitDefEqProofs only[wZZ,seval,g0,g1,g5,g6,g7,g8,g9,hil]|apply qa<;>intro h h_<;>(try simp only[wD,reduceCtorEq]at h_)<;>(try exact wb_)<;>(try simp only[h])|apply qP;omega;(focus(rw[Int.toNat_natCast];exact hi))|(rw[oo3];refine ldV rfl hi0 hia ?_)|simp -implicitDefEqProofs (disch:=omega) only[w64,if_neg]
           exact⟨wg_,(i+1,false),d_,trivial,trivial,congrArg V.bool (by rw[he];simp),rfl,d_,⟨es3,oo3,by dsimp only;rw[hsu];exact hT3⟩,k3_2,λ_=>(by dsimp only;rw[hsu,hrow he,qa2 hgO];exact k2_3 rfl),λe=>(by cases e)⟩
         . repeat' with_reducible first|refine s_ ?_|simp -implicitDefEqProofs only[wZZ,seval,g0,g1,g5,g6,g7,g8,g9,hil]|apply qa<;>intro h h_<;>(try simp only[wD,reduceCtorEq]at h_)<;>(try exact wb_)<;>(try simp only[h])|apply qP;omega;(focus(rw[Int.toNat_natCast];exact hi))|(rw[oo3];refine ldV rfl hi0 hia ?_)|simp -implicitDefEqProofs (disch:=omega) only[w64,if_neg]
           exact⟨wg_,(i+1,true),d_,trivial,trivial,congrArg V.bool so_,rfl,d_,⟨es3,oo3,by dsimp only;rw[hsu];exact hT3⟩,k3_2,λe=>(by cases e),λ_=>(by dsimp only;rw[hsu];have h9:=k2_3 rfl;rw[h9]at hsz2;rw[h9];omega)⟩
   . have e:i=n:=o_;subst e;have hPl:=xG rel o i;have hPo:=Zr (rel:=rel) k1_0 i o_;have hPs:=qhe hPo;generalize xS rel o i=O at *
     skip
     repeat' with_reducible first|refine s_ ?_|simp -implicitDefEqProofs only[wZZ,seval,g0,g1,g5,g6]
     refine⟨wg_,(O,b),?_,trivial,trivial,rfl,hPo,by rw[hPl];exact k1_1,λe=>?_,λe=>?_,⟨es2,oo2,hT2⟩,k2_2⟩
     . dsimp only;cases b with
       |false=>rw[k2_3 rfl,if_neg dc_];omega
       |true=>have:=k2_4 rfl;rw[if_pos rfl];omega
     . have h1:=k2_4 e;rw[if_neg (λh=>by rw[h]at h1;omega)]at hf1;exact⟨f,hf1,d_⟩
     . have h1:=k2_3 e;rw[if_pos h1]at hf1;dsimp only;rw[h1];exact hf1

set_option maxHeartbeats 4000000
variable {g:Grammar}
theorem YT{m:List Sta}(h:MOk g m)(hg:GOk g):xH (zX m):=by
 intro l hl;have hdef:zX m=(qg m).map (qgr m):=rfl;rw[hdef,List.mem_map]at hl;obtain ⟨t,ht,rfl⟩:=hl;obtain ⟨r,hr,hrm⟩:=h.trans_go (q:=t.1) (s:=t.2) ht;unfold qgr;rw[hr];refine yu xY _ _ _ ?_ λb p hp hb=>?_
 . split
   . exact⟨List.pairwise_singleton _ _,λx hx=>by rw[List.mem_singleton]at hx;omega⟩
   . exact Q9
 . unfold qdR;split
   . rename_i h1;obtain ⟨q,hq,hpm⟩:=h.movAt_mem hp;have hs:=(h.mv q (List.mem_of_getElem? hq) p hpm).1;have htk:=hg.tk2;refine⟨jA hb.1,λx hx=>(zC.1 hx).elim (hb.2 x) λe=>?_⟩;subst e;rcases hs with ⟨t,e,ht⟩|⟨k,e,hk⟩<;>omega
   . exact hb
theorem Xt(m:List Sta):(zX m).length=(qg m).length:=by have hdef:zX m=(qg m).map (qgr m):=rfl;rw[hdef,List.length_map]
theorem qfz{m:List Sta}{E:Nat->Bool}(h:MOk g m):qhH (qg m).length (jZ E m):=by
 have hdef:jZ E m=(qg m).map (qkl E (qg m) m):=rfl;refine⟨by rw[hdef,List.length_map],λl hl=>?_⟩;rw[hdef,List.mem_map]at hl;obtain ⟨t,ht,rfl⟩:=hl;obtain ⟨r,hr,hrm⟩:=h.trans_go (q:=t.1) (s:=t.2) ht;unfold qkl;rw[hr];constructor
 . have h1:=qft E (qg m) r (xO m r) [];have h2:(xO m r).length<=64:=by
    unfold xO;rw[show ((r:Int)).toNat=r from rfl];cases hm:m[r]? with
    |none=>simp
    |some q=>exact h.mvl q (List.mem_of_getElem? hm)
   rw[List.length_nil]at h1;omega
 . refine yu (λb=>∀x∈b,∃k:Nat,x=(k:Int)/\k<(qg m).length) _ _ _ (λx hx=>by cases hx) λb p hp hb=>?_;unfold qbu;split
   . rename_i h1;obtain ⟨q,hq,hpm⟩:=h.movAt_mem hp;intro x hx;rcases zC.1 hx with hx|e
     . exact hb x hx
     . rw[e];exact Yp (J7 hq h1.1 (t:=p.2) hpm)
   . exact hb
theorem qkz{E:Nat->Bool}{m:List Sta}{i k:Nat}{q:Int}{r:List Int}{out:List (List Int)}(hi:i<(qg m).length)(h:Ql (qg m).length out):Ql (qg m).length (Xq E m i q r out k):=by
 unfold Xq;dsimp only;split
 . rename_i hc;cases hg:out[(JA (qg m) (zH m q (r.take k)) (r.getD k 0)).toNat]? with
   | none=>
     rw[List.modify_eq_self (by rw[List.getElem?_eq_none_iff]at hg;exact hg)];exact h
   | some l=>
     rw[Zu _ hg];exact h.set (Ql.put (h.2 l (List.mem_of_getElem? hg)) hi) _
 . exact h
theorem qmH{m:List Sta}{E:Nat->Bool}:Ql (qg m).length (ze g E m):=by
 unfold ze;refine yu (Ql (qg m).length) _ _ _ (qbS _) λb i hi hb=>?_;refine yu (Ql (qg m).length) _ _ _ hb λb p _ hb=>?_;unfold Yy;split
 . exact yu (Ql (qg m).length) _ _ _ hb λb k _ hb=>qkz (List.mem_range.1 hi) hb
 . exact hb
theorem qeW{m:List Sta}{E:Nat->Bool}(h:MOk g m):qhH (qg m).length (ze g E m):=by have h1:=qmH (g:=g) (m:=m) (E:=E);refine⟨h1.1,λl hl=>⟨?_,(h1.2 l hl).2⟩⟩;have:=Ql.len (h1.2 l hl);have:=h.trans_len;omega
theorem QK{m:List Sta}{E:Nat->Bool}(h:MOk g m)(hg:GOk g):xH (zW g E m)/\(zW g E m).length=(qg m).length:=by unfold zW;have h1:=Zv (rel:=jZ E m) 400000 (YT h hg);have h2:=Zv (rel:=ze g E m) 400000 h1.1;exact⟨h2.1,by rw[h2.2,h1.2,Xt]⟩

set_option maxHeartbeats 8000000
theorem qie{P:Program}[Glob P]{z id:Nat}{s:St}{K:V->St->Prop}{f:FuncId}{vs:List V}{H:Nat->Option MObj}{N:Nat}(hH:s.H=H)(hN:s.next=N)
(h:qV P f vs H N λv H' n'=>qcO z N n' H H'/\K v {s with H:=H',next:=n'}):kG P (.k z) id s K f vs:=by
 subst hN;subst hH;refine Or.inr ⟨rfl,?_⟩;rw[List.append_nil];exact h
theorem kC{m:List Sta}{E:Nat->Bool}(hM:MOk g m)(hg:GOk g)(hE:IsGrow g false E)(hne:qg m≠[]):Pure Tryz.prog 29 [g.V,.sl 2 false (m.map Sta.V)] (.sl 1 false ((zW g E m).map zF)):=by
 refine pure_intro Tryz.func29 nm_ qrY (by show 2<=15;decide) ?_
 show ewp _ qx3 _ _;have hre:=X7 hM hg hE;have hin:=Js hM hg hE hM.trans_len;have hdi:= @qiz;have hdl:=Xt m;have hrr:=qfz (E:=E) hM;have hir:=qeW (g:=g) (E:=E) hM;have hdo:=YT hM hg;have htl:=hM.trans_len;have hgo:=Zv (rel:=jZ E m) 400000 hdo;have hne2:(qg m).length≠0:=λe=>hne (List.eq_nil_of_length_eq_zero e);have lab1:∀(es:List V) (ro:Bool),lab (.own 1 es ro)≠10:=λes ro e=>by
  cases es with
  |nil=>cases e
  |cons a l=>unfold lab at e;dsimp only at e;split at e<;>omega
 have keepG:∀{H H':Nat->Option MObj} {N N' D:Nat} {es es':List V},N<=N'->H D=some (.own 1 es false)->H' D=some (.own 1 es' false)->(∀j,j<N->j≠D->H' j=H j)->qcO 10 N N' H H':=λ{H H' N N' D es es'} h1 h2 h3 h4=>by
  refine⟨h1,λid h e=>?_,λid ob h hl=>?_⟩
  . by_cases e2:id=D
    . rw[e2,h2]at e;cases e
    . rw[h4 id h e2];exact e
  . by_cases e2:id=D
    . rw[e2,h2,h3];constructor<;>intro e<;>cases e<;>exact absurd hl (lab1 _ _)
    . rw[h4 id h e2]
 repeat' with_reducible first|refine qE ?_|simp -implicitDefEqProofs only[wZZ,seval]|refine t_ ?_
 refine qie rfl rfl ((qiz hM hg).mono ?_);rintro v1 H1 n1 ⟨q1,⟨es1,q2,q3⟩,q4⟩;have o1:H1 0=some (.own 5 [g.V] false):=(q4 0 wg_).trans wc_;have b1:13<=n1:=q1;obtain ⟨D,e1,d1,d2,d3⟩:∃D,v1=.msl D 1 0 (qg m).length/\H1 D=some (.own 1 es1 false)/\0<D/\D<n1:=(by rcases q2 with ⟨_,h⟩|⟨D,h1,h2,h3,h4⟩;{have:=q3.1;rw[‹es1=[]›,hdl]at this;exact absurd this.symm hne2};{have:=q3.1;rw[hdl]at this;rw[this]at h1;exact⟨D,h1,h2,Nat.lt_of_lt_of_le dc_ (show 13<=D from h3),h4⟩});subst e1;refine⟨⟨q1,λid h e=>(by rw[q4 id h];exact e),λid ob h _=>(by rw[q4 id h])⟩,?_⟩;repeat' with_reducible first|simp -implicitDefEqProofs only[wZZ,seval]|(rw[o1];refine And.intro rfl ?_)|refine cq2 hre qf qf ?_|refine t_ ?_
 refine qie rfl rfl ((qsE htl d3 d1 q3 hdo hdl hrr).mono ?_);rintro v2 H2 n2 ⟨p1,p2,⟨es2,p3,p4⟩,p5⟩;subst p2;have p1:n1<=n2:=p1;have o2:H2 0=some (.own 5 [g.V] false):=(p5 0 (show 0<n1 by omega) o_).trans o1;refine⟨keepG p1 d1 p3 p5,?_⟩;repeat' with_reducible first|simp -implicitDefEqProofs only[wZZ,seval]|(rw[o2];refine And.intro rfl ?_)|refine cq2 hin qf qf ?_|refine t_ ?_
 refine qie rfl rfl ((qsE htl (Nat.lt_of_lt_of_le d3 p1) p3 p4 hgo.1 (hgo.2.trans hdl) hir).mono ?_);rintro v3 H3 n3 ⟨r1,r2,⟨es3,r3,r4⟩,r5⟩;subst r2;refine⟨keepG r1 p3 r3 r5,?_⟩;repeat' with_reducible first|refine Qi ?_
 refine qx rfl (Or.inr rfl) ?_;(simp -implicitDefEqProofs only[wL,seval]);exact r4.er r3 (QK (E:=E) hM hg).2

abbrev qjz(f:List (List Int)):List Int->Int->List Int:=λl b=>joinL l (f.getD b.toNat [])
abbrev qgy(g:Grammar)(m:List Sta)(f:List (List Int))(q:Nat)(p:Int):Lk:={st:=q,pr:=p,tk:=(yR g m q p).foldl (qjz f) []}
def qfw(g:Grammar)(m:List Sta)(f:List (List Int))(n:Nat):List Lk:=(List.range n).flatMap λ(q:Nat)=>(XG g (zl m q)).map (qgy g m f q)
theorem Y6(g:Grammar)(m:List Sta)(f:List (List Int))(n:Nat):qfw g m f (n+1)=qfw g m f n++(XG g (zl m n)).map (qgy g m f n):=by unfold qfw;rw[List.range_succ,List.flatMap_append];simp
theorem qaM{f:List (List Int)}(hf:xH f):∀(b l:List Int),xY l->xY (b.foldl (qjz f) l)
 |[],l,h=>h
 |a::b,l,h=>qaM hf b _ (h.join (hf.getD _))
theorem qbG(hg:GOk g){k:List Int}(hx:∀x∈k,Zn g x)(hr:jP k):∀p∈XG g k,∃n:Nat,p=n/\1<=n/\n<g.prods.length:=by
 intro p hp;unfold XG at hp;obtain ⟨_,hok,_⟩:=zR hg hx hr;rw[List.mem_filterMap]at hp;obtain ⟨x,h1,h2⟩:=hp;obtain ⟨a,d,pr,ha,hd,hpr,hdl,hn⟩:=(hok x h1).nat;split at h2
 . rename_i h3;have hap:=(List.getElem?_eq_some_iff.1 hpr).1;cases h2;exact⟨a,ha,o_,hap⟩
 . cases h2
theorem Vf(hg:GOk g){k:List Int}(hx:∀x∈k,Zn g x)(hr:jP k):(XG g k).length<=960:=by obtain ⟨_,hok,hcb⟩:=zR hg hx hr;unfold XG;exact Nat.le_trans (List.length_filterMap_le _ _) hcb
theorem qcJ{m:List Sta}{q p:Int}:∀x∈yR g m q p,∃n:Nat,x=n/\n<(qg m).length:=by intro x hx;unfold yR at hx;rw[List.mem_map]at hx;obtain ⟨n,hn,rfl⟩:=hx;exact⟨n,rfl,List.mem_range.1 (List.mem_filter.1 hn).1⟩
theorem VB{m:List Sta}{E:Nat->Bool}(hM:MOk g m)(hg:GOk g)(hE:IsGrow g false E)(hne:qg m≠[]):Pure Tryz.prog 32 [g.V,.sl 2 false (m.map Sta.V)] (.sl 3 false ((qaI g E m).map Lk.V)):=by
 refine pure_intro Tryz.func32 nm_ qwd (by show 2<=87;decide) ?_
 show ewp _ qrm _ _;have hml:=hM.len;have hmv:=hM.mvl;have hfo:=kC hM hg hE hne;obtain ⟨hO,hOl⟩:=QK (E:=E) hM hg;have hdef:qaI g E m=qfw g m (zW g E m) m.length:=rfl;rw[hdef];generalize zW g E m=f at *;repeat' with_reducible first|refine s_ ?_|simp -implicitDefEqProofs only[wZZ,seval]|refine cq2 hfo qf qf ?_|refine t_ ?_
 refine qc ?nx1 (λ(q:Nat) s=>s.f 1=?v1_1/\s.f 2=?v1_2/\s.f 5=?v1_5/\s.H 0=some (.own 5 [g.V] false)/\s.f 7=vi q/\(q<=m.length)/\((qfw g m f q).length<=q *960)/\((∃v es,s.f 6=v/\Gr s.H s.next 3 es v/\Ja es ((qfw g m f q).map Lk.V)))) (λq=>m.length - q) (0) wj_ (by refine⟨?_,?_,?_,?_,?_,wo_,(by exact Nat.zero_le _),(by exact⟨_,[],(by(simp -implicitDefEqProofs only[wL,seval])<;>rfl),Gr.nil,.nil⟩)⟩<;>first|(simp -implicitDefEqProofs only[wL,wM,wN,wX,seval,Option.some.injEq]<;>exact wt_)|rfl|exact⟨_,rfl⟩) ?_;intro q s hnx ⟨g1,g2,g5,o0,g7,k1_0,k1_1,k1_2⟩;obtain ⟨v6,es,g6,hG6,hE6⟩:=k1_2;have hz:=w1_ q;by_cases hq:q<m.length
 . have hgq:m[q]?=some m[q]:=ge_ hq;have hqm:=List.getElem_mem hq;have hkr:=hM.kr _ hqm;have hki:=hM.ki _ hqm;have hkl:=hM.kl hg.pl2 _ hqm;have hen:=Vj hki hkr o_ hg;have hst:=Y6 g m f q;have hkA:zl m q=m[q].ker:=(by unfold zl;rw[hgq];rfl);have hem:=qbG hg hki hkr;have hel:=Vf hg hki hkr;rw[hkA]at hst;generalize XG g m[q].ker=U at *;generalize m[q]=x at *;obtain ⟨xk,xm⟩:=x;dsimp only at hen hst;generalize qfw g m f q=L at *;repeat' with_reducible first|refine s_ ?_|simp -implicitDefEqProofs only[wZZ,seval,g1,g2,g5,g7,o0,hz,g6]|apply qa<;>intro h h_<;>(try simp only[wD,reduceCtorEq]at h_)<;>(try exact wb_)<;>(try simp only[h])|refine t_ ?_|refine cq2 hen qf qf ?_
   refine qc ?nx2 (λ(i:Nat) s=>s.f 1=?v2_1/\s.f 2=?v2_2/\s.f 5=?v2_5/\s.f 7=?v2_7/\s.f 8=?v2_8/\s.H 0=some (.own 5 [g.V] false)/\s.f 9=vi i/\(i<=U.length)/\((∃v es,s.f 6=v/\Gr s.H s.next 3 es v/\Ja es ((L++(U.take i).map (qgy g m f q)).map Lk.V)))) (λi=>U.length - i) (0) wj_ (by refine⟨?_,?_,?_,?_,?_,?_,?_,wo_,(by exact⟨v6,es,(by(simp -implicitDefEqProofs only[wL,seval]);exact g6),hG6.mono wg_ (λ_ _ _=>rfl),by rw[List.take_zero,List.map_nil,List.append_nil];exact hE6⟩)⟩<;>first|(simp -implicitDefEqProofs only[wL,wM,wN,wX,seval,Option.some.injEq,g1,g2,g5,g7,o0]<;>exact wt_)|rfl|exact⟨_,rfl⟩) ?_;intro i s hnx ⟨g1,g2,g5,g7,g8,o0,g9,k2_0,k2_1⟩;obtain ⟨v7,es7,gg,hG7,hE7⟩:=k2_1;have hzi:=w1_ i;by_cases hi:i<U.length
   . have hgi:U[i]?=some U[i]:=ge_ hi;obtain ⟨n,hn,hn1,hn2⟩:=hem _ (List.getElem_mem hi);have htk:(U.take (i+1)).map (qgy g m f q)=(U.take i).map (qgy g m f q)++[qgy g m f q U[i]]:=(by rw[List.take_add_one,hgi,List.map_append];rfl);have hbk:=YI (g:=g) (m:=m) (q:=q) (n:=n) hg o_ (λq h=>by have:=hmv q h;omega) hq hn1 hn2;rw[hn]at hgi htk;have hbm:=qcJ (g:=g) (m:=m) (q:=q) (p:=n);have htl:=hM.trans_len;have hbl:(yR g m q n).length<=9600:=by
      unfold yR;rw[List.length_map];exact Nat.le_trans (List.length_filter_le _ _) (by rw[List.length_range];exact htl)
     have hlk:qgy g m f q n={st:=q,pr:=n,tk:=(yR g m q n).foldl (qjz f) []}:=rfl;rw[hlk]at htk;generalize yR g m q n=B at *;obtain ⟨D,hD⟩:∃D,D=s.next+4+6:=⟨_,rfl⟩;repeat' with_reducible first|refine s_ ?_|simp -implicitDefEqProofs only[wZZ,seval,g1,g2,g5,g7,g8,g9,o0,hzi,gg]|apply qa<;>intro h h_<;>(try simp only[wD,reduceCtorEq]at h_)<;>(try exact wb_)<;>(try simp only[h])|refine t_ ?_|refine cq4 hbk qf qf qf qf ?_
     refine qc ?nx3 (λ(k:Nat) s=>s.f 1=?v3_1/\s.f 2=?v3_2/\s.f 5=?v3_5/\s.f 7=?v3_7/\s.f 8=?v3_8/\s.f 9=?v3_9/\s.f 11=?v3_11/\s.H 0=some (.own 5 [g.V] false)/\s.f 12=vi k/\(k<=B.length)/\(D<s.next)/\(Gr s.H s.next 3 es7 v7)/\((∃c,s.H D=some (.own 3 [V.agg [vi q,vi n,.sl 1 c (((B.take k).foldl (qjz f) []).map (V.int .i64))]] false)))/\(s.f 10=.ptr D 0 0)/\(s.f 6=v7)) (λk=>B.length - k) (0) wj_ (by refine⟨?_,?_,?_,?_,?_,?_,?_,?_,?_,wo_,wg_,(by exact hG7.mono wg_ (λj h1 h2=>hh_)),(by exact⟨true,by rw[hD];(simp only[wM];(repeat first|rw[if_pos trivial]|rw[if_pos rfl]|rw[if_neg o_]))<;>rfl⟩),(by(try simp -implicitDefEqProofs only[wL,wM,wN,seval,g1,g2,g5,g7,g8,g9,o0]);first|done|rw[hD]),(by(try simp -implicitDefEqProofs only[wL,wM,wN,seval,g1,g2,g5,g7,g8,g9,o0]);first|done|rfl|exact gg)⟩<;>first|(simp -implicitDefEqProofs only[wL,wM,wN,wX,seval,Option.some.injEq,g1,g2,g5,g7,g8,g9,o0]<;>exact wt_)|rfl|exact⟨_,rfl⟩) ?_;intro k s hnx ⟨g1,g2,g5,g7,g8,g9,g11,o0,g12,k3_0,k3_1,k3_2,k3_3,g10,g6⟩;obtain ⟨c3,o3⟩:=k3_3;have hzk:=w1_ k;by_cases hk:k<B.length
     . have hgk:B[k]?=some B[k]:=ge_ hk;obtain ⟨b,hb,hb2⟩:=hbm _ (List.getElem_mem hk);have hst3:=jM (qjz f) [] hgk;have hgf:f[b]?=some f[b]:=ge_ o_;have hSo:=hO _ (List.mem_of_getElem? hgf);have hU3:=qaM hO (B.take k) [] Q9;rw[hb]at hgk hst3;have hfD:f.getD ((b:Int)).toNat []=f[b]:=(by rw[show ((b:Int)).toNat=b from rfl,List.getD,hgf];rfl);simp only[qjz,hfD,joinL]at hst3;generalize f[b]=S at *;generalize hU3e:(B.take k).foldl (qjz f) []=U3 at *;repeat' with_reducible first|refine s_ ?_|simp -implicitDefEqProofs only[wZZ,seval,g1,g2,g5,g7,g8,g9,g11,g12,g10,g6,o0,hzk]|apply qa<;>intro h h_<;>(try simp only[wD,reduceCtorEq]at h_)<;>(try exact wb_)<;>(try simp only[h])
       refine qc ?nx4 (λ(j:Nat) s=>s.f 1=?v4_1/\s.f 2=?v4_2/\s.f 5=?v4_5/\s.f 7=?v4_7/\s.f 8=?v4_8/\s.f 9=?v4_9/\s.f 10=?v4_10/\s.f 11=?v4_11/\s.f 12=?v4_12/\s.H 0=some (.own 5 [g.V] false)/\s.f 13=vi j/\(j<=S.length)/\(D<s.next)/\(Gr s.H s.next 3 es7 v7)/\((∃c,s.H D=some (.own 3 [V.agg [vi q,vi n,.sl 1 c (((S.take j).foldl jm U3).map (V.int .i64))]] false)))/\(s.f 6=v7)) (λj=>S.length - j) (0) wj_ (by refine⟨?_,?_,?_,?_,?_,?_,?_,?_,?_,?_,?_,wo_,wg_,(by exact k3_2.mono wg_ (λj h1 h2=>hh_)),(by exact⟨c3,by((try simp only[wM]);(repeat first|rw[if_pos trivial]|rw[if_pos rfl]|rw[if_neg o_]));exact o3⟩),(by(try simp -implicitDefEqProofs only[wL,wM,wN,seval,g1,g2,g5,g7,g8,g9,g11,g12,g10,g6,o0]);first|done|rfl|assumption)⟩<;>first|(simp -implicitDefEqProofs only[wL,wM,wN,wX,seval,Option.some.injEq,g1,g2,g5,g7,g8,g9,g11,g12,g10,g6,o0]<;>exact wt_)|rfl|exact⟨_,rfl⟩) ?_;intro j s hnx ⟨g1,g2,g5,g7,g8,g9,g10,g11,g12,o0,g13,k4_0,k4_1,k4_2,k4_3,g6⟩;obtain ⟨c4,o4⟩:=k4_3;have hSl:=hSo.len;have hzj:=w1_ j;by_cases hj:j<S.length
       . have hgj:S[j]?=some S[j]:=ge_ hj;have hst4:=jM jm U3 hgj;have hUl:=(hU3.join (hSo.take j)).len;generalize (S.take j).foldl jm U3=W at *;generalize S[j]=y at *;have hput:=je (l:=W) (x:=y) o_;repeat' with_reducible first|refine s_ ?_|simp -implicitDefEqProofs only[wZZ,seval,g1,g2,g5,g7,g8,g9,g10,g11,g12,g13,g6,o0,hzj,o4]|apply qa<;>intro h h_<;>(try simp only[wD,reduceCtorEq]at h_)<;>(try exact wb_)<;>(try simp only[h])|refine t_ ?_|refine cq2 hput jO qf ?_|simp -implicitDefEqProofs (disch:=omega) only[w64,if_neg]
         exact⟨wg_,j+1,o_,trivial,trivial,trivial,trivial,trivial,trivial,trivial,trivial,trivial,trivial,rfl,o_,wg_,k4_2.mono wg_ (λx h1 h2=>by have:=Gr.ne k4_2 o4 h1;((try simp only[wM]);(repeat first|rw[if_pos trivial]|rw[if_pos rfl]|rw[if_neg o_]))),⟨_,by rw[hst4]⟩,trivial⟩
       . have e:S.take j=S:=List.take_of_length_le o_;rw[e]at o4;repeat' with_reducible first|refine s_ ?_|simp -implicitDefEqProofs only[wZZ,seval,g1,g2,g5,g7,g8,g9,g10,g11,g12,g13,g6,o0,hzk,o4]|apply qa<;>intro h h_<;>(try simp only[wD,reduceCtorEq]at h_)<;>(try exact wb_)<;>(try simp only[h])|refine t_ ?_
         exact⟨wg_,k+1,o_,trivial,trivial,trivial,trivial,trivial,trivial,trivial,trivial,rfl,o_,wg_,k4_2.mono wg_ (λ_ _ _=>rfl),⟨c4,by rw[hst3]⟩,trivial,trivial⟩
     . have e:B.take k=B:=List.take_of_length_le o_;rw[e]at o3;have hel7:es7.length=_:=hE7.len.symm;rw[List.length_map,List.length_append,List.length_map,List.length_take]at hel7
       skip
       repeat' with_reducible first|refine s_ ?_|simp -implicitDefEqProofs only[wZZ,seval,g1,g2,g5,g7,g8,g9,g11,g12,g10,g6,o0,hzi,o3]|apply qa<;>intro h h_<;>(try simp only[wD,reduceCtorEq]at h_)<;>(try exact wb_)<;>(try simp only[h])|apply qX rfl (k3_2.mono (Nat.le_refl _) (λid h1 h2=>by(try simp only[wM]);(repeat rw[if_neg o_])));(focus(first|exact qM.sl|exact qM.asl));(focus(simp only[wZ,hel7];omega));(focus(unfold maxLen;simp only[wZ,hel7];omega))|refine t_ ?_
       exact⟨wg_,i+1,o_,trivial,trivial,trivial,trivial,trivial,k3_2.dropO o0,rfl,o_,_,_,rfl,Gr.tok (id:=s.next+4+3) (fin:=es7.length+1) hh_ wg_,by rw[htk,<- List.append_assoc,List.map_append];exact hE7.snoc (ErL.agg (.cons (.int _ _) (.cons (.int _ _) (.cons jO .nil))))⟩
   . have e:U.take i=U:=List.take_of_length_le o_;rw[e,<- hst]at hE7
     skip
     repeat' with_reducible first|refine s_ ?_|simp -implicitDefEqProofs only[wZZ,seval,g1,g2,g5,g7,g8,g9,o0,hz,gg]|apply qa<;>intro h h_<;>(try simp only[wD,reduceCtorEq]at h_)<;>(try exact wb_)<;>(try simp only[h])
     exact⟨wg_,q+1,o_,trivial,trivial,trivial,trivial,rfl,o_,by rw[hst,List.length_append,List.length_map];omega,v7,es7,rfl,hG7.mono wg_ (λ_ _ _=>rfl),hE7⟩
 . have e:q=m.length:=o_;subst e
   skip
   repeat' with_reducible first|refine s_ ?_|simp -implicitDefEqProofs only[wZZ,seval,g1,g2,g5,g7,o0,g6]
   refine qx rfl (Or.inr rfl) ?_;(simp -implicitDefEqProofs only[wL,seval]);exact hG6.erL hE6.up
end Go.Proofs
