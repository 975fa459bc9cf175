import Derived.Test.YtkcegflhobejmaaGreatDoorBZB
set_option maxRecDepth 20000
set_option linter.all false
set_option maxHeartbeats 4000000
namespace Go.Proofs
open Go.E
theorem Y2{m:List Sta}{q:Nat}{sy:Int}(hq:q<m.length)(hm:m.length<=1000000)(hv:∀q∈m,q.mov.length<=1000000):Pure Tryz.prog 94 [.sl 2 false (m.map Sta.V),vi q,vi sy] (vi (goS m q sy)):=by
 refine pure_intro Tryz.func94 nm_ qwy (by show 3<=26;decide) ?_
 show ewp _ qu2 _ _;have hgn:m[q]?=some m[q]:=ge_ hq;have hml:=hv _ (List.getElem_mem hq);rw[qqY hgn];generalize m[q]=x at *;obtain ⟨xk,xm⟩:=x;dsimp only at hml ⊢;repeat' with_reducible first|refine s_ ?_|simp -implicitDefEqProofs only[wZZ,seval]|refine t_ ?_
 refine qb ?nx1 (λ(i:Nat) s=>s.f 2=?v1_2/\s.f 13=?v1_13/\s.f 14=?v1_14/\s.f 15=vi i/\(i<=xm.length)/\(goL xm sy=goL (xm.drop i) sy)) (λi=>xm.length - i) (0) wj_ (by refine⟨?_,?_,?_,?_,wo_,(by rfl)⟩<;>first|(simp -implicitDefEqProofs only[wL,wM,wN,wX,seval,Option.some.injEq]<;>exact wt_)|rfl|exact⟨_,rfl⟩) ?_;intro i s hnx ⟨g2,g13,g14,g15,k1_0,k1_1⟩;have hz:=w1_ i;by_cases hi:i<xm.length
 . have hgi:xm[i]?=some xm[i]:=ge_ hi;have hst:=qou (s:=sy) hgi;generalize xm[i]=p at *;obtain ⟨p1,p2⟩:=p;dsimp only at hst;by_cases hc:p1=sy
   . rw[if_pos hc]at hst;rw[k1_1,hst];repeat' with_reducible first|refine s_ ?_|simp -implicitDefEqProofs only[wZZ,seval,g2,g13,g14,g15,hz]|apply qa<;>intro h h_<;>(try simp only[wD,reduceCtorEq]at h_)<;>(try exact wb_)<;>(try simp only[h])|refine t_ ?_
     all_goals refine qz rfl (Or.inr rfl) ?_
     all_goals(try simp -implicitDefEqProofs only[wL,seval,g2,g13,g14,g15])
     all_goals refine er_ ?_
     all_goals(try(with_reducible rfl))
   . rw[if_neg hc]at hst;repeat' with_reducible first|refine s_ ?_|simp -implicitDefEqProofs only[wZZ,seval,g2,g13,g14,g15,hz]|apply qa<;>intro h h_<;>(try simp only[wD,reduceCtorEq]at h_)<;>(try exact wb_)<;>(try simp only[h])|refine t_ ?_
     refine⟨wk_,i+1,o_,?_⟩;refine⟨?_,?_,?_,?_,?_,?_⟩;iterate 4 (focus(first|(simp -implicitDefEqProofs only[wL,wM,wN,wX,seval,Option.some.injEq,g2,g13,g14,g15]<;>exact wt_)|rfl|exact⟨_,rfl⟩))
     all_goals try omega
 . have e:xm.drop i=[]:=List.drop_of_length_le o_;rw[e]at k1_1;rw[k1_1];repeat' with_reducible first|refine s_ ?_|simp -implicitDefEqProofs only[wZZ,seval,g2,g13,g14,g15,hz]|apply qa<;>intro h h_<;>(try simp only[wD,reduceCtorEq]at h_)<;>(try exact wb_)<;>(try simp only[h])
   all_goals refine qz rfl (Or.inr rfl) ?_
   all_goals(try simp -implicitDefEqProofs only[wL,seval,g2,g13,g14,g15])
   all_goals refine er_ ?_
   all_goals(try(with_reducible rfl))
   all_goals rfl
theorem qcc{g:Grammar}{m:List Sta}{q:Nat}{l:List Int}(hM:MOk g m)(hq:q<m.length)(hl:l.length<=1000000):Pure Tryz.prog 95 [.sl 2 false (m.map Sta.V),vi q,.sl 1 false (l.map (V.int .i64))] (vi (zT m q l)):=by
 refine pure_intro Tryz.func95 nm_ qs4 (by show 3<=23;decide) ?_
 show ewp _ qr3 _ _;have hml:=hM.len;have hmv:∀q∈m,q.mov.length<=1000000:=λq h=>by have:=hM.mvl q h;omega
 repeat' with_reducible first|refine s_ ?_|simp -implicitDefEqProofs only[wZZ,seval]
 refine qb ?nx1 (λ(p:Nat×Nat) s=>s.f 0=?v1_0/\s.f 9=?v1_9/\s.f 10=?v1_10/\s.f 11=vi p.1/\(p.1<=l.length)/\(p.2<m.length)/\(zT m q l=zT m p.2 (l.drop p.1))/\(s.f 1=vi p.2)) (λp=>l.length - p.1) ((0,q)) wj_ (by refine⟨?_,?_,?_,?_,wo_,wo_,(by rfl),(by(try simp -implicitDefEqProofs only[wL,wM,wN,seval]);first|done|rfl)⟩<;>first|(simp -implicitDefEqProofs only[wL,wM,wN,wX,seval,Option.some.injEq]<;>exact wt_)|rfl|exact⟨_,rfl⟩) ?_;intro p s hnx ⟨g0,g9,g10,g11,k1_0,k1_1,k1_2,g1⟩;obtain ⟨i,r⟩:=p;dsimp only at *;have hz:=w1_ i;by_cases hi:i<l.length
 . have hgi:l[i]?=some l[i]:=ge_ hi;have hst:=qg4 (m:=m) (q:=(r:Int)) hgi;rw[if_neg o_]at hst;have hgo:=Y2 (q:=r) (sy:=l[i]) k1_1 o_ hmv;have hcs:=qi0 hM (r:Int) l[i];generalize l[i]=sy at *;generalize goS m (r:Int) sy=w at *;rcases hcs with rfl|⟨t,rfl,ht⟩
   . rw[k1_2,hst,qgI o_];repeat' with_reducible first|refine s_ ?_|simp -implicitDefEqProofs only[wZZ,seval,g0,g9,g10,g11,g1,hz]|apply qa<;>intro h h_<;>(try simp only[wD,reduceCtorEq]at h_)<;>(try exact wb_)<;>(try simp only[h])|refine t_ ?_|refine cq3 hgo qd qd qd ?_
     all_goals refine qz rfl (Or.inr rfl) ?_
     all_goals(try simp -implicitDefEqProofs only[wL,seval,g0,g9,g10,g11,g1])
     all_goals refine er_ ?_
     all_goals(try(with_reducible rfl))
   . have hneg: ¬ ((t:Int)<0):=o_;repeat' with_reducible first|refine s_ ?_|simp -implicitDefEqProofs only[wZZ,seval,g0,g9,g10,g11,g1,hz,hneg]|apply qa<;>intro h h_<;>(try simp only[wD,reduceCtorEq]at h_)<;>(try exact wb_)<;>(try simp only[h])|refine t_ ?_|refine cq3 hgo qd qd qd ?_
     refine⟨wg_,(i+1,t),d_,?_⟩;(repeat refine⟨True.intro,?_⟩);exact⟨rfl,d_,by dsimp only;exact ht,by dsimp only;rw[k1_2,hst],rfl⟩
 . have e:zT m (r:Int) (l.drop i)=r:=by
    rw[List.drop_of_length_le o_];rfl
   rw[k1_2,e];repeat' with_reducible first|refine s_ ?_|simp -implicitDefEqProofs only[wZZ,seval,g0,g9,g10,g11,g1,hz]|apply qa<;>intro h h_<;>(try simp only[wD,reduceCtorEq]at h_)<;>(try exact wb_)<;>(try simp only[h])
   all_goals refine qz rfl (Or.inr rfl) ?_
   all_goals(try simp -implicitDefEqProofs only[wL,seval,g0,g9,g10,g11,g1])
   all_goals refine er_ ?_
   all_goals(try(with_reducible rfl))
theorem qac{m:List Sta}(hm:m.length<=1000)(hq:∀q∈m,q.mov.length<=1000):Pure Tryz.prog 15 [.sl 2 false (m.map Sta.V)] (.sl 2 false ((qh m).map prV)):=by
 refine pure_intro Tryz.func15 nm_ qv2 (by show 1<=35;decide) ?_
 show ewp _ quC _ _;have hdef:qh m=Q5 m m.length:=rfl;rw[hdef];repeat' with_reducible first|refine s_ ?_|simp -implicitDefEqProofs only[wZZ,seval]
 refine qb ?nx1 (λ(i:Nat) s=>s.f 8=?v1_8/\s.f 9=?v1_9/\(∃v,s.f 3=v/\Gr s.H s.next 2 ((Q5 m i).map prV) v)/\s.f 10=vi i/\(i<=m.length)/\((Q5 m i).length<=i *1000)) (λi=>m.length - i) (0) wj_ (by refine⟨?_,?_,?_,?_,wo_,(by exact Nat.zero_le _)⟩<;>first|(simp -implicitDefEqProofs only[wL,wM,wN,wX,seval,Option.some.injEq]<;>exact wt_)|rfl|exact⟨_,rfl⟩) ?_;intro i s hnx ⟨g8,g9,⟨v3,g3,G3⟩,g10,k1_0,k1_1⟩;have hz:=w1_ i;by_cases hi:i<m.length
 . have hgi:m[i]?=some m[i]:=ge_ hi;have hml:=hq _ (List.getElem_mem hi);have hst:=Je m i;have hmi:qjN m i=m[i].mov:=(by unfold qjN;rw[hgi];rfl);rw[hmi]at hst;generalize m[i]=x at *;generalize hT:Q5 m i=T at *;obtain ⟨xk,xm⟩:=x;dsimp only at hml hst;repeat' with_reducible first|refine s_ ?_|simp -implicitDefEqProofs only[wZZ,seval,g8,g9,g3,g10,hz,G3.len]|apply qa<;>intro h h_<;>(try simp only[wD,reduceCtorEq]at h_)<;>(try exact wb_)<;>(try simp only[h])|refine t_ ?_
   refine qb ?nx2 (λ(j:Nat) s=>s.f 4=?v2_4/\s.f 8=?v2_8/\s.f 9=?v2_9/\s.f 10=?v2_10/\s.f 16=?v2_16/\s.f 17=?v2_17/\(∃v,s.f 3=v/\Gr s.H s.next 2 ((T++(xm.take j).filterMap (trF i)).map prV) v)/\s.f 18=vi j/\(j<=xm.length)/\(((xm.take j).filterMap (trF i)).length<=j)) (λj=>xm.length - j) (0) wj_ (by refine⟨?_,?_,?_,?_,?_,?_,?_,?_,wo_,(by exact Nat.zero_le _)⟩<;>first|(simp -implicitDefEqProofs only[wL,wM,wN,wX,seval,Option.some.injEq,g8,g9,g3,g10]<;>first|rfl|exact⟨_,rfl⟩|exact⟨_,rfl,by first|assumption|exact Gr.nil|exact Gr.tok rfl o_|exact Gr.tok (by simp -implicitDefEqProofs only[wM,seval]<;>rfl) o_|exact Gr.clip|exact G3.to fs_ o_ rfl|exact G3.mono' fs_ o_ (λj hj hl=>by(try simp only[wM,jo]);repeat(first|rfl|rw[if_neg o_]))⟩)|rfl|exact⟨_,rfl⟩|exact⟨_,rfl,by first|assumption|exact G3.to fs_ o_ rfl|exact G3.mono' fs_ o_ (λj hj hl=>by(try simp only[wM,jo]);repeat(first|rfl|rw[if_neg o_]))⟩) ?_;intro j s hnx ⟨g4,g8,g9,g10,g16,g17,⟨v3,g3,G3⟩,g18,k2_0,k2_1⟩;have hzj:=w1_ j;by_cases hj:j<xm.length
   . have hgj:xm[j]?=some xm[j]:=ge_ hj;have hst2:=qpw (trF i) hgj;generalize xm[j]=p at *;generalize (xm.take j).filterMap (trF i)=U at *;obtain ⟨p1,p2⟩:=p;by_cases hc:1000<=p1
     . have hst3:(xm.take (j+1)).filterMap (trF i)=U++[((i:Int),p1)]:=(by rw[hst2];simp[trF,hc]);have hlr:(T++U).length=T.length+U.length:=List.length_append;repeat' with_reducible first|refine s_ ?_|simp -implicitDefEqProofs only[wZZ,seval,g4,g8,g9,g10,g16,g17,g3,g18,hzj,G3.len]|apply qa<;>intro h h_<;>(try simp only[wD,reduceCtorEq]at h_)<;>(try exact wb_)<;>(try simp only[h])|apply zq rfl (G3.mono (Nat.le_refl _) (λid h1 h2=>by(try simp only[wM]);(repeat rw[if_neg o_])));(focus(first|exact qY.sl|exact qY.asl));(focus(simp only[wZ,hlr];omega));(focus(unfold maxLen;simp only[wZ,hlr];omega))|refine t_ ?_
       exact⟨wg_,j+1,o_,trivial,trivial,trivial,trivial,trivial,trivial,⟨_,rfl,by rw[hst3,<- List.append_assoc,List.map_append];exact Gr.tok (id:=s.next+1+4+3+6) (fin:=(T++U).length+1) hh_ wg_⟩,rfl,o_,by rw[hst3,List.length_append,List.length_singleton];omega⟩
     . have hst3:(xm.take (j+1)).filterMap (trF i)=U:=(by rw[hst2];simp[trF,hc]);repeat' with_reducible first|refine s_ ?_|simp -implicitDefEqProofs only[wZZ,seval,g4,g8,g9,g10,g16,g17,g3,g18,hzj,G3.len]|apply qa<;>intro h h_<;>(try simp only[wD,reduceCtorEq]at h_)<;>(try exact wb_)<;>(try simp only[h])|refine t_ ?_
       refine⟨wk_,j+1,o_,?_⟩;refine⟨?_,?_,?_,?_,?_,?_,?_,?_,?_,?_⟩;iterate 8 (focus(first|(simp -implicitDefEqProofs only[wL,wM,wN,wX,seval,Option.some.injEq,g4,g8,g9,g10,g16,g17,g3,g18,hst3]<;>first|rfl|exact⟨_,rfl⟩|exact⟨_,rfl,by first|assumption|exact Gr.nil|exact Gr.tok rfl o_|exact Gr.tok (by simp -implicitDefEqProofs only[wM,seval]<;>rfl) o_|exact Gr.clip|exact G3.to fs_ o_ rfl|exact G3.mono' fs_ o_ (λj hj hl=>by(try simp only[wM,jo]);repeat(first|rfl|rw[if_neg o_]))⟩)|rfl|exact⟨_,rfl⟩|exact⟨_,rfl,by first|assumption|exact G3.to fs_ o_ rfl|exact G3.mono' fs_ o_ (λj hj hl=>by(try simp only[wM,jo]);repeat(first|rfl|rw[if_neg o_]))⟩))
       all_goals try omega
       rw[hst3];omega
   . have e:xm.take j=xm:=List.take_of_length_le o_;rw[e]at G3 k2_1;rw[<- hst]at G3;repeat' with_reducible first|refine s_ ?_|simp -implicitDefEqProofs only[wZZ,seval,g4,g8,g9,g10,g16,g17,g3,g18,hz,G3.len]|apply qa<;>intro h h_<;>(try simp only[wD,reduceCtorEq]at h_)<;>(try exact wb_)<;>(try simp only[h])
     exact⟨wg_,i+1,o_,trivial,trivial,⟨v3,rfl,G3.mono wg_ (λ_ _ _=>rfl)⟩,rfl,o_,by rw[hst,List.length_append];omega⟩
 . have e:i=m.length:=o_;subst e
   skip
   repeat' with_reducible first|refine s_ ?_|simp -implicitDefEqProofs only[wZZ,seval,g8,g9,g3,g10,hz,G3.len]
   all_goals refine qz rfl (Or.inr rfl) ?_
   all_goals(try simp -implicitDefEqProofs only[wL,seval,g8,g9,g3,g10])
   all_goals(first|refine er_ ?_ |refine G3.er ?_)
   all_goals(try(with_reducible rfl))
end Go.Proofs

namespace Go.E
section
variable {P : Program}[Glob P]{cls : Cls}{id : Nat}{s : St}
theorem qkz{K:V->St->Prop}:qg P cls id s K .mkmap=K (.map id) (s.setO id (some (.mapo []))):=rfl
theorem qoG{K:V->St->Prop}(x k v:Opd):qg P cls id s K (.mset x k v)=onS (X5 s (ev s x) (ev s k) (ev s v)) λs'=>K .undef s':=rfl
theorem qAi{K:St->Prop}{i:Nat}{l:List (Int×Int×Int)}{a b c:Int}(hH:s.H i=some (.mapo l))(hn:∀e∈l,¬ (e.1=a/\e.2.1=b))(hk:K (s.setO i (some (.mapo (l++[(a,b,c)]))))):
 onS (X5 s (.map i) (.agg [.int .i64 a,.int .i64 b]) (.int .i64 c)) K:=by
 have e:l.find? (λe=>e.1 == a && e.2.1 == b)=none:=by rw[List.find?_eq_none];intro x hx h;rw[Bool.and_eq_true,beq_iff_eq,beq_iff_eq]at h;exact hn x hx h
 have e1:X5 s (.map i) (.agg [.int .i64 a,.int .i64 b]) (.int .i64 c)=some (s.setO i (some (.mapo (l++[(a,b,c)])))):=by unfold X5;simp only[hH,e]
 rw[e1];exact hk
end
end Go.E

namespace Go.Proofs
open Go.E
variable {g:Grammar}
theorem qcL{E:Nat->Bool}(hg:GOk g)(hE:IsGrow g false E):Pure Tryz.prog 88 [g.V] (.sl 1 false (QN g.nons.length E)):=by
 refine pure_intro Tryz.func88 nm_ qwO (by show 1<=5;decide) ?_
 show ewp _ qy2 _ _;obtain ⟨E',hE',hp⟩:=Js (token:=false) hg;obtain rfl:=hE.uniq hE';repeat' with_reducible first|refine s_ ?_|simp -implicitDefEqProofs only[wZZ,seval]|refine cq2 hp qd (.bool _) ?_|refine t_ ?_
 refine qz rfl (Or.inr rfl) ?_;(simp -implicitDefEqProofs only[wL,seval]);exact @yN _ _ _ _ _ (qel _ _)
theorem qim(j:Nat):(V.map j).cells=[V.map j]:=rfl
@[reducible] def XT(g:Grammar)(m:List Sta)(E:Nat->Bool)(j:Nat):V:= .agg [.sl 6 false (g.toks.map Tok.V),.sl 2 false (g.nons.map Non.V),.sl 6 false (g.prods.map GPr.V),.str g.pro,.str g.tail,.sl 2 false (m.map Sta.V),.sl 2 false ((qh m).map prV),.map j,.sl 1 false (QN g.nons.length E)]
variable {H:Nat->Option MObj}
theorem of_run{next:Nat}{m:List Sta}{E:Nat->Bool}(hg:GOk g)(hM:MOk g m)(hR:∀q∈m,RMv q)(hE:IsGrow g false E):zh Tryz.prog 51 [g.V,.sl 2 false (m.map Sta.V)] H next (λv H' n'=>∃i j,v=.ptr i 0 0/\next<=i/\i<n'/\H' i=some (.own 9 [XT g m E j] false)/\(∀k,k<next->H' k=H k)/\H' j=some (.mapo (Ko (qh m) (qh m).length))):=by
 refine zb Tryz.func51 nm_ quI (by show 2<=35;decide) ?_
 show ewp _ ql0 _ _;have hml:=hM.len;have htr:=qac (m:=m) o_ (λq h=>by have:=hM.mvl q h;omega);have htl:=hM.trans_len;have hlx:=Jp hR;have hem:=qcL hg hE;obtain ⟨gt,gn,gp,gpr,gta⟩:=g;repeat' with_reducible first|refine s_ ?_|simp -implicitDefEqProofs only[wZZ,seval,qkz,qim]|refine cq1 htr qd ?_|refine cq1 hem qd ?_|refine t_ ?_|simp -implicitDefEqProofs (disch:=omega) only[w64,if_neg]
 generalize hT:qh m=T at *;refine qb ?nx1 (λ(i:Nat) s=>s.f 5=?v1_5/\s.f 20=?v1_20/\s.f 21=?v1_21/\s.H (next+2+8)=?o1_0/\s.f 22=vi i/\(i<=T.length)/\((∀k,k<next->s.H k=H k))/\(s.H (next+2+4)=some (.mapo (Ko T i)))) (λi=>T.length - i) (0) wj_ (by refine⟨?_,?_,?_,?_,?_,wo_,(by intro k hk;simp only[wM];(repeat rw[if_neg o_])),(by(try simp -implicitDefEqProofs only[wL,wM,wN,seval]);(exact(if_neg o_).trans rfl))⟩<;>first|(simp -implicitDefEqProofs only[wL,wM,wN,wX,seval,Option.some.injEq]<;>exact wt_)|rfl|exact⟨_,rfl⟩) ?_;intro i s hnx ⟨g5,g20,g21,o0,g22,k1_0,k1_1,o100⟩;have hz:=w1_ i;by_cases hi:i<T.length
 . have hgi:T[i]?=some T[i]:=ge_ hi;generalize T[i]=t at *;obtain ⟨a,b⟩:=t;have hst:=qgw hgi;have hne:=qj6 hlx hgi;repeat' with_reducible first|refine s_ ?_|simp -implicitDefEqProofs only[wZZ,seval,g5,g20,g21,g22,o0,o100,hz,qoG]|apply qa<;>intro h h_<;>(try simp only[wD,reduceCtorEq]at h_)<;>(try exact wb_)<;>(try simp only[h])|refine t_ ?_|apply qAi;(focus((try simp only[wM]);(repeat rw[if_neg o_]);exact o100));exact hne|simp -implicitDefEqProofs (disch:=omega) only[w64,if_neg]
   exact⟨wg_,i+1,o_,trivial,trivial,trivial,trivial,rfl,o_,by(intro k hk;rw[if_neg o_,if_neg o_];exact k1_1 k hk),by rw[hst]⟩
 . have e:i=T.length:=o_;subst e;repeat' with_reducible first|refine s_ ?_|simp -implicitDefEqProofs only[wZZ,seval,g5,g20,g21,g22,o0,o100,hz]
   refine JU rfl (Or.inr rfl) ?_;(simp -implicitDefEqProofs only[wL,seval]);subst hT;exact⟨next+2+8,next+2+4,rfl,o_,wg_,o0,k1_1,o100⟩

def VO(g:Grammar)(m:List Sta)(q p:Int):List Int:=if q<0\/(m.length:Int)<=q\/p<1\/(g.prods.length:Int)<=p then[]else QL g m q p
variable {i:Nat}
theorem Zd{m:List Sta}{a b:Int}(h:(qh m)[i]?=some (a,b)):∃n:Nat,a=n/\n<m.length:=by obtain ⟨n,x,e,hx,_⟩:=yB (List.mem_of_getElem? h);exact⟨n,e,(List.getElem?_eq_some_iff.1 hx).1⟩
variable {q:Int}
theorem qdX{next j:Nat}{ro:Bool}{m:List Sta}{E:Nat->Bool}{p:Int}(hg:GOk g)(hM:MOk g m)(hi:H i=some (.own 9 [XT g m E j] ro))(hlt:i<next):zh Tryz.prog 62 [.ptr i 0 0,vi q,vi p] H next (λv H' n'=>next<=n'/\Gr H' n' 1 ((VO g m q p).map (V.int .i64)) v/\(∀id,gid v=some id->next<=id)/\∀j,j<next->H' j=H j):=by
 refine zb Tryz.func62 nm_ quL (by show 3<=84;decide) ?_
 show ewp _ quO _ _;by_cases hout:q<0\/(m.length:Int)<=q\/p<1\/(g.prods.length:Int)<=p
 . have e:VO g m q p=[]:=(by unfold VO;rw[if_pos hout]);rw[e];obtain ⟨gt,gn,gp,gpr,gta⟩:=g;dsimp only at hout;repeat' with_reducible first|refine s_ ?_|simp -implicitDefEqProofs only[wZZ,seval,hi]|(first|apply qa|apply qA|apply qB)<;>intro h h_<;>(try simp only[wD,reduceCtorEq]at h_)<;>(try exact wb_)<;>(try simp only[h])|refine t_ ?_
   all_goals refine JU rfl (Or.inr rfl) ?_;(simp -implicitDefEqProofs only[wL,seval]);exact⟨wg_,Gr.nil,(λid h=>(by cases h)),(λj hj=>hh_)⟩
 . have e :VO g m q p=QL g m q p:=(by unfold VO;rw[if_neg hout]);rw[e];obtain ⟨q',rfl⟩:=Int.eq_ofNat_of_zero_le (show 0<=q by omega);obtain ⟨n,rfl⟩:=Int.eq_ofNat_of_zero_le (show 0<=p by omega);have hqm:q'<m.length:=o_;have hn:1<=n:=o_;have hnl:n<g.prods.length:=o_;have c1: ¬ ((q':Int)<0):=o_;have c2: ¬ ((m.length:Int)<=(q':Int)):=o_;have c3: ¬ ((n:Int)<1):=o_;have c4: ¬ ((g.prods.length:Int)<=(n:Int)):=o_;clear hout;have hml:=hM.len;have hgp:g.prods[n]?=some g.prods[n]:=ge_ hnl;have hrl:=hg.rlen _ (List.getElem_mem hnl);obtain ⟨lf,hl1,hl2⟩:=hg.left _ (List.getElem_mem hnl);have hnn:=hg.nn2;have htl:=hM.trans_len;have hdef:QL g m q' n=((List.range (qh m).length).filter (qfo m g.prods[n] (q':Int) (qh m))).map (λ(i:Nat)=>(i:Int)):=by
    unfold QL;rw[show ((n:Int)).toNat=n from rfl,hgp]
   rw[hdef];have hta:=λ(k:Nat) (a b:Int)=>Zd (m:=m) (i:=k) (a:=a) (b:=b);generalize hT:qh m=T at *;generalize g.prods[n]=p at *;obtain ⟨pl,pr,pc,pco,pa,pat⟩:=p;dsimp only at hl1 hrl;subst hl1;have hzl:IntKind.i64.wrap (1000+(lf:Int))=1000+(lf:Int):=wrap64 o_ o_;have hwk:=λ(a:Nat) (h:a<m.length)=>qcc (q:=a) (l:=pr) hM h o_;obtain ⟨gt,gn,gp,gpr,gta⟩:=g;dsimp only at hgp c4;rw[XT]at hi;rw[hT]at hi;dsimp only at hi;repeat' with_reducible first|refine s_ ?_|simp -implicitDefEqProofs only[wZZ,seval,hi,c1,c2,c3,c4]|refine t_ ?_
   refine qb ?nx1 (λ(k:Nat) s=>s.f 0=?v1_0/\s.f 1=?v1_1/\s.f 2=?v1_2/\s.f 38=?v1_38/\s.f 39=?v1_39/\(∃v,s.f 7=v/\Gr s.H s.next 1 ((((List.range k).filter (qfo m {left:=(lf:Int),right:=pr,prec:=pc,code:=pco,args:=pa,at_:=pat} (q':Int) T)).map (λ(i:Nat)=>(i:Int))).map (V.int .i64)) v)/\s.f 40=vi k/\(k<=T.length)/\(next<=s.next)/\((∀id,gid (s.f 7)=some id->next<=id))/\((∀j,j<next->s.H j=H j))/\(s.H i=some (.own 9 [.agg [.sl 6 false (gt.map Tok.V),.sl 2 false (gn.map Non.V),.sl 6 false (gp.map GPr.V),.str gpr,.str gta,.sl 2 false (m.map Sta.V),.sl 2 false (T.map prV),.map j,.sl 1 false (QN gn.length E)]] ro))) (λk=>T.length - k) (0) wj_ (by refine⟨?_,?_,?_,?_,?_,?_,?_,wo_,wg_,(by(intro id h;cases h)),(by intro j hj;((try simp only[wM]);(repeat first|rw[if_pos trivial]|rw[if_pos rfl]|rw[if_neg o_]))),(by(try simp -implicitDefEqProofs only[wL,wM,wN,seval]);exact hi)⟩<;>first|(simp -implicitDefEqProofs only[wL,wM,wN,wX,seval,Option.some.injEq]<;>exact wt_)|rfl|exact⟨_,rfl⟩) ?_;intro k s hnx ⟨g0,g1,g2,g38,g39,⟨v7,g7,G7⟩,g40,k1_0,k1_1,k1_2,k1_3,o100⟩;have hz:=w1_ k;have hlr:=qf4 (qfo m {left:=(lf:Int),right:=pr,prec:=pc,code:=pco,args:=pa,at_:=pat} (q':Int) T) k;by_cases hk:k<T.length
   . have hgi:T[k]?=some T[k]:=ge_ hk;have hst:=qdn (qfo m {left:=(lf:Int),right:=pr,prec:=pc,code:=pco,args:=pa,at_:=pat} (q':Int) T) k;have hbf:qfo m {left:=(lf:Int),right:=pr,prec:=pc,code:=pco,args:=pa,at_:=pat} (q':Int) T k=decide (T[k].2=1000+(lf:Int)/\zT m T[k].1 pr=q'):=by
      show decide _=_;rw[List.getD,hgi,Option.getD_some]
     rw[hbf]at hst;generalize ((List.range k).filter (qfo m {left:=(lf:Int),right:=pr,prec:=pc,code:=pco,args:=pa,at_:=pat} (q':Int) T)).map (λ(i:Nat)=>(i:Int))=U at *;generalize T[k]=t at *;obtain ⟨t1,t2⟩:=t;obtain ⟨a,rfl,ha⟩:=hta k t1 t2 hgi;have hwk:=hwk a ha;dsimp only at hst;generalize zT m (a:Int) pr=w at *;by_cases hc1:t2=1000+(lf:Int)
     . subst hc1;by_cases hc2:w=q'
       . subst hc2;rw[decide_eq_true ⟨rfl,rfl⟩,if_pos rfl]at hst;repeat' with_reducible first|refine s_ ?_|simp -implicitDefEqProofs only[wZZ,seval,g0,g1,g2,g38,g39,g7,g40,o100,Gr.dropO G7 o100,hz,hzl,G7.len]|apply qa<;>intro h h_<;>(try simp only[wD,reduceCtorEq]at h_)<;>(try exact wb_)<;>(try simp only[h])|apply zq rfl (G7.mono (Nat.le_refl _) (λid h1 h2=>by(try simp only[wM]);(repeat rw[if_neg o_])));(focus(first|exact qY.sl|exact qY.asl));(focus(simp only[wZ,hz];omega));(focus(unfold maxLen;simp only[wZ,hz];omega))|refine t_ ?_|refine cq3 hwk qd qd qd ?_|simp -implicitDefEqProofs (disch:=omega) only[w64,if_neg]
         all_goals exact⟨wg_,k+1,o_,trivial,trivial,trivial,trivial,trivial,⟨_,rfl,by rw[hst];exact Gr.tok (id:=s.next+1+6+33+3) (fin:=U.length+1) hh_ wg_⟩,rfl,o_,wg_,(λid h=>(by cases h;omega)),(λj hj=>(by(try simp only[wM]);rw[if_neg o_,qj (λe=>by have:=k1_2 j (by rw[g7];exact e);omega)];((try simp only[wM]);(repeat first|rw[if_pos trivial]|rw[if_pos rfl]|rw[if_neg o_]));exact k1_3 j hj)),(G7.mono (Nat.le_refl _) (λj h1 h2=>hh_)).dropO (by((try simp only[wM]);(repeat first|rw[if_pos trivial]|rw[if_pos rfl]|rw[if_neg o_]));exact o100)⟩
       . have hd:(decide (w=(q':Int)))=false:=decide_eq_false hc2;rw[decide_eq_false (λh=>hc2 h.2),if_neg (by simp),List.append_nil]at hst;repeat' with_reducible first|refine s_ ?_|simp -implicitDefEqProofs only[wZZ,seval,g0,g1,g2,g38,g39,g7,g40,o100,Gr.dropO G7 o100,hz,hzl,hd,G7.len]|apply qa<;>intro h h_<;>(try simp only[wD,reduceCtorEq]at h_)<;>(try exact wb_)<;>(try simp only[h])|refine t_ ?_|refine cq3 hwk qd qd qd ?_|simp -implicitDefEqProofs (disch:=omega) only[w64,if_neg]
         all_goals exact⟨wg_,k+1,o_,trivial,trivial,trivial,trivial,trivial,⟨v7,rfl,by rw[hst];exact G7.mono wg_ (λj h1 h2=>hh_)⟩,rfl,o_,wg_,(λid h=>k1_2 id (by rw[g7];exact h)),(λj hj=>(by rw[if_neg o_];exact k1_3 j hj)),trivial⟩
     . have hd:(decide (t2=1000+(lf:Int)))=false:=decide_eq_false hc1;rw[decide_eq_false (λh=>hc1 h.1),if_neg (by simp),List.append_nil]at hst;repeat' with_reducible first|refine s_ ?_|simp -implicitDefEqProofs only[wZZ,seval,g0,g1,g2,g38,g39,g7,g40,o100,Gr.dropO G7 o100,hz,hzl,hd,G7.len]|apply qa<;>intro h h_<;>(try simp only[wD,reduceCtorEq]at h_)<;>(try exact wb_)<;>(try simp only[h])|refine t_ ?_|simp -implicitDefEqProofs (disch:=omega) only[w64,if_neg]
       all_goals exact⟨wg_,k+1,o_,trivial,trivial,trivial,trivial,trivial,⟨v7,rfl,by rw[hst];exact G7.mono wg_ (λj h1 h2=>hh_)⟩,rfl,o_,wg_,(λid h=>k1_2 id (by rw[g7];exact h)),(λj hj=>(by rw[if_neg o_];exact k1_3 j hj)),trivial⟩
   . have e:k=T.length:=o_;subst e;repeat' with_reducible first|refine s_ ?_|simp -implicitDefEqProofs only[wZZ,seval,g0,g1,g2,g38,g39,g7,g40,o100,Gr.dropO G7 o100,hz,G7.len]
     refine JU rfl (Or.inr rfl) ?_;(simp -implicitDefEqProofs only[wL,seval]);exact⟨wg_,G7.mono wg_ (λ_ _ _=>rfl),(λid h=>k1_2 id (by rw[g7];exact h)),k1_3⟩
theorem qct{m:List Sta}{p:Int}(hg:GOk g)(hM:MOk g m)(hR:∀q∈m,RMv q):Pure Tryz.prog 26 [g.V,.sl 2 false (m.map Sta.V),vi q,vi p] (.sl 1 false ((VO g m q p).map (V.int .i64))):=by
 refine pure_intro Tryz.func26 nm_ qun (by show 4<=15;decide) ?_
 show ewp _ qyx _ _;obtain ⟨E,hE,_⟩:=Js (token:=false) hg;repeat' with_reducible first|refine s_ ?_|simp -implicitDefEqProofs only[wZZ,seval]|(refine qR rfl rfl rfl ((of_run hg hM hR hE).mono ?_);rintro v1 H1 n1 ⟨i,j,rfl,q1,q2,q3,q4,q4j⟩;(try simp only[wN]at q1))|(refine qR rfl rfl rfl ((qdX hg hM (by((try simp only[wM]);(repeat first|rw[if_pos trivial]|rw[if_pos rfl]|rw[if_neg o_]));exact q3) wg_).mono ?_);rintro v2 H2 n2 ⟨_,q5,_,_⟩)|refine t_ ?_
 refine qz rfl (Or.inr rfl) ?_;(simp -implicitDefEqProofs only[wL,seval]);exact q5.er rfl

theorem qh5{α:Type}(f:α->Bool)(k:α->Int):∀(l:List α) (acc:List Int),(∀x,x∈l.foldl (λa p=>if f p=true then xw a (k p)else a) acc↔x∈acc\/ ∃p∈l,f p=true/\x=k p)/\(jq acc->jq (l.foldl (λa p=>if f p=true then xw a (k p)else a) acc))
 |[],acc=>⟨λx=>by simp,λh=>h⟩
 | p ::l,acc=>by
   rw[List.foldl_cons];obtain ⟨h1,h2⟩:=qh5 f k l (if f p=true then xw acc (k p)else acc);refine⟨λx=>?_,λh=>h2 (by split;exact jU h;exact h)⟩;rw[h1 x];by_cases c:f p=true
   . rw [if_pos c,zL];constructor
     . rintro ((h|h)|⟨q,hq,h⟩)
       . exact Or.inl h
       . exact Or.inr ⟨p,by simp,c,h⟩
       . exact Or.inr ⟨q,by simp[hq],h⟩
     . rintro (h|⟨q,hq,hf,h⟩)
       . exact Or.inl (Or.inl h)
       . rcases List.mem_cons.1 hq with rfl|hq
         . exact Or.inl (Or.inr h)
         . exact Or.inr ⟨q,hq,hf,h⟩
   . rw [if_neg c];constructor
     . rintro (h|⟨q,hq,h⟩)
       . exact Or.inl h
       . exact Or.inr ⟨q,by simp[hq],h⟩
     . rintro (h|⟨q,hq,hf,h⟩)
       . exact Or.inl h
       . rcases List.mem_cons.1 hq with rfl|hq
         . exact absurd hf c
         . exact Or.inr ⟨q,hq,hf,h⟩
theorem RMv.filt{l:List (Int×Int)}(h:(l.map (·.1)).Pairwise (· < ·))(f:Int×Int->Bool):((l.filter f).map (·.1)).Pairwise (· < ·):=by rw[List.pairwise_map]at h ⊢;exact h.filter f
theorem KX{m:List Sta}(h:∀q∈m,RMv q)(q:Int):((jB m q).map (·.1)).Pairwise (· < ·):=by
 unfold jB;cases hq:m[q.toNat]? with
 |none=>exact List.Pairwise.nil
 |some x=>exact h x (List.mem_of_getElem? hq)
def qf0(m:List Sta)(t:Int×Int):List Int:=(if (1:Int)∈za m (goS m t.1 t.2).toNat then[0]else[])++((jB m (goS m t.1 t.2)).filter λp=>decide (p.1<1000)).map (·.1)
theorem qiG{q s:Int}:∀(T:List (Int×Int)) (n i:Nat),qjM q s T n=((n+i:Nat):Int)->T[i]?=some (q,s)
 |[],n,i,h=>by simp[qjM]at h;omega
 | p ::T,n,i,h=>by
   unfold qjM at h;split at h
   . rename_i c
     have:i=0:=o_
     subst this;obtain ⟨p1,p2⟩:=p;simp only at c;simp[c.1,c.2]
   . cases i with
     | zero=>
       rcases Kt T (n+1) (q:=q) (s:=s)with e|⟨j,e,_⟩<;>rw[e]at h<;>omega
     | succ i=>
       rw[show n+(i+1)=(n+1)+i by omega]at h;simpa using qiG T (n+1) i h
variable {T:List (Int×Int)}
theorem Qg{s:Int}(h:XW T q s=(i:Int)):T[i]?=some (q,s):=qiG T 0 i (by rw[Nat.zero_add];exact h)
theorem qxj(hT:T.Pairwise qgp){j:Nat}{a b:Int×Int}(hi:T[i]?=some a)(hj:T[j]?=some b)(h:qgp a b):i<j:=by
 rcases Nat.lt_trichotomy i j with h1|h1|h1
 . exact h1
 . subst h1;rw[hi]at hj;cases hj;unfold qgp at h;omega
 . obtain ⟨li,ei⟩:=List.getElem?_eq_some_iff.1 hi;obtain ⟨lj,ej⟩:=List.getElem?_eq_some_iff.1 hj;have:=List.pairwise_iff_getElem.1 hT j i lj li h1;rw[ei,ej]at this;unfold qgp at h this;omega
theorem qjy(hT:T.Pairwise qgp){s:Int}(hi:T[i]?=some (q,s)):XW T q s=(i:Int):=by obtain ⟨j,e,_⟩:=kW (List.mem_of_getElem? hi);rw[e];have:=qcP hT (Qg e) hi;omega
def qdk(E:Nat->Bool)(m:List Sta)(t:Int×Int):List Int:=((jB m (goS m t.1 t.2)).filter λp=>decide (1000<=p.1/\E (p.1 - 1000).toNat=true)).map λp=>XW (qh m) (goS m t.1 t.2) p.1
theorem qcd{m:List Sta}(hM:MOk g m)(h:∀q∈m,RMv q)(E:Nat->Bool){t:Int×Int}(ht:t∈qh m):jq (qdk E m t):=by
 obtain ⟨r,hr,hrl⟩:=hM.trans_go (q:=t.1) (s:=t.2) ht;unfold qdk;rw[hr]
 show List.Pairwise _ _;rw[List.pairwise_map];have hp:=KX h (r:Int);rw[List.pairwise_map]at hp;refine List.Pairwise.imp_of_mem ?_ (hp.filter _);intro a b ha hb hab;have ha':=List.mem_filter.1 ha;have hb':=List.mem_filter.1 hb;simp only[decide_eq_true_eq]at ha' hb';have mem:∀p:Int×Int,p∈jB m (r:Int)->1000<=p.1->((r:Int),p.1)∈qh m:=λp hp h1=>by obtain ⟨q,hq,hm⟩:=hM.movAt_mem hp;exact JL hq h1 (t:=p.2) hm
 obtain ⟨i,ei,_⟩:=kW (mem a ha'.1 ha'.2.1);obtain ⟨j,ej,_⟩:=kW (mem b hb'.1 hb'.2.1);have:=qxj (Jp h) (Qg ei) (Qg ej) (Or.inr ⟨rfl,hab⟩);rw[ei,ej];omega

variable {z base:Nat}
theorem qam{cls:Cls}{id:Nat}{s:St}{K:V->St->Prop}{bytes:Nat}{vx vy:V}{xs ys:List V}{next:Nat}(hcl:(cls == .t)=false)
(hg:GrM H base next z xs vx)(hH:s.H=H)(hs:qY s.H z ys vy)(hb:(xs.length+ys.length) *bytes<=140737488355328)(hl:xs.length+ys.length<=maxLen)
(hk:∀H',H' id=some (.own z (xs++ys) false)->(∀j,j<base->j≠id->H' j=s.H j)->K (.msl id z 0 (xs++ys).length) {s with H:=H'}):VK cls id s K true z bytes vx vy:=by
 unfold VK;rw[hs.1 s rfl];refine⟨λe=>(by subst e;cases hcl),?_⟩;rcases hg with ⟨rfl,rfl⟩|⟨i,rfl,h1,h2,h3⟩
 . have e:qO id s true z (.sl z true []) ys=some (.msl id z 0 ys.length,s.setO id (some (.own z ys false)),ys.length):=(by simp[qO]);rw[e];refine⟨by simpa using hb,by simpa using hl,?_⟩;exact hk (λi=>if i=id then some (.own z ys false)else s.H i) (by simp) (λj _ hj=>by simp[hj])
 . rw[<- hH]at h1;have e:qO id s true z (.msl i z 0 xs.length) ys=some (.msl id z 0 (xs.length+ys.length),(s.setO i none).setO id (some (.own z (xs++ys) false)),xs.length+ys.length):=(by simp[qO,h1]);rw[e];refine⟨hb,hl,?_⟩;have:=hk (λj=>if j=id then some (.own z (xs++ys) false)else if j=i then none else s.H j) (by simp) (λj hj hne=>by simp[hne,show j≠i by omega]);rw[List.length_append]at this;exact this
@[reducible] def kM(g:Grammar)(m:List Sta)(E:Nat->Bool):V:= .agg [.sl 6 false (g.toks.map Tok.V),.sl 2 false (g.nons.map Non.V),.sl 6 false (g.prods.map GPr.V),.str g.pro,.str g.tail,.sl 2 false (m.map Sta.V),.sl 2 false ((qh m).map prV),.mp (Ko (qh m) (qh m).length),.sl 1 false (QN g.nons.length E)]
theorem xO{b:Bool}{m:List Sta}{E:Nat->Bool}:Er b H (.iptr 9 (kM g m E) 0) (.iptr 9 (kM g m E) 0):=
 .iptr _ _ _ _ (ErL.agg (.cons qd (.cons qd (.cons qd (.cons (.str _) (.cons (.str _) (.cons qd (.cons qd (.cons (.mp _) (.cons (@yN _ _ _ _ _ (qel _ _)) .nil))))))))))
variable {sy:Int}
theorem Qq{m:List Sta}{E:Nat->Bool}{q:Nat}(hM:MOk g m)(hq:q<m.length):Pure Tryz.prog 91 [.iptr 9 (kM g m E) 0,prV ((q:Int),sy)] (vi (goS m q sy)):=by
 refine pure_intro Tryz.func91 nm_ qsO (by show 2<=14;decide) ?_
 show ewp _ qxV _ _;have hml:=hM.len;have hst:=Y2 (m:=m) (q:=q) (sy:=sy) hq o_ (λq h=>by have:=hM.mvl q h;omega);repeat' with_reducible first|refine s_ ?_|simp -implicitDefEqProofs only[wZZ,seval]|refine cq3 hst qd qd qd ?_|refine t_ ?_
 all_goals refine qz rfl (Or.inr rfl) ?_
 all_goals(try simp -implicitDefEqProofs only[wL,seval])
 all_goals refine er_ ?_
 all_goals(try(with_reducible rfl))
def qjQ(x:Int):List Int->Nat->Int
 |[],_=> -1
 |y::l,i=>if x=y then(i:Int)else qjQ x l (i+1)
variable {l:List Int} {x:Int}
theorem qkb{y:Int}{n:Nat}(h:l[i]?=some y):qjQ x (l.drop i) n=if x=y then(n:Int)else qjQ x (l.drop (i+1)) (n+1):=by have hi:=(List.getElem?_eq_some_iff.1 h);rw[List.drop_eq_getElem_cons hi.1,hi.2];rfl
theorem qfk{x:Int}:∀(l:List Int) (n:Nat),0<=qjQ x l n↔x∈l
 |[],n=>by simp[qjQ]
 | y::l,n=>by
   unfold qjQ;split
   . rename_i h;subst h;simp
   . rename_i h;rw[qfk l (n+1),List.mem_cons];exact⟨Or.inr,λh'=>h'.elim (λe=>absurd e h) id⟩
theorem xE(hl:l.length<=1000000):Pure Tryz.prog 123 [.sl 2 false (l.map itV),itV x] (vi (qjQ x l 0)):=by
 refine pure_intro Tryz.func123 nm_ qnI (by show 2<=19;decide) ?_
 show ewp _ qjc _ _;repeat' with_reducible first|refine s_ ?_|simp -implicitDefEqProofs only[wZZ,seval]|refine t_ ?_
 refine qb ?nx1 (λ(i:Nat) s=>s.f 0=?v1_0/\s.f 3=?v1_3/\s.f 7=?v1_7/\s.H 0=some (.own 2 [itV x] false)/\s.f 8=vi i/\(i<=l.length)/\(qjQ x l 0=qjQ x (l.drop i) i)) (λi=>l.length - i) (0) wj_ (by refine⟨?_,?_,?_,?_,?_,wo_,(by rfl)⟩<;>first|(simp -implicitDefEqProofs only[wL,wM,wN,wX,seval,Option.some.injEq]<;>exact wt_)|rfl|exact⟨_,rfl⟩) ?_;intro i s hnx ⟨g0,g3,g7,o0,g8,k1_0,k1_1⟩;have hz:=w1_ i;by_cases hi:i<l.length
 . have hgi:l[i]?=some l[i]:=ge_ hi;have hst:=qkb (x:=x) (n:=i) hgi;generalize l[i]=y at *;by_cases hc:x=y
   . rw[if_pos hc]at hst;rw[k1_1,hst];repeat' with_reducible first|refine s_ ?_|simp -implicitDefEqProofs only[wZZ,seval,g0,g3,g7,g8,o0,hz]|apply qa<;>intro h h_<;>(try simp only[wD,reduceCtorEq]at h_)<;>(try exact wb_)<;>(try simp only[h])|refine t_ ?_|(refine qjV ?_)
     all_goals refine qz rfl (Or.inr rfl) ?_
     all_goals(try simp -implicitDefEqProofs only[wL,seval,g0,g3,g7,g8])
     all_goals refine er_ ?_
     all_goals(try(with_reducible rfl))
   . rw[if_neg hc]at hst;repeat' with_reducible first|refine s_ ?_|simp -implicitDefEqProofs only[wZZ,seval,g0,g3,g7,g8,o0,hz]|apply qa<;>intro h h_<;>(try simp only[wD,reduceCtorEq]at h_)<;>(try exact wb_)<;>(try simp only[h])|refine t_ ?_|(refine qjV ?_)
     refine⟨wk_,i+1,o_,?_⟩;refine⟨?_,?_,?_,?_,?_,?_,?_⟩;iterate 5 (focus(first|(simp -implicitDefEqProofs only[wL,wM,wN,wX,seval,Option.some.injEq,g0,g3,g7,g8,o0]<;>exact wt_)|rfl|exact⟨_,rfl⟩))
     all_goals try omega
 . have e:l.drop i=[]:=List.drop_of_length_le o_;rw[e]at k1_1;rw[k1_1];repeat' with_reducible first|refine s_ ?_|simp -implicitDefEqProofs only[wZZ,seval,g0,g3,g7,g8,o0,hz]|apply qa<;>intro h h_<;>(try simp only[wD,reduceCtorEq]at h_)<;>(try exact wb_)<;>(try simp only[h])
   all_goals refine qz rfl (Or.inr rfl) ?_
   all_goals(try simp -implicitDefEqProofs only[wL,seval,g0,g3,g7,g8])
   all_goals refine er_ ?_
   all_goals(try(with_reducible rfl))
   all_goals rfl
theorem jV(hl:l.length<=1000000):Pure Tryz.prog 92 [.sl 2 false (l.map itV),itV x] (.bool (decide (x∈l))):=by
 refine pure_intro Tryz.func92 nm_ quG (by show 2<=9;decide) ?_
 show ewp _ qzd _ _;have hix:=xE (x:=x) hl;have hif:=qfk (x:=x) l 0;have e:decide (x∈l)=decide (0<=qjQ x l 0):=by rw[Bool.eq_iff_iff];simp only[decide_eq_true_eq];exact hif.symm
 rw[e];repeat' with_reducible first|refine s_ ?_|simp -implicitDefEqProofs only[wZZ,seval]|refine cq2 hix qd qd ?_|refine t_ ?_
 all_goals refine qz rfl (Or.inr rfl) ?_
 all_goals(try simp -implicitDefEqProofs only[wL,seval])
 all_goals refine er_ ?_
 all_goals(try(with_reducible rfl))
theorem qbz{α β:Type}(f:α->Bool)(k:α->β){l:List α}{x:α}(h:l[i]?=some x):((l.take (i+1)).filter f).map k=((l.take i).filter f).map k++(if f x=true then[k x]else[]):=by rw[List.take_add_one,h,List.filter_append,List.map_append];cases hf:f x<;>simp[hf]
def GrN(H:Nat->Option MObj)(base next z:Nat)(es:List V)(v:V):Prop:=(es=[]/\v=.sl z true [])\/(es≠[]/\∃id,v=.msl id z 0 es.length/\H id=some (.own z es false)/\base<=id/\id<next)
variable {es:List Go.E.V} {v:Go.E.V}
theorem GrN.m{next:Nat}(h:GrN H base next z es v):GrM H base next z es v:=h.imp id And.right
variable {H':Nat->Option MObj} {next':Nat} {es':List Go.E.V}
theorem GrN.keep'{base' next:Nat}(h:GrN H base next z es v)(e:es=es')(hb:base'<=base)(hn:next<=next')(hH:∀j,base<=j->j<next->H' j=H j):GrN H' base' next' z es' v:=by
 subst e;rcases h with h|⟨h0,id,rfl,h1,h2,h3⟩
 . exact Or.inl h
 . exact Or.inr ⟨h0,id,rfl,by rw[hH id h2 h3];exact h1,o_,o_⟩
theorem GrN.keep{next:Nat}(h:GrN H base next z es v)(e:es=es')(hn:next<=next')(hH:∀j,base<=j->j<next->H' j=H j):GrN H' base next' z es' v:=h.keep' e (Nat.le_refl _) hn hH
theorem qrF{s0:St}{a:Nat}{xk:V}{xm:List (Int×Int)}{L0:List Int}{w:V}{Q:Exit->St->Prop}(f5:s0.f 5=w)(f6:s0.f 6=.ptr a 0 0)(ha:s0.H a=some (.own 2 [.agg [xk,.sl 2 false (xm.map prV)]] false))(han:a<s0.next)(hxl:xm.length<=64)(hLl:L0.length<=1)(hw:GrN s0.H (a+1) s0.next 1 (L0.map (V.int .i64)) w)
(hQ:∀s' v,s'.f 4=v->s0.next<=s'.next->(∀j,j<=a->s'.H j=s0.H j)->GrN s'.H (a+1) s'.next 1 ((L0++(xm.filter λp=>decide (p.1<1000)).map (·.1)).map (V.int .i64)) v->Q .ret s'):ewp Tryz.prog qgz Q s0:=by
 repeat' with_reducible first|refine s_ ?_|simp -implicitDefEqProofs only[wZZ,seval,f5,f6,ha]|refine t_ ?_
 refine qb ?nx1 (λ(k:Nat) s=>s.f 26=?v1_26/\s.f 27=?v1_27/\s.f 28=vi k/\(k<=xm.length)/\(s0.next<=s.next)/\((∀j,j<=a->s.H j=s0.H j))/\((∃v,s.f 5=v/\GrN s.H (a+1) s.next 1 ((L0++((xm.take k).filter λp=>decide (p.1<1000)).map (·.1)).map (V.int .i64)) v))) (λk=>xm.length - k) (0) wj_ (by refine⟨?_,?_,?_,wo_,wg_,(by intro j hj;((try simp only[wM]);(repeat first|rw[if_pos trivial]|rw[if_pos rfl]|rw[if_neg o_]))),(by exact⟨w,(by(simp -implicitDefEqProofs only[wL,seval]);exact f5),hw.keep (by simp) wg_ (λj h1 h2=>hh_)⟩)⟩<;>first|(simp -implicitDefEqProofs only[wL,wM,wN,wX,seval,Option.some.injEq]<;>exact wt_)|rfl|exact⟨_,rfl⟩) ?_;intro k s hnx ⟨g26,g27,g28,k1_0,k1_1,k1_2,k1_3⟩;obtain ⟨v5,g5,hG⟩:=k1_3;have hz:=w1_ k;have hfl:(((xm.take k).filter λp=>decide (p.1<1000)).map (·.1)).length<=k:=by rw[List.length_map];exact Nat.le_trans (List.length_filter_le _ _) (by rw[List.length_take];omega)
 by_cases hk:k<xm.length
 . have hgk:xm[k]?=some xm[k]:=ge_ hk;have hst:=qbz (λp:Int×Int=>decide (p.1<1000)) (·.1) hgk;generalize ((xm.take k).filter λp=>decide (p.1<1000)).map (·.1)=U at *;generalize xm[k]=p at *;obtain ⟨p1,p2⟩:=p;dsimp only at hst;by_cases hp:p1<1000
   . rw[decide_eq_true hp,if_pos rfl]at hst;repeat' with_reducible first|refine s_ ?_|simp -implicitDefEqProofs only[wZZ,seval,g26,g27,g28,hz,g5]|apply qa<;>intro h h_<;>(try simp only[wD,reduceCtorEq]at h_)<;>(try exact wb_)<;>(try simp only[h])|refine t_ ?_
     refine qam rfl (hG.m.keep (next':=s.next) rfl (Nat.le_refl _) (λj h1 h2=>hh_)) rfl qY.sl (by simp only[wZ]<;>omega) (by unfold maxLen;simp only[wZ]<;>omega) ?_;intro H1 q1 q2;repeat' with_reducible first|refine s_ ?_|simp -implicitDefEqProofs only[wZZ,seval,g26,g27,g28]|simp -implicitDefEqProofs (disch:=omega) only[w64,if_neg]
     exact⟨wg_,k+1,o_,trivial,trivial,rfl,o_,wg_,(λj hj=>by rw[q2 j o_ o_];((try simp only[wM]);(repeat first|rw[if_pos trivial]|rw[if_pos rfl]|rw[if_neg o_]));exact k1_2 j hj),_,rfl,by rw[hst,<- List.append_assoc,List.map_append];exact Or.inr ⟨by simp,_,by simp,q1,o_,wg_⟩⟩
   . rw[decide_eq_false hp,if_neg (by simp),List.append_nil]at hst;repeat' with_reducible first|refine s_ ?_|simp -implicitDefEqProofs only[wZZ,seval,g26,g27,g28,hz,g5]|apply qa<;>intro h h_<;>(try simp only[wD,reduceCtorEq]at h_)<;>(try exact wb_)<;>(try simp only[h])|refine t_ ?_|simp -implicitDefEqProofs (disch:=omega) only[w64,if_neg]
     exact⟨wg_,k+1,o_,trivial,trivial,rfl,o_,wg_,(λj hj=>by rw[if_neg o_];exact k1_2 j hj),v5,rfl,by rw[hst];exact hG.keep rfl wg_ (λj h1 h2=>hh_)⟩
 . have e:xm.take k=xm:=List.take_of_length_le o_;rw[e]at hG;repeat' with_reducible first|refine s_ ?_|simp -implicitDefEqProofs only[wZZ,seval,g26,g27,g28,hz,g5]|apply qa<;>intro h h_<;>(try simp only[wD,reduceCtorEq]at h_)<;>(try exact wb_)<;>(try simp only[h])
   exact hQ _ v5 (by(simp -implicitDefEqProofs only[wL,seval])) wg_ k1_2 (hG.keep rfl wg_ (λ_ _ _=>rfl))
theorem Kr{next:Nat}{m:List Sta}{E:Nat->Bool}{q:Nat}(hg:GOk g)(hM:MOk g m)(ht:((q:Int),sy)∈qh m):zh Tryz.prog 53 [.iptr 9 (kM g m E) 0,prV ((q:Int),sy)] H next (λv H' n'=>next<=n'/\GrN H' next n' 1 ((qf0 m ((q:Int),sy)).map (V.int .i64)) v/\∀j,j<next->H' j=H j):=by
 refine zb Tryz.func53 nm_ qv8 (by show 2<=42;decide) ?_
 show ewp _ qjz _ _;have hml:=hM.len;have hpl:=hg.pl2;obtain ⟨n,y,e,hy,_⟩:=yB ht;have hqm:q<m.length:=by have:=(List.getElem?_eq_some_iff.1 hy).1;omega
 obtain ⟨r,hr,hrm⟩:=hM.trans_go ht;have hend:=Qq (E:=E) (sy:=sy) hM hqm;rw[hr,show prV ((q:Int),sy)=.agg [vi q,vi sy] from rfl]at hend;have hgr:m[r]?=some m[r]:=ge_ hrm;have hxl:=hM.mvl _ (List.getElem_mem hrm);have hkl:=hM.kl hpl _ (List.getElem_mem hrm);have hcn:=jV (l:=m[r].ker) (x:=1) o_;have hF:qf0 m ((q:Int),sy)=(if (1:Int)∈m[r].ker then[0]else[])++((m[r].mov).filter λp=>decide (p.1<1000)).map (·.1):=by unfold qf0 jB za;rw[hr,show ((r:Int)).toNat=r from rfl,hgr];rfl
 rw[hF];have hV1:itV 1=.agg [vi 0,vi 1]:=rfl;rw[hV1]at hcn;generalize m[r]=x at *;obtain ⟨xk,xm⟩:=x;dsimp only at hxl hkl hcn;dsimp only;generalize hL0:(if (1:Int)∈xk then([0]:List Int)else[])=L0 at *;have W:= @qrF;unfold qjz qlB qlT qlJ;generalize qgz=ES at W ⊢;by_cases hc:(1:Int)∈xk
 . rw[decide_eq_true hc]at hcn;rw[if_pos hc]at hL0;subst hL0;repeat' with_reducible first|refine s_ ?_|simp -implicitDefEqProofs only[wZZ,seval]|apply qM (hp:=hend);exact xO;exact qd;exact wu_;exact Flat.int _ _|refine t_ ?_|refine cq2 hcn qd qd ?_
   refine qam (base:=next+2+1+9+1) (next:=0) rfl (Or.inl ⟨rfl,rfl⟩) rfl qY.sl (by simp) (by unfold maxLen;simp) ?_;intro H1 q1 q2;repeat' with_reducible first|refine qjR ?_|simp -implicitDefEqProofs only[wZZ,seval]
   refine W (a:=next+2+1+9) (xk:= .sl 2 false (xk.map itV)) (xm:=xm) (L0:=[0]) (by(simp -implicitDefEqProofs only[wL,seval])<;>rfl) (by(simp -implicitDefEqProofs only[wL,seval])) (by(try simp only[wM]);rw[q2 _ o_ o_];((try simp only[wM]);(repeat first|rw[if_pos trivial]|rw[if_pos rfl]|rw[if_neg o_]))) wg_ hxl (Nat.le_refl _) (Or.inr ⟨by simp,_,rfl,q1,o_,wg_⟩) ?_;intro s' v q0 qn qH qG;(try simp only[wN]at qn);exact JU (t:=4) rfl (Or.inr rfl) ⟨o_,by rw[q0];exact qG.keep' rfl o_ (Nat.le_refl _) (λ_ _ _=>rfl),λj hj=>by rw[qH j o_];(try simp only[wM]);rw[q2 j o_ o_];((try simp only[wM]);(repeat first|rw[if_pos trivial]|rw[if_pos rfl]|rw[if_neg o_]))⟩
 . rw[decide_eq_false hc]at hcn;rw[if_neg hc]at hL0;subst hL0;repeat' with_reducible first|refine s_ ?_|simp -implicitDefEqProofs only[wZZ,seval]|apply qM (hp:=hend);exact xO;exact qd;exact wu_;exact Flat.int _ _|refine t_ ?_|refine cq2 hcn qd qd ?_
   refine W (a:=next+2+1+9) (xk:= .sl 2 false (xk.map itV)) (xm:=xm) (L0:=[]) (by(simp -implicitDefEqProofs only[wL,seval])<;>rfl) (by(simp -implicitDefEqProofs only[wL,seval])) hh_ wg_ hxl (Nat.zero_le _) (Or.inl ⟨rfl,rfl⟩) ?_;intro s' v q0 qn qH qG;(try simp only[wN]at qn);exact JU (t:=4) rfl (Or.inr rfl) ⟨o_,by rw[q0];exact qG.keep' rfl o_ (Nat.le_refl _) (λ_ _ _=>rfl),λj hj=>by rw[qH j o_];((try simp only[wM]);(repeat first|rw[if_pos trivial]|rw[if_pos rfl]|rw[if_neg o_]))⟩

theorem qiE(hT:T.Pairwise qgp){a b:Int}(h:T[i]?=some (a,b)):(Ko T T.length).find? (λe=>e.1 == a && e.2.1 == b)=some (a,b,(i:Int)):=by
 have hi:=(List.getElem?_eq_some_iff.1 h).1;have hmem:(a,b,(i:Int))∈Ko T T.length:=by unfold Ko;exact List.mem_map.2 ⟨i,List.mem_range.2 hi,by simp[List.getD,h]⟩
 cases hf:(Ko T T.length).find? (λe=>e.1 == a && e.2.1 == b)with
 |none=>exact absurd (List.find?_eq_none.1 hf _ hmem) (by simp)
 | some e=>
   have h1:=List.find?_some hf;have h2:=List.mem_of_find?_eq_some hf;unfold Ko at h2;obtain ⟨k,hk,rfl⟩:=List.mem_map.1 h2;rw[List.mem_range]at hk;have hg:T[k]?=some T[k]:=ge_ hk;simp only[List.getD,hg,Option.getD_some,Bool.and_eq_true,beq_iff_eq]at h1;have e2:T[k]=(a,b):=(by rw[<- h1.1,<- h1.2]);have:=qcP hT (by rw[hg,e2]) h;subst this;simp[List.getD,h]
theorem qhx{T:List (Int×Int)}(hT:T.Pairwise qgp){a b:Int}(h:(a,b)∈T)(ok:Bool):VJ ok (Ko T T.length) a b=if ok then .tup [vi (XW T a b),.bool true]else vi (XW T a b):=by
 obtain ⟨i,hi,e⟩:=List.getElem_of_mem h;have hg:T[i]?=some (a,b):=by rw[ge_ hi,e]
 unfold VJ;rw[qiE hT hg,qjy hT hg]
theorem qin{n c:Nat}{b:Bool}{E:Nat->Bool}{k:IntKind}{K:V->Prop}(hc:c<n)(hk:K (.iptr z (.bool (E c)) 0)):onS (jc z (.sl z b (QN n E)) (.int k (c:Int))) K:=
 qbT (f:=λk=>V.bool (E k)) (l:=List.range n) o_ (List.getElem?_range hc) hk
theorem qbB{next:Nat}{m:List Sta}{E:Nat->Bool}{q:Nat}(hg:GOk g)(hM:MOk g m)(hR:∀q∈m,RMv q)(ht:((q:Int),sy)∈qh m):zh Tryz.prog 56 [.iptr 9 (kM g m E) 0,prV ((q:Int),sy)] H next (λv H' n'=>next<=n'/\GrN H' next n' 1 ((qdk E m ((q:Int),sy)).map (V.int .i64)) v/\∀j,j<next->H' j=H j):=by
 refine zb Tryz.func56 nm_ qwd (by show 2<=53;decide) ?_
 show ewp _ qlU _ _;have hml:=hM.len;have hnn:=hg.nn2;have htk:=hg.tk2;have hlx:=Jp hR;obtain ⟨n,y,e,hy,_⟩:=yB ht;have hqm:q<m.length:=by have:=(List.getElem?_eq_some_iff.1 hy).1;omega
 obtain ⟨r,hr,hrm⟩:=hM.trans_go ht;have hend:=Qq (E:=E) (sy:=sy) hM hqm;rw[hr,show prV ((q:Int),sy)=.agg [vi q,vi sy] from rfl]at hend;have hgr:m[r]?=some m[r]:=ge_ hrm;have hxl:=hM.mvl _ (List.getElem_mem hrm);have hmv:=hM.mv _ (List.getElem_mem hrm);have hin:∀p∈m[r].mov,1000<=p.1->((r:Int),p.1)∈qh m:=λp hp h=>JL hgr h (t:=p.2) hp;have hF:qdk E m ((q:Int),sy)=((m[r].mov).filter λp=>decide (1000<=p.1/\E (p.1 - 1000).toNat=true)).map λp=>XW (qh m) r p.1:=by unfold qdk jB;rw[hr,show ((r:Int)).toNat=r from rfl,hgr];rfl
 rw[hF];generalize m[r]=x at *;obtain ⟨xk,xm⟩:=x;dsimp only at hxl hmv hin ⊢;repeat' with_reducible first|refine s_ ?_|simp -implicitDefEqProofs only[wZZ,seval]|apply qM (hp:=hend);exact xO;exact qd;exact wu_;exact Flat.int _ _|refine t_ ?_
 have hfd:∀p∈xm,1000<=p.1->VJ false (Ko (qh m) (qh m).length) r p.1=vi (XW (qh m) r p.1):=λp hp h=>qhx hlx (hin p hp h) false;refine qb ?nx1 (λ(k:Nat) s=>s.f 0=?v1_0/\s.f 6=?v1_6/\s.f 19=?v1_19/\s.f 20=?v1_20/\s.f 21=vi k/\(k<=xm.length)/\((∀j,j<next->s.H j=H j))/\((∃v,s.f 5=v/\GrN s.H next s.next 1 ((((xm.take k).filter λp=>decide (1000<=p.1/\E (p.1 - 1000).toNat=true)).map λp=>XW (qh m) r p.1).map (V.int .i64)) v))) (λk=>xm.length - k) (0) wj_ (by refine⟨?_,?_,?_,?_,?_,wo_,(by intro j hj;((try simp only[wM]);(repeat first|rw[if_pos trivial]|rw[if_pos rfl]|rw[if_neg o_]))),(by exact⟨_,(by(simp -implicitDefEqProofs only[wL,seval])<;>rfl),Or.inl ⟨rfl,rfl⟩⟩)⟩<;>first|(simp -implicitDefEqProofs only[wL,wM,wN,wX,seval,Option.some.injEq]<;>exact wt_)|rfl|exact⟨_,rfl⟩) ?_;intro k s hnx ⟨g0,g6,g19,g20,g21,k1_0,k1_1,k1_2⟩;obtain ⟨v5,g5,hG⟩:=k1_2;have hz:=w1_ k;have hfl:(((xm.take k).filter λp=>decide (1000<=p.1/\E (p.1 - 1000).toNat=true)).map λp=>XW (qh m) r p.1).length<=k:=by rw[List.length_map];exact Nat.le_trans (List.length_filter_le _ _) (by rw[List.length_take];omega)
 by_cases hk:k<xm.length
 . have hgk:xm[k]?=some xm[k]:=ge_ hk;have hst:=qbz (λp:Int×Int=>decide (1000<=p.1/\E (p.1 - 1000).toNat=true)) (λp=>XW (qh m) r p.1) hgk;have hsy:=(hmv _ (List.getElem_mem hk)).1;have hfd:=hfd _ (List.getElem_mem hk);generalize ((xm.take k).filter λp=>decide (1000<=p.1/\E (p.1 - 1000).toNat=true)).map (λp=>XW (qh m) r p.1)=U at *;generalize xm[k]=p at *;obtain ⟨p1,p2⟩:=p;dsimp only at hst hsy hfd;rcases hsy with ⟨t,rfl,htl⟩|⟨c,rfl,hc⟩
   . rw[decide_eq_false (λh=>o_),if_neg (by simp),List.append_nil]at hst;have hlt: ¬ (1000<=(t:Int)):=o_;repeat' with_reducible first|refine s_ ?_|simp -implicitDefEqProofs only[wZZ,seval,g0,g6,g19,g20,g21,hz,g5,hlt]|apply qa<;>intro h h_<;>(try simp only[wD,reduceCtorEq]at h_)<;>(try exact wb_)<;>(try simp only[h])|refine t_ ?_|simp -implicitDefEqProofs (disch:=omega) only[w64,if_neg]
     all_goals exact⟨wg_,k+1,o_,trivial,trivial,trivial,trivial,rfl,o_,(λj hj=>by rw[if_neg o_];exact k1_1 j hj),v5,rfl,by rw[hst];exact hG.keep rfl wg_ (λj h1 h2=>hh_)⟩
   . have hz1:IntKind.i64.wrap (1000+(c:Int) - 1000)=(c:Int):=(by rw[wrap64 o_ o_];omega);have hge:(1000:Int)<=1000+(c:Int):=o_;have hfd:=hfd hge;rw[show (1000+(c:Int) - 1000).toNat=c by omega]at hst;cases hb:E c with
     | true=>
       rw[hb,decide_eq_true ⟨hge,rfl⟩,if_pos rfl]at hst;repeat' with_reducible first|refine s_ ?_|simp -implicitDefEqProofs only[wZZ,seval,g0,g6,g19,g20,g21,hz,hz1,hb,g5,hge,qap]|apply qa<;>intro h h_<;>(try simp only[wD,reduceCtorEq]at h_)<;>(try exact wb_)<;>(try simp only[h])|refine t_ ?_|apply qin;exact hc|apply qj9;exact hfd
       refine qam rfl (hG.m.keep (next':=s.next) rfl (Nat.le_refl _) (λj h1 h2=>hh_)) rfl qY.sl (by simp only[wZ]<;>omega) (by unfold maxLen;simp only[wZ]<;>omega) ?_;intro H1 q1 q2;repeat' with_reducible first|refine s_ ?_|simp -implicitDefEqProofs only[wZZ,seval,g0,g6,g19,g20,g21]|simp -implicitDefEqProofs (disch:=omega) only[w64,if_neg]
       exact⟨wg_,k+1,o_,trivial,trivial,trivial,trivial,rfl,o_,(λj hj=>by rw[q2 j o_ o_];((try simp only[wM]);(repeat first|rw[if_pos trivial]|rw[if_pos rfl]|rw[if_neg o_]));exact k1_1 j hj),_,rfl,by rw[hst,List.map_append];exact Or.inr ⟨by simp,_,by simp,q1,o_,wg_⟩⟩
     | false=>
       rw[hb,decide_eq_false (λh=>by cases h.2),if_neg (by simp),List.append_nil]at hst;repeat' with_reducible first|refine s_ ?_|simp -implicitDefEqProofs only[wZZ,seval,g0,g6,g19,g20,g21,hz,hz1,hb,g5,hge]|apply qa<;>intro h h_<;>(try simp only[wD,reduceCtorEq]at h_)<;>(try exact wb_)<;>(try simp only[h])|refine t_ ?_|apply qin;exact hc|simp -implicitDefEqProofs (disch:=omega) only[w64,if_neg]
       all_goals exact⟨wg_,k+1,o_,trivial,trivial,trivial,trivial,rfl,o_,(λj hj=>by rw[if_neg o_];exact k1_1 j hj),v5,rfl,by rw[hst];exact hG.keep rfl wg_ (λj h1 h2=>hh_)⟩
 . have e:xm.take k=xm:=List.take_of_length_le o_;rw[e]at hG;repeat' with_reducible first|refine s_ ?_|simp -implicitDefEqProofs only[wZZ,seval,g0,g6,g19,g20,g21,hz,g5]|apply qa<;>intro h h_<;>(try simp only[wD,reduceCtorEq]at h_)<;>(try exact wb_)<;>(try simp only[h])
   exact JU (t:=4) rfl (Or.inr rfl) ⟨wg_,by(simp -implicitDefEqProofs only[wL,seval]);exact hG.keep rfl wg_ (λ_ _ _=>rfl),k1_1⟩
end Go.Proofs
