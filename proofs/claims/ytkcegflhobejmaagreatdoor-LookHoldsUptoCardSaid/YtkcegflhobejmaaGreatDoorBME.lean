import Derived.Test.YtkcegflhobejmaaGreatDoorBMC
import Derived.Test.YtkcegflhobejmaaGreatDoorBGY
import Derived.Test.YtkcegflhobejmaaGreatDoorBCJ
import Derived.Test.YtkcegflhobejmaaGreatDoorBZH
set_option maxRecDepth 20000
set_option linter.all false
set_option maxHeartbeats 4000000
namespace Go.Proofs
open Go.E
theorem qhM(g:Grammar){c:List Int}{i:Nat}{x:Int}(h:c[i]?=some x):(c.take (i+1)).filterMap (qmb g)=(c.take i).filterMap (qmb g)++(if 0<x / 16/\nxt g x= -1 then[x / 16]else[]):=by
 rw[List.take_add_one,h,List.filterMap_append];congr 1
 show List.filterMap _ [x]=_;by_cases hc:0<x / 16/\nxt g x= -1<;>simp[qmb,hc]
variable {g:Grammar}
theorem qhQ{q:Sta}(hg:GOk g)(hx:∀x∈q.ker,Qx g x)(hr:jq q.ker)(hk0:∀(m:Nat) p,g.prods[m]?=some p->16 *(m:Int)∈q.ker->p.left=0)(h1000:∀x,nxt g x≠1000):Pure Tryz.prog 65 [g.V,q.V] (.sl 1 false ((X6 g q.ker).map (V.int .i64))):=by
 refine pure_intro Tryz.func65 nm_ qrj (by show 2<=40;decide) ?_
 show ewp _ quV _ _;have hcl:=Y0 hg hx hr hk0 h1000;obtain ⟨hI,hok,hlen⟩:=zK hg hx hr;have hdef:X6 g q.ker=(qK g q.ker).filterMap (qmb g):=rfl;rw[hdef];have het:=λi x h=>qhM g (c:=qK g q.ker) (i:=i) (x:=x) h;have hpl:=hg.pl2;have hrl:=hg.rlen;obtain ⟨qk,qm⟩:=q;dsimp only at *;generalize qK g qk=c at *;repeat' with_reducible first|refine s_ ?_|simp -implicitDefEqProofs only[wZZ,seval]|refine cq2 hcl qd qd ?_|refine t_ ?_
 refine qb ?nx1 (λ(i:Nat) s=>s.f 2=?v1_2/\s.f 11=?v1_11/\s.f 12=?v1_12/\s.H 0=some (.own 5 [g.V] false)/\(∃v,s.f 5=v/\Gr s.H s.next 1 (((c.take i).filterMap (qmb g)).map (V.int .i64)) v)/\s.f 13=vi i/\(i<=c.length)) (λi=>c.length - i) (0) wj_ (by refine⟨?_,?_,?_,?_,?_,?_,wo_⟩<;>first|(simp -implicitDefEqProofs only[wL,wM,wN,wX,seval,Option.some.injEq]<;>exact wt_)|rfl|exact⟨_,rfl⟩) ?_;intro i s hnx ⟨g2,g11,g12,o0,⟨v5,g5,G5⟩,g13,k1_0⟩;have hz:=w1_ i;have hUl:((c.take i).filterMap (qmb g)).length<=960:=Nat.le_trans (List.length_filterMap_le _ _) (by rw[List.length_take];omega);by_cases hi:i<c.length
 . have hgi:c[i]?=some c[i]:=ge_ hi;have hst:=het _ _ hgi;have hIt:=hok _ (List.getElem_mem hi);generalize c[i]=x at *;generalize (c.take i).filterMap (qmb g)=U at *;obtain ⟨m,d,p,hm,hd,hp,hpd,hn⟩:=hIt.nat;have hV:itV x=.agg [vi m,vi d]:=(by rw[<- hm,<- hd]);have hrp:=hrl p (List.mem_of_getElem? hp);have hml:=(List.getElem?_eq_some_iff.1 hp).1;have hnd:nxt g x= -1↔d=p.right.length:=by
    rw[hn];by_cases e:d<p.right.length
    . rw[ge_ e,Option.getD_some];rcases hg.right p (List.mem_of_getElem? hp) _ (List.getElem_mem e)with ⟨t,e2,_⟩|⟨t,e2,_⟩<;>constructor<;>intro h<;>omega
    . rw[List.getElem?_eq_none o_,Option.getD_none];constructor<;>intro h<;>omega
   have hm0:0<x / 16↔0<m:=(by rw[hm];omega);have hgx:c[i]?=some x:=hgi;rw[hm]at hst;by_cases h0:0<m
   . have h0':decide ((0:Int)<(m:Int))=true:=decide_eq_true o_;obtain ⟨pl,pr,pc,pco,pa,pat⟩:=p;dsimp only at *;by_cases he:d=pr.length
     . rw[if_pos ⟨o_,hnd.2 he⟩]at hst;have he':decide ((d:Int)=(pr.length:Int))=true:=decide_eq_true o_;repeat' with_reducible first|refine s_ ?_|simp -implicitDefEqProofs only[wZZ,seval,g2,g11,g12,g5,g13,o0,Gr.dropO G5 o0,hz,hV,h0',he',G5.len]|apply qa<;>intro h h_<;>(try simp only[wD,reduceCtorEq]at h_)<;>(try exact wb_)<;>(try simp only[h])|apply zq rfl (G5.mono (Nat.le_refl _) (λid h1 h2=>by(try simp only[wM]);(repeat rw[if_neg o_])));(focus(first|exact qY.sl|exact qY.asl));(focus(simp only[wZ,hz];omega));(focus(unfold maxLen;simp only[wZ,hz];omega))|refine t_ ?_
       exact⟨wg_,i+1,o_,trivial,trivial,trivial,(G5.mono (Nat.le_refl _) (λj h1 h2=>hh_)).dropO (by((try simp only[wM]);(repeat first|rw[if_pos trivial]|rw[if_pos rfl]|rw[if_neg o_]));exact o0),⟨_,rfl,by rw[hst];exact Gr.tok (id:=s.next+1+4+16+4) (fin:=U.length+1) hh_ wg_⟩,rfl,o_⟩
     . rw[if_neg (λh=>he (hnd.1 h.2)),List.append_nil]at hst;have he':decide ((d:Int)=(pr.length:Int))=false:=decide_eq_false o_;repeat' with_reducible first|refine s_ ?_|simp -implicitDefEqProofs only[wZZ,seval,g2,g11,g12,g5,g13,o0,Gr.dropO G5 o0,hz,hV,h0',he',G5.len]|apply qa<;>intro h h_<;>(try simp only[wD,reduceCtorEq]at h_)<;>(try exact wb_)<;>(try simp only[h])|refine t_ ?_
       exact⟨wg_,i+1,o_,trivial,trivial,trivial,trivial,⟨v5,rfl,by rw[hst];exact G5.mono wg_ (λj h1 h2=>hh_)⟩,rfl,o_⟩
   . have h0':decide ((0:Int)<(m:Int))=false:=decide_eq_false o_;rw[if_neg (λh=>by have:=h.1;omega),List.append_nil]at hst;repeat' with_reducible first|refine s_ ?_|simp -implicitDefEqProofs only[wZZ,seval,g2,g11,g12,g5,g13,o0,Gr.dropO G5 o0,hz,hV,h0',G5.len]|apply qa<;>intro h h_<;>(try simp only[wD,reduceCtorEq]at h_)<;>(try exact wb_)<;>(try simp only[h])|refine t_ ?_
     exact⟨wg_,i+1,o_,trivial,trivial,trivial,trivial,⟨v5,rfl,by rw[hst];exact G5.mono wg_ (λj h1 h2=>hh_)⟩,rfl,o_⟩
 . have e:c.take i=c:=List.take_of_length_le o_;rw[e]at G5;repeat' with_reducible first|refine s_ ?_|simp -implicitDefEqProofs only[wZZ,seval,g2,g11,g12,g5,g13,o0,Gr.dropO G5 o0,hz,G5.len]|apply qa<;>intro h h_<;>(try simp only[wD,reduceCtorEq]at h_)<;>(try exact wb_)<;>(try simp only[h])
   refine qz rfl (Or.inr rfl) ?_;(simp -implicitDefEqProofs only[wL,seval]);exact G5.er rfl

theorem qjk(n:Nat):∀l:List (Int×Int),(l.filterMap (trF n)).map (·.2)=(l.map (·.1)).filter (λs=>decide (1000<=s))
 |[]=>rfl
 | p::l=>by have ih:=qjk n l;by_cases h:1000<=p.1<;>simp[h,ih]
theorem qfD{m:List Sta}(hg:GOk g)(hM:MOk g m)(hR:∀q∈m,RMv q):(qh m).length<=4000:=by
 have key:∀n,n<=m.length->(Q5 m n).length<=n *24:=λn=>by
  induction n with
  |zero=>intro _;exact Nat.zero_le _
  | succ n ih=>
    intro hn;rw[Je,List.length_append];have h1:=ih o_;have h2:((qjN m n).filterMap (trF n)).length<=24:=by
     have hq:m[n]?=some m[n]:=ge_ o_;have hmv:qjN m n=m[n].mov:=(by unfold qjN;rw[hq];rfl);rw[hmv];have hr:=hR _ (List.getElem_mem (show n<m.length by omega));have hs:=hM.mv _ (List.getElem_mem (show n<m.length by omega));have hnn:=hg.nn2;have htk:=hg.tk2;have h3:=xY (N:=24) (a:=1000) (l:=(m[n].mov.map (·.1)).filter (λs=>decide (1000<=s))) (hr.filter _) (λx hx=>by
      rw[List.mem_filter,decide_eq_true_eq]at hx;obtain ⟨p,hp,rfl⟩:=List.mem_map.1 hx.1;rcases (hs p hp).1 with ⟨k,e,h⟩|⟨k,e,h⟩<;>omega)
     rw[<- qjk n,List.length_map]at h3;exact h3
    rw[Nat.add_mul,Nat.one_mul];omega
 have h:=key m.length (Nat.le_refl _);have hml:=hM.len;have e:qh m=Q5 m m.length:=rfl;rw[e];omega
theorem qdz{m:List Sta}{E:Nat->Bool}(hg:GOk g)(hM:MOk g m)(hR:∀q∈m,RMv q):Pure Tryz.prog 52 [.iptr 9 (kM g m E) 0,.mfn 53 (.iptr 9 (kM g m E) 0)] (.sl 1 false ((zU m).map zS)):=by
 have he:=jy (E:=E) (F:=qf0 m) (f:=53) hM (λt ht H next=>by
  obtain ⟨a,b⟩:=t;obtain ⟨i,hi⟩:=List.getElem?_of_mem ht;obtain ⟨n,rfl,hn⟩:=Zd hi;exact Kr hg hM ht) (λt ht=>⟨JK hM hR t,by
   unfold qf0;have h1:=JP hM (goS m t.1 t.2);have h2:=List.length_filter_le (λp:Int×Int=>decide (p.1<1000)) (jB m (goS m t.1 t.2));rw[List.length_append,List.length_map];split<;>simp<;>omega⟩)
 have hd:((qh m).map λt=>Lib.compact (qf0 m t))=zU m:=by rw[Kh];exact List.map_congr_left λt _=>Jy (JK hM hR t)
 rw[hd]at he;exact he
theorem qfY{m:List Sta}{E:Nat->Bool}(hg:GOk g)(hM:MOk g m)(hR:∀q∈m,RMv q):Pure Tryz.prog 52 [.iptr 9 (kM g m E) 0,.mfn 56 (.iptr 9 (kM g m E) 0)] (.sl 1 false ((jA E m).map zS)):=by
 have hrn:∀t∈qh m,qqQ (qdk E m t):=λt ht=>(qcd hM hR E ht).imp Int.le_of_lt;have he:=jy (E:=E) (F:=qdk E m) (f:=56) hM (λt ht H next=>by
  obtain ⟨a,b⟩:=t;obtain ⟨i,hi⟩:=List.getElem?_of_mem ht;obtain ⟨n,rfl,hn⟩:=Zd hi;exact qbB hg hM hR ht) (λt ht=>⟨hrn t ht,by
   unfold qdk;have h1:=JP hM (goS m t.1 t.2);have h2:=List.length_filter_le (λp:Int×Int=>decide (1000<=p.1/\E (p.1 - 1000).toNat=true)) (jB m (goS m t.1 t.2));rw[List.length_map];omega⟩)
 have hd:((qh m).map λt=>Lib.compact (qdk E m t))=jA E m:=by rw[qbF];exact List.map_congr_left λt ht=>Jy (hrn t ht)
 rw[hd]at he;exact he
theorem KF{m:List Sta}{rel out:List (List Int)}(hg:GOk g)(hM:MOk g m)(hR:∀q∈m,RMv q)(hr:qko (qh m).length rel)(ho:yG out)(hl:out.length=(qh m).length):Pure Tryz.prog 36 [.sl 1 false (rel.map zS),.sl 1 false (out.map zS)] (.sl 1 false ((jX 400000 out rel).map zS)):=by have hN:=qfD hg hM hR;have h:=qdr (rl:=rel) (sets:=out) (by rw[hr.1];omega) (λl h=>(hr.2 l h).1) o_ (λl h=>by have:=(ho l h).len;omega);rw[hr.1,if_neg o_,qkk o_ hr ho hl]at h;exact h
theorem yt{m:List Sta}{E:Nat->Bool}(hg:GOk g)(hM:MOk g m)(hR:∀q∈m,RMv q)(hG:MGo g m)(hS:V9 g m):Pure Tryz.prog 63 [.iptr 9 (kM g m E) 0] (.sl 1 false ((zJ g E m).map zS)):=by
 refine pure_intro Tryz.func63 nm_ qq1 (by show 1<=15;decide) ?_
 show ewp _ qyU _ _;have h1:=xH (E:=E) hg hM hR hG hS;have h2:=qfY (E:=E) hg hM hR;have h3:=qdz (E:=E) hg hM hR;have hdo:=JX hM hg;have hdl:=Zc m;have h4:=KF hg hM hR (qku (E:=E) hM) hdo hdl;have hgo:=Qd (rel:=jA E m) 400000 hdo;have h5:=KF hg hM hR (qk9 (g:=g) (E:=E) hM) hgo.1 (hgo.2.trans hdl);have hdef:zJ g E m=jX 400000 (jX 400000 (zU m) (jA E m)) (zo g E m):=rfl;rw[hdef];generalize jX 400000 (jX 400000 (zU m) (jA E m)) (zo g E m)=A5 at *;generalize jX 400000 (zU m) (jA E m)=A4 at *;generalize zo g E m=A1 at *;generalize jA E m=A2 at *;generalize zU m=A3 at *;repeat' with_reducible first|refine s_ ?_|simp -implicitDefEqProofs only[wZZ,seval,qat]|refine cq1 h1 xO ?_|refine cq2 h2 xO (.mfn _ _ _ xO) ?_|refine cq2 h3 xO (.mfn _ _ _ xO) ?_|refine cq2 h4 qd qd ?_|refine cq2 h5 qd qd ?_
 all_goals refine qz rfl (Or.inr rfl) ?_
 all_goals(try simp -implicitDefEqProofs only[wL,seval])
 all_goals refine er_ ?_
 all_goals(try(with_reducible rfl))

set_option maxHeartbeats 8000000
def tkM(f:List (List Int))(bs:List Int):Nat->Bool:=bs.foldl (λa b=>λy=>a y || JZ (f.getD b.toNat []) y) (λ_=>false)
theorem qlm(f:List (List Int))(bs:List Int)(b:Int):tkM f (bs++[b])=λy=>tkM f bs y || JZ (f.getD b.toNat []) y:=by unfold tkM;rw[List.foldl_append];rfl
theorem qdy{f:List (List Int)}{y:Nat}:∀(bs:List Int) (a:Nat->Bool),bs.foldl (λa b=>λy=>a y || JZ (f.getD b.toNat []) y) a y=true↔a y=true\/ ∃b∈bs,JZ (f.getD b.toNat []) y=true
 |[],a=>by simp
 | b::bs,a=>by rw[List.foldl_cons,qdy bs];simp only[Bool.or_eq_true,List.mem_cons,exists_eq_or_imp,or_assoc]
theorem qmI{f:List (List Int)}(hf:yG f)(bs:List Int):lst (tkM f bs) 1024=bs.foldl (qqu f) []:=by
 refine vw (qfh _ _) (qaz hf bs [] QO).1 λx=>?_;have h:=Zf (o:=f) (x:=x) bs [];have h2:x∈bs.foldl (qqu f) []↔x∈([]:List Int)\/ ∃j∈bs,x∈f.getD j.toNat []:=h;rw[h2,qiB];constructor
 . rintro ⟨y,hy,hc,rfl⟩;rcases (qdy bs _).1 hc with h|⟨b,hb,hm⟩
   . cases h
   . unfold JZ at hm;rw[Bool.and_eq_true]at hm;exact Or.inr ⟨b,hb,of_decide_eq_true hm.2⟩
 . rintro (h|⟨b,hb,hm⟩)
   . cases h
   . have hbd:=(hf.getD b.toNat).2 x hm;refine⟨x.toNat,o_,(qdy bs _).2 (Or.inr ⟨b,hb,?_⟩),o_⟩;unfold JZ;rw[Bool.and_eq_true];exact⟨decide_eq_true o_,decide_eq_true (by rw[show ((x.toNat:Nat):Int)=x by omega];exact hm)⟩
theorem qg7{m:List Sta}{E:Nat->Bool}(hg:GOk g)(hM:MOk g m)(hR:∀q∈m,RMv q)(hG:MGo g m)(hS:V9 g m)(hE:IsGrow g false E)(hk0:∀q∈m,∀(n:Nat) p,g.prods[n]?=some p->16 *(n:Int)∈q.ker->p.left=0)(h1000:∀x,nxt g x≠1000):Pure Tryz.prog 31 [g.V,.sl 2 false (m.map Sta.V)] (.sl 3 false ((Vh g E m).map Lk.V)):=by
 refine pure_intro Tryz.func31 nm_ qw7 (by show 2<=63;decide) ?_
 show ewp _ qsn _ _;have hml:=hM.len;have hmv:=hM.mvl;have hfo:=yt (E:=E) hg hM hR hG hS;obtain ⟨hO,hOl⟩:=Yy (E:=E) hM hg;have hdef:Vh g E m=qen g m (zJ g E m) m.length:=rfl;rw[hdef];generalize zJ g E m=f at *;repeat' with_reducible first|refine qL ?_|simp -implicitDefEqProofs only[wZZ,seval]|(refine qR rfl rfl rfl ((of_run hg hM hR hE).mono ?_);rintro v1 H1 n1 ⟨i,j,rfl,q1,q2,q3,q4,q5⟩)|refine t_ ?_
 (try simp only[wN]at q1);have hii:rsH (λk=>decide (k=i\/k=j)) H1 i=some (.own 9 [XT g m E j] false):=by unfold rsH;rw[if_pos (by simp)];exact q3
 have hjj:rsH (λk=>decide (k=i\/k=j)) H1 j=some (.mapo (Ko (qh m) (qh m).length)):=by unfold rsH;rw[if_pos (by simp)];exact q5
 refine qR (H:=H1) rfl wu_ rfl ((xq (λk=>decide (k=i\/k=j)) (qI (Qj hii hjj) ji) hfo).mono ?_);rintro v2 H2 n2 ⟨rfl,hH2,rfl⟩;have h10:H1 0=some (.own 5 [g.V] false):=by rw[q4 0 wg_];(simp only[wM];(repeat first|rw[if_pos trivial]|rw[if_pos rfl]|rw[if_neg o_]))
 have w0:H2 0=some (.own 5 [g.V] false):=by
  rw[hH2];unfold frH;rw[if_neg (by
   intro e;rcases of_decide_eq_true e with e|e
   . omega
   . rw[<- e,h10]at q5;cases q5)]
  exact h10
 have wi:H2 i=some (.own 9 [XT g m E j] true):=by rw[hH2];unfold frH;rw[if_pos (by simp),q3];rfl
 clear hH2 h10 hii hjj q3 q4 q5;repeat' with_reducible first|refine s_ ?_|simp -implicitDefEqProofs only[wZZ,seval]
 refine qb ?nx1 (λ(q:Nat) s=>s.f 2=?v1_2/\s.f 5=?v1_5/\s.f 6=?v1_6/\s.f 20=?v1_20/\s.f 21=?v1_21/\s.f 22=vi q/\(q<=m.length)/\((qen g m f q).length<=q *960)/\(i<s.next)/\((∃v es,s.f 7=v/\Gr s.H s.next 3 es v/\J6 es ((qen g m f q).map Lk.V)))/\(s.H 0=some (.own 5 [g.V] false))/\(s.H i=some (.own 9 [XT g m E j] true))) (λq=>m.length - q) (0) wj_ (by refine⟨?_,?_,?_,?_,?_,?_,wo_,(by exact Nat.zero_le _),wg_,(by exact⟨_,[],(by(simp -implicitDefEqProofs only[wL,seval])<;>rfl),Gr.nil,.nil⟩),(by(try simp -implicitDefEqProofs only[wL,wM,wN,seval]);(exact w0)),(by(try simp -implicitDefEqProofs only[wL,wM,wN,seval]);(exact wi))⟩<;>first|(simp -implicitDefEqProofs only[wL,wM,wN,wX,seval,Option.some.injEq]<;>exact wt_)|rfl|exact⟨_,rfl⟩) ?_;intro q s hnx ⟨g2,g5,g6,g20,g21,g22,k1_0,k1_1,k1_2,k1_3,o100,o101⟩;obtain ⟨v6,es,g7,hG6,hE6⟩:=k1_3;have hz:=w1_ q;by_cases hq:q<m.length
 . have hgq:m[q]?=some m[q]:=ge_ hq;have hqm:=List.getElem_mem hq;have hkr:=hM.kr _ hqm;have hki:=hM.ki _ hqm;have hen:=qhQ (q:=m[q]) hg hki hkr (hk0 _ hqm) h1000;have hst:=qbW g m f q;have hkA:za m q=m[q].ker:=(by unfold za;rw[hgq];rfl);have hem:=qjp hg hki hkr;have hel:=qbD hg hki hkr;rw[hkA]at hst;generalize X6 g m[q].ker=U at *;generalize m[q]=x at *;obtain ⟨xk,xm⟩:=x;(try dsimp only at hen hst);generalize qen g m f q=L at *;repeat' with_reducible first|refine s_ ?_|simp -implicitDefEqProofs only[wZZ,seval,g2,g5,g6,g20,g21,g22,o100,o101,hz,g7]|apply qa<;>intro h h_<;>(try simp only[wD,reduceCtorEq]at h_)<;>(try exact wb_)<;>(try simp only[h])|refine t_ ?_|refine cq2 hen qd qd ?_
   refine qb ?nx2 (λ(u:Nat) s=>s.f 2=?v2_2/\s.f 5=?v2_5/\s.f 6=?v2_6/\s.f 8=?v2_8/\s.f 20=?v2_20/\s.f 21=?v2_21/\s.f 22=?v2_22/\s.f 29=?v2_29/\s.f 30=?v2_30/\s.f 31=vi u/\(u<=U.length)/\(i<s.next)/\((∃v es,s.f 7=v/\Gr s.H s.next 3 es v/\J6 es ((L++(U.take u).map (ql2 g m f q)).map Lk.V)))/\(s.H 0=some (.own 5 [g.V] false))/\(s.H i=some (.own 9 [XT g m E j] true))) (λu=>U.length - u) (0) wj_ (by refine⟨?_,?_,?_,?_,?_,?_,?_,?_,?_,?_,wo_,wg_,(by exact⟨v6,es,(by(simp -implicitDefEqProofs only[wL,seval]);exact g7),hG6.mono wg_ (λj h1 h2=>hh_),by rw[List.take_zero,List.map_nil,List.append_nil];exact hE6⟩),(by(try simp -implicitDefEqProofs only[wL,wM,wN,seval,g2,g5,g6,g20,g21,g22,o100,o101]);(first|done|exact o100|(rw[if_neg o_,if_neg o_])|(rw[if_neg o_]))),(by(try simp -implicitDefEqProofs only[wL,wM,wN,seval,g2,g5,g6,g20,g21,g22,o100,o101]);(first|done|exact o101|(rw[if_neg o_,if_neg o_])|(rw[if_neg o_])))⟩<;>first|(simp -implicitDefEqProofs only[wL,wM,wN,wX,seval,Option.some.injEq,g2,g5,g6,g20,g21,g22,o100,o101]<;>exact wt_)|rfl|exact⟨_,rfl⟩) ?_;intro u s hnx ⟨g2,g5,g6,g8,g20,g21,g22,g29,g30,g31,k2_0,k2_1,k2_2,o100,o101⟩;obtain ⟨v7,es7,gg,hG7,hE7⟩:=k2_2;have hzi:=w1_ u;by_cases hi:u<U.length
   . have hgi:U[u]?=some U[u]:=ge_ hi;obtain ⟨n,hn,hn1,hn2⟩:=hem _ (List.getElem_mem hi);have htk:(U.take (u+1)).map (ql2 g m f q)=(U.take u).map (ql2 g m f q)++[ql2 g m f q U[u]]:=(by rw[List.take_add_one,hgi,List.map_append];rfl);rw[hn]at hgi htk;have hbA:VO g m q n=QL g m q n:=(by unfold VO;rw[if_neg o_]);have hbk:=λ(H:Nat->Option MObj) (nx:Nat) (h:H i=some (.own 9 [XT g m E j] true)) (hl:i<nx)=>qdX (H:=H) (next:=nx) (i:=i) (j:=j) (q:=(q:Int)) (p:=(n:Int)) hg hM h hl;rw[hbA]at hbk;have hbm:=qhU (g:=g) (m:=m) (q:=q) (p:=n);have htl:=hM.trans_len;have hbl:(QL g m q n).length<=9600:=by
      unfold QL;rw[List.length_map];exact Nat.le_trans (List.length_filter_le _ _) (by rw[List.length_range];exact htl)
     have hlk:ql2 g m f q n={st:=q,pr:=n,tk:=(QL g m q n).foldl (qqu f) []}:=rfl;rw[hlk]at htk;generalize QL g m q n=B at *;obtain ⟨D,hD⟩:∃D,D=s.next+1+3:=⟨_,rfl⟩;repeat' with_reducible first|refine s_ ?_|simp -implicitDefEqProofs only[wZZ,seval,g2,g5,g6,g8,g20,g21,g22,g29,g30,g31,o100,o101,hzi,gg]|apply qa<;>intro h h_<;>(try simp only[wD,reduceCtorEq]at h_)<;>(try exact wb_)<;>(try simp only[h])|refine t_ ?_|(refine qR rfl rfl rfl ((hbk _ _ (by((try simp only[wM]);(repeat first|rw[if_pos trivial]|rw[if_pos rfl]|rw[if_neg o_]));exact o101) wg_).mono ?_);rintro vB H3 n3 ⟨b1,hGB,b2,b3⟩)
     (try simp only[wN]at b1);have hlB:J9 vB=some (.int .i64 (B.length:Int)):=(by rw[hGB.len,List.length_map]);have z0:H3 0=some (.own 5 [g.V] false):=(b3 0 wg_).trans (by((try simp only[wM]);(repeat first|rw[if_pos trivial]|rw[if_pos rfl]|rw[if_neg o_]));exact o100);have zi:H3 i=some (.own 9 [XT g m E j] true):=(b3 i wg_).trans (by((try simp only[wM]);(repeat first|rw[if_pos trivial]|rw[if_pos rfl]|rw[if_neg o_]));exact o101);have zD:H3 D=some (.own 16 [Yd (tkM f (B.take 0))] false):=(b3 D wg_).trans (by rw[hD];((try simp only[wM]);(repeat first|rw[if_pos trivial]|rw[if_pos rfl]|rw[if_neg o_]));exact congrArg (λv=>some (MObj.own 16 [v] false)) qrS);have zG:Gr H3 n3 3 es7 v7:=hG7.mono wg_ (λx h1 h2=>(b3 x wg_).trans hh_);repeat' with_reducible first|refine xJ ?_|simp -implicitDefEqProofs only[wZZ,seval,g2,g5,g6,g8,g20,g21,g22,g29,g30,g31,o100,o101,hlB]
     refine qb ?nx3 (λ(k:Nat) s=>s.f 2=?v3_2/\s.f 5=?v3_5/\s.f 6=?v3_6/\s.f 8=?v3_8/\s.f 11=?v3_11/\s.f 20=?v3_20/\s.f 21=?v3_21/\s.f 22=?v3_22/\s.f 29=?v3_29/\s.f 30=?v3_30/\s.f 31=?v3_31/\s.f 39=?v3_39/\s.f 40=vi k/\(k<=B.length)/\(D<s.next)/\(i<s.next)/\(Gr s.H s.next 3 es7 v7)/\(Gr s.H s.next 1 (B.map (V.int .i64)) vB)/\(s.H D=some (.own 16 [Yd (tkM f (B.take k))] false))/\(s.f 38=vB)/\(s.f 12=.ptr D 0 0)/\(s.f 7=v7)/\(s.H 0=some (.own 5 [g.V] false))/\(s.H i=some (.own 9 [XT g m E j] true))) (λk=>B.length - k) (0) wj_ (by refine⟨?_,?_,?_,?_,?_,?_,?_,?_,?_,?_,?_,?_,?_,wo_,wg_,wg_,(by exact zG.mono wg_ (λ_ _ _=>rfl)),(by exact hGB.mono wg_ (λ_ _ _=>rfl)),(by exact zD),(by(try simp -implicitDefEqProofs only[wL,wM,wN,seval,g2,g5,g6,g8,g20,g21,g22,g29,g30,g31,o100,o101]);first|done|rfl),(by(try simp -implicitDefEqProofs only[wL,wM,wN,seval,g2,g5,g6,g8,g20,g21,g22,g29,g30,g31,o100,o101]);first|done|rw[hD]),(by(try simp -implicitDefEqProofs only[wL,wM,wN,seval,g2,g5,g6,g8,g20,g21,g22,g29,g30,g31,o100,o101]);first|done|rfl|exact gg),(by(try simp -implicitDefEqProofs only[wL,wM,wN,seval,g2,g5,g6,g8,g20,g21,g22,g29,g30,g31,o100,o101]);(exact z0)),(by(try simp -implicitDefEqProofs only[wL,wM,wN,seval,g2,g5,g6,g8,g20,g21,g22,g29,g30,g31,o100,o101]);(exact zi))⟩<;>first|(simp -implicitDefEqProofs only[wL,wM,wN,wX,seval,Option.some.injEq,g2,g5,g6,g8,g20,g21,g22,g29,g30,g31,o100,o101]<;>exact wt_)|rfl|exact⟨_,rfl⟩) ?_;intro k s hnx ⟨g2,g5,g6,g8,g11,g20,g21,g22,g29,g30,g31,g39,g40,k3_0,k3_1,k3_2,k3_3,k3_4,k3_5,g38,g12,g7,o103,o104⟩;have hzk:=w1_ k;by_cases hk:k<B.length
     . have hgk:B[k]?=some B[k]:=ge_ hk;obtain ⟨b,hb,hb2⟩:=hbm _ (List.getElem_mem hk);have hgf:f[b]?=some f[b]:=ge_ o_;have hSo:=hO _ (List.mem_of_getElem? hgf);have hBk:tkM f (B.take (k+1))=λy=>tkM f (B.take k) y || JZ f[b] y:=by
        rw[List.take_add_one,hgk]
        show tkM f (B.take k++[B[k]])=_;rw[qlm,hb]
        have:f.getD ((b:Int)).toNat []=f[b]:=by rw[show ((b:Int)).toNat=b from rfl,List.getD,hgf];rfl
        rw[this]
       have hof:=qiU (l:=f[b]) (by have:=hSo.len;omega);have hor:=qdo (a:=tkM f (B.take k)) (b:=JZ f[b]);rw[<- hBk]at hor;rw[hb]at hgk;generalize hM2:tkM f (B.take (k+1))=M2 at *;generalize tkM f (B.take k)=M1 at *;generalize f[b]=S at *;generalize JZ S=M3 at *;repeat' with_reducible first|refine s_ ?_|simp -implicitDefEqProofs only[wZZ,seval,g2,g5,g6,g8,g11,g20,g21,g22,g29,g30,g31,g39,g40,g38,g12,g7,o103,o104,hzk,k3_5]|apply qa<;>intro h h_<;>(try simp only[wD,reduceCtorEq]at h_)<;>(try exact wb_)<;>(try simp only[h])|(refine k3_4.iaQ (f:=V.int .i64) (x:=(b:Int)) o_ (by rw[Int.toNat_natCast];exact hgk) ?_)|refine t_ ?_|refine cq1 hof qd ?_|refine cq2 hor qd qd ?_|simp -implicitDefEqProofs (disch:=omega) only[w64,if_neg]
       refine⟨o_,k+1,o_,?_⟩;repeat refine⟨True.intro,?_⟩
       exact⟨rfl,o_,o_,o_,k3_3.mono o_ (λx h1 h2=>by have:=Gr.ne k3_3 k3_5 h1;((try simp only[wM]);(repeat first|rw[if_pos trivial]|rw[if_pos rfl]|rw[if_neg o_]))),k3_4.mono o_ (λx h1 h2=>by have:=Gr.ne k3_4 k3_5 h1;((try simp only[wM]);(repeat first|rw[if_pos trivial]|rw[if_pos rfl]|rw[if_neg o_]))),by rw[hM2],trivial,trivial,trivial,trivial,trivial⟩
     . have e:B.take k=B:=List.take_of_length_le o_;rw[e]at k3_5;have hls:=Jv (m:=tkM f B);rw[qmI hO]at hls;have hel7:es7.length=_:=hE7.len.symm;rw[List.length_map,List.length_append,List.length_map,List.length_take]at hel7;repeat' with_reducible first|refine s_ ?_|simp -implicitDefEqProofs only[wZZ,seval,g2,g5,g6,g8,g11,g20,g21,g22,g29,g30,g31,g39,g40,g38,g12,g7,o103,o104,hzi,k3_5]|apply qa<;>intro h h_<;>(try simp only[wD,reduceCtorEq]at h_)<;>(try exact wb_)<;>(try simp only[h])|apply zq rfl (k3_3.mono (Nat.le_refl _) (λid h1 h2=>by(try simp only[wM]);(repeat rw[if_neg o_])));(focus(first|exact qY.sl|exact qY.asl));(focus(simp only[wZ,hel7];omega));(focus(unfold maxLen;simp only[wZ,hel7];omega))|refine cq1 hls qd ?_|refine t_ ?_|simp -implicitDefEqProofs (disch:=omega) only[w64,if_neg]
       refine⟨o_,u+1,o_,?_⟩;repeat refine⟨True.intro,?_⟩
       refine⟨rfl,o_,o_,⟨_,_,rfl,Gr.tok (id:=s.next+1+7) (fin:=es7.length+1) hh_ o_,?_⟩,?_⟩
       . rw[htk,<- List.append_assoc,List.map_append];exact hE7.snoc (ErL.agg (.cons (.int _ _) (.cons (.int _ _) (.cons qd .nil))))
       . exact⟨k3_3.dropO o103,k3_3.dropO o104⟩
   . have e:U.take u=U:=List.take_of_length_le o_;rw[e,<- hst]at hE7
     skip
     repeat' with_reducible first|refine s_ ?_|simp -implicitDefEqProofs only[wZZ,seval,g2,g5,g6,g8,g20,g21,g22,g29,g30,g31,o100,o101,hz,gg]|apply qa<;>intro h h_<;>(try simp only[wD,reduceCtorEq]at h_)<;>(try exact wb_)<;>(try simp only[h])
     refine⟨o_,q+1,o_,?_⟩;repeat refine⟨True.intro,?_⟩
     exact⟨rfl,o_,by rw[hst,List.length_append,List.length_map];omega,o_,⟨v7,es7,rfl,hG7.mono o_ (λ_ _ _=>rfl),hE7⟩,trivial,trivial⟩
 . have e:q=m.length:=o_;subst e
   skip
   repeat' with_reducible first|refine s_ ?_|simp -implicitDefEqProofs only[wZZ,seval,g2,g5,g6,g20,g21,g22,o100,o101,g7]
   refine qz rfl (Or.inr rfl) ?_;(simp -implicitDefEqProofs only[wL,seval]);exact hG6.erL hE6.up
end Go.Proofs
