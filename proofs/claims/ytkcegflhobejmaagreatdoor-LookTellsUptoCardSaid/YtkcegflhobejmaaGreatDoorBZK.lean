import Derived.Test.YtkcegflhobejmaaGreatDoorBZB
set_option maxRecDepth 20000
set_option linter.all false
set_option maxHeartbeats 4000000
namespace Go.Proofs
open Go.E
theorem qzk{L:List (List Int)}(hl:L.length<=1000000)(hr:∀l∈L,l.length<=4611686018427387903):Pure Tryz.prog 17 [.sl 1 false (L.map zF),.sl 1 false (L.map zF)] (.bool true):=by
 refine pure_intro Tryz.func17 nm_ qrT (by show 2<=27;decide) ?_
 show ewp _ qwL _ _;repeat' with_reducible first|refine s_ ?_|simp -implicitDefEqProofs only[wZZ,seval]
 refine qc ?nx1 (λ(i:Nat) s=>s.f 0=?v1_0/\s.f 1=?v1_1/\s.f 5=vi i/\(i<=L.length)) (λi=>L.length - i) (0) wj_ (by refine⟨?_,?_,?_,wo_⟩<;>first|(simp -implicitDefEqProofs only[wL,wM,wN,wX,seval,Option.some.injEq]<;>exact wt_)|rfl|exact⟨_,rfl⟩) ?_;intro i s hnx ⟨g0,g1,g5,k1_0⟩;have hz:=w1_ i;by_cases hi:i<L.length
 . have hgi:L[i]?=some L[i]:=ge_ hi;have hri:=hr _ (List.getElem_mem hi);generalize L[i]=l at *;have heq:=jE (a:=l) (b:=l) hri hri;rw[decide_eq_true rfl]at heq;repeat' with_reducible first|refine s_ ?_|simp -implicitDefEqProofs only[wZZ,seval,g0,g1,g5,hz]|apply qa<;>intro h h_<;>(try simp only[wD,reduceCtorEq]at h_)<;>(try exact wb_)<;>(try simp only[h])|refine t_ ?_|refine cq2 heq qf qf ?_
   all_goals exact⟨wg_,i+1,o_,trivial,trivial,rfl,o_⟩
 . repeat' with_reducible first|refine s_ ?_|simp -implicitDefEqProofs only[wZZ,seval,g0,g1,g5,hz]|apply qa<;>intro h h_<;>(try simp only[wD,reduceCtorEq]at h_)<;>(try exact wb_)<;>(try simp only[h])
   all_goals refine qx rfl (Or.inr rfl) ?_
   all_goals(try simp -implicitDefEqProofs only[wL,seval,g0,g1,g5])
   all_goals refine er_ ?_
   all_goals(try(with_reducible rfl))

variable {g:Grammar}
theorem ZU(hg:GOk g):∃E,IsGrow g false E/\Pure Tryz.prog 57 [g.V] (.sl 1 false (kR g.nons.length E)):=by
 have hh:=qhj (G:=λv=>∃E,v=.sl 1 false (kR g.nons.length E)/\IsGrow g false E) (args:=[g.V]) Tryz.func57 nm_ qwu (by show 1<=41;decide) ?_
 . obtain ⟨v,⟨E,rfl,h⟩,h2⟩:=hh;exact⟨E,h,h2⟩
 show ewp _ qvT _ _;have hnl:=hg.nn2;have hpl:=hg.pl2;have hb0:=qey g.nons.length;repeat' with_reducible first|refine s_ ?_|simp -implicitDefEqProofs only[wZZ,seval]|refine t_ ?_|apply Vk;exact wf_;exact wf_;(focus(unfold maxLen;first|omega|(simp only[wZ]<;>omega)))
 rw[hb0];refine qc ?nx1 (λ(q:(Nat->Bool)×Bool) s=>s.f 1=?v1_1/\s.f 3=?v1_3/\s.H 0=some (MObj.own 5 [g.V] false)/\s.f 4=.bool q.2/\((s.H 5=some (MObj.own 1 (kR g.nons.length q.1) false)))/\((∀F,QS g false F->∀k,q.1 k=true->F k=true))/\((q.2=false->QS g false q.1))) (λq=>2 *cf q.1 g.nons.length+(if q.2=true then 1 else 0)) ((λ_=>false,true)) wj_ (by refine⟨?_,?_,?_,?_,wc_,(by intro F _ k h;cases h),(by intro h;cases h)⟩<;>first|(simp -implicitDefEqProofs only[wL,wM,wN,wX,seval,Option.some.injEq]<;>exact wt_)|rfl|exact⟨_,rfl⟩) ?_;intro q s hnx ⟨g1,g3,o0,g4,k1_0,k1_1,k1_2⟩;obtain ⟨h,b⟩:=q;dsimp only at *;cases b with
 | false=>
   have hcl:=k1_2 rfl;repeat' with_reducible first|refine s_ ?_|simp -implicitDefEqProofs only[wZZ,seval,g1,g3,g4,o0,k1_0]
   refine⟨_,⟨h,rfl,hcl,k1_1⟩,Or.inr rfl,.msl 5 1 0 g.nons.length,?_,qaE (ro:=false) ?_⟩
   . show qjj _ [.inl 2]=_;simp[qjj,qfZ,one,wL]
   . (simp only[wM];(repeat first|rw[if_pos trivial]|rw[if_pos rfl]|rw[if_neg o_]));exact k1_0
 | true =>
   repeat' with_reducible first|refine s_ ?_|simp -implicitDefEqProofs only[wZZ,seval,g1,g3,g4,o0,k1_0]
   refine qc ?nx2 (λ(r:Nat×(Nat->Bool)×Bool) s=>s.f 1=?v2_1/\s.f 3=?v2_3/\s.H 0=some (MObj.own 5 [g.V] false)/\s.f 4=.bool r.2.2/\s.f 5=vi r.1/\(r.1<=g.prods.length)/\((s.H 5=some (MObj.own 1 (kR g.nons.length r.2.1) false)))/\((∀F,QS g false F->∀k,r.2.1 k=true->F k=true))/\((r.2.2=false->r.2.1=h/\∀p∈g.prods.take r.1,jo false h p.right=true->h p.left.toNat=true))/\((r.2.2=true->cf r.2.1 g.nons.length<cf h g.nons.length))) (λr=>g.prods.length - r.1) ((0,h,false)) wj_ (by refine⟨?_,?_,?_,?_,?_,wo_,(by(simp only[wM];(repeat first|rw[if_pos trivial]|rw[if_pos rfl]|rw[if_neg o_]));exact k1_0),(by exact k1_1),(by exact λ_=>⟨rfl,λp hp=>by simp at hp⟩),(by intro h;cases h)⟩<;>first|(simp -implicitDefEqProofs only[wL,wM,wN,wX,seval,Option.some.injEq,g1,g3,g4,o0]<;>exact wt_)|rfl|exact⟨_,rfl⟩) ?_;intro r s hnx ⟨g1,g3,o0,g4,g5,k2_0,k2_1,k2_2,k2_3,k2_4⟩;obtain ⟨i,h',b'⟩:=r;dsimp only at *;have hz:=w1_ i;by_cases hi:i<g.prods.length
   . have hmem:=List.getElem_mem hi;obtain ⟨lf,hl1,hl2⟩:=hg.left _ hmem;have hrt:=hg.rt hmem;have hrl:=hg.rlen _ hmem;have htk:g.prods.take (i+1)=g.prods.take i++[g.prods[i]]:=(by rw[List.take_add_one,ge_ hi];rfl);generalize hp:g.prods[i]=p at *;have hgp:g.prods[i]?=some p:=(by rw[ge_ hi,hp]);have hpm:p∈g.prods:=hp ▸ List.getElem_mem hi;clear hp;obtain ⟨pl,pr,pc,pco,pa,pat⟩:=p;dsimp only at hl1 hrt hrl;subst hl1;have hnew:(b'=false->h'=h/\∀p∈g.prods.take i,jo false h p.right=true->h p.left.toNat=true)->(jo false h' pr=true->h' lf=true)->(b'=false->h'=h/\∀p∈g.prods.take (i+1),jo false h p.right=true->h p.left.toNat=true):=λq1 q2 hb=>by
      obtain ⟨e1,e2⟩:=q1 hb;refine⟨e1,λp hp hf=>?_⟩;rw[htk]at hp;rcases List.mem_append.1 hp with hp|hp
      . exact e2 p hp hf
      . rw[List.mem_singleton]at hp;subst hp;subst e1;exact q2 hf
     have hcl:=vX (n:=g.nons.length) (F:=h') (l:=pr) o_ o_ hrt;repeat' with_reducible first|refine s_ ?_|simp -implicitDefEqProofs only[wZZ,seval,g1,g3,g4,g5,o0,k2_1,hz]|(first|apply qa|apply ql|apply qj)<;>intro h h_<;>(try simp only[wD,reduceCtorEq]at h_)<;>(try exact wb_)<;>(try simp only[h])|(refine ldB hl2 ?_)|refine t_ ?_|apply qK (hp:=hcl);(focus(refine qaE (ro:=false) ?_;(try simp only[wM]);(repeat rw[if_neg o_]);exact k2_1));exact qf;exact wu_;exact Flat.bool _|(refine stB hl2 ?_)
     . have hfit:jo false h' pr=true:=as_;refine⟨wg_,(i+1,qI h' lf true,true),d_,trivial,trivial,trivial,rfl,rfl,d_,rfl,λF hF k hk=>?_,λe=>(by cases e),λ_=>?_⟩
       . dsimp only at hk;unfold qI at hk;split at hk
         . rename_i e;subst e;exact hF _ hpm (KW (k2_2 F hF) hfit)
         . exact k2_2 F hF k hk
       . have:=(qiU (h:=h') (k:=lf) as_ g.nons.length).2 hl2
         show cf (qI h' lf true) g.nons.length<_;cases b' with
         |false=>have e:=(k2_3 rfl).1;subst e;omega
         |true=>have:=k2_4 rfl;omega
     . have hfit:jo false h' pr=false:=as_;refine⟨wg_,(i+1,h',b'),d_,trivial,trivial,trivial,rfl,rfl,d_,rfl,k2_2,hnew k2_3 (λe=>by rw[hfit]at e;cases e),k2_4⟩
     . refine⟨wg_,(i+1,h',b'),d_,trivial,trivial,trivial,rfl,rfl,d_,rfl,k2_2,hnew k2_3 (λ_=>as_),k2_4⟩
   . have e:i=g.prods.length:=o_;subst e;rw[List.take_length]at k2_3;repeat' with_reducible first|refine s_ ?_|simp -implicitDefEqProofs only[wZZ,seval,g1,g3,g4,g5,o0,k2_1]|refine t_ ?_
     refine⟨wg_,(h',b'),?_,trivial,trivial,trivial,rfl,rfl,k2_2,λhb=>?_⟩
     . dsimp only;cases b' with
       |false=>have e:=(k2_3 rfl).1;subst e;simp
       |true=>have:=k2_4 rfl;simp;omega
     . obtain ⟨e1,e2⟩:=k2_3 hb;dsimp only;rw[e1];exact e2

abbrev qbu(E:Nat->Bool)(T:List (Int×Int))(r:Int):List Int->Int×Int->List Int:=λl p=>if 1000<=p.1/\E (p.1 - 1000).toNat=true then jm l (JA T r p.1)else l
theorem qft(E:Nat->Bool)(T:List (Int×Int))(r:Int)(l:List (Int×Int)):∀b:List Int,(l.foldl (qbu E T r) b).length<=b.length+l.length:=by
 induction l with
 |nil=>intro b;exact Nat.le_refl _
 | cons p l ih=>
   intro b;have h1:(qbu E T r b p).length<=b.length+1:=by
    unfold qbu;split
    . exact Yh _ _
    . omega
   have:=ih (qbu E T r b p);rw[List.foldl_cons,List.length_cons];omega
def qkl(E:Nat->Bool)(T:List (Int×Int))(m:List Sta)(t:Int×Int):List Int:=(xO m (goS m t.1 t.2)).foldl (qbu E T (goS m t.1 t.2)) []
theorem X7{m:List Sta}{E:Nat->Bool}(hM:MOk g m)(hg:GOk g)(hE:IsGrow g false E):Pure Tryz.prog 21 [g.V,.sl 2 false (m.map Sta.V)] (.sl 1 false ((jZ E m).map zF)):=by
 refine pure_intro Tryz.func21 nm_ qsT (by show 2<=74;decide) ?_
 show ewp _ qwY _ _;have hml:=hM.len;have hmv:=hM.mvl;have hmm:=hM.mv;have hpl:=hg.pl2;have htk:=hg.tk2;have hnn:=hg.nn2;have htr:=jB (m:=m) o_ (λq h=>by have:=hmv q h;omega);have hdef:jZ E m=(qg m).map (qkl E (qg m) m):=rfl;have htg:∀t∈qg m,∃r:Nat,goS m t.1 t.2=r/\r<m.length:=λt h=>hM.trans_go h;obtain ⟨E',hE',hnull⟩:=ZU hg;obtain rfl:=hE'.uniq hE;have hbm:kR g.nons.length E'=(List.range g.nons.length).map λk=>V.bool (E' k):=rfl;have hcb:=K6 g.nons.length E';rw[hdef];have htl:(qg m).length<=150000:=by have:=Zg (m:=m) (λq h=>by have:=hmv q h;omega) m.length;have e:qg m=jV m m.length:=rfl;rw[e];omega
 generalize qg m=T at *;repeat' with_reducible first|refine s_ ?_|simp -implicitDefEqProofs only[wZZ,seval]|refine cq1 htr qf ?_|refine cq1 hnull qf ?_|refine t_ ?_
 refine qc ?nx1 (λ(i:Nat) s=>s.f 1=?v1_1/\s.f 5=?v1_5/\s.f 6=?v1_6/\s.f 8=vi i/\(i<=T.length)/\((∃v es,s.f 7=v/\Gr s.H s.next 1 es v/\Zy es ((T.take i).map (qkl E' T m))))) (λi=>T.length - i) (0) wj_ (by refine⟨?_,?_,?_,?_,wo_,(by exact⟨_,[],(by(simp -implicitDefEqProofs only[wL,seval])<;>rfl),Gr.nil,Zy.nil⟩)⟩<;>first|(simp -implicitDefEqProofs only[wL,wM,wN,wX,seval,Option.some.injEq]<;>exact wt_)|rfl|exact⟨_,rfl⟩) ?_;intro i s hnx ⟨g1,g5,g6,g8,k1_0,k1_1⟩;obtain ⟨v7,es,g7,hG7,hT7⟩:=k1_1;have hz:=w1_ i;by_cases hi:i<T.length
 . have hgi:T[i]?=some T[i]:=ge_ hi;obtain ⟨r,hr,hrm⟩:=htg _ (List.getElem_mem hi);have hst:(T.take (i+1)).map (qkl E' T m)=(T.take i).map (qkl E' T m)++[qkl E' T m T[i]]:=(by rw[List.take_add_one,hgi,List.map_append];rfl);have hgo:=kZ (m:=m) (q:=T[i].1) (sy:=T[i].2) o_ (λq h=>by have:=hmv q h;omega);have hgr:m[r]?=some m[r]:=ge_ hrm;have hxl:=hmv _ (List.getElem_mem hrm);have hxm:=hmm _ (List.getElem_mem hrm);have hF:qkl E' T m T[i]=m[r].mov.foldl (qbu E' T r) []:=by
    unfold qkl xO;rw[hr,show ((r:Int)).toNat=r from rfl,hgr];rfl
   rw[hr]at hgo;rw[hF]at hst;have hel:=hT7.1;rw[List.length_map,List.length_take]at hel;generalize m[r]=x at *;generalize T[i]=t at *;obtain ⟨t1,t2⟩:=t;obtain ⟨xk,xm⟩:=x;dsimp only at hgo hxl hst hxm;repeat' with_reducible first|refine s_ ?_|simp -implicitDefEqProofs only[wZZ,seval,g1,g5,g6,g8,hz,g7]|apply qa<;>intro h h_<;>(try simp only[wD,reduceCtorEq]at h_)<;>(try exact wb_)<;>(try simp only[h])|refine t_ ?_|refine cq3 hgo qf qf qf ?_
   refine qc ?nx2 (λ(j:Nat) s=>s.f 1=?v2_1/\s.f 5=?v2_5/\s.f 6=?v2_6/\s.f 8=?v2_8/\s.f 10=?v2_10/\(∃c,s.f 9=.sl 1 c (((xm.take j).foldl (qbu E' T r) []).map (V.int .i64)))/\s.f 11=vi j/\(j<=xm.length)/\(Gr s.H s.next 1 es v7)/\(s.f 7=v7)) (λj=>xm.length - j) (0) wj_ (by refine⟨?_,?_,?_,?_,?_,?_,?_,wo_,(by exact hG7.mono wg_ (λj h1 h2=>hh_)),(by(try simp -implicitDefEqProofs only[wL,wM,wN,seval,g1,g5,g6,g8]);first|done|rfl|exact g7)⟩<;>first|(simp -implicitDefEqProofs only[wL,wM,wN,wX,seval,Option.some.injEq,g1,g5,g6,g8]<;>exact wt_)|rfl|exact⟨_,rfl⟩) ?_;intro j s hnx ⟨g1,g5,g6,g8,g10,⟨c9,g9⟩,g11,k2_0,k2_1,g7⟩;have hzj:=w1_ j;have hln:=qft E' T r (xm.take j) [];rw[List.length_take,List.length_nil]at hln;by_cases hj:j<xm.length
   . have hgj:xm[j]?=some xm[j]:=ge_ hj;have hst2:=jM (qbu E' T r) [] hgj;have hsy:=(hxm _ (List.getElem_mem hj)).1;generalize (xm.take j).foldl (qbu E' T r) []=U at *;generalize xm[j]=p at *;obtain ⟨p1,p2⟩:=p;dsimp only at hsy;have hput:=je (l:=U) (x:=JA T r p1) o_;have hnum:=kQ (t:=T) (q:=r) (sy:=p1) o_;rcases hsy with ⟨t,rfl,ht⟩|⟨k,rfl,hk⟩
     . have hst3:(xm.take (j+1)).foldl (qbu E' T r) []=U:=(by rw[hst2];simp only[qbu];rw[if_neg o_]);have hlt:(t:Int)<1000:=o_;repeat' with_reducible first|refine s_ ?_|simp -implicitDefEqProofs only[wZZ,seval,g1,g5,g6,g8,g10,g9,g11,g7,hzj,g9]|(first|apply qa|apply ql|apply qj)<;>intro h h_<;>(try simp only[wD,reduceCtorEq]at h_)<;>(try exact wb_)<;>(try simp only[h])|refine t_ ?_
       refine⟨wg_,j+1,o_,?_⟩;(repeat refine⟨True.intro,?_⟩);exact⟨⟨_,by rw[hst3]⟩,rfl,o_,k2_1.mono wg_ (λ_ _ _=>rfl),trivial⟩
     . have hz1:IntKind.i64.wrap (1000+(k:Int) - 1000)=(k:Int):=(by rw[wrap64 o_ o_];omega);have hgb:(List.range g.nons.length)[k]?=some k:=List.getElem?_range hk;rw[hbm]at *;cases hb:E' k with
       | true=>
         have hst3:(xm.take (j+1)).foldl (qbu E' T r) []=jm U (JA T r (1000+(k:Int))):=(by rw[hst2];simp only[qbu];rw[if_pos ⟨o_,by rw[show (1000+(k:Int) - 1000).toNat=k by omega];exact hb⟩]);repeat' with_reducible first|refine s_ ?_|simp -implicitDefEqProofs only[wZZ,seval,g1,g5,g6,g8,g10,g9,g11,g7,hzj,hz1,hb,g9]|(first|apply qa|apply ql|apply qj)<;>intro h h_<;>(try simp only[wD,reduceCtorEq]at h_)<;>(try exact wb_)<;>(try simp only[h])|refine t_ ?_|refine cq3 hnum qf qf qf ?_|refine cq2 hput jO qf ?_
         refine⟨wg_,j+1,o_,?_⟩;(repeat refine⟨True.intro,?_⟩);exact⟨⟨_,by rw[hst3]⟩,rfl,o_,k2_1.mono wg_ (λ_ _ _=>rfl),trivial⟩
       | false=>
         have hst3:(xm.take (j+1)).foldl (qbu E' T r) []=U:=(by rw[hst2];simp only[qbu];rw[if_neg (by rw[show (1000+(k:Int) - 1000).toNat=k by omega,hb];simp)]);repeat' with_reducible first|refine s_ ?_|simp -implicitDefEqProofs only[wZZ,seval,g1,g5,g6,g8,g10,g9,g11,g7,hzj,hz1,hb,g9]|(first|apply qa|apply ql|apply qj)<;>intro h h_<;>(try simp only[wD,reduceCtorEq]at h_)<;>(try exact wb_)<;>(try simp only[h])|refine t_ ?_
         refine⟨wg_,j+1,o_,?_⟩;(repeat refine⟨True.intro,?_⟩);exact⟨⟨_,by rw[hst3]⟩,rfl,o_,k2_1.mono wg_ (λ_ _ _=>rfl),trivial⟩
   . have e:xm.take j=xm:=List.take_of_length_le o_;rw[e]at g9;have hT':=hT7.snoc (XH c9 (xm.foldl (qbu E' T r) []));rw[<- hst]at hT';repeat' with_reducible first|refine s_ ?_|simp -implicitDefEqProofs only[wZZ,seval,g1,g5,g6,g8,g10,g9,g11,g7,hz,g9]|apply qa<;>intro h h_<;>(try simp only[wD,reduceCtorEq]at h_)<;>(try exact wb_)<;>(try simp only[h])|refine t_ ?_|apply qX rfl (k2_1.mono (Nat.le_refl _) (λid h1 h2=>by(try simp only[wM]);(repeat rw[if_neg o_])));(focus(first|exact qM.sl|exact qM.asl));(focus(simp only[wZ,hel];omega));(focus(unfold maxLen;simp only[wZ,hel];omega))
     exact⟨wg_,i+1,o_,trivial,trivial,trivial,rfl,o_,_,_,rfl,Gr.tok (id:=s.next+8+3) (fin:=es.length+1) hh_ wg_,hT'⟩
 . have e:i=T.length:=o_;subst e;rw[List.take_length]at hT7
   skip
   repeat' with_reducible first|refine s_ ?_|simp -implicitDefEqProofs only[wZZ,seval,g1,g5,g6,g8,g7]
   refine qx rfl (Or.inr rfl) ?_;(simp -implicitDefEqProofs only[wL,seval]);exact hG7.erL hT7.erL.up

set_option maxHeartbeats 8000000
abbrev Ql(n:Nat)(O:List (List Int)):Prop:=O.length=n/\∀l∈O,jP l/\∀x∈l,∃k:Nat,x=(k:Int)/\k<n
variable {n:Nat} {l:List Int}
theorem Ql.set{O:List (List Int)}(h:Ql n O)(hl:jP l/\∀x∈l,∃k:Nat,x=(k:Int)/\k<n)(i:Nat):Ql n (O.set i l):=
 ⟨by rw[List.length_set];exact h.1,λx hx=>(List.mem_or_eq_of_mem_set hx).elim (h.2 x) λe=>e ▸ hl⟩
theorem Ql.put{i:Nat}(hl:jP l/\∀x∈l,∃k:Nat,x=(k:Int)/\k<n)(hi:i<n):jP (jm l (i:Int))/\∀x∈jm l (i:Int),∃k:Nat,x=(k:Int)/\k<n:=
 ⟨jA hl.1,λx hx=>(zC.1 hx).elim (hl.2 x) λe=>⟨i,e,hi⟩⟩
theorem Ql.len(hl:jP l/\∀x∈l,∃k:Nat,x=(k:Int)/\k<n):l.length<=n:=
 yh (a:=0) hl.1 λx hx=>by obtain ⟨k,rfl,hk⟩:=hl.2 x hx;omega
abbrev qqv(g:Grammar)(E:Nat->Bool)(m:List Sta)(T:List (Int×Int)):List (List Int)->Nat->List (List Int):=λout i=>g.prods.foldl (Yy E m i (T.getD i (0,0))) out
theorem qbS(n:Nat):Ql n (List.replicate n []):=⟨List.length_replicate,λl hl=>by rw[(List.mem_replicate.1 hl).2];exact⟨List.Pairwise.nil,λx h=>by cases h⟩⟩
theorem qjY{E:Nat->Bool}{m:List Sta}{i k:Nat}{q:Int}{r:List Int}{out:List (List Int)}(h: ¬ (1000<=r.getD k 0/\jo false E (r.drop (k+1))=true/\0<=zH m q (r.take k)/\0<=JA (qg m) (zH m q (r.take k)) (r.getD k 0))):Xq E m i q r out k=out:=by unfold Xq;rw[if_neg h]
theorem Js{m:List Sta}{E:Nat->Bool}(hM:MOk g m)(hg:GOk g)(hE:IsGrow g false E)(htl0:(qg m).length<=9600):Pure Tryz.prog 23 [g.V,.sl 2 false (m.map Sta.V)] (.sl 1 false ((ze g E m).map zF)):=by
 refine pure_intro Tryz.func23 nm_ qrc (by show 2<=104;decide) ?_
 show ewp _ qv0 _ _;have hml:=hM.len;have hmv:=hM.mvl;have hpl:=hg.pl2;have htk:=hg.tk2;have hnn:=hg.nn2;have htr:=jB (m:=m) o_ (λq h=>by have:=hmv q h;omega);have hdef:ze g E m=(List.range (qg m).length).foldl (qqv g E m (qg m)) (List.replicate (qg m).length []):=rfl;obtain ⟨E',hE',hnull⟩:=ZU hg;obtain rfl:=hE'.uniq hE;have hcb:=K6 g.nons.length E';rw[hdef];have hno:=λi k q r out=>qjY (E:=E') (m:=m) (i:=i) (k:=k) (q:=q) (r:=r) (out:=out);have hIn:∀i t out p,Yy E' m i t out p=if 1000+p.left=t.2 then(List.range p.right.length).foldl (Xq E' m i t.1 p.right) out else out:=λ_ _ _ _=>rfl;have hKn:∀i q r out k,Xq E' m i q r out k=if 1000<=r.getD k 0/\jo false E' (r.drop (k+1))=true/\0<=zH m q (r.take k)/\0<=JA (qg m) (zH m q (r.take k)) (r.getD k 0)then out.modify (JA (qg m) (zH m q (r.take k)) (r.getD k 0)).toNat (λl=>jm l (i:Int))else out:=λ_ _ _ _ _=>rfl;generalize hT:qg m=T at *;repeat' with_reducible first|refine s_ ?_|simp -implicitDefEqProofs only[wZZ,seval]|refine cq1 htr qf ?_|refine cq1 hnull qf ?_|refine t_ ?_|apply Vk;exact wf_;exact wf_;(focus(unfold maxLen;first|omega|(simp only[wZ]<;>omega)))
 refine qc ?nx1 (λ(i:Nat) s=>s.f 1=?v1_1/\s.f 2=?v1_2/\s.f 5=?v1_5/\s.f 6=?v1_6/\s.f 7=?v1_7/\s.H 0=some (.own 5 [g.V] false)/\s.f 8=vi i/\(i<=T.length)/\(Ql T.length ((List.range i).foldl (qqv g E' m T) (List.replicate T.length [])))/\((∃es,s.H 10=some (.own 1 es false)/\Zy es ((List.range i).foldl (qqv g E' m T) (List.replicate T.length []))))) (λi=>T.length - i) (0) wj_ (by refine⟨?_,?_,?_,?_,?_,?_,?_,wo_,(by exact qbS _),(by exact⟨_,by(simp only[wM];(repeat first|rw[if_pos trivial]|rw[if_pos rfl]|rw[if_neg o_])),Zy.rep _⟩)⟩<;>first|(simp -implicitDefEqProofs only[wL,wM,wN,wX,seval,Option.some.injEq]<;>exact wt_)|rfl|exact⟨_,rfl⟩) ?_;intro i s hnx ⟨g1,g2,g5,g6,g7,o0,g8,k1_0,k1_1,k1_2⟩;obtain ⟨es1,oo1,hT1⟩:=k1_2;have hz:=w1_ i;by_cases hi:i<T.length
 . have hgi : T[i]?=some T[i]:=ge_ hi;have hst:=KD (qqv g E' m T) (List.replicate T.length []) i;have htD:T.getD i (0,0)=T[i]:=(by rw[List.getD,hgi];rfl);simp only[qqv,htD]at hst;generalize T[i]=t at *;obtain ⟨t1,t2⟩:=t;generalize hO1:(List.range i).foldl (qqv g E' m T) (List.replicate T.length [])=O1 at *;repeat' with_reducible first|refine s_ ?_|simp -implicitDefEqProofs only[wZZ,seval,g1,g2,g5,g6,g7,g8,o0,hz]|apply qa<;>intro h h_<;>(try simp only[wD,reduceCtorEq]at h_)<;>(try exact wb_)<;>(try simp only[h])
   refine qc ?nx2 (λ(j:Nat) s=>s.f 1=?v2_1/\s.f 2=?v2_2/\s.f 5=?v2_5/\s.f 6=?v2_6/\s.f 7=?v2_7/\s.f 8=?v2_8/\s.H 0=some (.own 5 [g.V] false)/\s.f 9=vi j/\(j<=g.prods.length)/\(Ql T.length ((g.prods.take j).foldl (Yy E' m i (t1,t2)) O1))/\((∃es,s.H 10=some (.own 1 es false)/\Zy es ((g.prods.take j).foldl (Yy E' m i (t1,t2)) O1)))) (λj=>g.prods.length - j) (0) wj_ (by refine⟨?_,?_,?_,?_,?_,?_,?_,?_,wo_,(by exact k1_1),(by exact⟨es1,by(simp only[wM];(repeat first|rw[if_pos trivial]|rw[if_pos rfl]|rw[if_neg o_]));exact oo1,hT1⟩)⟩<;>first|(simp -implicitDefEqProofs only[wL,wM,wN,wX,seval,Option.some.injEq,g1,g2,g5,g6,g7,g8,o0]<;>exact wt_)|rfl|exact⟨_,rfl⟩) ?_;intro j s hnx ⟨g1,g2,g5,g6,g7,g8,o0,g9,k2_0,k2_1,k2_2⟩;obtain ⟨es2,oo2,hT2⟩:=k2_2;have hzj:=w1_ j;by_cases hj:j<g.prods.length
   . have hgj : g.prods[j]?=some g.prods[j]:=ge_ hj;have hst2:=jM (Yy E' m i (t1,t2)) O1 hgj;have hpm:=List.getElem_mem hj;have hrl:=hg.rlen _ hpm;obtain ⟨lf,hl1,hl2⟩:=hg.left _ hpm;have hrt:=hg.right _ hpm;have hrt2:=hg.rt hpm;rw[hIn]at hst2;generalize (g.prods.take j).foldl (Yy E' m i (t1,t2)) O1=O2 at *;generalize g.prods[j]=p at *;obtain ⟨pl,pr,pc,pco,pa,pat⟩:=p;dsimp only at hl1 hrl hrt hrt2 hst2;subst hl1;have hzl:IntKind.i64.wrap (1000+(lf:Int))=1000+(lf:Int):=wrap64 o_ o_;by_cases hc:1000+(lf:Int)=t2
     . rw [if_pos hc]at hst2;repeat' with_reducible first|refine s_ ?_|simp -implicitDefEqProofs only[wZZ,seval,g1,g2,g5,g6,g7,g8,g9,o0,hzj,hzl]|apply qa<;>intro h h_<;>(try simp only[wD,reduceCtorEq]at h_)<;>(try exact wb_)<;>(try simp only[h])|refine t_ ?_
       refine qc ?nx3 (λ(k:Nat) s=>s.f 1=?v3_1/\s.f 2=?v3_2/\s.f 5=?v3_5/\s.f 6=?v3_6/\s.f 7=?v3_7/\s.f 8=?v3_8/\s.f 9=?v3_9/\s.f 10=?v3_10/\s.H 0=some (.own 5 [g.V] false)/\s.f 11=vi k/\(k<=pr.length)/\(Ql T.length ((List.range k).foldl (Xq E' m i t1 pr) O2))/\((∃es,s.H 10=some (.own 1 es false)/\Zy es ((List.range k).foldl (Xq E' m i t1 pr) O2)))) (λk=>pr.length - k) (0) wj_ (by refine⟨?_,?_,?_,?_,?_,?_,?_,?_,?_,?_,wo_,(by exact k2_1),(by exact⟨es2,by(simp only[wM];(repeat first|rw[if_pos trivial]|rw[if_pos rfl]|rw[if_neg o_]));exact oo2,hT2⟩)⟩<;>first|(simp -implicitDefEqProofs only[wL,wM,wN,wX,seval,Option.some.injEq,g1,g2,g5,g6,g7,g8,g9,o0]<;>exact wt_)|rfl|exact⟨_,rfl⟩) ?_;intro k s hnx ⟨g1,g2,g5,g6,g7,g8,g9,g10,o0,g11,k3_0,k3_1,k3_2⟩;obtain ⟨es3,oo3,hT3⟩:=k3_2;have hzk:=w1_ k;by_cases hk:k<pr.length
       . have hgk:pr[k]?=some pr[k]:=ge_ hk;have hsy:=hrt _ (List.getElem_mem hk);have hst3:=KD (Xq E' m i t1 pr) O2 k;have hkD:pr.getD k 0=pr[k]:=(by rw[List.getD,hgk];rfl);rw[hKn,hkD]at hst3;have hwk:=QN (m:=m) (q:=t1) (l:=pr.take k) o_ (λq h=>by have:=hmv q h;omega) (by rw[List.length_take];omega);have hem:=vX (n:=g.nons.length) (F:=E') (l:=pr.drop (k+1)) o_ (by rw[List.length_drop];omega) (λx hx=>hrt2 x (List.mem_of_mem_drop hx));generalize zH m t1 (pr.take k)=w at *;have hnu:=kQ (t:=T) (q:=w) (sy:=pr[k]) o_;have hnc:=Xy (q:=w) (s:=pr[k]) T 0;have hnd:JA T w pr[k]=qe4 w pr[k] T 0:=rfl;rw[<- hnd]at hnc;generalize JA T w pr[k]=nu at *;generalize (List.range k).foldl (Xq E' m i t1 pr) O2=O3 at *;generalize pr[k]=sy at *;by_cases hs:1000<=sy
         . cases hf:jo false E' (pr.drop (k+1))with
           | false=>
             rw[if_neg (by rw[hf];simp)]at hst3;rw[hf]at hem;repeat' with_reducible first|refine s_ ?_|simp -implicitDefEqProofs only[wZZ,seval,g1,g2,g5,g6,g7,g8,g9,g10,g11,o0,hzk]|(first|apply qa|apply ql|apply qj)<;>intro h h_<;>(try simp only[wD,reduceCtorEq]at h_)<;>(try exact wb_)<;>(try simp only[h])|refine t_ ?_|refine cq2 hem qf jO ?_|apply Qd;omega;exact wf_
             exact⟨wg_,k+1,o_,trivial,trivial,trivial,trivial,trivial,trivial,trivial,trivial,trivial,rfl,o_,(by rw[hst3];exact k3_1),es3,oo3,(by rw[hst3];exact hT3)⟩
           | true=>
             rw[hf]at hem;by_cases hw:0<=w/\0<=nu
             . obtain ⟨hw1,hw2⟩:=hw;rw[if_pos ⟨hs,hf,hw1,hw2⟩]at hst3;obtain ⟨v,hv1,hv2⟩:∃v:Nat,nu=v/\v<T.length:=by
                rcases hnc with h|⟨v,h1,h2⟩
                . omega
                . exact⟨v,o_,h2⟩
               subst hv1;rw[show ((v:Int)).toNat=v from rfl]at hst3;have hgv:O3[v]?=some O3[v]:=ge_ (by rw[k3_1.1];exact hv2);rw[Zu _ hgv]at hst3;have hlv:=k3_1.2 _ (List.mem_of_getElem? hgv);have hll:=Ql.len hlv;have hnew:=k3_1.set (Ql.put hlv hi) v;obtain ⟨wv,hv0,hvi⟩:=hT3.2 v _ hgv;generalize O3[v]=lv at *;have hva:=hvi.2.2.2.2.2;have hput:=je (l:=lv) (x:=(i:Int)) o_;have hT4:=hT3.set (XH false (jm lv (i:Int))) v;rw[<- hst3]at hnew hT4;repeat' with_reducible first|refine s_ ?_|simp -implicitDefEqProofs only[wZZ,seval,g1,g2,g5,g6,g7,g8,g9,g10,g11,o0,hzk]|(first|apply qa|apply ql|apply qj)<;>intro h h_<;>(try simp only[wD,reduceCtorEq]at h_)<;>(try exact wb_)<;>(try simp only[h])|refine t_ ?_|refine cq2 hem qf jO ?_|refine cq3 hwk qf qf jO ?_|refine cq3 hnu qf qf qf ?_|apply qP;omega;(focus(rw[Int.toNat_natCast];exact hv2))|(rw[oo3];refine ldV rfl hv0 hva ?_)|refine cq2 hput hvi.2.2.1.er qf ?_|(refine stV oo3 hv0 hva rfl rfl rfl ?_)|apply Xj;omega;exact wf_|apply Qd;omega;exact wf_
               exact⟨wg_,k+1,o_,trivial,trivial,trivial,trivial,trivial,trivial,trivial,trivial,trivial,rfl,o_,hnew,_,rfl,hT4⟩
             . rw[if_neg (λh=>hw ⟨h.2.2.1,h.2.2.2⟩)]at hst3;repeat' with_reducible first|refine s_ ?_|simp -implicitDefEqProofs only[wZZ,seval,g1,g2,g5,g6,g7,g8,g9,g10,g11,o0,hzk]|(first|apply qa|apply ql|apply qj)<;>intro h h_<;>(try simp only[wD,reduceCtorEq]at h_)<;>(try exact wb_)<;>(try simp only[h])|refine t_ ?_|refine cq2 hem qf jO ?_|refine cq3 hwk qf qf jO ?_|refine cq3 hnu qf qf qf ?_|apply Xj;omega;exact wf_|apply Qd;omega;exact wf_
               all_goals exact⟨wg_,k+1,o_,trivial,trivial,trivial,trivial,trivial,trivial,trivial,trivial,trivial,rfl,o_,(by rw[hst3];exact k3_1),es3,oo3,(by rw[hst3];exact hT3)⟩
         . rw[if_neg (λh=>hs h.1)]at hst3;repeat' with_reducible first|refine s_ ?_|simp -implicitDefEqProofs only[wZZ,seval,g1,g2,g5,g6,g7,g8,g9,g10,g11,o0,hzk]|(first|apply qa|apply ql|apply qj)<;>intro h h_<;>(try simp only[wD,reduceCtorEq]at h_)<;>(try exact wb_)<;>(try simp only[h])|refine t_ ?_
           exact⟨wg_,k+1,o_,trivial,trivial,trivial,trivial,trivial,trivial,trivial,trivial,trivial,rfl,o_,(by rw[hst3];exact k3_1),es3,oo3,(by rw[hst3];exact hT3)⟩
       . have e:k=pr.length:=o_;subst e;rw[<- hst2]at hT3 k3_1;repeat' with_reducible first|refine s_ ?_|simp -implicitDefEqProofs only[wZZ,seval,g1,g2,g5,g6,g7,g8,g9,g10,g11,o0,hzj]
         exact⟨wg_,j+1,o_,trivial,trivial,trivial,trivial,trivial,trivial,trivial,rfl,o_,k3_1,es3,oo3,hT3⟩
     . rw[if_neg hc]at hst2
       skip
       repeat' with_reducible first|refine s_ ?_|simp -implicitDefEqProofs only[wZZ,seval,g1,g2,g5,g6,g7,g8,g9,o0,hzj,hzl]|apply qa<;>intro h h_<;>(try simp only[wD,reduceCtorEq]at h_)<;>(try exact wb_)<;>(try simp only[h])|refine t_ ?_
       exact⟨wg_,j+1,o_,trivial,trivial,trivial,trivial,trivial,trivial,trivial,rfl,o_,(by rw[hst2];exact k2_1),es2,oo2,(by rw[hst2];exact hT2)⟩
   . have e:g.prods.take j=g.prods:=List.take_of_length_le o_;rw[e,<- hst]at hT2 k2_1;repeat' with_reducible first|refine s_ ?_|simp -implicitDefEqProofs only[wZZ,seval,g1,g2,g5,g6,g7,g8,g9,o0,hz]|apply qa<;>intro h h_<;>(try simp only[wD,reduceCtorEq]at h_)<;>(try exact wb_)<;>(try simp only[h])|refine t_ ?_
     exact⟨wg_,i+1,o_,trivial,trivial,trivial,trivial,trivial,trivial,rfl,o_,k2_1,es2,oo2,hT2⟩
 . have e:i=T.length:=o_;subst e
   skip
   repeat' with_reducible first|refine s_ ?_|simp -implicitDefEqProofs only[wZZ,seval,g1,g2,g5,g6,g7,g8,o0]
   refine qx rfl (Or.inr rfl) ?_;(simp -implicitDefEqProofs only[wL,seval]);exact Zy.er (ro:=false) (by(simp only[wM];(repeat first|rw[if_pos trivial]|rw[if_pos rfl]|rw[if_neg o_]));exact oo1) hT1 k1_1.1
end Go.Proofs
