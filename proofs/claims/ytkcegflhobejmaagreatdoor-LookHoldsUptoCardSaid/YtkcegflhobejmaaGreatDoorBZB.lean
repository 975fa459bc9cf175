import Derived.Test.YtkcegflhobejmaaGreatDoorBZA
set_option maxRecDepth 20000
set_option linter.all false
set_option maxHeartbeats 4000000
namespace Go.Proofs
open Go.E
variable {α β:Type} {i:Nat}
theorem qie(f:β->α->β)(b:β){l:List α}{x:α}(h:l[i]?=some x):(l.take (i+1)).foldl f b=f ((l.take i).foldl f b) x:=by rw[List.take_add_one,h,List.foldl_append];rfl
variable {g:Grammar} {l:List Int}
theorem zK(hg:GOk g)(hx:∀x∈l,Qx g x)(hr:jq l):IsCl g l (qK g l)/\(∀x∈qK g l,Qx g x)/\(qK g l).length<=960:=by have h:=qb2 hg.pl2 hg.rlen hx hr;refine⟨h,h.ok hx,?_⟩;exact ClM.len ⟨h.rise,h.clo.1,h.least,h.ok hx⟩ hg.pl2
theorem qdF{x:Int}(hrl:∀p∈g.prods,p.right.length<=8)(h:Qx g x):(x+1) / 16=x / 16/\(x+1) % 16=x % 16+1/\0<=x % 16/\x % 16<=8:=by obtain ⟨h0,p,hp,hd⟩:=h;have:=hrl p (List.mem_of_getElem? hp);omega
theorem VD{sy:Int}(hx:∀x∈l,Qx g x)(hr:jq l)(hl:l.length<=1000000)(hg:GOk g):Pure Tryz.prog 86 [g.V,.sl 2 false (l.map itV),vi sy] (.sl 2 false ((QW g l sy).map itV)):=by
 refine pure_intro Tryz.func86 nm_ qwp (by show 3<=48;decide) ?_
 show ewp _ qu5 _ _;have hcl:=Qt hx hr hl hg;obtain ⟨hI,hok,hcb⟩:=zK hg hx hr;have hdef:QW g l sy=(qK g l).foldl (λo x=>if 0<=nxt g x/\nxt g x=sy then xw o (x+1)else o) []:=rfl;rw[hdef];generalize qK g l=cl at *;repeat' with_reducible first|refine s_ ?_|simp -implicitDefEqProofs only[wZZ,seval]|refine cq2 hcl qd qd ?_|refine t_ ?_
 refine qb ?nx1 (λ(i:Nat) s=>s.f 2=?v1_2/\s.f 3=?v1_3/\s.f 8=?v1_8/\s.H 0=some (.own 5 [g.V] false)/\(∃c,s.f 7=.sl 2 c (((cl.take i).foldl (λo x=>if 0<=nxt g x/\nxt g x=sy then xw o (x+1)else o) []).map itV))/\s.f 9=vi i/\(i<=cl.length)/\(((cl.take i).foldl (λo x=>if 0<=nxt g x/\nxt g x=sy then xw o (x+1)else o) []).length<=i)) (λi=>cl.length - i) (0) wj_ (by refine⟨?_,?_,?_,?_,?_,?_,wo_,wo_⟩<;>first|(simp -implicitDefEqProofs only[wL,wM,wN,wX,seval,Option.some.injEq]<;>exact wt_)|rfl|exact⟨_,rfl⟩) ?_;intro i s hnx ⟨g2,g3,g8,o0,⟨c7,g7⟩,g9,k1_0,k1_1⟩;have hz:=w1_ i;by_cases hi:i<cl.length
 . have hgi:cl[i]?=some cl[i]:=ge_ hi;have hst:=qie (λ(o:List Int) x=>if 0<=nxt g x/\nxt g x=sy then xw o (x+1)else o) [] hgi;have hxo:=hok _ (List.getElem_mem hi);have hnx:=yC hxo hg.pl2 hg.rlen;have hbd:=qhp hg hxo;have hin:=qdF hg.rlen hxo;generalize cl[i]=x at *;generalize (cl.take i).foldl (λo x=>if 0<=nxt g x/\nxt g x=sy then xw o (x+1)else o) []=o at *;generalize nxt g x=nx at *;have hzd:IntKind.i64.wrap (x % 16+1)=x % 16+1:=wrap64 o_ o_;have hput:=vG (l:=o) (x:=x+1) o_;have hpl:=qaA o (x+1);have hkv:itV (x+1)=.agg [vi (x / 16),vi (x % 16+1)]:=(by rw[<- hin.1,<- hin.2.1]);rw[hkv]at hput;by_cases hc:0<=nx/\nx=sy
   . rw[if_pos hc]at hst;repeat' with_reducible first|refine s_ ?_|simp -implicitDefEqProofs only[wZZ,seval,g2,g3,g8,g7,g9,o0,hz,hzd]|(first|apply qa|apply qA|apply qB)<;>intro h h_<;>(try simp only[wD,reduceCtorEq]at h_)<;>(try exact wb_)<;>(try simp only[h])|refine t_ ?_|refine cq2 hnx qd qd ?_|refine cq2 hput yN qd ?_
     refine⟨wk_,i+1,o_,?_⟩;refine⟨?_,?_,?_,?_,?_,?_,?_,?_⟩;iterate 6 (focus(first|(simp -implicitDefEqProofs only[wL,wM,wN,wX,seval,Option.some.injEq,g2,g3,g8,g7,g9,o0,hst]<;>exact wt_)|rfl|exact⟨_,rfl⟩))
     all_goals try omega
     rw[hst];omega
   . rw[if_neg hc]at hst;repeat' with_reducible first|refine s_ ?_|simp -implicitDefEqProofs only[wZZ,seval,g2,g3,g8,g7,g9,o0,hz,hzd]|(first|apply qa|apply qA|apply qB)<;>intro h h_<;>(try simp only[wD,reduceCtorEq]at h_)<;>(try exact wb_)<;>(try simp only[h])|refine t_ ?_|refine cq2 hnx qd qd ?_
     all_goals exact⟨wg_,i+1,o_,trivial,trivial,trivial,trivial,⟨_,by rw[hst]⟩,rfl,o_,by rw[hst];omega⟩
 . have e:cl.take i=cl:=List.take_of_length_le o_;rw[e]at g7;repeat' with_reducible first|refine s_ ?_|simp -implicitDefEqProofs only[wZZ,seval,g2,g3,g8,g7,g9,o0,hz]|apply qa<;>intro h h_<;>(try simp only[wD,reduceCtorEq]at h_)<;>(try exact wb_)<;>(try simp only[h])
   all_goals refine qz rfl (Or.inr rfl) ?_
   all_goals(try simp -implicitDefEqProofs only[wL,seval,g2,g3,g8,g7,g9])
   all_goals refine er_ ?_
   all_goals(try(with_reducible rfl))
theorem Jz(hg:GOk g):Pure Tryz.prog 83 [g.V] (.sl 1 false ((zB g).map (V.int .i64))):=by
 refine pure_intro Tryz.func83 nm_ qr0 (by show 1<=30;decide) ?_
 show ewp _ qw6 _ _;have htl:=hg.tk2;have hnl:=hg.nn2;have hdef:zB g=(List.range g.toks.length).map (λ(i:Nat)=>(i:Int))++(List.range g.nons.length).map λ(i:Nat)=>1000+(i:Int):=rfl;rw[hdef];repeat' with_reducible first|refine s_ ?_|simp -implicitDefEqProofs only[wZZ,seval]|refine t_ ?_
 refine qb ?nx1 (λ(i:Nat) s=>s.f 1=?v1_1/\s.H 0=some (.own 5 [g.V] false)/\(∃v,s.f 3=v/\Gr s.H s.next 1 (((List.range i).map (λ(i:Nat)=>(i:Int))).map (V.int .i64)) v)/\s.f 4=vi i/\(i<=g.toks.length)) (λi=>g.toks.length - i) (0) wj_ (by refine⟨?_,?_,?_,?_,wo_⟩<;>first|(simp -implicitDefEqProofs only[wL,wM,wN,wX,seval,Option.some.injEq]<;>exact wt_)|rfl|exact⟨_,rfl⟩) ?_;intro i s hnx ⟨g1,o0,⟨v3,g3,G3⟩,g4,k1_0⟩;have hz:=w1_ i;by_cases hi:i<g.toks.length
 . have hst:(List.range (i+1)).map (λ(i:Nat)=>(i:Int))=(List.range i).map (λ(i:Nat)=>(i:Int))++[(i:Int)]:=(by rw[List.range_succ,List.map_append];rfl);have hlr:((List.range i).map (λ(i:Nat)=>(i:Int))).length=i:=(by simp);repeat' with_reducible first|refine s_ ?_|simp -implicitDefEqProofs only[wZZ,seval,g1,g3,g4,o0,Gr.dropO G3 o0,hz,G3.len]|apply qa<;>intro h h_<;>(try simp only[wD,reduceCtorEq]at h_)<;>(try exact wb_)<;>(try simp only[h])|apply zq rfl (G3.mono (Nat.le_refl _) (λid h1 h2=>by(try simp only[wM]);(repeat rw[if_neg o_])));(focus(first|exact qY.sl|exact qY.asl));(focus(simp only[wZ,hlr];omega));(focus(unfold maxLen;simp only[wZ,hlr];omega))|refine t_ ?_
   refine⟨wk_,i+1,o_,?_⟩;refine⟨?_,?_,?_,?_,?_⟩;iterate 4 (focus(first|(simp -implicitDefEqProofs only[wL,wM,wN,wX,seval,Option.some.injEq,g1,g3,g4,o0,Gr.dropO G3 o0,hst]<;>first|rfl|exact⟨_,rfl⟩|exact⟨_,rfl,by first|assumption|exact Gr.nil|exact Gr.tok rfl o_|exact Gr.tok (by simp -implicitDefEqProofs only[wM,seval]<;>rfl) o_|exact Gr.clip|exact G3.to fs_ o_ rfl|exact G3.mono' fs_ o_ (λj hj hl=>by(try simp only[wM,jo]);repeat(first|rfl|rw[if_neg o_]))⟩)|rfl|exact⟨_,rfl⟩|exact⟨_,rfl,by first|assumption|exact G3.to fs_ o_ rfl|exact G3.mono' fs_ o_ (λj hj hl=>by(try simp only[wM,jo]);repeat(first|rfl|rw[if_neg o_]))⟩))
   all_goals try omega
 . have e:i=g.toks.length:=o_;subst e;repeat' with_reducible first|refine s_ ?_|simp -implicitDefEqProofs only[wZZ,seval,g1,g3,g4,o0,Gr.dropO G3 o0,hz,G3.len]|refine t_ ?_
   refine qb ?nx2 (λ(j:Nat) s=>s.f 1=?v2_1/\s.H 0=some (.own 5 [g.V] false)/\(∃v,s.f 3=v/\Gr s.H s.next 1 (((List.range g.toks.length).map (λ(i:Nat)=>(i:Int))++(List.range j).map λ(i:Nat)=>1000+(i:Int)).map (V.int .i64)) v)/\s.f 5=vi j/\(j<=g.nons.length)) (λj=>g.nons.length - j) (0) wj_ (by refine⟨?_,?_,?_,?_,wo_⟩<;>first|(simp -implicitDefEqProofs only[wL,wM,wN,wX,seval,Option.some.injEq,g1,g3,g4,o0,Gr.dropO G3 o0]<;>first|rfl|exact⟨_,rfl⟩|exact⟨_,rfl,by first|assumption|exact Gr.nil|exact Gr.tok rfl o_|exact Gr.tok (by simp -implicitDefEqProofs only[wM,seval]<;>rfl) o_|exact Gr.clip|exact G3.to fs_ o_ rfl|exact G3.mono' fs_ o_ (λj hj hl=>by(try simp only[wM,jo]);repeat(first|rfl|rw[if_neg o_]))⟩)|rfl|exact⟨_,rfl⟩|exact⟨_,rfl,by first|assumption|exact G3.to fs_ o_ rfl|exact G3.mono' fs_ o_ (λj hj hl=>by(try simp only[wM,jo]);repeat(first|rfl|rw[if_neg o_]))⟩) ?_;intro j s hnx ⟨g1,o0,⟨v3,g3,G3⟩,g5,k2_0⟩;have hzj:=w1_ j;have hzk:IntKind.i64.wrap (1000+(j:Int))=1000+(j:Int):=wrap64 o_ o_;by_cases hj:j<g.nons.length
   . have hst:(List.range g.toks.length).map (λ(i:Nat)=>(i:Int))++(List.range (j+1)).map (λ(i:Nat)=>1000+(i:Int))=((List.range g.toks.length).map (λ(i:Nat)=>(i:Int))++(List.range j).map λ(i:Nat)=>1000+(i:Int))++[1000+(j:Int)]:=(by rw[List.range_succ,List.map_append,List.append_assoc];rfl);have hlr:((List.range g.toks.length).map (λ(i:Nat)=>(i:Int))++(List.range j).map λ(i:Nat)=>1000+(i:Int)).length=g.toks.length+j:=(by simp);repeat' with_reducible first|refine s_ ?_|simp -implicitDefEqProofs only[wZZ,seval,g1,g3,g5,o0,Gr.dropO G3 o0,hzj,hzk,G3.len]|apply qa<;>intro h h_<;>(try simp only[wD,reduceCtorEq]at h_)<;>(try exact wb_)<;>(try simp only[h])|apply zq rfl (G3.mono (Nat.le_refl _) (λid h1 h2=>by(try simp only[wM]);(repeat rw[if_neg o_])));(focus(first|exact qY.sl|exact qY.asl));(focus(simp only[wZ,hlr];omega));(focus(unfold maxLen;simp only[wZ,hlr];omega))|refine t_ ?_
     refine⟨wk_,j+1,o_,?_⟩;refine⟨?_,?_,?_,?_,?_⟩;iterate 4 (focus(first|(simp -implicitDefEqProofs only[wL,wM,wN,wX,seval,Option.some.injEq,g1,g3,g5,o0,Gr.dropO G3 o0,hst]<;>first|rfl|exact⟨_,rfl⟩|exact⟨_,rfl,by first|assumption|exact Gr.nil|exact Gr.tok rfl o_|exact Gr.tok (by simp -implicitDefEqProofs only[wM,seval]<;>rfl) o_|exact Gr.clip|exact G3.to fs_ o_ rfl|exact G3.mono' fs_ o_ (λj hj hl=>by(try simp only[wM,jo]);repeat(first|rfl|rw[if_neg o_]))⟩)|rfl|exact⟨_,rfl⟩|exact⟨_,rfl,by first|assumption|exact G3.to fs_ o_ rfl|exact G3.mono' fs_ o_ (λj hj hl=>by(try simp only[wM,jo]);repeat(first|rfl|rw[if_neg o_]))⟩))
     all_goals try omega
   . have e:j=g.nons.length:=o_;subst e;repeat' with_reducible first|refine s_ ?_|simp -implicitDefEqProofs only[wZZ,seval,g1,g3,g5,o0,Gr.dropO G3 o0,G3.len]|refine t_ ?_
     all_goals refine qz rfl (Or.inr rfl) ?_
     all_goals(try simp -implicitDefEqProofs only[wL,seval,g1,g3,g5])
     all_goals(first|refine er_ ?_ |refine G3.er ?_)
     all_goals(try(with_reducible rfl))

variable {n:Nat} {q:Sta}
theorem qgu{k:List Int}{m:List Sta}(h:m[i]?=some q):QS k (m.drop i) n=if q.ker=k then(n:Int)else QS k (m.drop (i+1)) (n+1):=by have hi:=(List.getElem?_eq_some_iff.1 h);rw[List.drop_eq_getElem_cons hi.1,hi.2];rfl
theorem YW{m:List Sta}{k:List Int}(hm:m.length<=1000000)(hk:k.length<=1000000)(hq:∀q∈m,q.ker.length<=1000000):Pure Tryz.prog 87 [.sl 2 false (m.map Sta.V),.sl 2 false (k.map itV)] (vi (yM m k)):=by
 refine pure_intro Tryz.func87 nm_ quB (by show 2<=20;decide) ?_
 show ewp _ qr1 _ _;repeat' with_reducible first|refine s_ ?_|simp -implicitDefEqProofs only[wZZ,seval]
 refine qb ?nx1 (λ(i:Nat) s=>s.f 0=?v1_0/\s.f 1=?v1_1/\s.f 5=vi i/\(i<=m.length)/\(yM m k=QS k (m.drop i) i)) (λi=>m.length - i) (0) wj_ (by refine⟨?_,?_,?_,wo_,(by rfl)⟩<;>first|(simp -implicitDefEqProofs only[wL,wM,wN,wX,seval,Option.some.injEq]<;>exact wt_)|rfl|exact⟨_,rfl⟩) ?_;intro i s hnx ⟨g0,g1,g5,k1_0,k1_1⟩;have hz:=w1_ i;by_cases hi:i<m.length
 . have hgi:m[i]?=some m[i]:=ge_ hi;have hst:=qgu (k:=k) (n:=i) hgi;have he:=Xq (a:=m[i].ker) (b:=k) (by have:=hq _ (List.getElem_mem hi);omega) o_;generalize m[i]=q at *;obtain ⟨qk,qm⟩:=q;dsimp only at hst he;by_cases hc:qk=k
   . rw[if_pos hc]at hst;rw[decide_eq_true hc]at he;rw[k1_1,hst];repeat' with_reducible first|refine s_ ?_|simp -implicitDefEqProofs only[wZZ,seval,g0,g1,g5,hz]|apply qa<;>intro h h_<;>(try simp only[wD,reduceCtorEq]at h_)<;>(try exact wb_)<;>(try simp only[h])|refine t_ ?_|refine cq2 he qd qd ?_
     all_goals refine qz rfl (Or.inr rfl) ?_
     all_goals(try simp -implicitDefEqProofs only[wL,seval,g0,g1,g5])
     all_goals refine er_ ?_
     all_goals(try(with_reducible rfl))
   . rw[if_neg hc]at hst;rw[decide_eq_false hc]at he;repeat' with_reducible first|refine s_ ?_|simp -implicitDefEqProofs only[wZZ,seval,g0,g1,g5,hz]|apply qa<;>intro h h_<;>(try simp only[wD,reduceCtorEq]at h_)<;>(try exact wb_)<;>(try simp only[h])|refine t_ ?_|refine cq2 he qd qd ?_
     refine⟨wk_,i+1,o_,?_⟩;refine⟨?_,?_,?_,?_,?_⟩;iterate 3 (focus(first|(simp -implicitDefEqProofs only[wL,wM,wN,wX,seval,Option.some.injEq,g0,g1,g5]<;>exact wt_)|rfl|exact⟨_,rfl⟩))
     all_goals try omega
 . have e:m.drop i=[]:=List.drop_of_length_le o_;rw[e]at k1_1;rw[k1_1];repeat' with_reducible first|refine s_ ?_|simp -implicitDefEqProofs only[wZZ,seval,g0,g1,g5,hz]|apply qa<;>intro h h_<;>(try simp only[wD,reduceCtorEq]at h_)<;>(try exact wb_)<;>(try simp only[h])
   all_goals refine qz rfl (Or.inr rfl) ?_
   all_goals(try simp -implicitDefEqProofs only[wL,seval,g0,g1,g5])
   all_goals refine er_ ?_
   all_goals(try(with_reducible rfl))
   all_goals rfl
variable {s:Int}
theorem qou{l:List (Int×Int)}{p:Int×Int}(h:l[i]?=some p):goL (l.drop i) s=if p.1=s then p.2 else goL (l.drop (i+1)) s:=by have hi:=(List.getElem?_eq_some_iff.1 h);rw[List.drop_eq_getElem_cons hi.1,hi.2];rfl
theorem qqY{m:List Sta}{q:Nat}{x:Sta}(h:m[q]?=some x)(s:Int):goS m (q:Int) s=goL x.mov s:=by unfold goS;rw[if_neg o_,show ((q:Int)).toNat=q from rfl,h]
theorem qg4{m:List Sta}{q:Int}(h:l[i]?=some s):zT m q (l.drop i)=if q<0 then q else zT m (goS m q s) (l.drop (i+1)):=by have hi:=(List.getElem?_eq_some_iff.1 h);rw[List.drop_eq_getElem_cons hi.1,hi.2];rfl
theorem qgI{m:List Sta}{q:Int}(h:q<0):∀l,zT m q l=q
 |[]=>rfl
 |s::l=>by unfold zT;rw[if_pos h]

def qjN(m:List Sta)(i:Nat):List (Int×Int):=(m[i]?.map (·.mov)).getD []
abbrev trF(i:Nat):Int×Int->Option (Int×Int):=λp=>if 1000<=p.1 then some ((i:Int),p.1)else none
def Q5(m:List Sta)(n:Nat):List (Int×Int):=(List.range n).flatMap λi=>(qjN m i).filterMap (trF i)
theorem Je(m:List Sta)(n:Nat):Q5 m (n+1)=Q5 m n++(qjN m n).filterMap (trF n):=by unfold Q5;rw[List.range_succ,List.flatMap_append];simp
theorem qpw(f:α->Option β){l:List α}{x:α}(h:l[i]?=some x):(l.take (i+1)).filterMap f=(l.take i).filterMap f++(f x).toList:=by rw[List.take_add_one,h,List.filterMap_append];cases hf:f x<;>simp[hf]

abbrev qmb(g:Grammar):Int->Option Int:=λx=>if 0<x / 16/\nxt g x= -1 then some (x / 16)else none
abbrev qfo(m:List Sta)(x:GPr)(q:Int)(t:List (Int×Int)):Nat->Bool:=λi=>decide ((t.getD i (0,0)).2=1000+x.left/\zT m (t.getD i (0,0)).1 x.right=q)
theorem qdn(f:Nat->Bool)(n:Nat):((List.range (n+1)).filter f).map (λ(i:Nat)=>(i:Int))=((List.range n).filter f).map (λ(i:Nat)=>(i:Int))++(if f n=true then[(n:Int)]else[]):=by rw[List.range_succ,List.filter_append,List.map_append];cases h:f n<;>simp[h]
theorem qf4(f:Nat->Bool)(n:Nat):(((List.range n).filter f).map (λ(i:Nat)=>(i:Int))).length<=n:=by rw[List.length_map];exact Nat.le_trans (List.length_filter_le _ _) (by rw[List.length_range];exact Nat.le_refl _)

theorem Vr{m:List Sta}{B:Nat}(hq:∀q∈m,q.mov.length<=B):∀n,(Q5 m n).length<=n *B
 |0=>Nat.zero_le _
 | n+1=>by
   rw[Je,List.length_append];have:=Vr hq n;have h1:=List.length_filterMap_le (trF n) (qjN m n);have h2:(qjN m n).length<=B:=by
    unfold qjN;cases h:m[n]? with
    |none=>simp
    |some q=>exact hq q (List.mem_of_getElem? h)
   rw[Nat.add_mul,Nat.one_mul];omega
theorem MOk.trans_len{m:List Sta}(h:MOk g m):(qh m).length<=9600:=by have h1:=Vr h.mvl m.length;have e:qh m=Q5 m m.length:=rfl;have h2:=h.len;have h3:m.length *64<=150 *64:=Nat.mul_le_mul_right _ h2;rw[e];omega
theorem jk{α β:Type}(P:β->Prop)(f:β->α->β):∀(l:List α) (b:β),P b->(∀b a,a∈l->P b->P (f b a))->P (l.foldl f b)
 |[],b,h,_=>h
 |a::l,b,h,hf=>jk P f l (f b a) (hf b a List.mem_cons_self h) λb x hx=>hf b x (List.mem_cons_of_mem _ hx)
theorem MOk.movAt_mem{m:List Sta}(h:MOk g m){r:Nat}{p:Int×Int}(hp:p∈jB m (r:Int)):∃q,m[r]?=some q/\p∈q.mov:=by
 unfold jB at hp;rw[show ((r:Int)).toNat=r from rfl]at hp;cases hm:m[r]? with
 |none=>rw[hm]at hp;cases hp
 |some q=>rw[hm]at hp;exact⟨q,rfl,hp⟩
theorem Xu{L:List α}{l:α}(f:α->α)(h:L[i]?=some l):L.modify i f=L.set i (f l):=by
 refine List.ext_getElem? λj=>?_;rw[List.getElem?_modify,List.getElem?_set];have hi:=(List.getElem?_eq_some_iff.1 h).1;by_cases e:i=j
 . subst e;rw[if_pos rfl,if_pos hi,h];simp
 . rw[if_neg e];simp[e]
theorem Xk(f:β->α->β)(b:β){l:List α}{x:α}(h:l[i]?=some x):(l.take (i+1)).foldl f b=f ((l.take i).foldl f b) x:=by rw[List.take_add_one,h,List.foldl_append];rfl
theorem Gr.ne{H:Nat->Option MObj}{next z D:Nat}{es:List V}{v:V}(h:Gr H next z es v){sz:Nat}{l:List V}{ro:Bool}(ho:H D=some (.own sz l ro)){x:Nat}(hx:gid v=some x):x≠D:=by
 rcases h with rfl|⟨id,fin,rfl,h1,_⟩
 . cases hx
 . cases hx;intro e;rw[e,ho]at h1;cases h1

theorem qdb(hg:GOk g)(hx:∀x∈l,Qx g x)(hr:jq l):jq (QW g l s)/\∀x∈QW g l s,Qx g x:=by
 obtain ⟨_,hok,_⟩:=zK hg hx hr;unfold QW;refine jk (λo=>jq o/\∀x∈o,Qx g x) _ _ _ ⟨List.Pairwise.nil,λx h=>by cases h⟩ λb a ha hb=>?_;split
 . rename_i hc;refine⟨jU hb.1,λx hx=>(zL.1 hx).elim (hb.2 x) λe=>?_⟩;subst e;have h1:=hok a ha;obtain ⟨m,d,p,hm,hd,hp,hdl,hn⟩:=h1.nat;have hlt:d<p.right.length:=by
    refine Classical.byContradiction λh=>?_;rw[List.getElem?_eq_none o_]at hn;rw[hn]at hc;have:=hc.1;simp at this
   have h2:=qdF hg.rlen h1;have h0:=h1.1;refine⟨o_,p,?_,?_⟩
   . rw[show ((a+1) / 16).toNat=m by omega];exact hp
   . rw[show ((a+1) % 16).toNat=d+1 by omega];exact hlt
 . exact hb
theorem XH{k:List Int}:∀(m:List Sta) (n:Nat),QS k m n= -1\/ ∃i:Nat,QS k m n=((n+i:Nat):Int)/\∃q,m[i]?=some q/\q.ker=k
 |[],_=>Or.inl rfl
 | p ::m,n=>by
   unfold QS;split
   . rename_i e;exact Or.inr ⟨0,by simp,p,rfl,e⟩
   . rcases XH m (n+1)with h|⟨i,h1,h2⟩
     . exact Or.inl h
     . exact Or.inr ⟨i+1,by rw[h1];omega,by simpa using h2⟩
theorem ZX{k:List Int}(m:List Sta):yM m k= -1\/ ∃i:Nat,yM m k=(i:Int)/\∃q,m[i]?=some q/\q.ker=k:=by
 rcases XH (k:=k) m 0 with h|⟨i,h1,h2⟩
 . exact Or.inl h
 . exact Or.inr ⟨i,by unfold yM;rw[h1];omega,h2⟩
theorem Vl(hg:GOk g):(zB g).length<=64:=by have:=hg.tk2;have:=hg.nn2;unfold zB;simp;omega
theorem Y3:∀s∈zB g,vW g.toks.length g.nons.length s:=by
 intro s hs;unfold zB at hs;rw[List.mem_append,List.mem_map,List.mem_map]at hs;rcases hs with ⟨i,hi,rfl⟩|⟨i,hi,rfl⟩
 . exact Or.inl ⟨i,rfl,List.mem_range.1 hi⟩
 . exact Or.inr ⟨i,rfl,List.mem_range.1 hi⟩
structure AutI(g:Grammar)(m:List Sta)(i k:Nat):Prop where
 len:m.length<=150
 mvl:∀j q,m[j]?=some q->q.mov.length<=(if j<i then 64 else if j=i then k else 0)
 mv:∀q∈m,∀p∈q.mov,vW g.toks.length g.nons.length p.1/\∃t:Nat,p.2=t/\t<m.length
 kr:∀q∈m,jq q.ker
 ki:∀q∈m,∀x∈q.ker,Qx g x
variable {k:Nat}
theorem AutI.kl{m:List Sta}(h:AutI g m i k)(hpl:g.prods.length<=60):∀q∈m,q.ker.length<=960:=λq hq=>
 xY (a:=0) (h.kr q hq) λx hx=>by obtain ⟨h0,p,hp,_⟩:=h.ki q hq x hx;have:=(List.getElem?_eq_some_iff.1 hp).1;omega
theorem AutI.next{m:List Sta}(h:AutI g m i k)(hk:k<=64):AutI g m (i+1) 0:=by
 refine⟨h.len,λj q hq=>?_,h.mv,h.kr,h.ki⟩;have:=h.mvl j q hq;split at this
 . rw[if_pos o_];omega
 . split at this
   . rw[if_pos o_];omega
   . split
     . omega
     . split<;>omega
theorem AutI.skip{m:List Sta}(h:AutI g m i k):AutI g m i (k+1):=by
 refine⟨h.len,λj q hq=>?_,h.mv,h.kr,h.ki⟩;have:=h.mvl j q hq;split at this
 . rename_i e;rw[if_pos e];omega
 . rename_i e;rw[if_neg e];split at this
   . rename_i e2;rw[if_pos e2];omega
   . rename_i e2;rw[if_neg e2];omega
theorem AutI.snoc{m:List Sta}(h:AutI g m i k)(hi:i<m.length)(hl:m.length<150){o:List Int}(hr:jq o)(ho:∀x∈o,Qx g x):AutI g (m++[⟨o,[]⟩]) i k:=by
 refine⟨so_,λj q hq=>?_,λq hq p hp=>?_,λq hq=>?_,λq hq=>?_⟩
 . by_cases e:j<m.length
   . rw[List.getElem?_append_left e]at hq;exact h.mvl j q hq
   . have:j=m.length:=by
      have:=(List.getElem?_eq_some_iff.1 hq).1;simp at this;omega
     subst this;rw[List.getElem?_append_right (Nat.le_refl _),Nat.sub_self]at hq;cases hq;exact Nat.zero_le _
 . rw[List.mem_append,List.mem_singleton]at hq;rcases hq with hq|rfl
   . obtain ⟨h1,t,h2,h3⟩:=h.mv q hq p hp;exact⟨h1,t,h2,so_⟩
   . cases hp
 . rw[List.mem_append,List.mem_singleton]at hq;rcases hq with hq|rfl
   . exact h.kr q hq
   . exact hr
 . rw[List.mem_append,List.mem_singleton]at hq;rcases hq with hq|rfl
   . exact h.ki q hq
   . exact ho
theorem qV{m:List Sta}{t:Int}(h:m[i]?=some q):zC m i s t=m.set i {q with mov:=q.mov++[(s,t)]}:=Xu _ h
theorem AutI.add{m:List Sta}{t:Nat}(h:AutI g m i k)(hq:m[i]?=some q)(hs:vW g.toks.length g.nons.length s)(ht:t<m.length):AutI g (zC m i s t) i (k+1):=by
 rw[qV hq];have hqm:=List.mem_of_getElem? hq;refine⟨by rw[List.length_set];exact h.len,λj x hx=>?_,λx hx p hp=>?_,λx hx=>?_,λx hx=>?_⟩
 . rw[List.getElem?_set]at hx;have hi:=(List.getElem?_eq_some_iff.1 hq).1;by_cases e:i=j
   . subst e;rw[if_pos rfl,if_pos hi]at hx;cases hx;have:=h.mvl i q hq;rw[if_neg o_,if_pos rfl]at this ⊢;simp;omega
   . rw[if_neg e]at hx;have:=h.mvl j x hx;split at this
     . rename_i e1;rw[if_pos e1];omega
     . rename_i e1;rw[if_neg e1];rw[if_neg o_]at this ⊢;exact this
 . rw[List.length_set];rcases List.mem_or_eq_of_mem_set hx with hx|rfl
   . exact h.mv x hx p hp
   . rw[List.mem_append,List.mem_singleton]at hp;rcases hp with hp|rfl
     . exact h.mv q hqm p hp
     . exact⟨hs,t,rfl,ht⟩
 . rcases List.mem_or_eq_of_mem_set hx with hx|rfl
   . exact h.kr x hx
   . exact h.kr q hqm
 . rcases List.mem_or_eq_of_mem_set hx with hx|rfl
   . exact h.ki x hx
   . exact h.ki q hqm
theorem AutI.mok{m:List Sta}(h:AutI g m i 0)(hi:m.length<=i):MOk g m:=
 ⟨h.len,λq hq=>by
  obtain ⟨j,hj,rfl⟩:=List.getElem_of_mem hq;have:=h.mvl j _ (ge_ hj);rw[if_pos o_]at this;exact this,h.mv,h.kr,h.ki⟩
theorem qiK(hg:GOk g):AutI g [⟨[0],[]⟩] 0 0:=by
 refine⟨by simp,λj q hq=>?_,λq hq p hp=>?_,λq hq=>?_,λq hq x hx=>?_⟩
 . cases j with
   |zero=>simp at hq;subst hq;simp
   |succ j=>simp at hq
 . rw[List.mem_singleton]at hq;subst hq;cases hp
 . rw[List.mem_singleton]at hq;subst hq;exact List.pairwise_singleton _ _
 . rw[List.mem_singleton]at hq;subst hq;rw[List.mem_singleton]at hx;subst hx;have h1:=hg.pl;exact⟨Int.le_refl _,g.prods[0],by simp,Nat.zero_le _⟩

abbrev RMv(q:Sta):Prop:=(q.mov.map (·.1)).Pairwise (· < ·)
def RI(m:List Sta)(i:Nat)(B:Int):Prop:= ∀(j:Nat) q,m[j]?=some q->RMv q/\(j=i->∀p∈q.mov,p.1<B)/\(i<j->q.mov=[])
theorem RI.mono{m:List Sta}{B C:Int}(h:RI m i B)(hB:B<=C):RI m i C:=λj q hq=>by obtain ⟨h1,h2,h3⟩:=h j q hq;exact⟨h1,λe p hp=>Int.lt_of_lt_of_le (h2 e p hp) hB,h3⟩
theorem RI.push{m:List Sta}{B:Int}(h:RI m i B)(k:List Int):RI (m++[⟨k,[]⟩]) i B:=λj q hq=>by
 by_cases hj:j<m.length
 . rw[List.getElem?_append_left hj]at hq;exact h j q hq
 . have hlt:=(List.getElem?_eq_some_iff.1 hq).1;rw[List.length_append,List.length_singleton]at hlt;have e:j=m.length:=o_;subst e;rw[List.getElem?_append_right (Nat.le_refl _),Nat.sub_self]at hq;cases hq;exact⟨List.Pairwise.nil,λ_ p hp=>(by cases hp),λ_=>rfl⟩
theorem RI.add{m:List Sta}{B t:Int}(h:RI m i B)(hs:B<=s):RI (zC m i s t) i (s+1):=λj q hq=>by
 unfold zC at hq;rw[List.getElem?_modify]at hq;cases hm:m[j]? with
 |none=>rw[hm]at hq;cases hq
 | some q0=>
   rw[hm]at hq;obtain ⟨h1,h2,h3⟩:=h j q0 hm;by_cases e:i=j
   . subst e;simp only[if_true,Option.map_eq_map,Option.map_some,Option.some.injEq]at hq;subst hq;refine⟨?_,λ_ p hp=>?_,λhlt=>absurd hlt (Nat.lt_irrefl _)⟩
     . show ((q0.mov++[(s,t)]).map (·.1)).Pairwise (· < ·);rw[List.map_append,List.pairwise_append];refine⟨h1,by simp,λa ha b hb=>?_⟩;obtain ⟨p,hp,rfl⟩:=List.mem_map.1 ha;simp at hb;subst hb;have:=h2 rfl p hp;omega
     . rcases List.mem_append.1 hp with hp|hp
       . have:=h2 rfl p hp;omega
       . simp at hp;subst hp;show s<s+1;omega
   . simp only[if_neg e,Option.map_eq_map,Option.map_some,Option.some.injEq]at hq;subst hq;exact⟨h1,λe'=>absurd e'.symm e,h3⟩
theorem RI.step{aft:List Int}{m m':List Sta}{B:Int}(h:RI m i B)(hs:B<=s)(he:jl g i aft (some m) s=some m'):RI m' i (s+1):=by
 unfold jl at he;simp only[Option.bind_some]at he;split at he
 . split at he
   . split at he
     . cases he
     . cases he;exact(h.push _).add hs
   . cases he;exact h.add hs
 . cases he;exact h.mono o_
theorem qe4(g:Grammar)(i:Nat)(a:List Int):∀l:List Int,l.foldl (jl g i a) none=none
 |[]=>rfl
 |s::l=>by rw[List.foldl_cons];exact qe4 g i a l
theorem RI.fold{g:Grammar}{aft:List Int}{i:Nat}:∀(l:List Int) {m m':List Sta} {B:Int},RI m i B->l.Pairwise (· < ·)->(∀x∈l,B<=x)->l.foldl (jl g i aft) (some m)=some m'->∃C,RI m' i C
 |[],m,m',B,h,_,_,e=>by cases e;exact⟨B,h⟩
 | s ::l,m,m',B,h,hp,hb,e=>by
   rw[List.foldl_cons]at e;cases hs:jl g i aft (some m) s with
   |none=>rw[hs,qe4]at e;cases e
   | some m1=>
     rw[hs]at e;have h1:=h.step (hb s (by simp)) hs;rw[List.pairwise_cons]at hp;exact RI.fold l h1 hp.2 (λx hx=>by have:=hp.1 x hx;omega) e
theorem KJ(hg:GOk g):(zB g).Pairwise (· < ·)/\∀x∈zB g,0<=x:=by
 have htk:=hg.tk2;have key:∀(n:Nat) (f:Nat->Int),(∀a b,a<b->f a<f b)->((List.range n).map f).Pairwise (· < ·):=λn f hf=>by rw[List.pairwise_map];exact List.pairwise_lt_range.imp λh=>hf _ _ h
 refine⟨?_,λx hx=>?_⟩
 . unfold zB;rw[List.pairwise_append];refine⟨key _ _ λa b h=>o_,key _ _ λa b h=>o_,λa ha b hb=>?_⟩;obtain ⟨i,hi,rfl⟩:=List.mem_map.1 ha;obtain ⟨j,hj,rfl⟩:=List.mem_map.1 hb;rw[List.mem_range]at hi;omega
 . unfold zB at hx;rcases List.mem_append.1 hx with hx|hx<;>obtain ⟨i,hi,rfl⟩:=List.mem_map.1 hx<;>omega
theorem Kk{g:Grammar}(hg:GOk g):∀(n:Nat) {m m':List Sta} {i:Nat},(∀(j:Nat) q,m[j]?=some q->RMv q/\(i<=j->q.mov=[]))->Qu g n m i=some m'->∀q∈m',RMv q
 | 0,m,m',i,h,e=>by cases e;intro q hq;obtain ⟨j,hj⟩:=List.getElem?_of_mem hq;exact(h j q hj).1
 | n +1,m,m',i,h,e=>by
   unfold Qu at e;split at e
   . obtain ⟨m1,e1,e2⟩:=Option.bind_eq_some_iff.1 e;have h0:RI m i 0:=λj q hq=>by
      obtain ⟨h1,h2⟩:=h j q hq;exact⟨h1,(λe p hp=>by rw[h2 o_]at hp;cases hp),λhlt=>h2 o_⟩
     obtain ⟨C,hC⟩:=RI.fold _ h0 (KJ hg).1 (KJ hg).2 e1;exact Kk hg n (λj q hq=>by obtain ⟨h1,_,h3⟩:=hC j q hq;exact⟨h1,λhj=>h3 o_⟩) e2
   . cases e;intro q hq;obtain ⟨j,hj⟩:=List.getElem?_of_mem hq;exact(h j q hj).1
theorem qab(hg:GOk g){m:List Sta}(h:Zr g=some m):∀q∈m,RMv q:=by
 refine Kk hg 151 (i:=0) (λj q hq=>?_) h;cases j with
 |zero=>cases hq;exact⟨List.Pairwise.nil,λ_=>rfl⟩
 |succ j=>simp at hq
def qgp(a b:Int×Int):Prop:=a.1<b.1\/(a.1=b.1/\a.2<b.2)
theorem Jp{m:List Sta}(h:∀q∈m,RMv q):(qh m).Pairwise qgp:=by
 unfold qh;rw[List.pairwise_flatMap];refine⟨λi _=>?_,?_⟩
 . rw [List.pairwise_filterMap]
   have:((((m[i]?).map (·.mov)).getD []).map (·.1)).Pairwise (· < ·):=by
    cases hq:m[i]? with
    |none=>exact List.Pairwise.nil
    |some x=>exact h x (List.mem_of_getElem? hq)
   rw[List.pairwise_map]at this;refine this.imp λ{a b} hab x hx y hy=>?_;split at hx
   . split at hy
     . simp only[Option.some.injEq]at hx hy;subst hx hy;exact Or.inr ⟨rfl,hab⟩
     . cases hy
   . cases hx
 . refine List.pairwise_lt_range.imp λ{a b} hab x hx y hy=>?_;obtain ⟨p,_,hp⟩:=List.mem_filterMap.1 hx;obtain ⟨q,_,hq⟩:=List.mem_filterMap.1 hy;split at hp
   . split at hq
     . simp only[Option.some.injEq]at hp hq;subst hp hq;exact Or.inl (by show (a:Int)<b;omega)
     . cases hq
   . cases hp
variable {T:List (Int×Int)}
theorem qcP(hT:T.Pairwise qgp){j:Nat}{a:Int×Int}(hi:T[i]?=some a)(hj:T[j]?=some a):i=j:=by
 obtain ⟨li,ei⟩:=List.getElem?_eq_some_iff.1 hi;obtain ⟨lj,ej⟩:=List.getElem?_eq_some_iff.1 hj;rcases Nat.lt_trichotomy i j with h1|h1|h1
 . have:=List.pairwise_iff_getElem.1 hT i j li lj h1;rw[ei,ej]at this;unfold qgp at this;omega
 . exact h1
 . have:=List.pairwise_iff_getElem.1 hT j i lj li h1;rw[ei,ej]at this;unfold qgp at this;omega
def Ko(T:List (Int×Int))(n:Nat):List (Int×Int×Int):=(List.range n).map λi=>((T.getD i (0,0)).1,(T.getD i (0,0)).2,(i:Int))
theorem qgw{a b:Int}(h:T[n]?=some (a,b)):Ko T (n+1)=Ko T n++[(a,b,(n:Int))]:=by unfold Ko;rw[List.range_succ,List.map_append];simp only[List.map_cons,List.map_nil,List.getD,h,Option.getD_some]
theorem qj6(hT:T.Pairwise qgp){a b:Int}(h:T[n]?=some (a,b)):∀e∈Ko T n,¬ (e.1=a/\e.2.1=b):=by
 intro e he hc;unfold Ko at he;obtain ⟨i,hi,rfl⟩:=List.mem_map.1 he;rw[List.mem_range]at hi;have hn:=(List.getElem?_eq_some_iff.1 h).1;have hg:T[i]?=some T[i]:=ge_ o_;simp only[List.getD,hg,Option.getD_some]at hc;have e2:T[i]=(a,b):=by rw[<- hc.1,<- hc.2]
 rw[e2]at hg;have:=qcP hT hg h;omega
theorem qi0{m:List Sta}(h:MOk g m)(q s:Int):goS m q s= -1\/ ∃r:Nat,goS m q s=r/\r<m.length:=by
 unfold goS;split
 . exact Or.inl rfl
 . split
   . rename_i x hx;rcases qg1 x.mov s with e|e
     . exact Or.inl e
     . exact Or.inr (h.mv x (List.mem_of_getElem? hx) _ e).2
   . exact Or.inl rfl
end Go.Proofs
