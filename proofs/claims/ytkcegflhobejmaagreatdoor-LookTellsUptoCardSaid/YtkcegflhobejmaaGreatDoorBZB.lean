import Derived.Test.YtkcegflhobejmaaGreatDoorBZA
set_option maxRecDepth 20000
set_option linter.all false
set_option maxHeartbeats 4000000
namespace Go.Proofs
open Go.E
variable {α β:Type} {i:Nat}
theorem qhs(f:β->α->β)(b:β){l:List α}{x:α}(h:l[i]?=some x):(l.take (i+1)).foldl f b=f ((l.take i).foldl f b) x:=by rw[List.take_add_one,h,List.foldl_append];rfl
variable {g:Grammar} {l:List Int}
theorem zR(hg:GOk g)(hx:∀x∈l,Zn g x)(hr:jP l):IsCl g l (zo g l)/\(∀x∈zo g l,Zn g x)/\(zo g l).length<=960:=by have h:=qcj hg.pl2 hg.rlen hx hr;refine⟨h,h.ok hx,?_⟩;exact ClM.len ⟨h.rise,h.clo.1,h.least,h.ok hx⟩ hg.pl2
theorem qis{x:Int}(hrl:∀p∈g.prods,p.right.length<=8)(h:Zn g x):(x+1) / 16=x / 16/\(x+1) % 16=x % 16+1/\0<=x % 16/\x % 16<=8:=by obtain ⟨h0,p,hp,hd⟩:=h;have:=hrl p (List.mem_of_getElem? hp);omega
variable {sy:Int}
theorem VS(hx:∀x∈l,Zn g x)(hr:jP l)(hl:l.length<=1000000)(hg:GOk g):Pure Tryz.prog 86 [g.V,.sl 2 false (l.map itV),vi sy] (.sl 2 false ((Jt g l sy).map itV)):=by
 refine pure_intro Tryz.func86 nm_ qtf (by show 3<=48;decide) ?_
 show ewp _ qv6 _ _;have hcl:=xW hx hr hl hg;obtain ⟨hI,hok,hcb⟩:=zR hg hx hr;have hdef:Jt g l sy=(zo g l).foldl (λo x=>if 0<=nxt g x/\nxt g x=sy then jm o (x+1)else o) []:=rfl;rw[hdef];generalize zo g l=cl at *;repeat' with_reducible first|refine s_ ?_|simp -implicitDefEqProofs only[wZZ,seval]|refine cq2 hcl qf qf ?_|refine t_ ?_
 refine qc ?nx1 (λ(i:Nat) s=>s.f 2=?v1_2/\s.f 3=?v1_3/\s.f 8=?v1_8/\s.H 0=some (.own 5 [g.V] false)/\(∃c,s.f 7=.sl 2 c (((cl.take i).foldl (λo x=>if 0<=nxt g x/\nxt g x=sy then jm o (x+1)else o) []).map itV))/\s.f 9=vi i/\(i<=cl.length)/\(((cl.take i).foldl (λo x=>if 0<=nxt g x/\nxt g x=sy then jm o (x+1)else o) []).length<=i)) (λi=>cl.length - i) (0) wj_ (by refine⟨?_,?_,?_,?_,?_,?_,wo_,wo_⟩<;>first|(simp -implicitDefEqProofs only[wL,wM,wN,wX,seval,Option.some.injEq]<;>exact wt_)|rfl|exact⟨_,rfl⟩) ?_;intro i s hnx ⟨g2,g3,g8,o0,⟨c7,g7⟩,g9,k1_0,k1_1⟩;have hz:=w1_ i;by_cases hi:i<cl.length
 . have hgi:cl[i]?=some cl[i]:=ge_ hi;have hst:=qhs (λ(o:List Int) x=>if 0<=nxt g x/\nxt g x=sy then jm o (x+1)else o) [] hgi;have hxo:=hok _ (List.getElem_mem hi);have hnx:=yB hxo hg.pl2 hg.rlen;have hbd:=qjq hg hxo;have hin:=qis hg.rlen hxo;generalize cl[i]=x at *;generalize (cl.take i).foldl (λo x=>if 0<=nxt g x/\nxt g x=sy then jm o (x+1)else o) []=o at *;generalize nxt g x=nx at *;have hzd:IntKind.i64.wrap (x % 16+1)=x % 16+1:=wrap64 o_ o_;have hput:=vG (l:=o) (x:=x+1) o_;have hpl:=Yh o (x+1);have hkv:itV (x+1)=.agg [vi (x / 16),vi (x % 16+1)]:=(by rw[<- hin.1,<- hin.2.1]);rw[hkv]at hput;by_cases hc:0<=nx/\nx=sy
   . rw[if_pos hc]at hst;repeat' with_reducible first|refine s_ ?_|simp -implicitDefEqProofs only[wZZ,seval,g2,g3,g8,g7,g9,o0,hz,hzd]|(first|apply qa|apply ql|apply qj)<;>intro h h_<;>(try simp only[wD,reduceCtorEq]at h_)<;>(try exact wb_)<;>(try simp only[h])|refine t_ ?_|refine cq2 hnx qf qf ?_|refine cq2 hput jO qf ?_
     refine⟨wk_,i+1,o_,?_⟩;refine⟨?_,?_,?_,?_,?_,?_,?_,?_⟩;iterate 6 (focus(first|(simp -implicitDefEqProofs only[wL,wM,wN,wX,seval,Option.some.injEq,g2,g3,g8,g7,g9,o0,hst]<;>exact wt_)|rfl|exact⟨_,rfl⟩))
     all_goals try omega
     rw[hst];omega
   . rw[if_neg hc]at hst;repeat' with_reducible first|refine s_ ?_|simp -implicitDefEqProofs only[wZZ,seval,g2,g3,g8,g7,g9,o0,hz,hzd]|(first|apply qa|apply ql|apply qj)<;>intro h h_<;>(try simp only[wD,reduceCtorEq]at h_)<;>(try exact wb_)<;>(try simp only[h])|refine t_ ?_|refine cq2 hnx qf qf ?_
     all_goals exact⟨wg_,i+1,o_,trivial,trivial,trivial,trivial,⟨_,by rw[hst]⟩,rfl,o_,by rw[hst];omega⟩
 . have e:cl.take i=cl:=List.take_of_length_le o_;rw[e]at g7;repeat' with_reducible first|refine s_ ?_|simp -implicitDefEqProofs only[wZZ,seval,g2,g3,g8,g7,g9,o0,hz]|apply qa<;>intro h h_<;>(try simp only[wD,reduceCtorEq]at h_)<;>(try exact wb_)<;>(try simp only[h])
   all_goals refine qx rfl (Or.inr rfl) ?_
   all_goals(try simp -implicitDefEqProofs only[wL,seval,g2,g3,g8,g7,g9])
   all_goals refine er_ ?_
   all_goals(try(with_reducible rfl))
theorem JJ(hg:GOk g):Pure Tryz.prog 83 [g.V] (.sl 1 false ((jf g).map (V.int .i64))):=by
 refine pure_intro Tryz.func83 nm_ qvh (by show 1<=30;decide) ?_
 show ewp _ qqL _ _;have htl:=hg.tk2;have hnl:=hg.nn2;have hdef:jf g=(List.range g.toks.length).map (λ(i:Nat)=>(i:Int))++(List.range g.nons.length).map λ(i:Nat)=>1000+(i:Int):=rfl;rw[hdef];repeat' with_reducible first|refine s_ ?_|simp -implicitDefEqProofs only[wZZ,seval]|refine t_ ?_
 refine qc ?nx1 (λ(i:Nat) s=>s.f 1=?v1_1/\s.H 0=some (.own 5 [g.V] false)/\(∃v,s.f 3=v/\Gr s.H s.next 1 (((List.range i).map (λ(i:Nat)=>(i:Int))).map (V.int .i64)) v)/\s.f 4=vi i/\(i<=g.toks.length)) (λi=>g.toks.length - i) (0) wj_ (by refine⟨?_,?_,?_,?_,wo_⟩<;>first|(simp -implicitDefEqProofs only[wL,wM,wN,wX,seval,Option.some.injEq]<;>exact wt_)|rfl|exact⟨_,rfl⟩) ?_;intro i s hnx ⟨g1,o0,⟨v3,g3,G3⟩,g4,k1_0⟩;have hz:=w1_ i;by_cases hi:i<g.toks.length
 . have hst:(List.range (i+1)).map (λ(i:Nat)=>(i:Int))=(List.range i).map (λ(i:Nat)=>(i:Int))++[(i:Int)]:=(by rw[List.range_succ,List.map_append];rfl);have hlr:((List.range i).map (λ(i:Nat)=>(i:Int))).length=i:=(by simp);repeat' with_reducible first|refine s_ ?_|simp -implicitDefEqProofs only[wZZ,seval,g1,g3,g4,o0,Gr.dropO G3 o0,hz,G3.len]|apply qa<;>intro h h_<;>(try simp only[wD,reduceCtorEq]at h_)<;>(try exact wb_)<;>(try simp only[h])|apply qX rfl (G3.mono (Nat.le_refl _) (λid h1 h2=>by(try simp only[wM]);(repeat rw[if_neg o_])));(focus(first|exact qM.sl|exact qM.asl));(focus(simp only[wZ,hlr];omega));(focus(unfold maxLen;simp only[wZ,hlr];omega))|refine t_ ?_
   refine⟨wk_,i+1,o_,?_⟩;refine⟨?_,?_,?_,?_,?_⟩;iterate 4 (focus(first|(simp -implicitDefEqProofs only[wL,wM,wN,wX,seval,Option.some.injEq,g1,g3,g4,o0,Gr.dropO G3 o0,hst]<;>first|rfl|exact⟨_,rfl⟩|exact⟨_,rfl,by first|assumption|exact Gr.nil|exact Gr.tok rfl o_|exact Gr.tok (by simp -implicitDefEqProofs only[wM,seval]<;>rfl) o_|exact Gr.clip|exact G3.to fs_ o_ rfl|exact G3.mono' fs_ o_ (λj hj hl=>by(try simp only[wM,yg]);repeat(first|rfl|rw[if_neg o_]))⟩)|rfl|exact⟨_,rfl⟩|exact⟨_,rfl,by first|assumption|exact G3.to fs_ o_ rfl|exact G3.mono' fs_ o_ (λj hj hl=>by(try simp only[wM,yg]);repeat(first|rfl|rw[if_neg o_]))⟩))
   all_goals try omega
 . have e:i=g.toks.length:=o_;subst e;repeat' with_reducible first|refine s_ ?_|simp -implicitDefEqProofs only[wZZ,seval,g1,g3,g4,o0,Gr.dropO G3 o0,hz,G3.len]|refine t_ ?_
   refine qc ?nx2 (λ(j:Nat) s=>s.f 1=?v2_1/\s.H 0=some (.own 5 [g.V] false)/\(∃v,s.f 3=v/\Gr s.H s.next 1 (((List.range g.toks.length).map (λ(i:Nat)=>(i:Int))++(List.range j).map λ(i:Nat)=>1000+(i:Int)).map (V.int .i64)) v)/\s.f 5=vi j/\(j<=g.nons.length)) (λj=>g.nons.length - j) (0) wj_ (by refine⟨?_,?_,?_,?_,wo_⟩<;>first|(simp -implicitDefEqProofs only[wL,wM,wN,wX,seval,Option.some.injEq,g1,g3,g4,o0,Gr.dropO G3 o0]<;>first|rfl|exact⟨_,rfl⟩|exact⟨_,rfl,by first|assumption|exact Gr.nil|exact Gr.tok rfl o_|exact Gr.tok (by simp -implicitDefEqProofs only[wM,seval]<;>rfl) o_|exact Gr.clip|exact G3.to fs_ o_ rfl|exact G3.mono' fs_ o_ (λj hj hl=>by(try simp only[wM,yg]);repeat(first|rfl|rw[if_neg o_]))⟩)|rfl|exact⟨_,rfl⟩|exact⟨_,rfl,by first|assumption|exact G3.to fs_ o_ rfl|exact G3.mono' fs_ o_ (λj hj hl=>by(try simp only[wM,yg]);repeat(first|rfl|rw[if_neg o_]))⟩) ?_;intro j s hnx ⟨g1,o0,⟨v3,g3,G3⟩,g5,k2_0⟩;have hzj:=w1_ j;have hzk:IntKind.i64.wrap (1000+(j:Int))=1000+(j:Int):=wrap64 o_ o_;by_cases hj:j<g.nons.length
   . have hst:(List.range g.toks.length).map (λ(i:Nat)=>(i:Int))++(List.range (j+1)).map (λ(i:Nat)=>1000+(i:Int))=((List.range g.toks.length).map (λ(i:Nat)=>(i:Int))++(List.range j).map λ(i:Nat)=>1000+(i:Int))++[1000+(j:Int)]:=(by rw[List.range_succ,List.map_append,List.append_assoc];rfl);have hlr:((List.range g.toks.length).map (λ(i:Nat)=>(i:Int))++(List.range j).map λ(i:Nat)=>1000+(i:Int)).length=g.toks.length+j:=(by simp);repeat' with_reducible first|refine s_ ?_|simp -implicitDefEqProofs only[wZZ,seval,g1,g3,g5,o0,Gr.dropO G3 o0,hzj,hzk,G3.len]|apply qa<;>intro h h_<;>(try simp only[wD,reduceCtorEq]at h_)<;>(try exact wb_)<;>(try simp only[h])|apply qX rfl (G3.mono (Nat.le_refl _) (λid h1 h2=>by(try simp only[wM]);(repeat rw[if_neg o_])));(focus(first|exact qM.sl|exact qM.asl));(focus(simp only[wZ,hlr];omega));(focus(unfold maxLen;simp only[wZ,hlr];omega))|refine t_ ?_
     refine⟨wk_,j+1,o_,?_⟩;refine⟨?_,?_,?_,?_,?_⟩;iterate 4 (focus(first|(simp -implicitDefEqProofs only[wL,wM,wN,wX,seval,Option.some.injEq,g1,g3,g5,o0,Gr.dropO G3 o0,hst]<;>first|rfl|exact⟨_,rfl⟩|exact⟨_,rfl,by first|assumption|exact Gr.nil|exact Gr.tok rfl o_|exact Gr.tok (by simp -implicitDefEqProofs only[wM,seval]<;>rfl) o_|exact Gr.clip|exact G3.to fs_ o_ rfl|exact G3.mono' fs_ o_ (λj hj hl=>by(try simp only[wM,yg]);repeat(first|rfl|rw[if_neg o_]))⟩)|rfl|exact⟨_,rfl⟩|exact⟨_,rfl,by first|assumption|exact G3.to fs_ o_ rfl|exact G3.mono' fs_ o_ (λj hj hl=>by(try simp only[wM,yg]);repeat(first|rfl|rw[if_neg o_]))⟩))
     all_goals try omega
   . have e:j=g.nons.length:=o_;subst e;repeat' with_reducible first|refine s_ ?_|simp -implicitDefEqProofs only[wZZ,seval,g1,g3,g5,o0,Gr.dropO G3 o0,G3.len]|refine t_ ?_
     all_goals refine qx rfl (Or.inr rfl) ?_
     all_goals(try simp -implicitDefEqProofs only[wL,seval,g1,g3,g5])
     all_goals(first|refine er_ ?_ |refine G3.er ?_)
     all_goals(try(with_reducible rfl))

variable {n:Nat}
theorem qgW{k:List Int}{m:List Sta}{q:Sta}(h:m[i]?=some q):XJ k (m.drop i) n=if q.ker=k then(n:Int)else XJ k (m.drop (i+1)) (n+1):=by have hi:=(List.getElem?_eq_some_iff.1 h);rw[List.drop_eq_getElem_cons hi.1,hi.2];rfl
theorem VP{m:List Sta}{k:List Int}(hm:m.length<=1000000)(hk:k.length<=1000000)(hq:∀q∈m,q.ker.length<=1000000):Pure Tryz.prog 87 [.sl 2 false (m.map Sta.V),.sl 2 false (k.map itV)] (vi (Jy m k)):=by
 refine pure_intro Tryz.func87 nm_ qtg (by show 2<=20;decide) ?_
 show ewp _ qsw _ _;repeat' with_reducible first|refine s_ ?_|simp -implicitDefEqProofs only[wZZ,seval]
 refine qc ?nx1 (λ(i:Nat) s=>s.f 0=?v1_0/\s.f 1=?v1_1/\s.f 5=vi i/\(i<=m.length)/\(Jy m k=XJ k (m.drop i) i)) (λi=>m.length - i) (0) wj_ (by refine⟨?_,?_,?_,wo_,(by rfl)⟩<;>first|(simp -implicitDefEqProofs only[wL,wM,wN,wX,seval,Option.some.injEq]<;>exact wt_)|rfl|exact⟨_,rfl⟩) ?_;intro i s hnx ⟨g0,g1,g5,k1_0,k1_1⟩;have hz:=w1_ i;by_cases hi:i<m.length
 . have hgi:m[i]?=some m[i]:=ge_ hi;have hst:=qgW (k:=k) (n:=i) hgi;have he:=Xv (a:=m[i].ker) (b:=k) (by have:=hq _ (List.getElem_mem hi);omega) o_;generalize m[i]=q at *;obtain ⟨qk,qm⟩:=q;dsimp only at hst he;by_cases hc:qk=k
   . rw[if_pos hc]at hst;rw[decide_eq_true hc]at he;rw[k1_1,hst];repeat' with_reducible first|refine s_ ?_|simp -implicitDefEqProofs only[wZZ,seval,g0,g1,g5,hz]|apply qa<;>intro h h_<;>(try simp only[wD,reduceCtorEq]at h_)<;>(try exact wb_)<;>(try simp only[h])|refine t_ ?_|refine cq2 he qf qf ?_
     all_goals refine qx rfl (Or.inr rfl) ?_
     all_goals(try simp -implicitDefEqProofs only[wL,seval,g0,g1,g5])
     all_goals refine er_ ?_
     all_goals(try(with_reducible rfl))
   . rw[if_neg hc]at hst;rw[decide_eq_false hc]at he;repeat' with_reducible first|refine s_ ?_|simp -implicitDefEqProofs only[wZZ,seval,g0,g1,g5,hz]|apply qa<;>intro h h_<;>(try simp only[wD,reduceCtorEq]at h_)<;>(try exact wb_)<;>(try simp only[h])|refine t_ ?_|refine cq2 he qf qf ?_
     refine⟨wk_,i+1,o_,?_⟩;refine⟨?_,?_,?_,?_,?_⟩;iterate 3 (focus(first|(simp -implicitDefEqProofs only[wL,wM,wN,wX,seval,Option.some.injEq,g0,g1,g5]<;>exact wt_)|rfl|exact⟨_,rfl⟩))
     all_goals try omega
 . have e:m.drop i=[]:=List.drop_of_length_le o_;rw[e]at k1_1;rw[k1_1];repeat' with_reducible first|refine s_ ?_|simp -implicitDefEqProofs only[wZZ,seval,g0,g1,g5,hz]|apply qa<;>intro h h_<;>(try simp only[wD,reduceCtorEq]at h_)<;>(try exact wb_)<;>(try simp only[h])
   all_goals refine qx rfl (Or.inr rfl) ?_
   all_goals(try simp -implicitDefEqProofs only[wL,seval,g0,g1,g5])
   all_goals refine er_ ?_
   all_goals(try(with_reducible rfl))
   all_goals rfl
variable {s:Int} {p:Int×Int}
theorem qhT{l:List (Int×Int)}(h:l[i]?=some p):goL (l.drop i) s=if p.1=s then p.2 else goL (l.drop (i+1)) s:=by have hi:=(List.getElem?_eq_some_iff.1 h);rw[List.drop_eq_getElem_cons hi.1,hi.2];rfl
theorem qlP{m:List Sta}{q:Nat}{x:Sta}(h:m[q]?=some x)(s:Int):goS m (q:Int) s=goL x.mov s:=by unfold goS;rw[if_neg o_,show ((q:Int)).toNat=q from rfl,h]
variable {q:Int}
theorem qmP{m:List Sta}(h:q<0\/(m.length:Int)<=q)(s:Int):goS m q s= -1:=by
 unfold goS;split
 . rfl
 . rw[List.getElem?_eq_none o_]
theorem kZ{m:List Sta}(hm:m.length<=1000000)(hq:∀q∈m,q.mov.length<=1000000):Pure Tryz.prog 54 [.sl 2 false (m.map Sta.V),vi q,vi sy] (vi (goS m q sy)):=by
 refine pure_intro Tryz.func54 nm_ qsA (by show 3<=48;decide) ?_
 show ewp _ qra _ _;repeat' with_reducible first|refine s_ ?_|simp -implicitDefEqProofs only[wZZ,seval]
 refine qc ?nx1 (λ(i:Nat) s=>s.f 0=?v1_0/\s.f 1=?v1_1/\s.f 2=?v1_2/\s.f 7=vi i/\((∀x,m[q.toNat]?=some x->i<=x.mov.length/\goL x.mov sy=goL (x.mov.drop i) sy))) (λi=>((m[q.toNat]?).map (·.mov.length)).getD 0 - i) (0) wj_ (by refine⟨?_,?_,?_,?_,(by exact λx _=>⟨Nat.zero_le _,rfl⟩)⟩<;>first|(simp -implicitDefEqProofs only[wL,wM,wN,wX,seval,Option.some.injEq]<;>exact wt_)|rfl|exact⟨_,rfl⟩) ?_;intro i s hnx ⟨g0,g1,g2,g7,k1_0⟩;have hz:i<1000000->IntKind.i64.wrap ((i+1:Nat):Int)=((i+1:Nat):Int):=λh=>wrap64 o_ o_;by_cases hin:0<=q/\q<m.length
 . obtain ⟨n,rfl⟩:∃n:Nat,q=(n:Int):=⟨q.toNat,o_⟩;have hgn:m[n]?=some m[n]:=ge_ o_;have hml:=hq _ (List.getElem_mem (show n<m.length by omega));rw[qlP hgn];rw[show ((n:Int)).toNat=n from rfl]at *;generalize m[n]=x at *;obtain ⟨h1,h2⟩:=k1_0 _ hgn;obtain ⟨xk,xm⟩:=x;dsimp only at hml h1 h2 ⊢;by_cases hi:i<xm.length
   . have hz:=hz o_;have hgi:xm[i]?=some xm[i]:=ge_ hi;have hst:=qhT (s:=sy) hgi;generalize xm[i]=p at *;obtain ⟨p1,p2⟩:=p;dsimp only at hst;by_cases hc:p1=sy
     . rw[if_pos hc]at hst;rw[h2,hst];repeat' with_reducible first|refine s_ ?_|simp -implicitDefEqProofs only[wZZ,seval,g0,g1,g2,g7,hz]|(first|apply qa|apply ql|apply qj)<;>intro h h_<;>(try simp only[wD,reduceCtorEq]at h_)<;>(try exact wb_)<;>(try simp only[h])|refine t_ ?_
       all_goals refine qx rfl (Or.inr rfl) ?_
       all_goals(try simp -implicitDefEqProofs only[wL,seval,g0,g1,g2,g7])
       all_goals refine er_ ?_
       all_goals(try(with_reducible rfl))
     . rw[if_neg hc]at hst;repeat' with_reducible first|refine s_ ?_|simp -implicitDefEqProofs only[wZZ,seval,g0,g1,g2,g7,hz]|(first|apply qa|apply ql|apply qj)<;>intro h h_<;>(try simp only[wD,reduceCtorEq]at h_)<;>(try exact wb_)<;>(try simp only[h])|refine t_ ?_
       refine⟨wg_,i+1,by simp only[hgn,Option.map_some,Option.getD_some];omega,?_⟩;(repeat refine⟨True.intro,?_⟩);refine⟨rfl,λx hx=>?_⟩;rw[hgn]at hx;cases hx;exact⟨d_,by dsimp only;rw[h2,hst]⟩
   . have e:xm.drop i=[]:=List.drop_of_length_le o_;rw[e]at h2;rw[h2];repeat' with_reducible first|refine s_ ?_|simp -implicitDefEqProofs only[wZZ,seval,g0,g1,g2,g7]|(first|apply qa|apply ql|apply qj)<;>intro h h_<;>(try simp only[wD,reduceCtorEq]at h_)<;>(try exact wb_)<;>(try simp only[h])|refine t_ ?_
     all_goals refine qx rfl (Or.inr rfl) ?_
     all_goals(try simp -implicitDefEqProofs only[wL,seval,g0,g1,g2,g7])
     all_goals refine er_ ?_
     all_goals(try(with_reducible rfl))
     all_goals rfl
 . rw[qmP o_];repeat' with_reducible first|refine s_ ?_|simp -implicitDefEqProofs only[wZZ,seval,g0,g1,g2,g7]|(first|apply ql|apply qj)<;>intro h h_<;>(try simp only[wD,reduceCtorEq]at h_)<;>(try exact wb_)<;>(try simp only[h])
   all_goals refine qx rfl (Or.inr rfl) ?_
   all_goals(try simp -implicitDefEqProofs only[wL,seval,g0,g1,g2,g7])
   all_goals refine er_ ?_
   all_goals(try(with_reducible rfl))
theorem qbO{m:List Sta}(h:l[i]?=some s):zH m q (l.drop i)=if q<0 then q else zH m (goS m q s) (l.drop (i+1)):=by have hi:=(List.getElem?_eq_some_iff.1 h);rw[List.drop_eq_getElem_cons hi.1,hi.2];rfl
theorem qco{m:List Sta}(h:q<0):∀l,zH m q l=q
 |[]=>rfl
 |s::l=>by unfold zH;rw[if_pos h]
theorem QN{m:List Sta}(hm:m.length<=1000000)(hq:∀q∈m,q.mov.length<=1000000)(hl:l.length<=1000000):Pure Tryz.prog 61 [.sl 2 false (m.map Sta.V),vi q,.sl 1 false (l.map (V.int .i64))] (vi (zH m q l)):=by
 refine pure_intro Tryz.func61 nm_ qrv (by show 3<=26;decide) ?_
 show ewp _ qtL _ _;repeat' with_reducible first|refine s_ ?_|simp -implicitDefEqProofs only[wZZ,seval]
 refine qc ?nx1 (λ(p:Nat×Int) s=>s.f 0=?v1_0/\s.f 2=?v1_2/\s.f 7=vi p.1/\(p.1<=l.length)/\(zH m q l=zH m p.2 (l.drop p.1))/\(s.f 1=.int .i64 p.2)) (λp=>l.length - p.1) ((0,q)) wj_ (by refine⟨?_,?_,?_,wo_,(by rfl),(by(try simp -implicitDefEqProofs only[wL,wM,wN,seval]);first|done|rfl)⟩<;>first|(simp -implicitDefEqProofs only[wL,wM,wN,wX,seval,Option.some.injEq]<;>exact wt_)|rfl|exact⟨_,rfl⟩) ?_;intro p s hnx ⟨g0,g2,g7,k1_0,k1_1,g1⟩;obtain ⟨i,r⟩:=p;dsimp only at *;have hz:=w1_ i;by_cases hi:i<l.length/\0<=r
 . obtain ⟨hi,hr⟩:=hi;have hgi:l[i]?=some l[i]:=ge_ hi;have hst:=qbO (m:=m) (q:=r) hgi;rw[if_neg o_]at hst;have hgo:=kZ (q:=r) (sy:=l[i]) hm hq;generalize l[i]=sy at *;repeat' with_reducible first|refine s_ ?_|simp -implicitDefEqProofs only[wZZ,seval,g0,g2,g7,g1,hz]|(first|apply qa|apply ql|apply qj)<;>intro h h_<;>(try simp only[wD,reduceCtorEq]at h_)<;>(try exact wb_)<;>(try simp only[h])|refine t_ ?_|refine cq3 hgo qf qf qf ?_
   refine⟨wg_,(i+1,goS m r sy),d_,?_⟩;(repeat refine⟨True.intro,?_⟩);exact⟨rfl,d_,by rw[k1_1,hst],rfl⟩
 . have e:zH m r (l.drop i)=r:=by
    by_cases h:r<0
    . exact qco h _
    . rw[List.drop_of_length_le o_];rfl
   rw[k1_1,e];repeat' with_reducible first|refine s_ ?_|simp -implicitDefEqProofs only[wZZ,seval,g0,g2,g7,g1,hz]|(first|apply qa|apply ql|apply qj)<;>intro h h_<;>(try simp only[wD,reduceCtorEq]at h_)<;>(try exact wb_)<;>(try simp only[h])
   all_goals refine qx rfl (Or.inr rfl) ?_
   all_goals(try simp -implicitDefEqProofs only[wL,seval,g0,g2,g7,g1])
   all_goals refine er_ ?_
   all_goals(try(with_reducible rfl))

def qdc(m:List Sta)(i:Nat):List (Int×Int):=(m[i]?.map (·.mov)).getD []
abbrev trF(i:Nat):Int×Int->Option (Int×Int):=λp=>if 1000<=p.1 then some ((i:Int),p.1)else none
def jV(m:List Sta)(n:Nat):List (Int×Int):=(List.range n).flatMap λi=>(qdc m i).filterMap (trF i)
theorem yF(m:List Sta)(n:Nat):jV m (n+1)=jV m n++(qdc m n).filterMap (trF n):=by unfold jV;rw[List.range_succ,List.flatMap_append];simp
theorem qcY(f:α->Option β){l:List α}{x:α}(h:l[i]?=some x):(l.take (i+1)).filterMap f=(l.take i).filterMap f++(f x).toList:=by rw[List.take_add_one,h,List.filterMap_append];cases hf:f x<;>simp[hf]
theorem jB{m:List Sta}(hm:m.length<=1000)(hq:∀q∈m,q.mov.length<=1000):Pure Tryz.prog 16 [.sl 2 false (m.map Sta.V)] (.sl 2 false ((qg m).map prV)):=by
 refine pure_intro Tryz.func16 nm_ qq3 (by show 1<=47;decide) ?_
 show ewp _ qsK _ _;have hdef:qg m=jV m m.length:=rfl;rw[hdef];repeat' with_reducible first|refine s_ ?_|simp -implicitDefEqProofs only[wZZ,seval]
 refine qc ?nx1 (λ(i:Nat) s=>s.f 0=?v1_0/\(∃v,s.f 3=v/\Gr s.H s.next 2 ((jV m i).map prV) v)/\s.f 4=vi i/\(i<=m.length)/\((jV m i).length<=i *1000)) (λi=>m.length - i) (0) wj_ (by refine⟨?_,?_,?_,wo_,(by exact Nat.zero_le _)⟩<;>first|(simp -implicitDefEqProofs only[wL,wM,wN,wX,seval,Option.some.injEq]<;>exact wt_)|rfl|exact⟨_,rfl⟩) ?_;intro i s hnx ⟨g0,⟨v3,g3,G3⟩,g4,k1_0,k1_1⟩;have hz:=w1_ i;by_cases hi:i<m.length
 . have hgi:m[i]?=some m[i]:=ge_ hi;have hml:=hq _ (List.getElem_mem hi);have hst:=yF m i;have hmi:qdc m i=m[i].mov:=(by unfold qdc;rw[hgi];rfl);rw[hmi]at hst;generalize m[i]=x at *;generalize hT:jV m i=T at *;obtain ⟨xk,xm⟩:=x;dsimp only at hml hst;repeat' with_reducible first|refine s_ ?_|simp -implicitDefEqProofs only[wZZ,seval,g0,g3,g4,hz,G3.len]|apply qa<;>intro h h_<;>(try simp only[wD,reduceCtorEq]at h_)<;>(try exact wb_)<;>(try simp only[h])
   refine qc ?nx2 (λ(j:Nat) s=>s.f 0=?v2_0/\s.f 4=?v2_4/\(∃v,s.f 3=v/\Gr s.H s.next 2 ((T++(xm.take j).filterMap (trF i)).map prV) v)/\s.f 5=vi j/\(j<=xm.length)/\(((xm.take j).filterMap (trF i)).length<=j)) (λj=>xm.length - j) (0) wj_ (by refine⟨?_,?_,?_,?_,wo_,(by exact Nat.zero_le _)⟩<;>first|(simp -implicitDefEqProofs only[wL,wM,wN,wX,seval,Option.some.injEq,g0,g3,g4]<;>first|rfl|exact⟨_,rfl⟩|exact⟨_,rfl,by first|assumption|exact Gr.nil|exact Gr.tok rfl o_|exact Gr.tok (by simp -implicitDefEqProofs only[wM,seval]<;>rfl) o_|exact Gr.clip|exact G3.to fs_ o_ rfl|exact G3.mono' fs_ o_ (λj hj hl=>by(try simp only[wM,yg]);repeat(first|rfl|rw[if_neg o_]))⟩)|rfl|exact⟨_,rfl⟩|exact⟨_,rfl,by first|assumption|exact G3.to fs_ o_ rfl|exact G3.mono' fs_ o_ (λj hj hl=>by(try simp only[wM,yg]);repeat(first|rfl|rw[if_neg o_]))⟩) ?_;intro j s hnx ⟨g0,g4,⟨v3,g3,G3⟩,g5,k2_0,k2_1⟩;have hzj:=w1_ j;by_cases hj:j<xm.length
   . have hgj:xm[j]?=some xm[j]:=ge_ hj;have hst2:=qcY (trF i) hgj;generalize xm[j]=p at *;generalize (xm.take j).filterMap (trF i)=U at *;obtain ⟨p1,p2⟩:=p;by_cases hc:1000<=p1
     . have hst3:(xm.take (j+1)).filterMap (trF i)=U++[((i:Int),p1)]:=(by rw[hst2];simp[trF,hc]);have hlr:(T++U).length=T.length+U.length:=List.length_append;repeat' with_reducible first|refine s_ ?_|simp -implicitDefEqProofs only[wZZ,seval,g0,g4,g3,g5,hzj,G3.len]|apply qa<;>intro h h_<;>(try simp only[wD,reduceCtorEq]at h_)<;>(try exact wb_)<;>(try simp only[h])|apply qX rfl (G3.mono (Nat.le_refl _) (λid h1 h2=>by(try simp only[wM]);(repeat rw[if_neg o_])));(focus(first|exact qM.sl|exact qM.asl));(focus(simp only[wZ,hlr];omega));(focus(unfold maxLen;simp only[wZ,hlr];omega))|refine t_ ?_
       exact⟨wg_,j+1,o_,trivial,trivial,⟨_,rfl,by rw[hst3,<- List.append_assoc,List.map_append];exact Gr.tok (id:=s.next+8+10+13) (fin:=(T++U).length+1) hh_ wg_⟩,rfl,o_,by rw[hst3,List.length_append,List.length_singleton];omega⟩
     . have hst3:(xm.take (j+1)).filterMap (trF i)=U:=(by rw[hst2];simp[trF,hc]);repeat' with_reducible first|refine s_ ?_|simp -implicitDefEqProofs only[wZZ,seval,g0,g4,g3,g5,hzj,G3.len]|apply qa<;>intro h h_<;>(try simp only[wD,reduceCtorEq]at h_)<;>(try exact wb_)<;>(try simp only[h])|refine t_ ?_
       refine⟨wk_,j+1,o_,?_⟩;refine⟨?_,?_,?_,?_,?_,?_⟩;iterate 4 (focus(first|(simp -implicitDefEqProofs only[wL,wM,wN,wX,seval,Option.some.injEq,g0,g4,g3,g5,hst3]<;>first|rfl|exact⟨_,rfl⟩|exact⟨_,rfl,by first|assumption|exact Gr.nil|exact Gr.tok rfl o_|exact Gr.tok (by simp -implicitDefEqProofs only[wM,seval]<;>rfl) o_|exact Gr.clip|exact G3.to fs_ o_ rfl|exact G3.mono' fs_ o_ (λj hj hl=>by(try simp only[wM,yg]);repeat(first|rfl|rw[if_neg o_]))⟩)|rfl|exact⟨_,rfl⟩|exact⟨_,rfl,by first|assumption|exact G3.to fs_ o_ rfl|exact G3.mono' fs_ o_ (λj hj hl=>by(try simp only[wM,yg]);repeat(first|rfl|rw[if_neg o_]))⟩))
       all_goals try omega
       rw[hst3];omega
   . have e:xm.take j=xm:=List.take_of_length_le o_;rw[e]at G3 k2_1;rw[<- hst]at G3;repeat' with_reducible first|refine s_ ?_|simp -implicitDefEqProofs only[wZZ,seval,g0,g4,g3,g5,hz,G3.len]|apply qa<;>intro h h_<;>(try simp only[wD,reduceCtorEq]at h_)<;>(try exact wb_)<;>(try simp only[h])|refine t_ ?_
     exact⟨wg_,i+1,o_,trivial,⟨v3,rfl,G3.mono wg_ (λ_ _ _=>rfl)⟩,rfl,o_,by rw[hst,List.length_append];omega⟩
 . have e:i=m.length:=o_;subst e
   skip
   repeat' with_reducible first|refine s_ ?_|simp -implicitDefEqProofs only[wZZ,seval,g0,g3,g4,hz,G3.len]
   all_goals refine qx rfl (Or.inr rfl) ?_
   all_goals(try simp -implicitDefEqProofs only[wL,seval,g0,g3,g4])
   all_goals(first|refine er_ ?_ |refine G3.er ?_)
   all_goals(try(with_reducible rfl))

theorem qkA{t:List (Int×Int)}(h:t[i]?=some p):qe4 q sy (t.drop i) n=if p.1=q/\p.2=sy then(n:Int)else qe4 q sy (t.drop (i+1)) (n+1):=by have hi:=(List.getElem?_eq_some_iff.1 h);rw[List.drop_eq_getElem_cons hi.1,hi.2];rfl
theorem kQ{t:List (Int×Int)}(ht:t.length<=1000000):Pure Tryz.prog 58 [.sl 2 false (t.map prV),vi q,vi sy] (vi (JA t q sy)):=by
 refine pure_intro Tryz.func58 nm_ qvD (by show 3<=31;decide) ?_
 show ewp _ qwS _ _;repeat' with_reducible first|refine s_ ?_|simp -implicitDefEqProofs only[wZZ,seval]
 refine qc ?nx1 (λ(i:Nat) s=>s.f 0=?v1_0/\s.f 1=?v1_1/\s.f 2=?v1_2/\s.f 7=vi i/\(i<=t.length)/\(JA t q sy=qe4 q sy (t.drop i) i)) (λi=>t.length - i) (0) wj_ (by refine⟨?_,?_,?_,?_,wo_,(by rfl)⟩<;>first|(simp -implicitDefEqProofs only[wL,wM,wN,wX,seval,Option.some.injEq]<;>exact wt_)|rfl|exact⟨_,rfl⟩) ?_;intro i s hnx ⟨g0,g1,g2,g7,k1_0,k1_1⟩;have hz:=w1_ i;by_cases hi:i<t.length
 . have hgi:t[i]?=some t[i]:=ge_ hi;have hst:=qkA (q:=q) (sy:=sy) (n:=i) hgi;generalize t[i]=p at *;obtain ⟨p1,p2⟩:=p;dsimp only at hst;by_cases hc:p1=q/\p2=sy
   . rw[if_pos hc]at hst;rw[k1_1,hst];obtain ⟨hc1,hc2⟩:=hc;repeat' with_reducible first|refine s_ ?_|simp -implicitDefEqProofs only[wZZ,seval,g0,g1,g2,g7,hz]|(first|apply qa|apply ql|apply qj)<;>intro h h_<;>(try simp only[wD,reduceCtorEq]at h_)<;>(try exact wb_)<;>(try simp only[h])|refine t_ ?_
     all_goals refine qx rfl (Or.inr rfl) ?_
     all_goals(try simp -implicitDefEqProofs only[wL,seval,g0,g1,g2,g7])
     all_goals refine er_ ?_
     all_goals(try(with_reducible rfl))
   . rw[if_neg hc]at hst;repeat' with_reducible first|refine s_ ?_|simp -implicitDefEqProofs only[wZZ,seval,g0,g1,g2,g7,hz]|(first|apply qa|apply ql|apply qj)<;>intro h h_<;>(try simp only[wD,reduceCtorEq]at h_)<;>(try exact wb_)<;>(try simp only[h])|refine t_ ?_
     all_goals exact⟨wg_,i+1,o_,trivial,trivial,trivial,rfl,o_,by rw[k1_1,hst]⟩
 . have e:t.drop i=[]:=List.drop_of_length_le o_;rw[e]at k1_1;rw[k1_1];repeat' with_reducible first|refine s_ ?_|simp -implicitDefEqProofs only[wZZ,seval,g0,g1,g2,g7,hz]|apply qa<;>intro h h_<;>(try simp only[wD,reduceCtorEq]at h_)<;>(try exact wb_)<;>(try simp only[h])
   all_goals refine qx rfl (Or.inr rfl) ?_
   all_goals(try simp -implicitDefEqProofs only[wL,seval,g0,g1,g2,g7])
   all_goals refine er_ ?_
   all_goals(try(with_reducible rfl))
   all_goals rfl
theorem YE{k:List Int}(hk:k.length<=1000000):Pure Tryz.prog 55 [.sl 2 false (k.map itV)] (.bool (decide ((1:Int)∈k))):=by
 refine pure_intro Tryz.func55 nm_ qrg (by show 1<=24;decide) ?_
 show ewp _ qtG _ _;repeat' with_reducible first|refine s_ ?_|simp -implicitDefEqProofs only[wZZ,seval]
 refine qc ?nx1 (λ(i:Nat) s=>s.f 0=?v1_0/\s.f 3=vi i/\(i<=k.length)/\((1:Int) ∉ k.take i)) (λi=>k.length - i) (0) wj_ (by refine⟨?_,?_,wo_,(by simp)⟩<;>first|(simp -implicitDefEqProofs only[wL,wM,wN,wX,seval,Option.some.injEq]<;>exact wt_)|rfl|exact⟨_,rfl⟩) ?_;intro i s hnx ⟨g0,g3,k1_0,k1_1⟩;have hz:=w1_ i;by_cases hi:i<k.length
 . have hgi:k[i]?=some k[i]:=ge_ hi;have htk:k.take (i+1)=k.take i++[k[i]]:=(by rw[List.take_add_one,hgi];rfl);have hmem:=List.getElem_mem hi;generalize k[i]=x at *;by_cases hc:x=1
   . subst hc;rw[decide_eq_true hmem];repeat' with_reducible first|refine s_ ?_|simp -implicitDefEqProofs only[wZZ,seval,g0,g3,hz]|(first|apply qa|apply ql|apply qj)<;>intro h h_<;>(try simp only[wD,reduceCtorEq]at h_)<;>(try exact wb_)<;>(try simp only[h])|refine t_ ?_
     all_goals refine qx rfl (Or.inr rfl) ?_
     all_goals(try simp -implicitDefEqProofs only[wL,seval,g0,g3])
     all_goals refine er_ ?_
     all_goals(try(with_reducible rfl))
   . have hn:(1:Int) ∉ k.take (i+1):=by
      rw[htk,List.mem_append,List.mem_singleton];rintro (h|h)
      . exact k1_1 h
      . exact hc h.symm
     repeat' with_reducible first|refine s_ ?_|simp -implicitDefEqProofs only[wZZ,seval,g0,g3,hz]|(first|apply qa|apply ql|apply qj)<;>intro h h_<;>(try simp only[wD,reduceCtorEq]at h_)<;>(try exact wb_)<;>(try simp only[h])|refine t_ ?_
     all_goals exact⟨wg_,i+1,o_,trivial,rfl,o_,hn⟩
 . have e:k.take i=k:=List.take_of_length_le o_;rw[e]at k1_1;rw[decide_eq_false k1_1];repeat' with_reducible first|refine s_ ?_|simp -implicitDefEqProofs only[wZZ,seval,g0,g3,hz]|apply qa<;>intro h h_<;>(try simp only[wD,reduceCtorEq]at h_)<;>(try exact wb_)<;>(try simp only[h])
   all_goals refine qx rfl (Or.inr rfl) ?_
   all_goals(try simp -implicitDefEqProofs only[wL,seval,g0,g3])
   all_goals refine er_ ?_
   all_goals(try(with_reducible rfl))
theorem qnm(hg:GOk g){m d:Nat}{p:GPr}{x:Int}(hp:g.prods[m]?=some p)(hd:d<=p.right.length)(hn:nxt g x=(p.right[d]?).getD (-1)):nxt g x= -1↔d=p.right.length:=by
 rw[hn];constructor
 . intro h;refine Classical.byContradiction λe=>?_;have hlt:d<p.right.length:=o_;rw[ge_ hlt,Option.getD_some]at h;rcases hg.right p (List.mem_of_getElem? hp) _ (List.getElem_mem hlt)with ⟨t,e,_⟩|⟨k,e,_⟩<;>omega
 . intro h;rw[List.getElem?_eq_none o_];rfl
abbrev qeA(g:Grammar):Int->Option Int:=λx=>if 0<x / 16/\nxt g x= -1 then some (x / 16)else none
theorem Vj(hx:∀x∈l,Zn g x)(hr:jP l)(hl:l.length<=1000000)(hg:GOk g):Pure Tryz.prog 69 [g.V,.sl 2 false (l.map itV)] (.sl 1 false ((XG g l).map (V.int .i64))):=by
 refine pure_intro Tryz.func69 nm_ qqO (by show 2<=51;decide) ?_
 show ewp _ qta _ _;have hcl:=xW hx hr hl hg;obtain ⟨hI,hok,hcb⟩:=zR hg hx hr;have hdef:XG g l=(zo g l).filterMap (qeA g):=rfl;rw[hdef];generalize zo g l=cl at *;repeat' with_reducible first|refine s_ ?_|simp -implicitDefEqProofs only[wZZ,seval]|refine cq2 hcl qf qf ?_|refine t_ ?_
 refine qc ?nx1 (λ(i:Nat) s=>s.f 2=?v1_2/\s.f 6=?v1_6/\s.H 0=some (.own 5 [g.V] false)/\(∃v,s.f 5=v/\Gr s.H s.next 1 (((cl.take i).filterMap (qeA g)).map (V.int .i64)) v)/\s.f 7=vi i/\(i<=cl.length)/\(((cl.take i).filterMap (qeA g)).length<=i)) (λi=>cl.length - i) (0) wj_ (by refine⟨?_,?_,?_,?_,?_,wo_,(by exact Nat.zero_le _)⟩<;>first|(simp -implicitDefEqProofs only[wL,wM,wN,wX,seval,Option.some.injEq]<;>exact wt_)|rfl|exact⟨_,rfl⟩) ?_;intro i s hnx ⟨g2,g6,o0,⟨v5,g5,G5⟩,g7,k1_0,k1_1⟩;have hz:=w1_ i;by_cases hi:i<cl.length
 . have hgi:cl[i]?=some cl[i]:=ge_ hi;have hst:=qcY (qeA g) hgi;obtain ⟨m,d,p,hm,hd,hp,hdl,hn⟩:=(hok _ (List.getElem_mem hi)).nat;have hne:=qnm hg hp hdl hn;generalize cl[i]=x at *;generalize hU:(cl.take i).filterMap (qeA g)=U at *;have hsf:(qeA g x).toList=if 0<m/\d=p.right.length then[(m:Int)]else[]:=by
    simp only[qeA,hm];by_cases h:0<m/\d=p.right.length
    . rw[if_pos (by rw[hne];exact⟨o_,h.2⟩),if_pos h];rfl
    . rw[if_neg (by rw[hne];omega),if_neg h];rfl
   rw[hsf]at hst;have hV:itV x=.agg [vi m,vi d]:=(by rw[<- hm,<- hd]);obtain ⟨pl,pr,pc,pco,pa,pat⟩:=p;dsimp only at hst hdl;by_cases hc:0<m/\d=pr.length
   . rw[if_pos hc]at hst;obtain ⟨hc1,hc2⟩:=hc;have hlr:U.length=U.length:=rfl;repeat' with_reducible first|refine s_ ?_|simp -implicitDefEqProofs only[wZZ,seval,g2,g6,g5,g7,o0,Gr.dropO G5 o0,hz,hV,hm,hd,G5.len]|(first|apply qa|apply ql|apply qj)<;>intro h h_<;>(try simp only[wD,reduceCtorEq]at h_)<;>(try exact wb_)<;>(try simp only[h])|apply qX rfl (G5.mono (Nat.le_refl _) (λid h1 h2=>by(try simp only[wM]);(repeat rw[if_neg o_])));(focus(first|exact qM.sl|exact qM.asl));(focus(simp only[wZ,hlr];omega));(focus(unfold maxLen;simp only[wZ,hlr];omega))|refine t_ ?_
     all_goals exact⟨wg_,i+1,o_,trivial,trivial,trivial,⟨_,rfl,by rw[hst];exact Gr.tok (id:=s.next+4+25+7) (fin:=U.length+1) hh_ wg_⟩,rfl,o_,by rw[hst,List.length_append,List.length_singleton];omega⟩
   . rw[if_neg hc,List.append_nil]at hst;repeat' with_reducible first|refine s_ ?_|simp -implicitDefEqProofs only[wZZ,seval,g2,g6,g5,g7,o0,Gr.dropO G5 o0,hz,hV,hm,hd,G5.len]|(first|apply qa|apply ql|apply qj)<;>intro h h_<;>(try simp only[wD,reduceCtorEq]at h_)<;>(try exact wb_)<;>(try simp only[h])|refine t_ ?_
     all_goals exact⟨wg_,i+1,o_,trivial,trivial,trivial,⟨v5,rfl,by rw[hst];exact G5.mono wg_ (λ_ _ _=>rfl)⟩,rfl,o_,by rw[hst];omega⟩
 . have e:cl.take i=cl:=List.take_of_length_le o_;rw[e]at G5;repeat' with_reducible first|refine s_ ?_|simp -implicitDefEqProofs only[wZZ,seval,g2,g6,g5,g7,o0,Gr.dropO G5 o0,hz,G5.len]|apply qa<;>intro h h_<;>(try simp only[wD,reduceCtorEq]at h_)<;>(try exact wb_)<;>(try simp only[h])
   all_goals refine qx rfl (Or.inr rfl) ?_
   all_goals(try simp -implicitDefEqProofs only[wL,seval,g2,g6,g5,g7])
   all_goals(first|refine er_ ?_ |refine G5.er ?_)
   all_goals(try(with_reducible rfl))
abbrev X0(m:List Sta)(x:GPr)(q:Int)(t:List (Int×Int)):Nat->Bool:=λi=>decide ((t.getD i (0,0)).2=1000+x.left/\zH m (t.getD i (0,0)).1 x.right=q)
theorem VZ(f:Nat->Bool)(n:Nat):((List.range (n+1)).filter f).map (λ(i:Nat)=>(i:Int))=((List.range n).filter f).map (λ(i:Nat)=>(i:Int))++(if f n=true then[(n:Int)]else[]):=by rw[List.range_succ,List.filter_append,List.map_append];cases h:f n<;>simp[h]
theorem KU(f:Nat->Bool)(n:Nat):(((List.range n).filter f).map (λ(i:Nat)=>(i:Int))).length<=n:=by rw[List.length_map];exact Nat.le_trans (List.length_filter_le _ _) (by rw[List.length_range];exact Nat.le_refl _)
theorem Zg{m:List Sta}(hq:∀q∈m,q.mov.length<=1000):∀n,(jV m n).length<=n *1000
 |0=>Nat.zero_le _
 | n+1=>by
   rw[yF,List.length_append];have:=Zg hq n;have h1:=List.length_filterMap_le (trF n) (qdc m n);have h2:(qdc m n).length<=1000:=by
    unfold qdc;cases h:m[n]? with
    |none=>simp
    |some q=>exact hq q (List.mem_of_getElem? h)
   omega
theorem YI{m:List Sta}{q:Nat}(hg:GOk g)(hm:m.length<=1000)(hq:∀q∈m,q.mov.length<=1000)(hqm:q<m.length)(hn:1<=n)(hnl:n<g.prods.length):Pure Tryz.prog 27 [g.V,.sl 2 false (m.map Sta.V),vi q,vi n] (.sl 1 false ((yR g m q n).map (V.int .i64))):=by
 refine pure_intro Tryz.func27 nm_ qsc (by show 4<=74;decide) ?_
 show ewp _ qvE _ _;have hpl:=hg.pl2;have hgp:g.prods[n]?=some g.prods[n]:=ge_ hnl;have hrl:=hg.rlen _ (List.getElem_mem hnl);obtain ⟨lf,hl1,hl2⟩:=hg.left _ (List.getElem_mem hnl);have hnn:=hg.nn2;have hdef:yR g m q n=((List.range (qg m).length).filter (X0 m g.prods[n] (q:Int) (qg m))).map (λ(i:Nat)=>(i:Int)):=by unfold yR;rw[show ((n:Int)).toNat=n from rfl,hgp]
 rw[hdef];have htr:=jB hm hq;have htl:(qg m).length<=1000000:=by have:=Zg hq m.length;have e:qg m=jV m m.length:=rfl;rw[e];omega
 generalize qg m=T at *;generalize g.prods[n]=p at *;obtain ⟨pl,pr,pc,pco,pa,pat⟩:=p;dsimp only at hl1 hrl;subst hl1;have hzl:IntKind.i64.wrap (1000+(lf:Int))=1000+(lf:Int):=wrap64 o_ o_;repeat' with_reducible first|refine s_ ?_|simp -implicitDefEqProofs only[wZZ,seval]|(first|apply qa|apply ql|apply qj)<;>intro h h_<;>(try simp only[wD,reduceCtorEq]at h_)<;>(try exact wb_)<;>(try simp only[h])|refine cq1 htr qf ?_|refine t_ ?_
 refine qc ?nx1 (λ(i:Nat) s=>s.f 1=?v1_1/\s.f 2=?v1_2/\s.f 3=?v1_3/\s.f 4=?v1_4/\s.f 9=?v1_9/\s.H 0=some (.own 5 [g.V] false)/\(∃v,s.f 10=v/\Gr s.H s.next 1 ((((List.range i).filter (X0 m {left:=(lf:Int),right:=pr,prec:=pc,code:=pco,args:=pa,at_:=pat} (q:Int) T)).map (λ(i:Nat)=>(i:Int))).map (V.int .i64)) v)/\s.f 11=vi i/\(i<=T.length)) (λi=>T.length - i) (0) wj_ (by refine⟨?_,?_,?_,?_,?_,?_,?_,?_,wo_⟩<;>first|(simp -implicitDefEqProofs only[wL,wM,wN,wX,seval,Option.some.injEq]<;>exact wt_)|rfl|exact⟨_,rfl⟩) ?_;intro i s hnx ⟨g1,g2,g3,g4,g9,o0,⟨v10,g10,G10⟩,g11,k1_0⟩;have hz:=w1_ i;have hlr:=KU (X0 m {left:=(lf:Int),right:=pr,prec:=pc,code:=pco,args:=pa,at_:=pat} (q:Int) T) i;by_cases hi:i<T.length
 . have hgi:T[i]?=some T[i]:=ge_ hi;have hst:=VZ (X0 m {left:=(lf:Int),right:=pr,prec:=pc,code:=pco,args:=pa,at_:=pat} (q:Int) T) i;have hbf:X0 m {left:=(lf:Int),right:=pr,prec:=pc,code:=pco,args:=pa,at_:=pat} (q:Int) T i=decide (T[i].2=1000+(lf:Int)/\zH m T[i].1 pr=q):=by
    show decide _=_;rw[List.getD,hgi,Option.getD_some]
   rw[hbf]at hst;have hwk:=QN (m:=m) (q:=T[i].1) (l:=pr) o_ (λq h=>by have:=hq q h;omega) o_;generalize ((List.range i).filter (X0 m {left:=(lf:Int),right:=pr,prec:=pc,code:=pco,args:=pa,at_:=pat} (q:Int) T)).map (λ(i:Nat)=>(i:Int))=U at *;generalize T[i]=t at *;obtain ⟨t1,t2⟩:=t;dsimp only at hwk hst;generalize zH m t1 pr=w at *;by_cases hc:t2=1000+(lf:Int)/\w=q
   . rw[decide_eq_true hc,if_pos rfl]at hst;obtain ⟨hc1,hc2⟩:=hc;subst hc1 hc2;repeat' with_reducible first|refine s_ ?_|simp -implicitDefEqProofs only[wZZ,seval,g1,g2,g3,g4,g9,g10,g11,o0,Gr.dropO G10 o0,hz,hzl,G10.len]|apply qa<;>intro h h_<;>(try simp only[wD,reduceCtorEq]at h_)<;>(try exact wb_)<;>(try simp only[h])|apply qX rfl (G10.mono (Nat.le_refl _) (λid h1 h2=>by(try simp only[wM]);(repeat rw[if_neg o_])));(focus(first|exact qM.sl|exact qM.asl));(focus(simp only[wZ,hz];omega));(focus(unfold maxLen;simp only[wZ,hz];omega))|refine t_ ?_|refine cq3 hwk qf qf qf ?_
     all_goals exact⟨wg_,i+1,o_,trivial,trivial,trivial,trivial,trivial,trivial,⟨_,rfl,by rw[hst];exact Gr.tok (id:=s.next+4+30+3) (fin:=U.length+1) hh_ wg_⟩,rfl,o_⟩
   . rw[decide_eq_false hc,if_neg (by simp),List.append_nil]at hst;repeat' with_reducible first|refine s_ ?_|simp -implicitDefEqProofs only[wZZ,seval,g1,g2,g3,g4,g9,g10,g11,o0,Gr.dropO G10 o0,hz,hzl,G10.len]|(first|apply qa|apply ql|apply qj)<;>intro h h_<;>(try simp only[wD,reduceCtorEq]at h_)<;>(try exact wb_)<;>(try simp only[h])|refine t_ ?_|refine cq3 hwk qf qf qf ?_
     all_goals exact⟨wg_,i+1,o_,trivial,trivial,trivial,trivial,trivial,trivial,⟨_,rfl,by rw[hst];exact G10.mono wg_ (λ_ _ _=>rfl)⟩,rfl,o_⟩
 . have e:i=T.length:=o_;subst e;repeat' with_reducible first|refine s_ ?_|simp -implicitDefEqProofs only[wZZ,seval,g1,g2,g3,g4,g9,g10,g11,o0,Gr.dropO G10 o0,hz,G10.len]
   all_goals refine qx rfl (Or.inr rfl) ?_
   all_goals(try simp -implicitDefEqProofs only[wL,seval,g1,g2,g3,g4,g9,g10,g11])
   all_goals(first|refine er_ ?_ |refine G10.er ?_)
   all_goals(try(with_reducible rfl))

theorem Vy{m:List Sta}{B:Nat}(hq:∀q∈m,q.mov.length<=B):∀n,(jV m n).length<=n *B
 |0=>Nat.zero_le _
 | n+1=>by
   rw[yF,List.length_append];have:=Vy hq n;have h1:=List.length_filterMap_le (trF n) (qdc m n);have h2:(qdc m n).length<=B:=by
    unfold qdc;cases h:m[n]? with
    |none=>simp
    |some q=>exact hq q (List.mem_of_getElem? h)
   rw[Nat.add_mul,Nat.one_mul];omega
theorem MOk.trans_len{m:List Sta}(h:MOk g m):(qg m).length<=9600:=by have h1:=Vy h.mvl m.length;have e:qg m=jV m m.length:=rfl;have h2:=h.len;have h3:m.length *64<=150 *64:=Nat.mul_le_mul_right _ h2;rw[e];omega
theorem yu{α β:Type}(P:β->Prop)(f:β->α->β):∀(l:List α) (b:β),P b->(∀b a,a∈l->P b->P (f b a))->P (l.foldl f b)
 |[],b,h,_=>h
 |a::l,b,h,hf=>yu P f l (f b a) (hf b a List.mem_cons_self h) λb x hx=>hf b x (List.mem_cons_of_mem _ hx)
theorem MOk.movAt_mem{m:List Sta}(h:MOk g m){r:Nat}(hp:p∈xO m (r:Int)):∃q,m[r]?=some q/\p∈q.mov:=by
 unfold xO at hp;rw[show ((r:Int)).toNat=r from rfl]at hp;cases hm:m[r]? with
 |none=>rw[hm]at hp;cases hp
 |some q=>rw[hm]at hp;exact⟨q,rfl,hp⟩
theorem Zu{L:List α}{l:α}(f:α->α)(h:L[i]?=some l):L.modify i f=L.set i (f l):=by
 refine List.ext_getElem? λj=>?_;rw[List.getElem?_modify,List.getElem?_set];have hi:=(List.getElem?_eq_some_iff.1 h).1;by_cases e:i=j
 . subst e;rw[if_pos rfl,if_pos hi,h];simp
 . rw[if_neg e];simp[e]
theorem KD(f:β->Nat->β)(b:β)(n:Nat):(List.range (n+1)).foldl f b=f ((List.range n).foldl f b) n:=by rw[List.range_succ,List.foldl_append];rfl
theorem jM(f:β->α->β)(b:β){l:List α}{x:α}(h:l[i]?=some x):(l.take (i+1)).foldl f b=f ((l.take i).foldl f b) x:=by rw[List.take_add_one,h,List.foldl_append];rfl
theorem Gr.ne{H:Nat->Option MObj}{next z D:Nat}{es:List V}{v:V}(h:Gr H next z es v){sz:Nat}{l:List V}{ro:Bool}(ho:H D=some (.own sz l ro)){x:Nat}(hx:gid v=some x):x≠D:=by
 rcases h with rfl|⟨id,fin,rfl,h1,_⟩
 . cases hx
 . cases hx;intro e;rw[e,ho]at h1;cases h1

theorem qgT(hg:GOk g)(hx:∀x∈l,Zn g x)(hr:jP l):jP (Jt g l s)/\∀x∈Jt g l s,Zn g x:=by
 obtain ⟨_,hok,_⟩:=zR hg hx hr;unfold Jt;refine yu (λo=>jP o/\∀x∈o,Zn g x) _ _ _ ⟨List.Pairwise.nil,λx h=>by cases h⟩ λb a ha hb=>?_;split
 . rename_i hc;refine⟨jA hb.1,λx hx=>(zC.1 hx).elim (hb.2 x) λe=>?_⟩;subst e;have h1:=hok a ha;obtain ⟨m,d,p,hm,hd,hp,hdl,hn⟩:=h1.nat;have hlt:d<p.right.length:=by
    refine Classical.byContradiction λh=>?_;rw[List.getElem?_eq_none o_]at hn;rw[hn]at hc;have:=hc.1;simp at this
   have h2:=qis hg.rlen h1;have h0:=h1.1;refine⟨o_,p,?_,?_⟩
   . rw[show ((a+1) / 16).toNat=m by omega];exact hp
   . rw[show ((a+1) % 16).toNat=d+1 by omega];exact hlt
 . exact hb
theorem XM{k:List Int}:∀(m:List Sta) (n:Nat),XJ k m n= -1\/ ∃i:Nat,XJ k m n=((n+i:Nat):Int)/\∃q,m[i]?=some q/\q.ker=k
 |[],_=>Or.inl rfl
 | p ::m,n=>by
   unfold XJ;split
   . rename_i e;exact Or.inr ⟨0,by simp,p,rfl,e⟩
   . rcases XM m (n+1)with h|⟨i,h1,h2⟩
     . exact Or.inl h
     . exact Or.inr ⟨i+1,by rw[h1];omega,by simpa using h2⟩
theorem VF{k:List Int}(m:List Sta):Jy m k= -1\/ ∃i:Nat,Jy m k=(i:Int)/\∃q,m[i]?=some q/\q.ker=k:=by
 rcases XM (k:=k) m 0 with h|⟨i,h1,h2⟩
 . exact Or.inl h
 . exact Or.inr ⟨i,by unfold Jy;rw[h1];omega,h2⟩
theorem qbq(hg:GOk g):(jf g).length<=64:=by have:=hg.tk2;have:=hg.nn2;unfold jf;simp;omega
theorem qca:∀s∈jf g,Qz g.toks.length g.nons.length s:=by
 intro s hs;unfold jf at hs;rw[List.mem_append,List.mem_map,List.mem_map]at hs;rcases hs with ⟨i,hi,rfl⟩|⟨i,hi,rfl⟩
 . exact Or.inl ⟨i,rfl,List.mem_range.1 hi⟩
 . exact Or.inr ⟨i,rfl,List.mem_range.1 hi⟩
structure AutI(g:Grammar)(m:List Sta)(i k:Nat):Prop where
 len:m.length<=150
 mvl:∀j q,m[j]?=some q->q.mov.length<=(if j<i then 64 else if j=i then k else 0)
 mv:∀q∈m,∀p∈q.mov,Qz g.toks.length g.nons.length p.1/\∃t:Nat,p.2=t/\t<m.length
 kr:∀q∈m,jP q.ker
 ki:∀q∈m,∀x∈q.ker,Zn g x
variable {k:Nat}
theorem AutI.kl{m:List Sta}(h:AutI g m i k)(hpl:g.prods.length<=60):∀q∈m,q.ker.length<=960:=λq hq=>
 yh (a:=0) (h.kr q hq) λx hx=>by obtain ⟨h0,p,hp,_⟩:=h.ki q hq x hx;have:=(List.getElem?_eq_some_iff.1 hp).1;omega
theorem AutI.next{m:List Sta}(h:AutI g m i k)(hk:k<=64):AutI g m (i+1) 0:=by
 refine⟨h.len,λj q hq=>?_,h.mv,h.kr,h.ki⟩;have:=h.mvl j q hq;split at this
 . rw[if_pos o_];omega
 . split at this
   . rw[if_pos o_];omega
   . split
     . omega
     . split<;>omega
theorem AutI.skip{m:List Sta}(h:AutI g m i k):AutI g m i (k+1):=by
 refine⟨h.len,λj q hq=>?_,h.mv,h.kr,h.ki⟩;have:=h.mvl j q hq;split at this
 . rename_i e;rw[if_pos e];omega
 . rename_i e;rw[if_neg e];split at this
   . rename_i e2;rw[if_pos e2];omega
   . rename_i e2;rw[if_neg e2];omega
theorem AutI.snoc{m:List Sta}(h:AutI g m i k)(hi:i<m.length)(hl:m.length<150){o:List Int}(hr:jP o)(ho:∀x∈o,Zn g x):AutI g (m++[⟨o,[]⟩]) i k:=by
 refine⟨so_,λj q hq=>?_,λq hq p hp=>?_,λq hq=>?_,λq hq=>?_⟩
 . by_cases e:j<m.length
   . rw[List.getElem?_append_left e]at hq;exact h.mvl j q hq
   . have:j=m.length:=by
      have:=(List.getElem?_eq_some_iff.1 hq).1;simp at this;omega
     subst this;rw[List.getElem?_append_right (Nat.le_refl _),Nat.sub_self]at hq;cases hq;exact Nat.zero_le _
 . rw[List.mem_append,List.mem_singleton]at hq;rcases hq with hq|rfl
   . obtain ⟨h1,t,h2,h3⟩:=h.mv q hq p hp;exact⟨h1,t,h2,so_⟩
   . cases hp
 . rw[List.mem_append,List.mem_singleton]at hq;rcases hq with hq|rfl
   . exact h.kr q hq
   . exact hr
 . rw[List.mem_append,List.mem_singleton]at hq;rcases hq with hq|rfl
   . exact h.ki q hq
   . exact ho
theorem qW{m:List Sta}{t:Int}{q:Sta}(h:m[i]?=some q):j3 m i s t=m.set i {q with mov:=q.mov++[(s,t)]}:=Zu _ h
theorem AutI.add{m:List Sta}{t:Nat}(h:AutI g m i k){q:Sta}(hq:m[i]?=some q)(hs:Qz g.toks.length g.nons.length s)(ht:t<m.length):AutI g (j3 m i s t) i (k+1):=by
 rw[qW hq];have hqm:=List.mem_of_getElem? hq;refine⟨by rw[List.length_set];exact h.len,λj x hx=>?_,λx hx p hp=>?_,λx hx=>?_,λx hx=>?_⟩
 . rw[List.getElem?_set]at hx;have hi:=(List.getElem?_eq_some_iff.1 hq).1;by_cases e:i=j
   . subst e;rw[if_pos rfl,if_pos hi]at hx;cases hx;have:=h.mvl i q hq;rw[if_neg o_,if_pos rfl]at this ⊢;simp;omega
   . rw[if_neg e]at hx;have:=h.mvl j x hx;split at this
     . rename_i e1;rw[if_pos e1];omega
     . rename_i e1;rw[if_neg e1];rw[if_neg o_]at this ⊢;exact this
 . rw[List.length_set];rcases List.mem_or_eq_of_mem_set hx with hx|rfl
   . exact h.mv x hx p hp
   . rw[List.mem_append,List.mem_singleton]at hp;rcases hp with hp|rfl
     . exact h.mv q hqm p hp
     . exact⟨hs,t,rfl,ht⟩
 . rcases List.mem_or_eq_of_mem_set hx with hx|rfl
   . exact h.kr x hx
   . exact h.kr q hqm
 . rcases List.mem_or_eq_of_mem_set hx with hx|rfl
   . exact h.ki x hx
   . exact h.ki q hqm
theorem AutI.mok{m:List Sta}(h:AutI g m i 0)(hi:m.length<=i):MOk g m:=
 ⟨h.len,λq hq=>by
  obtain ⟨j,hj,rfl⟩:=List.getElem_of_mem hq;have:=h.mvl j _ (ge_ hj);rw[if_pos o_]at this;exact this,h.mv,h.kr,h.ki⟩
theorem qlG(hg:GOk g):AutI g [⟨[0],[]⟩] 0 0:=by
 refine⟨by simp,λj q hq=>?_,λq hq p hp=>?_,λq hq=>?_,λq hq x hx=>?_⟩
 . cases j with
   |zero=>simp at hq;subst hq;simp
   |succ j=>simp at hq
 . rw[List.mem_singleton]at hq;subst hq;cases hp
 . rw[List.mem_singleton]at hq;subst hq;exact List.pairwise_singleton _ _
 . rw[List.mem_singleton]at hq;subst hq;rw[List.mem_singleton]at hx;subst hx;have h1:=hg.pl;exact⟨Int.le_refl _,g.prods[0],by simp,Nat.zero_le _⟩

abbrev RMv(q:Sta):Prop:=(q.mov.map (·.1)).Pairwise (· < ·)
def RI(m:List Sta)(i:Nat)(B:Int):Prop:= ∀(j:Nat) q,m[j]?=some q->RMv q/\(j=i->∀p∈q.mov,p.1<B)/\(i<j->q.mov=[])
theorem RI.mono{m:List Sta}{B C:Int}(h:RI m i B)(hB:B<=C):RI m i C:=λj q hq=>by obtain ⟨h1,h2,h3⟩:=h j q hq;exact⟨h1,λe p hp=>Int.lt_of_lt_of_le (h2 e p hp) hB,h3⟩
theorem RI.push{m:List Sta}{B:Int}(h:RI m i B)(k:List Int):RI (m++[⟨k,[]⟩]) i B:=λj q hq=>by
 by_cases hj:j<m.length
 . rw[List.getElem?_append_left hj]at hq;exact h j q hq
 . have hlt:=(List.getElem?_eq_some_iff.1 hq).1;rw[List.length_append,List.length_singleton]at hlt;have e:j=m.length:=o_;subst e;rw[List.getElem?_append_right (Nat.le_refl _),Nat.sub_self]at hq;cases hq;exact⟨List.Pairwise.nil,λ_ p hp=>(by cases hp),λ_=>rfl⟩
theorem RI.add{m:List Sta}{B t:Int}(h:RI m i B)(hs:B<=s):RI (j3 m i s t) i (s+1):=λj q hq=>by
 unfold j3 at hq;rw[List.getElem?_modify]at hq;cases hm:m[j]? with
 |none=>rw[hm]at hq;cases hq
 | some q0=>
   rw[hm]at hq;obtain ⟨h1,h2,h3⟩:=h j q0 hm;by_cases e:i=j
   . subst e;simp only[if_true,Option.map_eq_map,Option.map_some,Option.some.injEq]at hq;subst hq;refine⟨?_,λ_ p hp=>?_,λhlt=>absurd hlt (Nat.lt_irrefl _)⟩
     . show ((q0.mov++[(s,t)]).map (·.1)).Pairwise (· < ·);rw[List.map_append,List.pairwise_append];refine⟨h1,by simp,λa ha b hb=>?_⟩;obtain ⟨p,hp,rfl⟩:=List.mem_map.1 ha;simp at hb;subst hb;have:=h2 rfl p hp;omega
     . rcases List.mem_append.1 hp with hp|hp
       . have:=h2 rfl p hp;omega
       . simp at hp;subst hp;show s<s+1;omega
   . simp only[if_neg e,Option.map_eq_map,Option.map_some,Option.some.injEq]at hq;subst hq;exact⟨h1,λe'=>absurd e'.symm e,h3⟩
theorem RI.step{aft:List Int}{m m':List Sta}{B:Int}(h:RI m i B)(hs:B<=s)(he:j5 g i aft (some m) s=some m'):RI m' i (s+1):=by
 unfold j5 at he;simp only[Option.bind_some]at he;split at he
 . split at he
   . split at he
     . cases he
     . cases he;exact(h.push _).add hs
   . cases he;exact h.add hs
 . cases he;exact h.mono o_
theorem qe5(g:Grammar)(i:Nat)(a:List Int):∀l:List Int,l.foldl (j5 g i a) none=none
 |[]=>rfl
 |s::l=>by rw[List.foldl_cons];exact qe5 g i a l
theorem RI.fold{g:Grammar}{aft:List Int}{i:Nat}:∀(l:List Int) {m m':List Sta} {B:Int},RI m i B->l.Pairwise (· < ·)->(∀x∈l,B<=x)->l.foldl (j5 g i aft) (some m)=some m'->∃C,RI m' i C
 |[],m,m',B,h,_,_,e=>by cases e;exact⟨B,h⟩
 | s ::l,m,m',B,h,hp,hb,e=>by
   rw[List.foldl_cons]at e;cases hs:j5 g i aft (some m) s with
   |none=>rw[hs,qe5]at e;cases e
   | some m1=>
     rw[hs]at e;have h1:=h.step (hb s (by simp)) hs;rw[List.pairwise_cons]at hp;exact RI.fold l h1 hp.2 (λx hx=>by have:=hp.1 x hx;omega) e
theorem KN(hg:GOk g):(jf g).Pairwise (· < ·)/\∀x∈jf g,0<=x:=by
 have htk:=hg.tk2;have key:∀(n:Nat) (f:Nat->Int),(∀a b,a<b->f a<f b)->((List.range n).map f).Pairwise (· < ·):=λn f hf=>by rw[List.pairwise_map];exact List.pairwise_lt_range.imp λh=>hf _ _ h
 refine⟨?_,λx hx=>?_⟩
 . unfold jf;rw[List.pairwise_append];refine⟨key _ _ λa b h=>o_,key _ _ λa b h=>o_,λa ha b hb=>?_⟩;obtain ⟨i,hi,rfl⟩:=List.mem_map.1 ha;obtain ⟨j,hj,rfl⟩:=List.mem_map.1 hb;rw[List.mem_range]at hi;omega
 . unfold jf at hx;rcases List.mem_append.1 hx with hx|hx<;>obtain ⟨i,hi,rfl⟩:=List.mem_map.1 hx<;>omega
theorem KS{g:Grammar}(hg:GOk g):∀(n:Nat) {m m':List Sta} {i:Nat},(∀(j:Nat) q,m[j]?=some q->RMv q/\(i<=j->q.mov=[]))->Xb g n m i=some m'->∀q∈m',RMv q
 | 0,m,m',i,h,e=>by cases e;intro q hq;obtain ⟨j,hj⟩:=List.getElem?_of_mem hq;exact(h j q hj).1
 | n +1,m,m',i,h,e=>by
   unfold Xb at e;split at e
   . obtain ⟨m1,e1,e2⟩:=Option.bind_eq_some_iff.1 e;have h0:RI m i 0:=λj q hq=>by
      obtain ⟨h1,h2⟩:=h j q hq;exact⟨h1,(λe p hp=>by rw[h2 o_]at hp;cases hp),λhlt=>h2 o_⟩
     obtain ⟨C,hC⟩:=RI.fold _ h0 (KN hg).1 (KN hg).2 e1;exact KS hg n (λj q hq=>by obtain ⟨h1,_,h3⟩:=hC j q hq;exact⟨h1,λhj=>h3 o_⟩) e2
   . cases e;intro q hq;obtain ⟨j,hj⟩:=List.getElem?_of_mem hq;exact(h j q hj).1
theorem qfR(hg:GOk g){m:List Sta}(h:Ye g=some m):∀q∈m,RMv q:=by
 refine KS hg 151 (i:=0) (λj q hq=>?_) h;cases j with
 |zero=>cases hq;exact⟨List.Pairwise.nil,λ_=>rfl⟩
 |succ j=>simp at hq
def qgz(a b:Int×Int):Prop:=a.1<b.1\/(a.1=b.1/\a.2<b.2)
theorem JL{m:List Sta}(h:∀q∈m,RMv q):(qg m).Pairwise qgz:=by
 unfold qg;rw[List.pairwise_flatMap];refine⟨λi _=>?_,?_⟩
 . rw [List.pairwise_filterMap]
   have:((((m[i]?).map (·.mov)).getD []).map (·.1)).Pairwise (· < ·):=by
    cases hq:m[i]? with
    |none=>exact List.Pairwise.nil
    |some x=>exact h x (List.mem_of_getElem? hq)
   rw[List.pairwise_map]at this;refine this.imp λ{a b} hab x hx y hy=>?_;split at hx
   . split at hy
     . simp only[Option.some.injEq]at hx hy;subst hx hy;exact Or.inr ⟨rfl,hab⟩
     . cases hy
   . cases hx
 . refine List.pairwise_lt_range.imp λ{a b} hab x hx y hy=>?_;obtain ⟨p,_,hp⟩:=List.mem_filterMap.1 hx;obtain ⟨q,_,hq⟩:=List.mem_filterMap.1 hy;split at hp
   . split at hq
     . simp only[Option.some.injEq]at hp hq;subst hp hq;exact Or.inl (by show (a:Int)<b;omega)
     . cases hq
   . cases hp
variable {T:List (Int×Int)}
theorem qdg(hT:T.Pairwise qgz){j:Nat}{a:Int×Int}(hi:T[i]?=some a)(hj:T[j]?=some a):i=j:=by
 obtain ⟨li,ei⟩:=List.getElem?_eq_some_iff.1 hi;obtain ⟨lj,ej⟩:=List.getElem?_eq_some_iff.1 hj;rcases Nat.lt_trichotomy i j with h1|h1|h1
 . have:=List.pairwise_iff_getElem.1 hT i j li lj h1;rw[ei,ej]at this;unfold qgz at this;omega
 . exact h1
 . have:=List.pairwise_iff_getElem.1 hT j i lj li h1;rw[ei,ej]at this;unfold qgz at this;omega
def KH(T:List (Int×Int))(n:Nat):List (Int×Int×Int):=(List.range n).map λi=>((T.getD i (0,0)).1,(T.getD i (0,0)).2,(i:Int))
theorem qiy{a b:Int}(h:T[n]?=some (a,b)):KH T (n+1)=KH T n++[(a,b,(n:Int))]:=by unfold KH;rw[List.range_succ,List.map_append];simp only[List.map_cons,List.map_nil,List.getD,h,Option.getD_some]
theorem qky(hT:T.Pairwise qgz){a b:Int}(h:T[n]?=some (a,b)):∀e∈KH T n,¬ (e.1=a/\e.2.1=b):=by
 intro e he hc;unfold KH at he;obtain ⟨i,hi,rfl⟩:=List.mem_map.1 he;rw[List.mem_range]at hi;have hn:=(List.getElem?_eq_some_iff.1 h).1;have hg:T[i]?=some T[i]:=ge_ o_;simp only[List.getD,hg,Option.getD_some]at hc;have e2:T[i]=(a,b):=by rw[<- hc.1,<- hc.2]
 rw[e2]at hg;have:=qdg hT hg h;omega
theorem qi8{m:List Sta}(h:MOk g m)(q s:Int):goS m q s= -1\/ ∃r:Nat,goS m q s=r/\r<m.length:=by
 unfold goS;split
 . exact Or.inl rfl
 . split
   . rename_i x hx;rcases qik x.mov s with e|e
     . exact Or.inl e
     . exact Or.inr (h.mv x (List.mem_of_getElem? hx) _ e).2
   . exact Or.inl rfl
end Go.Proofs
