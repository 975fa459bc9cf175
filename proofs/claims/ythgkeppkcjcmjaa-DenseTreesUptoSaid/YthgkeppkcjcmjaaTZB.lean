/- Part of a proof that a law of the given program answers true. -/
import Derived.Test.YthgkeppkcjcmjaaTZA
set_option linter.unusedSimpArgs false
set_option linter.unusedVariables false
set_option maxHeartbeats 4000000
namespace Go.Proofs
open Go.E
theorem qf2 {α β:Type} (f:β→α→β) (b:β) {l:List α} {i:Nat} {x:α} (h:l[i]?=some x):(l.take (i+1)).foldl f b=f ((l.take i).foldl f b) x:=by
 rw[List.take_add_one,h,List.foldl_append];rfl
theorem zf {g:Grammar} {l:List Int} (hg:GOk g) (hx: ∀x∈l,QL g x) (hr:jO l):IsCl g l (zy g l)∧(∀x∈zy g l,QL g x)∧(zy g l).length≤960:=by
 have h:=KR hg.pl2 hg.rlen hx hr
 refine⟨h,h.ok hx,?_⟩
 exact ClM.len ⟨h.rise,h.clo.1,h.least,h.ok hx⟩ hg.pl2
theorem VL {g:Grammar} {x:Int} (hrl: ∀p∈g.prods,p.right.length≤8) (h:QL g x):(x+1) / 16=x / 16∧(x+1) % 16=x % 16+1∧0≤x % 16∧x % 16≤8:=by
 obtain ⟨h0,p,hp,hd⟩:=h
 have:=hrl p (List.mem_of_getElem? hp)
 omega
theorem XA {g:Grammar} {l:List Int} {sy:Int} (hx: ∀x∈l,QL g x) (hr:jO l) (hl:l.length≤1000000) (hg:GOk g):Pure Try.prog 76 [g.V,.sl 2 false (l.map itV),vi sy] (.sl 2 false ((kL g l sy).map itV)):=by
 refine pure_intro Try.func76 nm_ qAm (by show 3≤48;decide) ?_
 show ewp _ qjI _ _
 have hcl:=jQ hx hr hl hg
 obtain ⟨hI,hok,hcb⟩:=zf hg hx hr
 have hdef:kL g l sy=(zy g l).foldl (fun o x=>if 0≤nxt g x∧nxt g x=sy then jm o (x+1)else o) []:=rfl
 rw[hdef]
 generalize zy g l=cl at *
 repeat' with_reducible first
  |refine s_ ?_
  |simp only[wZZ,seval]
  |refine cq2 hcl qc qc ?_
  |refine t_ ?_
 refine qb ?nx1 (fun(i:Nat) s=>s.f 2=?v1_2∧s.f 3=?v1_3∧s.f 8=?v1_8∧s.H 0=some (.own 5 [g.V] false)∧(∃c,s.f 7=.sl 2 c (((cl.take i).foldl (fun o x=>if 0≤nxt g x∧nxt g x=sy then jm o (x+1)else o) []).map itV))∧s.f 9=vi i∧(i≤cl.length)∧(((cl.take i).foldl (fun o x=>if 0≤nxt g x∧nxt g x=sy then jm o (x+1)else o) []).length≤i)) (fun i=>cl.length - i) (0) wj_ (by refine⟨?_,?_,?_,?_,?_,?_,wo_,wo_⟩<;>first|(simp only[wL,wM,wN,wX,seval,Option.some.injEq]<;>exact wt_)|rfl|exact⟨_,rfl⟩) ?_
 intro i s hnx ⟨g2,g3,g8,o0,⟨c7,g7⟩,g9,k1_0,k1_1⟩
 have hz:=w1_ i
 by_cases hi:i<cl.length
 · have hgi:cl[i]?=some cl[i]:=ge_ hi
   have hst:=qf2 (fun(o:List Int) x=>if 0≤nxt g x∧nxt g x=sy then jm o (x+1)else o) [] hgi
   have hxo:=hok _ (List.getElem_mem hi)
   have hnx:=xK hxo hg.pl2 hg.rlen
   have hbd:=qeu hg hxo
   have hin:=VL hg.rlen hxo
   generalize cl[i]=x at *
   generalize (cl.take i).foldl (fun o x=>if 0≤nxt g x∧nxt g x=sy then jm o (x+1)else o) []=o at *
   generalize nxt g x=nx at *
   have hzd:IntKind.i64.wrap (x % 16+1)=x % 16+1:=wrap64 o_ o_
   have hput:=x9 (l:=o) (x:=x+1) o_
   have hpl:=QW o (x+1)
   have hkv:itV (x+1)=.agg [vi (x / 16),vi (x % 16+1)]:=by rw[← hin.1,← hin.2.1]
   rw[hkv]at hput
   by_cases hc:0≤nx∧nx=sy
   · rw[if_pos hc]at hst
     repeat' with_reducible first
      |refine s_ ?_
      |simp only[wZZ,seval,g2,g3,g8,g7,g9,o0,hz,hzd]
      |(first|apply qa|apply qg|apply qh)<;>intro h h_<;>(try simp only[wD,reduceCtorEq]at h_)<;>(try exact wb_)<;>(try simp only[h])
      |refine t_ ?_
      |refine cq2 hnx qc qc ?_
      |refine cq2 hput jA qc ?_
     refine⟨wk_,i+1,o_,?_⟩
     refine⟨?_,?_,?_,?_,?_,?_,?_,?_⟩
     iterate 6 (focus(first|(simp only[wL,wM,wN,wX,seval,Option.some.injEq,g2,g3,g8,g7,g9,o0,hst]<;>exact wt_)|rfl|exact⟨_,rfl⟩))
     all_goals try omega
     rw[hst];omega
   · rw[if_neg hc]at hst
     repeat' with_reducible first
      |refine s_ ?_
      |simp only[wZZ,seval,g2,g3,g8,g7,g9,o0,hz,hzd]
      |(first|apply qa|apply qg|apply qh)<;>intro h h_<;>(try simp only[wD,reduceCtorEq]at h_)<;>(try exact wb_)<;>(try simp only[h])
      |refine t_ ?_
      |refine cq2 hnx qc qc ?_
     all_goals exact⟨wg_,i+1,o_,trivial,trivial,trivial,trivial,⟨_,by rw[hst]⟩,rfl,o_,by rw[hst];omega⟩
 · have e:cl.take i=cl:=List.take_of_length_le o_
   rw[e]at g7
   repeat' with_reducible first
    |refine s_ ?_
    |simp only[wZZ,seval,g2,g3,g8,g7,g9,o0,hz]
    |apply qa<;>intro h h_<;>(try simp only[wD,reduceCtorEq]at h_)<;>(try exact wb_)<;>(try simp only[h])
   all_goals refine qA rfl (Or.inr rfl) ?_
   all_goals(try simp only[wL,seval,g2,g3,g8,g7,g9])
   all_goals refine er_ ?_
   all_goals(try(with_reducible rfl))
theorem Zk {g:Grammar} (hg:GOk g):Pure Try.prog 73 [g.V] (.sl 1 false ((jl g).map (V.int .i64))):=by
 refine pure_intro Try.func73 nm_ qF8 (by show 1≤30;decide) ?_
 show ewp _ qh3 _ _
 have htl:=hg.tk2;have hnl:=hg.nn2
 have hdef:jl g=(List.range g.toks.length).map (fun(i:Nat)=>(i:Int))++(List.range g.nons.length).map fun(i:Nat)=>1000+(i:Int):=rfl
 rw[hdef]
 repeat' with_reducible first
  |refine s_ ?_
  |simp only[wZZ,seval]
  |refine t_ ?_
 refine qb ?nx1 (fun(i:Nat) s=>s.f 1=?v1_1∧s.H 0=some (.own 5 [g.V] false)∧(∃v,s.f 3=v∧Gr s.H s.next 1 (((List.range i).map (fun(i:Nat)=>(i:Int))).map (V.int .i64)) v)∧s.f 4=vi i∧(i≤g.toks.length)) (fun i=>g.toks.length - i) (0) wj_ (by refine⟨?_,?_,?_,?_,wo_⟩<;>first|(simp only[wL,wM,wN,wX,seval,Option.some.injEq]<;>exact wt_)|rfl|exact⟨_,rfl⟩) ?_
 intro i s hnx ⟨g1,o0,⟨v3,g3,G3⟩,g4,k1_0⟩
 have hz:=w1_ i
 by_cases hi:i<g.toks.length
 · have hst:(List.range (i+1)).map (fun(i:Nat)=>(i:Int))=(List.range i).map (fun(i:Nat)=>(i:Int))++[(i:Int)]:=by rw[List.range_succ,List.map_append];rfl
   have hlr:((List.range i).map (fun(i:Nat)=>(i:Int))).length=i:=by simp
   repeat' with_reducible first
    |refine s_ ?_
    |simp only[wZZ,seval,g1,g3,g4,o0,Gr.dropO G3 o0,hz,G3.len]
    |apply qa<;>intro h h_<;>(try simp only[wD,reduceCtorEq]at h_)<;>(try exact wb_)<;>(try simp only[h])
    |apply za rfl (G3.mono (Nat.le_refl _) (fun id h1 h2=>by(try simp only[wM]);(repeat rw[if_neg o_])));(focus(first|exact qU.sl|exact qU.asl));(focus(simp only[wZ,hlr];omega));(focus(unfold maxLen;simp only[wZ,hlr];omega))
    |refine t_ ?_
   refine⟨wk_,i+1,o_,?_⟩
   refine⟨?_,?_,?_,?_,?_⟩
   iterate 4 (focus(first|(simp only[wL,wM,wN,wX,seval,Option.some.injEq,g1,g3,g4,o0,Gr.dropO G3 o0,hst]<;>first|rfl|exact⟨_,rfl⟩|exact⟨_,rfl,by first|assumption|exact Gr.nil|exact Gr.tok rfl o_|exact Gr.tok (by simp only[wM,seval]<;>rfl) o_|exact Gr.clip|exact G3.to (by first|rfl|(simp[*];done)) o_ rfl⟩)|rfl|exact⟨_,rfl⟩))
   all_goals try omega
 · have e:i=g.toks.length:=o_
   subst e
   repeat' with_reducible first
    |refine s_ ?_
    |simp only[wZZ,seval,g1,g3,g4,o0,Gr.dropO G3 o0,hz,G3.len]
    |refine t_ ?_
   refine qb ?nx2 (fun(j:Nat) s=>s.f 1=?v2_1∧s.H 0=some (.own 5 [g.V] false)∧(∃v,s.f 3=v∧Gr s.H s.next 1 (((List.range g.toks.length).map (fun(i:Nat)=>(i:Int))++(List.range j).map fun(i:Nat)=>1000+(i:Int)).map (V.int .i64)) v)∧s.f 5=vi j∧(j≤g.nons.length)) (fun j=>g.nons.length - j) (0) wj_ (by refine⟨?_,?_,?_,?_,wo_⟩<;>first|(simp only[wL,wM,wN,wX,seval,Option.some.injEq,g1,g3,g4,o0,Gr.dropO G3 o0]<;>first|rfl|exact⟨_,rfl⟩|exact⟨_,rfl,by first|assumption|exact Gr.nil|exact Gr.tok rfl o_|exact Gr.tok (by simp only[wM,seval]<;>rfl) o_|exact Gr.clip|exact G3.to (by first|rfl|(simp[*];done)) o_ rfl⟩)|rfl|exact⟨_,rfl⟩) ?_
   intro j s hnx ⟨g1,o0,⟨v3,g3,G3⟩,g5,k2_0⟩
   have hzj:=w1_ j
   have hzk:IntKind.i64.wrap (1000+(j:Int))=1000+(j:Int):=wrap64 o_ o_
   by_cases hj:j<g.nons.length
   · have hst:(List.range g.toks.length).map (fun(i:Nat)=>(i:Int))++(List.range (j+1)).map (fun(i:Nat)=>1000+(i:Int))=((List.range g.toks.length).map (fun(i:Nat)=>(i:Int))++(List.range j).map fun(i:Nat)=>1000+(i:Int))++[1000+(j:Int)]:=by rw[List.range_succ,List.map_append,List.append_assoc];rfl
     have hlr:((List.range g.toks.length).map (fun(i:Nat)=>(i:Int))++(List.range j).map fun(i:Nat)=>1000+(i:Int)).length=g.toks.length+j:=by simp
     repeat' with_reducible first
      |refine s_ ?_
      |simp only[wZZ,seval,g1,g3,g5,o0,Gr.dropO G3 o0,hzj,hzk,G3.len]
      |apply qa<;>intro h h_<;>(try simp only[wD,reduceCtorEq]at h_)<;>(try exact wb_)<;>(try simp only[h])
      |apply za rfl (G3.mono (Nat.le_refl _) (fun id h1 h2=>by(try simp only[wM]);(repeat rw[if_neg o_])));(focus(first|exact qU.sl|exact qU.asl));(focus(simp only[wZ,hlr];omega));(focus(unfold maxLen;simp only[wZ,hlr];omega))
      |refine t_ ?_
     refine⟨wk_,j+1,o_,?_⟩
     refine⟨?_,?_,?_,?_,?_⟩
     iterate 4 (focus(first|(simp only[wL,wM,wN,wX,seval,Option.some.injEq,g1,g3,g5,o0,Gr.dropO G3 o0,hst]<;>first|rfl|exact⟨_,rfl⟩|exact⟨_,rfl,by first|assumption|exact Gr.nil|exact Gr.tok rfl o_|exact Gr.tok (by simp only[wM,seval]<;>rfl) o_|exact Gr.clip|exact G3.to (by first|rfl|(simp[*];done)) o_ rfl⟩)|rfl|exact⟨_,rfl⟩))
     all_goals try omega
   · have e:j=g.nons.length:=o_
     subst e
     repeat' with_reducible first
      |refine s_ ?_
      |simp only[wZZ,seval,g1,g3,g5,o0,Gr.dropO G3 o0,G3.len]
      |refine t_ ?_
     all_goals refine qA rfl (Or.inr rfl) ?_
     all_goals(try simp only[wL,seval,g1,g3,g5])
     all_goals(first|refine er_ ?_ |refine G3.er ?_)
     all_goals(try(with_reducible rfl))

theorem qfZ {k:List Int} {m:List Sta} {i n:Nat} {q:Sta} (h:m[i]?=some q):Jr k (m.drop i) n=if q.ker=k then(n:Int)else Jr k (m.drop (i+1)) (n+1):=by
 have hi:=(List.getElem?_eq_some_iff.1 h)
 rw[List.drop_eq_getElem_cons hi.1,hi.2];rfl
theorem Xj {m:List Sta} {k:List Int} (hm:m.length≤1000000) (hk:k.length≤1000000) (hq: ∀q∈m,q.ker.length≤1000000):Pure Try.prog 77 [.sl 2 false (m.map Sta.V),.sl 2 false (k.map itV)] (vi (QT m k)):=by
 refine pure_intro Try.func77 nm_ qtb (by show 2≤20;decide) ?_
 show ewp _ qjK _ _
 repeat' with_reducible first
  |refine s_ ?_
  |simp only[wZZ,seval]
 refine qb ?nx1 (fun(i:Nat) s=>s.f 0=?v1_0∧s.f 1=?v1_1∧s.f 5=vi i∧(i≤m.length)∧(QT m k=Jr k (m.drop i) i)) (fun i=>m.length - i) (0) wj_ (by refine⟨?_,?_,?_,wo_,(by rfl)⟩<;>first|(simp only[wL,wM,wN,wX,seval,Option.some.injEq]<;>exact wt_)|rfl|exact⟨_,rfl⟩) ?_
 intro i s hnx ⟨g0,g1,g5,k1_0,k1_1⟩
 have hz:=w1_ i
 by_cases hi:i<m.length
 · have hgi:m[i]?=some m[i]:=ge_ hi
   have hst:=qfZ (k:=k) (n:=i) hgi
   have he:=Zy (a:=m[i].ker) (b:=k) (by have:=hq _ (List.getElem_mem hi);omega) o_
   generalize m[i]=q at *
   obtain ⟨qk,qm⟩:=q
   dsimp only at hst he
   by_cases hc:qk=k
   · rw[if_pos hc]at hst
     rw[decide_eq_true hc]at he
     rw[k1_1,hst]
     repeat' with_reducible first
      |refine s_ ?_
      |simp only[wZZ,seval,g0,g1,g5,hz]
      |apply qa<;>intro h h_<;>(try simp only[wD,reduceCtorEq]at h_)<;>(try exact wb_)<;>(try simp only[h])
      |refine t_ ?_
      |refine cq2 he qc qc ?_
     all_goals refine qA rfl (Or.inr rfl) ?_
     all_goals(try simp only[wL,seval,g0,g1,g5])
     all_goals refine er_ ?_
     all_goals(try(with_reducible rfl))
   · rw[if_neg hc]at hst
     rw[decide_eq_false hc]at he
     repeat' with_reducible first
      |refine s_ ?_
      |simp only[wZZ,seval,g0,g1,g5,hz]
      |apply qa<;>intro h h_<;>(try simp only[wD,reduceCtorEq]at h_)<;>(try exact wb_)<;>(try simp only[h])
      |refine t_ ?_
      |refine cq2 he qc qc ?_
     refine⟨wk_,i+1,o_,?_⟩
     refine⟨?_,?_,?_,?_,?_⟩
     iterate 3 (focus(first|(simp only[wL,wM,wN,wX,seval,Option.some.injEq,g0,g1,g5]<;>exact wt_)|rfl|exact⟨_,rfl⟩))
     all_goals try omega
 · have e:m.drop i=[]:=List.drop_of_length_le o_
   rw[e]at k1_1
   rw[k1_1]
   repeat' with_reducible first
    |refine s_ ?_
    |simp only[wZZ,seval,g0,g1,g5,hz]
    |apply qa<;>intro h h_<;>(try simp only[wD,reduceCtorEq]at h_)<;>(try exact wb_)<;>(try simp only[h])
   all_goals refine qA rfl (Or.inr rfl) ?_
   all_goals(try simp only[wL,seval,g0,g1,g5])
   all_goals refine er_ ?_
   all_goals(try(with_reducible rfl))
   all_goals rfl
theorem qsn {l:List (Int×Int)} {s:Int} {i:Nat} {p:Int×Int} (h:l[i]?=some p):goL (l.drop i) s=if p.1=s then p.2 else goL (l.drop (i+1)) s:=by
 have hi:=(List.getElem?_eq_some_iff.1 h)
 rw[List.drop_eq_getElem_cons hi.1,hi.2];rfl
theorem qL7 {m:List Sta} {q:Nat} {x:Sta} (h:m[q]?=some x) (s:Int):goS m (q:Int) s=goL x.mov s:=by
 unfold goS
 rw[if_neg o_,show ((q:Int)).toNat=q from rfl,h]
theorem qn1 {m:List Sta} {q:Int} (h:q<0∨(m.length:Int)≤q) (s:Int):goS m q s= -1:=by
 unfold goS
 split
 · rfl
 · rw[List.getElem?_eq_none o_]
theorem jq {m:List Sta} {q sy:Int} (hm:m.length≤1000000) (hq: ∀q∈m,q.mov.length≤1000000):Pure Try.prog 58 [.sl 2 false (m.map Sta.V),vi q,vi sy] (vi (goS m q sy)):=by
 refine pure_intro Try.func58 nm_ qvf (by show 3≤48;decide) ?_
 show ewp _ qhZ _ _
 repeat' with_reducible first
  |refine s_ ?_
  |simp only[wZZ,seval]
 refine qb ?nx1 (fun(i:Nat) s=>s.f 0=?v1_0∧s.f 1=?v1_1∧s.f 2=?v1_2∧s.f 7=vi i∧((∀x,m[q.toNat]?=some x→i≤x.mov.length∧goL x.mov sy=goL (x.mov.drop i) sy))) (fun i=>((m[q.toNat]?).map (·.mov.length)).getD 0 - i) (0) wj_ (by refine⟨?_,?_,?_,?_,(by exact fun x _=>⟨Nat.zero_le _,rfl⟩)⟩<;>first|(simp only[wL,wM,wN,wX,seval,Option.some.injEq]<;>exact wt_)|rfl|exact⟨_,rfl⟩) ?_
 intro i s hnx ⟨g0,g1,g2,g7,k1_0⟩
 have hz:i<1000000→IntKind.i64.wrap ((i+1:Nat):Int)=((i+1:Nat):Int):=fun h=>wrap64 o_ o_
 by_cases hin:0≤q∧q<m.length
 · obtain ⟨n,rfl⟩: ∃n:Nat,q=(n:Int):=⟨q.toNat,o_⟩
   have hgn:m[n]?=some m[n]:=ge_ o_
   have hml:=hq _ (List.getElem_mem (show n<m.length by omega))
   rw[qL7 hgn]
   rw[show ((n:Int)).toNat=n from rfl]at *
   generalize m[n]=x at *
   obtain ⟨h1,h2⟩:=k1_0 _ hgn
   obtain ⟨xk,xm⟩:=x
   dsimp only at hml h1 h2 ⊢
   by_cases hi:i<xm.length
   · have hz:=hz o_
     have hgi:xm[i]?=some xm[i]:=ge_ hi
     have hst:=qsn (s:=sy) hgi
     generalize xm[i]=p at *
     obtain ⟨p1,p2⟩:=p
     dsimp only at hst
     by_cases hc:p1=sy
     · rw[if_pos hc]at hst
       rw[h2,hst]
       repeat' with_reducible first
        |refine s_ ?_
        |simp only[wZZ,seval,g0,g1,g2,g7,hz]
        |(first|apply qa|apply qg|apply qh)<;>intro h h_<;>(try simp only[wD,reduceCtorEq]at h_)<;>(try exact wb_)<;>(try simp only[h])
        |refine t_ ?_
       all_goals refine qA rfl (Or.inr rfl) ?_
       all_goals(try simp only[wL,seval,g0,g1,g2,g7])
       all_goals refine er_ ?_
       all_goals(try(with_reducible rfl))
     · rw[if_neg hc]at hst
       repeat' with_reducible first
        |refine s_ ?_
        |simp only[wZZ,seval,g0,g1,g2,g7,hz]
        |(first|apply qa|apply qg|apply qh)<;>intro h h_<;>(try simp only[wD,reduceCtorEq]at h_)<;>(try exact wb_)<;>(try simp only[h])
        |refine t_ ?_
       refine⟨wg_,i+1,by simp only[hgn,Option.map_some,Option.getD_some];omega,?_⟩;(repeat refine⟨True.intro,?_⟩)
       refine⟨rfl,fun x hx=>?_⟩
       rw[hgn]at hx
       cases hx
       exact⟨by dsimp only;omega,by dsimp only;rw[h2,hst]⟩
   · have e:xm.drop i=[]:=List.drop_of_length_le o_
     rw[e]at h2
     rw[h2]
     repeat' with_reducible first
      |refine s_ ?_
      |simp only[wZZ,seval,g0,g1,g2,g7]
      |(first|apply qa|apply qg|apply qh)<;>intro h h_<;>(try simp only[wD,reduceCtorEq]at h_)<;>(try exact wb_)<;>(try simp only[h])
      |refine t_ ?_
     all_goals refine qA rfl (Or.inr rfl) ?_
     all_goals(try simp only[wL,seval,g0,g1,g2,g7])
     all_goals refine er_ ?_
     all_goals(try(with_reducible rfl))
     all_goals rfl
 · rw[qn1 o_]
   repeat' with_reducible first
    |refine s_ ?_
    |simp only[wZZ,seval,g0,g1,g2,g7]
    |(first|apply qg|apply qh)<;>intro h h_<;>(try simp only[wD,reduceCtorEq]at h_)<;>(try exact wb_)<;>(try simp only[h])
   all_goals refine qA rfl (Or.inr rfl) ?_
   all_goals(try simp only[wL,seval,g0,g1,g2,g7])
   all_goals refine er_ ?_
   all_goals(try(with_reducible rfl))
theorem qeR {m:List Sta} {l:List Int} {i:Nat} {q s:Int} (h:l[i]?=some s):xN m q (l.drop i)=if q<0 then q else xN m (goS m q s) (l.drop (i+1)):=by
 have hi:=(List.getElem?_eq_some_iff.1 h)
 rw[List.drop_eq_getElem_cons hi.1,hi.2];rfl
theorem qf8 {m:List Sta} {q:Int} (h:q<0): ∀l,xN m q l=q
 |[]=>rfl
 |s::l=>by unfold xN;rw[if_pos h]
theorem kI {m:List Sta} {q:Int} {l:List Int} (hm:m.length≤1000000) (hq: ∀q∈m,q.mov.length≤1000000) (hl:l.length≤1000000):Pure Try.prog 83 [.sl 2 false (m.map Sta.V),vi q,.sl 1 false (l.map (V.int .i64))] (vi (xN m q l)):=by
 refine pure_intro Try.func83 nm_ qIr (by show 3≤26;decide) ?_
 show ewp _ qiC _ _
 repeat' with_reducible first
  |refine s_ ?_
  |simp only[wZZ,seval]
 refine qb ?nx1 (fun(p:Nat×Int) s=>s.f 0=?v1_0∧s.f 2=?v1_2∧s.f 7=vi p.1∧(p.1≤l.length)∧(xN m q l=xN m p.2 (l.drop p.1))∧(s.f 1=.int .i64 p.2)) (fun p=>l.length - p.1) ((0,q)) wj_ (by refine⟨?_,?_,?_,wo_,(by rfl),(by(try simp only[wL,wM,wN,seval]);first|done|rfl)⟩<;>first|(simp only[wL,wM,wN,wX,seval,Option.some.injEq]<;>exact wt_)|rfl|exact⟨_,rfl⟩) ?_
 intro p s hnx ⟨g0,g2,g7,k1_0,k1_1,g1⟩
 obtain ⟨i,r⟩:=p
 dsimp only at *
 have hz:=w1_ i
 by_cases hi:i<l.length∧0≤r
 · obtain ⟨hi,hr⟩:=hi
   have hgi:l[i]?=some l[i]:=ge_ hi
   have hst:=qeR (m:=m) (q:=r) hgi
   rw[if_neg o_]at hst
   have hgo:=jq (q:=r) (sy:=l[i]) hm hq
   generalize l[i]=sy at *
   repeat' with_reducible first
    |refine s_ ?_
    |simp only[wZZ,seval,g0,g2,g7,g1,hz]
    |(first|apply qa|apply qg|apply qh)<;>intro h h_<;>(try simp only[wD,reduceCtorEq]at h_)<;>(try exact wb_)<;>(try simp only[h])
    |refine t_ ?_
    |refine cq3 hgo qc qc qc ?_
   refine⟨wg_,(i+1,goS m r sy),by dsimp only;omega,?_⟩;(repeat refine⟨True.intro,?_⟩)
   exact⟨rfl,by dsimp only;omega,by rw[k1_1,hst],rfl⟩
 · have e:xN m r (l.drop i)=r:=by
    by_cases h:r<0
    · exact qf8 h _
    · rw[List.drop_of_length_le o_];rfl
   rw[k1_1,e]
   repeat' with_reducible first
    |refine s_ ?_
    |simp only[wZZ,seval,g0,g2,g7,g1,hz]
    |(first|apply qa|apply qg|apply qh)<;>intro h h_<;>(try simp only[wD,reduceCtorEq]at h_)<;>(try exact wb_)<;>(try simp only[h])
   all_goals refine qA rfl (Or.inr rfl) ?_
   all_goals(try simp only[wL,seval,g0,g2,g7,g1])
   all_goals refine er_ ?_
   all_goals(try(with_reducible rfl))

def qgp (m:List Sta) (i:Nat):List (Int×Int):=(m[i]?.map (·.mov)).getD []
abbrev trF (i:Nat):Int×Int→Option (Int×Int):=fun p=>if 1000≤p.1 then some ((i:Int),p.1)else none
def yB (m:List Sta) (n:Nat):List (Int×Int):=(List.range n).flatMap fun i=>(qgp m i).filterMap (trF i)
theorem Qz (m:List Sta) (n:Nat):yB m (n+1)=yB m n++(qgp m n).filterMap (trF n):=by
 unfold yB;rw[List.range_succ,List.flatMap_append];simp
theorem qe0 {α β:Type} (f:α→Option β) {l:List α} {i:Nat} {x:α} (h:l[i]?=some x):(l.take (i+1)).filterMap f=(l.take i).filterMap f++(f x).toList:=by
 rw[List.take_add_one,h,List.filterMap_append]
 cases hf:f x<;>simp[hf]
theorem jc {m:List Sta} (hm:m.length≤1000) (hq: ∀q∈m,q.mov.length≤1000):Pure Try.prog 82 [.sl 2 false (m.map Sta.V)] (.sl 2 false ((qB m).map prV)):=by
 refine pure_intro Try.func82 nm_ qMf (by show 1≤47;decide) ?_
 show ewp _ qjm _ _
 have hdef:qB m=yB m m.length:=rfl
 rw[hdef]
 repeat' with_reducible first
  |refine s_ ?_
  |simp only[wZZ,seval]
 refine qb ?nx1 (fun(i:Nat) s=>s.f 0=?v1_0∧(∃v,s.f 3=v∧Gr s.H s.next 2 ((yB m i).map prV) v)∧s.f 4=vi i∧(i≤m.length)∧((yB m i).length≤i *1000)) (fun i=>m.length - i) (0) wj_ (by refine⟨?_,?_,?_,wo_,(by exact Nat.zero_le _)⟩<;>first|(simp only[wL,wM,wN,wX,seval,Option.some.injEq]<;>exact wt_)|rfl|exact⟨_,rfl⟩) ?_
 intro i s hnx ⟨g0,⟨v3,g3,G3⟩,g4,k1_0,k1_1⟩
 have hz:=w1_ i
 by_cases hi:i<m.length
 · have hgi:m[i]?=some m[i]:=ge_ hi
   have hml:=hq _ (List.getElem_mem hi)
   have hst:=Qz m i
   have hmi:qgp m i=m[i].mov:=by unfold qgp;rw[hgi];rfl
   rw[hmi]at hst
   generalize m[i]=x at *
   generalize hT:yB m i=T at *
   obtain ⟨xk,xm⟩:=x
   dsimp only at hml hst
   repeat' with_reducible first
    |refine s_ ?_
    |simp only[wZZ,seval,g0,g3,g4,hz,G3.len]
    |apply qa<;>intro h h_<;>(try simp only[wD,reduceCtorEq]at h_)<;>(try exact wb_)<;>(try simp only[h])
   refine qb ?nx2 (fun(j:Nat) s=>s.f 0=?v2_0∧s.f 4=?v2_4∧(∃v,s.f 3=v∧Gr s.H s.next 2 ((T++(xm.take j).filterMap (trF i)).map prV) v)∧s.f 5=vi j∧(j≤xm.length)∧(((xm.take j).filterMap (trF i)).length≤j)) (fun j=>xm.length - j) (0) wj_ (by refine⟨?_,?_,?_,?_,wo_,(by exact Nat.zero_le _)⟩<;>first|(simp only[wL,wM,wN,wX,seval,Option.some.injEq,g0,g3,g4]<;>first|rfl|exact⟨_,rfl⟩|exact⟨_,rfl,by first|assumption|exact Gr.nil|exact Gr.tok rfl o_|exact Gr.tok (by simp only[wM,seval]<;>rfl) o_|exact Gr.clip|exact G3.to (by first|rfl|(simp[*];done)) o_ rfl⟩)|rfl|exact⟨_,rfl⟩) ?_
   intro j s hnx ⟨g0,g4,⟨v3,g3,G3⟩,g5,k2_0,k2_1⟩
   have hzj:=w1_ j
   by_cases hj:j<xm.length
   · have hgj:xm[j]?=some xm[j]:=ge_ hj
     have hst2:=qe0 (trF i) hgj
     generalize xm[j]=p at *
     generalize (xm.take j).filterMap (trF i)=U at *
     obtain ⟨p1,p2⟩:=p
     by_cases hc:1000≤p1
     · have hst3:(xm.take (j+1)).filterMap (trF i)=U++[((i:Int),p1)]:=by rw[hst2];simp[trF,hc]
       have hlr:(T++U).length=T.length+U.length:=List.length_append
       repeat' with_reducible first
        |refine s_ ?_
        |simp only[wZZ,seval,g0,g4,g3,g5,hzj,G3.len]
        |apply qa<;>intro h h_<;>(try simp only[wD,reduceCtorEq]at h_)<;>(try exact wb_)<;>(try simp only[h])
        |apply za rfl (G3.mono (Nat.le_refl _) (fun id h1 h2=>by(try simp only[wM]);(repeat rw[if_neg o_])));(focus(first|exact qU.sl|exact qU.asl));(focus(simp only[wZ,hlr];omega));(focus(unfold maxLen;simp only[wZ,hlr];omega))
        |refine t_ ?_
       exact⟨wg_,j+1,o_,trivial,trivial,⟨_,rfl,by rw[hst3,← List.append_assoc,List.map_append];exact Gr.tok (id:=s.next+8+10+13) (fin:=(T++U).length+1) hh_ wg_⟩,rfl,o_,by rw[hst3,List.length_append,List.length_singleton];omega⟩
     · have hst3:(xm.take (j+1)).filterMap (trF i)=U:=by rw[hst2];simp[trF,hc]
       repeat' with_reducible first
        |refine s_ ?_
        |simp only[wZZ,seval,g0,g4,g3,g5,hzj,G3.len]
        |apply qa<;>intro h h_<;>(try simp only[wD,reduceCtorEq]at h_)<;>(try exact wb_)<;>(try simp only[h])
        |refine t_ ?_
       refine⟨wk_,j+1,o_,?_⟩
       refine⟨?_,?_,?_,?_,?_,?_⟩
       iterate 4 (focus(first|(simp only[wL,wM,wN,wX,seval,Option.some.injEq,g0,g4,g3,g5,hst3]<;>first|rfl|exact⟨_,rfl⟩|exact⟨_,rfl,by first|assumption|exact Gr.nil|exact Gr.tok rfl o_|exact Gr.tok (by simp only[wM,seval]<;>rfl) o_|exact Gr.clip|exact G3.to (by first|rfl|(simp[*];done)) o_ rfl⟩)|rfl|exact⟨_,rfl⟩))
       all_goals try omega
       rw[hst3];omega
   · have e:xm.take j=xm:=List.take_of_length_le o_
     rw[e]at G3 k2_1
     rw[← hst]at G3
     repeat' with_reducible first
      |refine s_ ?_
      |simp only[wZZ,seval,g0,g4,g3,g5,hz,G3.len]
      |apply qa<;>intro h h_<;>(try simp only[wD,reduceCtorEq]at h_)<;>(try exact wb_)<;>(try simp only[h])
      |refine t_ ?_
     exact⟨wg_,i+1,o_,trivial,⟨v3,rfl,G3.mono wg_ (fun _ _ _=>rfl)⟩,rfl,o_,by rw[hst,List.length_append];omega⟩
 · have e:i=m.length:=o_
   subst e
   skip
   repeat' with_reducible first
    |refine s_ ?_
    |simp only[wZZ,seval,g0,g3,g4,hz,G3.len]
   all_goals refine qA rfl (Or.inr rfl) ?_
   all_goals(try simp only[wL,seval,g0,g3,g4])
   all_goals(first|refine er_ ?_ |refine G3.er ?_)
   all_goals(try(with_reducible rfl))

theorem qhS {q sy:Int} {t:List (Int×Int)} {i n:Nat} {p:Int×Int} (h:t[i]?=some p):qgd q sy (t.drop i) n=if p.1=q∧p.2=sy then(n:Int)else qgd q sy (t.drop (i+1)) (n+1):=by
 have hi:=(List.getElem?_eq_some_iff.1 h)
 rw[List.drop_eq_getElem_cons hi.1,hi.2];rfl
theorem yA {t:List (Int×Int)} {q sy:Int} (ht:t.length≤1000000):Pure Try.prog 102 [.sl 2 false (t.map prV),vi q,vi sy] (vi (qaT t q sy)):=by
 refine pure_intro Try.func102 nm_ qnu (by show 3≤31;decide) ?_
 show ewp _ qeZ _ _
 repeat' with_reducible first
  |refine s_ ?_
  |simp only[wZZ,seval]
 refine qb ?nx1 (fun(i:Nat) s=>s.f 0=?v1_0∧s.f 1=?v1_1∧s.f 2=?v1_2∧s.f 7=vi i∧(i≤t.length)∧(qaT t q sy=qgd q sy (t.drop i) i)) (fun i=>t.length - i) (0) wj_ (by refine⟨?_,?_,?_,?_,wo_,(by rfl)⟩<;>first|(simp only[wL,wM,wN,wX,seval,Option.some.injEq]<;>exact wt_)|rfl|exact⟨_,rfl⟩) ?_
 intro i s hnx ⟨g0,g1,g2,g7,k1_0,k1_1⟩
 have hz:=w1_ i
 by_cases hi:i<t.length
 · have hgi:t[i]?=some t[i]:=ge_ hi
   have hst:=qhS (q:=q) (sy:=sy) (n:=i) hgi
   generalize t[i]=p at *
   obtain ⟨p1,p2⟩:=p
   dsimp only at hst
   by_cases hc:p1=q∧p2=sy
   · rw[if_pos hc]at hst
     rw[k1_1,hst]
     obtain ⟨hc1,hc2⟩:=hc
     repeat' with_reducible first
      |refine s_ ?_
      |simp only[wZZ,seval,g0,g1,g2,g7,hz]
      |(first|apply qa|apply qg|apply qh)<;>intro h h_<;>(try simp only[wD,reduceCtorEq]at h_)<;>(try exact wb_)<;>(try simp only[h])
      |refine t_ ?_
     all_goals refine qA rfl (Or.inr rfl) ?_
     all_goals(try simp only[wL,seval,g0,g1,g2,g7])
     all_goals refine er_ ?_
     all_goals(try(with_reducible rfl))
   · rw[if_neg hc]at hst
     repeat' with_reducible first
      |refine s_ ?_
      |simp only[wZZ,seval,g0,g1,g2,g7,hz]
      |(first|apply qa|apply qg|apply qh)<;>intro h h_<;>(try simp only[wD,reduceCtorEq]at h_)<;>(try exact wb_)<;>(try simp only[h])
      |refine t_ ?_
     all_goals exact⟨wg_,i+1,o_,trivial,trivial,trivial,rfl,o_,by rw[k1_1,hst]⟩
 · have e:t.drop i=[]:=List.drop_of_length_le o_
   rw[e]at k1_1
   rw[k1_1]
   repeat' with_reducible first
    |refine s_ ?_
    |simp only[wZZ,seval,g0,g1,g2,g7,hz]
    |apply qa<;>intro h h_<;>(try simp only[wD,reduceCtorEq]at h_)<;>(try exact wb_)<;>(try simp only[h])
   all_goals refine qA rfl (Or.inr rfl) ?_
   all_goals(try simp only[wL,seval,g0,g1,g2,g7])
   all_goals refine er_ ?_
   all_goals(try(with_reducible rfl))
   all_goals rfl
theorem Yj {k:List Int} (hk:k.length≤1000000):Pure Try.prog 100 [.sl 2 false (k.map itV)] (.bool (decide ((1:Int)∈k))):=by
 refine pure_intro Try.func100 nm_ qj3 (by show 1≤24;decide) ?_
 show ewp _ qgh _ _
 repeat' with_reducible first
  |refine s_ ?_
  |simp only[wZZ,seval]
 refine qb ?nx1 (fun(i:Nat) s=>s.f 0=?v1_0∧s.f 3=vi i∧(i≤k.length)∧((1:Int) ∉ k.take i)) (fun i=>k.length - i) (0) wj_ (by refine⟨?_,?_,wo_,(by simp)⟩<;>first|(simp only[wL,wM,wN,wX,seval,Option.some.injEq]<;>exact wt_)|rfl|exact⟨_,rfl⟩) ?_
 intro i s hnx ⟨g0,g3,k1_0,k1_1⟩
 have hz:=w1_ i
 by_cases hi:i<k.length
 · have hgi:k[i]?=some k[i]:=ge_ hi
   have htk:k.take (i+1)=k.take i++[k[i]]:=by rw[List.take_add_one,hgi];rfl
   have hmem:=List.getElem_mem hi
   generalize k[i]=x at *
   by_cases hc:x=1
   · subst hc
     rw[decide_eq_true hmem]
     repeat' with_reducible first
      |refine s_ ?_
      |simp only[wZZ,seval,g0,g3,hz]
      |(first|apply qa|apply qg|apply qh)<;>intro h h_<;>(try simp only[wD,reduceCtorEq]at h_)<;>(try exact wb_)<;>(try simp only[h])
      |refine t_ ?_
     all_goals refine qA rfl (Or.inr rfl) ?_
     all_goals(try simp only[wL,seval,g0,g3])
     all_goals refine er_ ?_
     all_goals(try(with_reducible rfl))
   · have hn:(1:Int) ∉ k.take (i+1):=by
      rw[htk,List.mem_append,List.mem_singleton]
      rintro (h|h)
      · exact k1_1 h
      · exact hc h.symm
     repeat' with_reducible first
      |refine s_ ?_
      |simp only[wZZ,seval,g0,g3,hz]
      |(first|apply qa|apply qg|apply qh)<;>intro h h_<;>(try simp only[wD,reduceCtorEq]at h_)<;>(try exact wb_)<;>(try simp only[h])
      |refine t_ ?_
     all_goals exact⟨wg_,i+1,o_,trivial,rfl,o_,hn⟩
 · have e:k.take i=k:=List.take_of_length_le o_
   rw[e]at k1_1
   rw[decide_eq_false k1_1]
   repeat' with_reducible first
    |refine s_ ?_
    |simp only[wZZ,seval,g0,g3,hz]
    |apply qa<;>intro h h_<;>(try simp only[wD,reduceCtorEq]at h_)<;>(try exact wb_)<;>(try simp only[h])
   all_goals refine qA rfl (Or.inr rfl) ?_
   all_goals(try simp only[wL,seval,g0,g3])
   all_goals refine er_ ?_
   all_goals(try(with_reducible rfl))
theorem qpU {g:Grammar} (hg:GOk g) {m d:Nat} {p:GPr} {x:Int} (hp:g.prods[m]?=some p) (hd:d≤p.right.length) (hn:nxt g x=(p.right[d]?).getD (-1)):nxt g x= -1↔d=p.right.length:=by
 rw[hn]
 constructor
 · intro h
   refine Classical.byContradiction fun e=>?_
   have hlt:d<p.right.length:=o_
   rw[ge_ hlt,Option.getD_some]at h
   rcases hg.right p (List.mem_of_getElem? hp) _ (List.getElem_mem hlt)with ⟨t,e,_⟩|⟨k,e,_⟩<;>omega
 · intro h
   rw[List.getElem?_eq_none o_];rfl
abbrev qnx (g:Grammar):Int→Option Int:=fun x=>if 0<x / 16∧nxt g x= -1 then some (x / 16)else none
theorem XO {g:Grammar} {l:List Int} (hx: ∀x∈l,QL g x) (hr:jO l) (hl:l.length≤1000000) (hg:GOk g):Pure Try.prog 55 [g.V,.sl 2 false (l.map itV)] (.sl 1 false ((xW g l).map (V.int .i64))):=by
 refine pure_intro Try.func55 nm_ qNp (by show 2≤51;decide) ?_
 show ewp _ qiB _ _
 have hcl:=jQ hx hr hl hg
 obtain ⟨hI,hok,hcb⟩:=zf hg hx hr
 have hdef:xW g l=(zy g l).filterMap (qnx g):=rfl
 rw[hdef]
 generalize zy g l=cl at *
 repeat' with_reducible first
  |refine s_ ?_
  |simp only[wZZ,seval]
  |refine cq2 hcl qc qc ?_
  |refine t_ ?_
 refine qb ?nx1 (fun(i:Nat) s=>s.f 2=?v1_2∧s.f 6=?v1_6∧s.H 0=some (.own 5 [g.V] false)∧(∃v,s.f 5=v∧Gr s.H s.next 1 (((cl.take i).filterMap (qnx g)).map (V.int .i64)) v)∧s.f 7=vi i∧(i≤cl.length)∧(((cl.take i).filterMap (qnx g)).length≤i)) (fun i=>cl.length - i) (0) wj_ (by refine⟨?_,?_,?_,?_,?_,wo_,(by exact Nat.zero_le _)⟩<;>first|(simp only[wL,wM,wN,wX,seval,Option.some.injEq]<;>exact wt_)|rfl|exact⟨_,rfl⟩) ?_
 intro i s hnx ⟨g2,g6,o0,⟨v5,g5,G5⟩,g7,k1_0,k1_1⟩
 have hz:=w1_ i
 by_cases hi:i<cl.length
 · have hgi:cl[i]?=some cl[i]:=ge_ hi
   have hst:=qe0 (qnx g) hgi
   obtain ⟨m,d,p,hm,hd,hp,hdl,hn⟩:=(hok _ (List.getElem_mem hi)).nat
   have hne:=qpU hg hp hdl hn
   generalize cl[i]=x at *
   generalize hU:(cl.take i).filterMap (qnx g)=U at *
   have hsf:(qnx g x).toList=if 0<m∧d=p.right.length then[(m:Int)]else[]:=by
    simp only[qnx,hm]
    by_cases h:0<m∧d=p.right.length
    · rw[if_pos (by rw[hne];exact⟨o_,h.2⟩),if_pos h];rfl
    · rw[if_neg (by rw[hne];omega),if_neg h];rfl
   rw[hsf]at hst
   have hV:itV x=.agg [vi m,vi d]:=by rw[← hm,← hd]
   obtain ⟨pl,pr,pc,pco,pa,pat⟩:=p
   dsimp only at hst hdl
   by_cases hc:0<m∧d=pr.length
   · rw[if_pos hc]at hst
     obtain ⟨hc1,hc2⟩:=hc
     have hlr:U.length=U.length:=rfl
     repeat' with_reducible first
      |refine s_ ?_
      |simp only[wZZ,seval,g2,g6,g5,g7,o0,Gr.dropO G5 o0,hz,hV,hm,hd,G5.len]
      |(first|apply qa|apply qg|apply qh)<;>intro h h_<;>(try simp only[wD,reduceCtorEq]at h_)<;>(try exact wb_)<;>(try simp only[h])
      |apply za rfl (G5.mono (Nat.le_refl _) (fun id h1 h2=>by(try simp only[wM]);(repeat rw[if_neg o_])));(focus(first|exact qU.sl|exact qU.asl));(focus(simp only[wZ,hlr];omega));(focus(unfold maxLen;simp only[wZ,hlr];omega))
      |refine t_ ?_
     all_goals exact⟨wg_,i+1,o_,trivial,trivial,trivial,⟨_,rfl,by rw[hst];exact Gr.tok (id:=s.next+4+25+7) (fin:=U.length+1) hh_ wg_⟩,rfl,o_,by rw[hst,List.length_append,List.length_singleton];omega⟩
   · rw[if_neg hc,List.append_nil]at hst
     repeat' with_reducible first
      |refine s_ ?_
      |simp only[wZZ,seval,g2,g6,g5,g7,o0,Gr.dropO G5 o0,hz,hV,hm,hd,G5.len]
      |(first|apply qa|apply qg|apply qh)<;>intro h h_<;>(try simp only[wD,reduceCtorEq]at h_)<;>(try exact wb_)<;>(try simp only[h])
      |refine t_ ?_
     all_goals exact⟨wg_,i+1,o_,trivial,trivial,trivial,⟨v5,rfl,by rw[hst];exact G5.mono wg_ (fun _ _ _=>rfl)⟩,rfl,o_,by rw[hst];omega⟩
 · have e:cl.take i=cl:=List.take_of_length_le o_
   rw[e]at G5
   repeat' with_reducible first
    |refine s_ ?_
    |simp only[wZZ,seval,g2,g6,g5,g7,o0,Gr.dropO G5 o0,hz,G5.len]
    |apply qa<;>intro h h_<;>(try simp only[wD,reduceCtorEq]at h_)<;>(try exact wb_)<;>(try simp only[h])
   all_goals refine qA rfl (Or.inr rfl) ?_
   all_goals(try simp only[wL,seval,g2,g6,g5,g7])
   all_goals(first|refine er_ ?_ |refine G5.er ?_)
   all_goals(try(with_reducible rfl))
abbrev qcW (m:List Sta) (x:GPr) (q:Int) (t:List (Int×Int)):Nat→Bool:=fun i=>decide ((t.getD i (0,0)).2=1000+x.left∧xN m (t.getD i (0,0)).1 x.right=q)
theorem qby (f:Nat→Bool) (n:Nat):((List.range (n+1)).filter f).map (fun(i:Nat)=>(i:Int))=((List.range n).filter f).map (fun(i:Nat)=>(i:Int))++(if f n=true then[(n:Int)]else[]):=by
 rw[List.range_succ,List.filter_append,List.map_append]
 cases h:f n<;>simp[h]
theorem qds (f:Nat→Bool) (n:Nat):(((List.range n).filter f).map (fun(i:Nat)=>(i:Int))).length≤n:=by
 rw[List.length_map]
 exact Nat.le_trans (List.length_filter_le _ _) (by rw[List.length_range];exact Nat.le_refl _)
theorem Qe {m:List Sta} (hq: ∀q∈m,q.mov.length≤1000): ∀n,(yB m n).length≤n *1000
 |0=>Nat.zero_le _
 | n+1=>by
   rw[Qz,List.length_append]
   have:=Qe hq n
   have h1:=List.length_filterMap_le (trF n) (qgp m n)
   have h2:(qgp m n).length≤1000:=by
    unfold qgp
    cases h:m[n]? with
    |none=>simp
    |some q=>exact hq q (List.mem_of_getElem? h)
   omega
theorem Yo {g:Grammar} {m:List Sta} {q n:Nat} (hg:GOk g) (hm:m.length≤1000) (hq: ∀q∈m,q.mov.length≤1000) (hqm:q<m.length) (hn:1≤n) (hnl:n<g.prods.length):Pure Try.prog 56 [g.V,.sl 2 false (m.map Sta.V),vi q,vi n] (.sl 1 false ((Xk g m q n).map (V.int .i64))):=by
 refine pure_intro Try.func56 nm_ qzk (by show 4≤74;decide) ?_
 show ewp _ qjq _ _
 have hpl:=hg.pl2
 have hgp:g.prods[n]?=some g.prods[n]:=ge_ hnl
 have hrl:=hg.rlen _ (List.getElem_mem hnl)
 obtain ⟨lf,hl1,hl2⟩:=hg.left _ (List.getElem_mem hnl)
 have hnn:=hg.nn2
 have hdef:Xk g m q n=((List.range (qB m).length).filter (qcW m g.prods[n] (q:Int) (qB m))).map (fun(i:Nat)=>(i:Int)):=by
  unfold Xk
  rw[show ((n:Int)).toNat=n from rfl,hgp]
 rw[hdef]
 have htr:=jc hm hq
 have htl:(qB m).length≤1000000:=by have:=Qe hq m.length;have e:qB m=yB m m.length:=rfl;rw[e];omega
 generalize qB m=T at *
 generalize g.prods[n]=p at *
 obtain ⟨pl,pr,pc,pco,pa,pat⟩:=p
 dsimp only at hl1 hrl
 subst hl1
 have hzl:IntKind.i64.wrap (1000+(lf:Int))=1000+(lf:Int):=wrap64 o_ o_
 repeat' with_reducible first
  |refine s_ ?_
  |simp only[wZZ,seval]
  |(first|apply qa|apply qg|apply qh)<;>intro h h_<;>(try simp only[wD,reduceCtorEq]at h_)<;>(try exact wb_)<;>(try simp only[h])
  |refine cq1 htr qc ?_
  |refine t_ ?_
 refine qb ?nx1 (fun(i:Nat) s=>s.f 1=?v1_1∧s.f 2=?v1_2∧s.f 3=?v1_3∧s.f 4=?v1_4∧s.f 9=?v1_9∧s.H 0=some (.own 5 [g.V] false)∧(∃v,s.f 10=v∧Gr s.H s.next 1 ((((List.range i).filter (qcW m {left:=(lf:Int),right:=pr,prec:=pc,code:=pco,args:=pa,at_:=pat} (q:Int) T)).map (fun(i:Nat)=>(i:Int))).map (V.int .i64)) v)∧s.f 11=vi i∧(i≤T.length)) (fun i=>T.length - i) (0) wj_ (by refine⟨?_,?_,?_,?_,?_,?_,?_,?_,wo_⟩<;>first|(simp only[wL,wM,wN,wX,seval,Option.some.injEq]<;>exact wt_)|rfl|exact⟨_,rfl⟩) ?_
 intro i s hnx ⟨g1,g2,g3,g4,g9,o0,⟨v10,g10,G10⟩,g11,k1_0⟩
 have hz:=w1_ i
 have hlr:=qds (qcW m {left:=(lf:Int),right:=pr,prec:=pc,code:=pco,args:=pa,at_:=pat} (q:Int) T) i
 by_cases hi:i<T.length
 · have hgi:T[i]?=some T[i]:=ge_ hi
   have hst:=qby (qcW m {left:=(lf:Int),right:=pr,prec:=pc,code:=pco,args:=pa,at_:=pat} (q:Int) T) i
   have hbf:qcW m {left:=(lf:Int),right:=pr,prec:=pc,code:=pco,args:=pa,at_:=pat} (q:Int) T i=decide (T[i].2=1000+(lf:Int)∧xN m T[i].1 pr=q):=by
    show decide _=_
    rw[List.getD,hgi,Option.getD_some]
   rw[hbf]at hst
   have hwk:=kI (m:=m) (q:=T[i].1) (l:=pr) o_ (fun q h=>by have:=hq q h;omega) o_
   generalize ((List.range i).filter (qcW m {left:=(lf:Int),right:=pr,prec:=pc,code:=pco,args:=pa,at_:=pat} (q:Int) T)).map (fun(i:Nat)=>(i:Int))=U at *
   generalize T[i]=t at *
   obtain ⟨t1,t2⟩:=t
   dsimp only at hwk hst
   generalize xN m t1 pr=w at *
   by_cases hc:t2=1000+(lf:Int)∧w=q
   · rw[decide_eq_true hc,if_pos rfl]at hst
     obtain ⟨hc1,hc2⟩:=hc
     subst hc1 hc2
     repeat' with_reducible first
      |refine s_ ?_
      |simp only[wZZ,seval,g1,g2,g3,g4,g9,g10,g11,o0,Gr.dropO G10 o0,hz,hzl,G10.len]
      |apply qa<;>intro h h_<;>(try simp only[wD,reduceCtorEq]at h_)<;>(try exact wb_)<;>(try simp only[h])
      |apply za rfl (G10.mono (Nat.le_refl _) (fun id h1 h2=>by(try simp only[wM]);(repeat rw[if_neg o_])));(focus(first|exact qU.sl|exact qU.asl));(focus(simp only[wZ,hz];omega));(focus(unfold maxLen;simp only[wZ,hz];omega))
      |refine t_ ?_
      |refine cq3 hwk qc qc qc ?_
     all_goals exact⟨wg_,i+1,o_,trivial,trivial,trivial,trivial,trivial,trivial,⟨_,rfl,by rw[hst];exact Gr.tok (id:=s.next+4+30+3) (fin:=U.length+1) hh_ wg_⟩,rfl,o_⟩
   · rw[decide_eq_false hc,if_neg (by simp),List.append_nil]at hst
     repeat' with_reducible first
      |refine s_ ?_
      |simp only[wZZ,seval,g1,g2,g3,g4,g9,g10,g11,o0,Gr.dropO G10 o0,hz,hzl,G10.len]
      |(first|apply qa|apply qg|apply qh)<;>intro h h_<;>(try simp only[wD,reduceCtorEq]at h_)<;>(try exact wb_)<;>(try simp only[h])
      |refine t_ ?_
      |refine cq3 hwk qc qc qc ?_
     all_goals exact⟨wg_,i+1,o_,trivial,trivial,trivial,trivial,trivial,trivial,⟨_,rfl,by rw[hst];exact G10.mono wg_ (fun _ _ _=>rfl)⟩,rfl,o_⟩
 · have e:i=T.length:=o_
   subst e
   repeat' with_reducible first
    |refine s_ ?_
    |simp only[wZZ,seval,g1,g2,g3,g4,g9,g10,g11,o0,Gr.dropO G10 o0,hz,G10.len]
   all_goals refine qA rfl (Or.inr rfl) ?_
   all_goals(try simp only[wL,seval,g1,g2,g3,g4,g9,g10,g11])
   all_goals(first|refine er_ ?_ |refine G10.er ?_)
   all_goals(try(with_reducible rfl))
end Go.Proofs
