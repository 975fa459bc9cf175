/- Part of a proof that a law of the given program answers true. -/
import Derived.Test.YthgkeppkcjcmjaaDZA
set_option linter.unusedSimpArgs false
set_option linter.unusedVariables false
set_option maxHeartbeats 4000000
namespace Go.Proofs
open Go.E
theorem qfy {α β:Type} (f:β→α→β) (b:β) {l:List α} {i:Nat} {x:α} (h:l[i]?=some x):(l.take (i+1)).foldl f b=f ((l.take i).foldl f b) x:=by
 rw[List.take_add_one,h,List.foldl_append];rfl
theorem zJ {g:Grammar} {l:List Int} (hg:GOk g) (hx: ∀x∈l,Zb g x) (hr:jU l):IsCl g l (zC g l)∧(∀x∈zC g l,Zb g x)∧(zC g l).length≤960:=by
 have h:=KO hg.pl2 hg.rlen hx hr
 refine⟨h,h.ok hx,?_⟩
 exact ClM.len ⟨h.rise,h.clo.1,h.least,h.ok hx⟩ hg.pl2
theorem qbm {g:Grammar} {x:Int} (hrl: ∀p∈g.prods,p.right.length≤8) (h:Zb g x):(x+1) / 16=x / 16∧(x+1) % 16=x % 16+1∧0≤x % 16∧x % 16≤8:=by
 obtain ⟨h0,p,hp,hd⟩:=h
 have:=hrl p (List.mem_of_getElem? hp)
 omega
theorem XE {g:Grammar} {l:List Int} {sy:Int} (hx: ∀x∈l,Zb g x) (hr:jU l) (hl:l.length≤1000000) (hg:GOk g):Pure Try.prog 76 [g.V,.sl 2 false (l.map itV),vi sy] (.sl 2 false ((QB g l sy).map itV)):=by
 refine pure_intro Try.func76 qDQ qww (by show 3≤48;decide) ?_
 show ewp _ qi5 _ _
 have hcl:=j6 hx hr hl hg
 obtain ⟨hI,hok,hcb⟩:=zJ hg hx hr
 have hdef:QB g l sy=(zC g l).foldl (fun o x=>if 0≤nxt g x∧nxt g x=sy then jw o (x+1)else o) []:=rfl
 rw[hdef]
 generalize zC g l=cl at *
 repeat' with_reducible first
  |refine s_ ?_
  |simp only[wZZ,seval]
  |refine cq2 hcl qb qb ?_
  |refine t_ ?_
 refine qd ?nx1 (fun(i:Nat) s=>s.f 2=?v1_2∧s.f 3=?v1_3∧s.f 8=?v1_8∧s.H 0=some (.own 5 [g.V] false)∧(∃c,s.f 7=.sl 2 c (((cl.take i).foldl (fun o x=>if 0≤nxt g x∧nxt g x=sy then jw o (x+1)else o) []).map itV))∧s.f 9=vi i∧(i≤cl.length)∧(((cl.take i).foldl (fun o x=>if 0≤nxt g x∧nxt g x=sy then jw o (x+1)else o) []).length≤i)) (fun i=>cl.length - i) (0) wj_ (by refine⟨?_,?_,?_,?_,?_,?_,wo_,wo_⟩<;>first|(simp only[wL,wM,wN,wX,seval,Option.some.injEq]<;>exact wt_)|rfl|exact⟨_,rfl⟩) ?_
 intro i s hnx ⟨g2,g3,g8,o0,⟨c7,g7⟩,g9,k1_0,k1_1⟩
 have hz:=w1_ i
 by_cases hi:i<cl.length
 · have hgi:cl[i]?=some cl[i]:=ge_ hi
   have hst:=qfy (fun(o:List Int) x=>if 0≤nxt g x∧nxt g x=sy then jw o (x+1)else o) [] hgi
   have hxo:=hok _ (List.getElem_mem hi)
   have hnx:=xP hxo hg.pl2 hg.rlen
   have hbd:=qeP hg hxo
   have hin:=qbm hg.rlen hxo
   generalize cl[i]=x at *
   generalize (cl.take i).foldl (fun o x=>if 0≤nxt g x∧nxt g x=sy then jw o (x+1)else o) []=o at *
   generalize nxt g x=nx at *
   have hzd:IntKind.i64.wrap (x % 16+1)=x % 16+1:=wrap64 (by omega) (by omega)
   have hput:=yw (l:=o) (x:=x+1) (by omega)
   have hpl:=Jb o (x+1)
   have hkv:itV (x+1)=.agg [vi (x / 16),vi (x % 16+1)]:=by rw[← hin.1,← hin.2.1]
   rw[hkv]at hput
   by_cases hc:0≤nx∧nx=sy
   · rw[if_pos hc]at hst
     repeat' with_reducible first
      |refine s_ ?_
      |simp only[wZZ,seval,g2,g3,g8,g7,g9,o0,hz,hzd]
      |(first|apply qa|apply qh|apply qg)<;>intro h h_<;>(try simp only[wD,reduceCtorEq]at h_)<;>(try exact wb_)<;>(try simp only[h])
      |refine t_ ?_
      |refine cq2 hnx qb qb ?_
      |refine cq2 hput jy qb ?_
     refine⟨wk_,i+1,(by omega),?_⟩
     refine⟨?_,?_,?_,?_,?_,?_,?_,?_⟩
     iterate 6 (focus(first|(simp only[wL,wM,wN,wX,seval,Option.some.injEq,g2,g3,g8,g7,g9,o0,hst]<;>exact wt_)|rfl|exact⟨_,rfl⟩))
     all_goals try omega
     rw[hst];omega
   · rw[if_neg hc]at hst
     repeat' with_reducible first
      |refine s_ ?_
      |simp only[wZZ,seval,g2,g3,g8,g7,g9,o0,hz,hzd]
      |(first|apply qa|apply qh|apply qg)<;>intro h h_<;>(try simp only[wD,reduceCtorEq]at h_)<;>(try exact wb_)<;>(try simp only[h])
      |refine t_ ?_
      |refine cq2 hnx qb qb ?_
     all_goals exact⟨by((try simp only[wN])<;>omega),i+1,by omega,trivial,trivial,trivial,trivial,⟨_,by rw[hst]⟩,rfl,by omega,by rw[hst];omega⟩
 · have e:cl.take i=cl:=List.take_of_length_le (by omega)
   rw[e]at g7
   repeat' with_reducible first
    |refine s_ ?_
    |simp only[wZZ,seval,g2,g3,g8,g7,g9,o0,hz]
    |apply qa<;>intro h h_<;>(try simp only[wD,reduceCtorEq]at h_)<;>(try exact wb_)<;>(try simp only[h])
   all_goals refine qw rfl (Or.inr rfl) ?_
   all_goals(try simp only[wL,seval,g2,g3,g8,g7,g9])
   all_goals refine er_ ?_
   all_goals(try(with_reducible rfl))
theorem Zh {g:Grammar} (hg:GOk g):Pure Try.prog 73 [g.V] (.sl 1 false ((jv g).map (V.int .i64))):=by
 refine pure_intro Try.func73 qBN qr4 (by show 1≤30;decide) ?_
 show ewp _ qhC _ _
 have htl:=hg.tk2;have hnl:=hg.nn2
 have hdef:jv g=(List.range g.toks.length).map (fun(i:Nat)=>(i:Int))++(List.range g.nons.length).map fun(i:Nat)=>1000+(i:Int):=rfl
 rw[hdef]
 repeat' with_reducible first
  |refine s_ ?_
  |simp only[wZZ,seval]
  |refine t_ ?_
 refine qd ?nx1 (fun(i:Nat) s=>s.f 1=?v1_1∧s.H 0=some (.own 5 [g.V] false)∧(∃v,s.f 3=v∧Gr s.H s.next 1 (((List.range i).map (fun(i:Nat)=>(i:Int))).map (V.int .i64)) v)∧s.f 4=vi i∧(i≤g.toks.length)) (fun i=>g.toks.length - i) (0) wj_ (by refine⟨?_,?_,?_,?_,wo_⟩<;>first|(simp only[wL,wM,wN,wX,seval,Option.some.injEq]<;>exact wt_)|rfl|exact⟨_,rfl⟩) ?_
 intro i s hnx ⟨g1,o0,⟨v3,g3,G3⟩,g4,k1_0⟩
 have hz:=w1_ i
 by_cases hi:i<g.toks.length
 · have hst:(List.range (i+1)).map (fun(i:Nat)=>(i:Int))=(List.range i).map (fun(i:Nat)=>(i:Int))++[(i:Int)]:=by rw[List.range_succ,List.map_append];rfl
   have hlr:((List.range i).map (fun(i:Nat)=>(i:Int))).length=i:=by simp
   repeat' with_reducible first
    |refine s_ ?_
    |simp only[wZZ,seval,g1,g3,g4,o0,Gr.dropO G3 o0,hz,G3.len]
    |apply qa<;>intro h h_<;>(try simp only[wD,reduceCtorEq]at h_)<;>(try exact wb_)<;>(try simp only[h])
    |apply qQ rfl (G3.mono (Nat.le_refl _) (fun id h1 h2=>by(try simp only[wM]);(repeat rw[if_neg (by omega)])));(focus(first|exact qI.sl|exact qI.asl));(focus(simp only[wZ,hlr];omega));(focus(unfold maxLen;simp only[wZ,hlr];omega))
    |refine t_ ?_
   refine⟨wk_,i+1,(by omega),?_⟩
   refine⟨?_,?_,?_,?_,?_⟩
   iterate 4 (focus(first|(simp only[wL,wM,wN,wX,seval,Option.some.injEq,g1,g3,g4,o0,Gr.dropO G3 o0,hst]<;>first|rfl|exact⟨_,rfl⟩|exact⟨_,rfl,by first|assumption|exact Gr.nil|exact Gr.tok rfl (by omega)|exact Gr.tok (by simp only[wM,seval]<;>rfl) (by omega)|exact Gr.clip|exact G3.to (by first|rfl|(simp[*];done)) (by omega) rfl⟩)|rfl|exact⟨_,rfl⟩))
   all_goals try omega
 · have e:i=g.toks.length:=by omega
   subst e
   repeat' with_reducible first
    |refine s_ ?_
    |simp only[wZZ,seval,g1,g3,g4,o0,Gr.dropO G3 o0,hz,G3.len]
    |refine t_ ?_
   refine qd ?nx2 (fun(j:Nat) s=>s.f 1=?v2_1∧s.H 0=some (.own 5 [g.V] false)∧(∃v,s.f 3=v∧Gr s.H s.next 1 (((List.range g.toks.length).map (fun(i:Nat)=>(i:Int))++(List.range j).map fun(i:Nat)=>1000+(i:Int)).map (V.int .i64)) v)∧s.f 5=vi j∧(j≤g.nons.length)) (fun j=>g.nons.length - j) (0) wj_ (by refine⟨?_,?_,?_,?_,wo_⟩<;>first|(simp only[wL,wM,wN,wX,seval,Option.some.injEq,g1,g3,g4,o0,Gr.dropO G3 o0]<;>first|rfl|exact⟨_,rfl⟩|exact⟨_,rfl,by first|assumption|exact Gr.nil|exact Gr.tok rfl (by omega)|exact Gr.tok (by simp only[wM,seval]<;>rfl) (by omega)|exact Gr.clip|exact G3.to (by first|rfl|(simp[*];done)) (by omega) rfl⟩)|rfl|exact⟨_,rfl⟩) ?_
   intro j s hnx ⟨g1,o0,⟨v3,g3,G3⟩,g5,k2_0⟩
   have hzj:=w1_ j
   have hzk:IntKind.i64.wrap (1000+(j:Int))=1000+(j:Int):=wrap64 (by omega) (by omega)
   by_cases hj:j<g.nons.length
   · have hst:(List.range g.toks.length).map (fun(i:Nat)=>(i:Int))++(List.range (j+1)).map (fun(i:Nat)=>1000+(i:Int))=((List.range g.toks.length).map (fun(i:Nat)=>(i:Int))++(List.range j).map fun(i:Nat)=>1000+(i:Int))++[1000+(j:Int)]:=by rw[List.range_succ,List.map_append,List.append_assoc];rfl
     have hlr:((List.range g.toks.length).map (fun(i:Nat)=>(i:Int))++(List.range j).map fun(i:Nat)=>1000+(i:Int)).length=g.toks.length+j:=by simp
     repeat' with_reducible first
      |refine s_ ?_
      |simp only[wZZ,seval,g1,g3,g5,o0,Gr.dropO G3 o0,hzj,hzk,G3.len]
      |apply qa<;>intro h h_<;>(try simp only[wD,reduceCtorEq]at h_)<;>(try exact wb_)<;>(try simp only[h])
      |apply qQ rfl (G3.mono (Nat.le_refl _) (fun id h1 h2=>by(try simp only[wM]);(repeat rw[if_neg (by omega)])));(focus(first|exact qI.sl|exact qI.asl));(focus(simp only[wZ,hlr];omega));(focus(unfold maxLen;simp only[wZ,hlr];omega))
      |refine t_ ?_
     refine⟨wk_,j+1,(by omega),?_⟩
     refine⟨?_,?_,?_,?_,?_⟩
     iterate 4 (focus(first|(simp only[wL,wM,wN,wX,seval,Option.some.injEq,g1,g3,g5,o0,Gr.dropO G3 o0,hst]<;>first|rfl|exact⟨_,rfl⟩|exact⟨_,rfl,by first|assumption|exact Gr.nil|exact Gr.tok rfl (by omega)|exact Gr.tok (by simp only[wM,seval]<;>rfl) (by omega)|exact Gr.clip|exact G3.to (by first|rfl|(simp[*];done)) (by omega) rfl⟩)|rfl|exact⟨_,rfl⟩))
     all_goals try omega
   · have e:j=g.nons.length:=by omega
     subst e
     repeat' with_reducible first
      |refine s_ ?_
      |simp only[wZZ,seval,g1,g3,g5,o0,Gr.dropO G3 o0,G3.len]
      |refine t_ ?_
     all_goals refine qw rfl (Or.inr rfl) ?_
     all_goals(try simp only[wL,seval,g1,g3,g5])
     all_goals(first|refine er_ ?_ |refine G3.er ?_)
     all_goals(try(with_reducible rfl))

theorem qdY {k:List Int} {m:List Sta} {i n:Nat} {q:Sta} (h:m[i]?=some q):JQ k (m.drop i) n=if q.ker=k then(n:Int)else JQ k (m.drop (i+1)) (n+1):=by
 have hi:=(List.getElem?_eq_some_iff.1 h)
 rw[List.drop_eq_getElem_cons hi.1,hi.2];rfl
theorem XD {m:List Sta} {k:List Int} (hm:m.length≤1000000) (hk:k.length≤1000000) (hq: ∀q∈m,q.ker.length≤1000000):Pure Try.prog 77 [.sl 2 false (m.map Sta.V),.sl 2 false (k.map itV)] (vi (Zi m k)):=by
 refine pure_intro Try.func77 qI2 qJt (by show 2≤20;decide) ?_
 show ewp _ qjm _ _
 repeat' with_reducible first
  |refine s_ ?_
  |simp only[wZZ,seval]
 refine qd ?nx1 (fun(i:Nat) s=>s.f 0=?v1_0∧s.f 1=?v1_1∧s.f 5=vi i∧(i≤m.length)∧(Zi m k=JQ k (m.drop i) i)) (fun i=>m.length - i) (0) wj_ (by refine⟨?_,?_,?_,wo_,(by rfl)⟩<;>first|(simp only[wL,wM,wN,wX,seval,Option.some.injEq]<;>exact wt_)|rfl|exact⟨_,rfl⟩) ?_
 intro i s hnx ⟨g0,g1,g5,k1_0,k1_1⟩
 have hz:=w1_ i
 by_cases hi:i<m.length
 · have hgi:m[i]?=some m[i]:=ge_ hi
   have hst:=qdY (k:=k) (n:=i) hgi
   have he:=Jt (a:=m[i].ker) (b:=k) (by have:=hq _ (List.getElem_mem hi);omega) (by omega)
   generalize m[i]=q at *
   obtain ⟨qk,qm⟩:=q
   dsimp only at hst he
   by_cases hc:qk=k
   · rw[if_pos hc]at hst
     rw[decide_eq_true hc]at he
     rw[k1_1,hst]
     repeat' with_reducible first
      |refine s_ ?_
      |simp only[wZZ,seval,g0,g1,g5,hz]
      |apply qa<;>intro h h_<;>(try simp only[wD,reduceCtorEq]at h_)<;>(try exact wb_)<;>(try simp only[h])
      |refine t_ ?_
      |refine cq2 he qb qb ?_
     all_goals refine qw rfl (Or.inr rfl) ?_
     all_goals(try simp only[wL,seval,g0,g1,g5])
     all_goals refine er_ ?_
     all_goals(try(with_reducible rfl))
   · rw[if_neg hc]at hst
     rw[decide_eq_false hc]at he
     repeat' with_reducible first
      |refine s_ ?_
      |simp only[wZZ,seval,g0,g1,g5,hz]
      |apply qa<;>intro h h_<;>(try simp only[wD,reduceCtorEq]at h_)<;>(try exact wb_)<;>(try simp only[h])
      |refine t_ ?_
      |refine cq2 he qb qb ?_
     refine⟨wk_,i+1,(by omega),?_⟩
     refine⟨?_,?_,?_,?_,?_⟩
     iterate 3 (focus(first|(simp only[wL,wM,wN,wX,seval,Option.some.injEq,g0,g1,g5]<;>exact wt_)|rfl|exact⟨_,rfl⟩))
     all_goals try omega
 · have e:m.drop i=[]:=List.drop_of_length_le (by omega)
   rw[e]at k1_1
   rw[k1_1]
   repeat' with_reducible first
    |refine s_ ?_
    |simp only[wZZ,seval,g0,g1,g5,hz]
    |apply qa<;>intro h h_<;>(try simp only[wD,reduceCtorEq]at h_)<;>(try exact wb_)<;>(try simp only[h])
   all_goals refine qw rfl (Or.inr rfl) ?_
   all_goals(try simp only[wL,seval,g0,g1,g5])
   all_goals refine er_ ?_
   all_goals(try(with_reducible rfl))
   all_goals rfl
theorem qmP {l:List (Int×Int)} {s:Int} {i:Nat} {p:Int×Int} (h:l[i]?=some p):goL (l.drop i) s=if p.1=s then p.2 else goL (l.drop (i+1)) s:=by
 have hi:=(List.getElem?_eq_some_iff.1 h)
 rw[List.drop_eq_getElem_cons hi.1,hi.2];rfl
theorem qus {m:List Sta} {q:Nat} {x:Sta} (h:m[q]?=some x) (s:Int):goS m (q:Int) s=goL x.mov s:=by
 unfold goS
 rw[if_neg (by omega),show ((q:Int)).toNat=q from rfl,h]
theorem qrl {m:List Sta} {q:Int} (h:q<0∨(m.length:Int)≤q) (s:Int):goS m q s= -1:=by
 unfold goS
 split
 · rfl
 · rw[List.getElem?_eq_none (by omega)]
theorem jC {m:List Sta} {q sy:Int} (hm:m.length≤1000000) (hq: ∀q∈m,q.mov.length≤1000000):Pure Try.prog 58 [.sl 2 false (m.map Sta.V),vi q,vi sy] (vi (goS m q sy)):=by
 refine pure_intro Try.func58 qAJ qur (by show 3≤48;decide) ?_
 show ewp _ qhX _ _
 repeat' with_reducible first
  |refine s_ ?_
  |simp only[wZZ,seval]
 refine qd ?nx1 (fun(i:Nat) s=>s.f 0=?v1_0∧s.f 1=?v1_1∧s.f 2=?v1_2∧s.f 7=vi i∧((∀x,m[q.toNat]?=some x→i≤x.mov.length∧goL x.mov sy=goL (x.mov.drop i) sy))) (fun i=>((m[q.toNat]?).map (·.mov.length)).getD 0 - i) (0) wj_ (by refine⟨?_,?_,?_,?_,(by exact fun x _=>⟨Nat.zero_le _,rfl⟩)⟩<;>first|(simp only[wL,wM,wN,wX,seval,Option.some.injEq]<;>exact wt_)|rfl|exact⟨_,rfl⟩) ?_
 intro i s hnx ⟨g0,g1,g2,g7,k1_0⟩
 have hz:i<1000000→IntKind.i64.wrap ((i+1:Nat):Int)=((i+1:Nat):Int):=fun h=>wrap64 (by omega) (by omega)
 by_cases hin:0≤q∧q<m.length
 · obtain ⟨n,rfl⟩: ∃n:Nat,q=(n:Int):=⟨q.toNat,by omega⟩
   have hgn:m[n]?=some m[n]:=ge_ (by omega)
   have hml:=hq _ (List.getElem_mem (show n<m.length by omega))
   rw[qus hgn]
   rw[show ((n:Int)).toNat=n from rfl]at *
   generalize m[n]=x at *
   obtain ⟨h1,h2⟩:=k1_0 _ hgn
   obtain ⟨xk,xm⟩:=x
   dsimp only at hml h1 h2 ⊢
   by_cases hi:i<xm.length
   · have hz:=hz (by omega)
     have hgi:xm[i]?=some xm[i]:=ge_ hi
     have hst:=qmP (s:=sy) hgi
     generalize xm[i]=p at *
     obtain ⟨p1,p2⟩:=p
     dsimp only at hst
     by_cases hc:p1=sy
     · rw[if_pos hc]at hst
       rw[h2,hst]
       repeat' with_reducible first
        |refine s_ ?_
        |simp only[wZZ,seval,g0,g1,g2,g7,hz]
        |(first|apply qa|apply qh|apply qg)<;>intro h h_<;>(try simp only[wD,reduceCtorEq]at h_)<;>(try exact wb_)<;>(try simp only[h])
        |refine t_ ?_
       all_goals refine qw rfl (Or.inr rfl) ?_
       all_goals(try simp only[wL,seval,g0,g1,g2,g7])
       all_goals refine er_ ?_
       all_goals(try(with_reducible rfl))
     · rw[if_neg hc]at hst
       repeat' with_reducible first
        |refine s_ ?_
        |simp only[wZZ,seval,g0,g1,g2,g7,hz]
        |(first|apply qa|apply qh|apply qg)<;>intro h h_<;>(try simp only[wD,reduceCtorEq]at h_)<;>(try exact wb_)<;>(try simp only[h])
        |refine t_ ?_
       refine⟨by((try simp only[wN])<;>omega),i+1,by simp only[hgn,Option.map_some,Option.getD_some];omega,?_⟩;(repeat refine⟨True.intro,?_⟩)
       refine⟨rfl,fun x hx=>?_⟩
       rw[hgn]at hx
       cases hx
       exact⟨by dsimp only;omega,by dsimp only;rw[h2,hst]⟩
   · have e:xm.drop i=[]:=List.drop_of_length_le (by omega)
     rw[e]at h2
     rw[h2]
     repeat' with_reducible first
      |refine s_ ?_
      |simp only[wZZ,seval,g0,g1,g2,g7]
      |(first|apply qa|apply qh|apply qg)<;>intro h h_<;>(try simp only[wD,reduceCtorEq]at h_)<;>(try exact wb_)<;>(try simp only[h])
      |refine t_ ?_
     all_goals refine qw rfl (Or.inr rfl) ?_
     all_goals(try simp only[wL,seval,g0,g1,g2,g7])
     all_goals refine er_ ?_
     all_goals(try(with_reducible rfl))
     all_goals rfl
 · rw[qrl (by omega)]
   repeat' with_reducible first
    |refine s_ ?_
    |simp only[wZZ,seval,g0,g1,g2,g7]
    |(first|apply qh|apply qg)<;>intro h h_<;>(try simp only[wD,reduceCtorEq]at h_)<;>(try exact wb_)<;>(try simp only[h])
   all_goals refine qw rfl (Or.inr rfl) ?_
   all_goals(try simp only[wL,seval,g0,g1,g2,g7])
   all_goals refine er_ ?_
   all_goals(try(with_reducible rfl))
theorem qgg {m:List Sta} {l:List Int} {i:Nat} {q s:Int} (h:l[i]?=some s):xB m q (l.drop i)=if q<0 then q else xB m (goS m q s) (l.drop (i+1)):=by
 have hi:=(List.getElem?_eq_some_iff.1 h)
 rw[List.drop_eq_getElem_cons hi.1,hi.2];rfl
theorem qet {m:List Sta} {q:Int} (h:q<0): ∀l,xB m q l=q
 |[]=>rfl
 |s::l=>by unfold xB;rw[if_pos h]
theorem kM {m:List Sta} {q:Int} {l:List Int} (hm:m.length≤1000000) (hq: ∀q∈m,q.mov.length≤1000000) (hl:l.length≤1000000):Pure Try.prog 83 [.sl 2 false (m.map Sta.V),vi q,.sl 1 false (l.map (V.int .i64))] (vi (xB m q l)):=by
 refine pure_intro Try.func83 qAO qBH (by show 3≤26;decide) ?_
 show ewp _ qiq _ _
 repeat' with_reducible first
  |refine s_ ?_
  |simp only[wZZ,seval]
 refine qd ?nx1 (fun(p:Nat×Int) s=>s.f 0=?v1_0∧s.f 2=?v1_2∧s.f 7=vi p.1∧(p.1≤l.length)∧(xB m q l=xB m p.2 (l.drop p.1))∧(s.f 1=.int .i64 p.2)) (fun p=>l.length - p.1) ((0,q)) wj_ (by refine⟨?_,?_,?_,wo_,(by rfl),(by(try simp only[wL,wM,wN,seval]);first|done|rfl)⟩<;>first|(simp only[wL,wM,wN,wX,seval,Option.some.injEq]<;>exact wt_)|rfl|exact⟨_,rfl⟩) ?_
 intro p s hnx ⟨g0,g2,g7,k1_0,k1_1,g1⟩
 obtain ⟨i,r⟩:=p
 dsimp only at *
 have hz:=w1_ i
 by_cases hi:i<l.length∧0≤r
 · obtain ⟨hi,hr⟩:=hi
   have hgi:l[i]?=some l[i]:=ge_ hi
   have hst:=qgg (m:=m) (q:=r) hgi
   rw[if_neg (by omega)]at hst
   have hgo:=jC (q:=r) (sy:=l[i]) hm hq
   generalize l[i]=sy at *
   repeat' with_reducible first
    |refine s_ ?_
    |simp only[wZZ,seval,g0,g2,g7,g1,hz]
    |(first|apply qa|apply qh|apply qg)<;>intro h h_<;>(try simp only[wD,reduceCtorEq]at h_)<;>(try exact wb_)<;>(try simp only[h])
    |refine t_ ?_
    |refine cq3 hgo qb qb qb ?_
   refine⟨by((try simp only[wN])<;>omega),(i+1,goS m r sy),by dsimp only;omega,?_⟩;(repeat refine⟨True.intro,?_⟩)
   exact⟨rfl,by dsimp only;omega,by rw[k1_1,hst],rfl⟩
 · have e:xB m r (l.drop i)=r:=by
    by_cases h:r<0
    · exact qet h _
    · rw[List.drop_of_length_le (by omega)];rfl
   rw[k1_1,e]
   repeat' with_reducible first
    |refine s_ ?_
    |simp only[wZZ,seval,g0,g2,g7,g1,hz]
    |(first|apply qa|apply qh|apply qg)<;>intro h h_<;>(try simp only[wD,reduceCtorEq]at h_)<;>(try exact wb_)<;>(try simp only[h])
   all_goals refine qw rfl (Or.inr rfl) ?_
   all_goals(try simp only[wL,seval,g0,g2,g7,g1])
   all_goals refine er_ ?_
   all_goals(try(with_reducible rfl))

def qgk (m:List Sta) (i:Nat):List (Int×Int):=(m[i]?.map (·.mov)).getD []
abbrev trF (i:Nat):Int×Int→Option (Int×Int):=fun p=>if 1000≤p.1 then some ((i:Int),p.1)else none
def yT (m:List Sta) (n:Nat):List (Int×Int):=(List.range n).flatMap fun i=>(qgk m i).filterMap (trF i)
theorem Za (m:List Sta) (n:Nat):yT m (n+1)=yT m n++(qgk m n).filterMap (trF n):=by
 unfold yT;rw[List.range_succ,List.flatMap_append];simp
theorem qfX {α β:Type} (f:α→Option β) {l:List α} {i:Nat} {x:α} (h:l[i]?=some x):(l.take (i+1)).filterMap f=(l.take i).filterMap f++(f x).toList:=by
 rw[List.take_add_one,h,List.filterMap_append]
 cases hf:f x<;>simp[hf]
theorem jd {m:List Sta} (hm:m.length≤1000) (hq: ∀q∈m,q.mov.length≤1000):Pure Try.prog 82 [.sl 2 false (m.map Sta.V)] (.sl 2 false ((qx m).map prV)):=by
 refine pure_intro Try.func82 quD qw2 (by show 1≤47;decide) ?_
 show ewp _ qiT _ _
 have hdef:qx m=yT m m.length:=rfl
 rw[hdef]
 repeat' with_reducible first
  |refine s_ ?_
  |simp only[wZZ,seval]
 refine qd ?nx1 (fun(i:Nat) s=>s.f 0=?v1_0∧(∃v,s.f 3=v∧Gr s.H s.next 2 ((yT m i).map prV) v)∧s.f 4=vi i∧(i≤m.length)∧((yT m i).length≤i *1000)) (fun i=>m.length - i) (0) wj_ (by refine⟨?_,?_,?_,wo_,(by exact Nat.zero_le _)⟩<;>first|(simp only[wL,wM,wN,wX,seval,Option.some.injEq]<;>exact wt_)|rfl|exact⟨_,rfl⟩) ?_
 intro i s hnx ⟨g0,⟨v3,g3,G3⟩,g4,k1_0,k1_1⟩
 have hz:=w1_ i
 by_cases hi:i<m.length
 · have hgi:m[i]?=some m[i]:=ge_ hi
   have hml:=hq _ (List.getElem_mem hi)
   have hst:=Za m i
   have hmi:qgk m i=m[i].mov:=by unfold qgk;rw[hgi];rfl
   rw[hmi]at hst
   generalize m[i]=x at *
   generalize hT:yT m i=T at *
   obtain ⟨xk,xm⟩:=x
   dsimp only at hml hst
   repeat' with_reducible first
    |refine s_ ?_
    |simp only[wZZ,seval,g0,g3,g4,hz,G3.len]
    |apply qa<;>intro h h_<;>(try simp only[wD,reduceCtorEq]at h_)<;>(try exact wb_)<;>(try simp only[h])
   refine qd ?nx2 (fun(j:Nat) s=>s.f 0=?v2_0∧s.f 4=?v2_4∧(∃v,s.f 3=v∧Gr s.H s.next 2 ((T++(xm.take j).filterMap (trF i)).map prV) v)∧s.f 5=vi j∧(j≤xm.length)∧(((xm.take j).filterMap (trF i)).length≤j)) (fun j=>xm.length - j) (0) wj_ (by refine⟨?_,?_,?_,?_,wo_,(by exact Nat.zero_le _)⟩<;>first|(simp only[wL,wM,wN,wX,seval,Option.some.injEq,g0,g3,g4]<;>first|rfl|exact⟨_,rfl⟩|exact⟨_,rfl,by first|assumption|exact Gr.nil|exact Gr.tok rfl (by omega)|exact Gr.tok (by simp only[wM,seval]<;>rfl) (by omega)|exact Gr.clip|exact G3.to (by first|rfl|(simp[*];done)) (by omega) rfl⟩)|rfl|exact⟨_,rfl⟩) ?_
   intro j s hnx ⟨g0,g4,⟨v3,g3,G3⟩,g5,k2_0,k2_1⟩
   have hzj:=w1_ j
   by_cases hj:j<xm.length
   · have hgj:xm[j]?=some xm[j]:=ge_ hj
     have hst2:=qfX (trF i) hgj
     generalize xm[j]=p at *
     generalize (xm.take j).filterMap (trF i)=U at *
     obtain ⟨p1,p2⟩:=p
     by_cases hc:1000≤p1
     · have hst3:(xm.take (j+1)).filterMap (trF i)=U++[((i:Int),p1)]:=by rw[hst2];simp[trF,hc]
       have hlr:(T++U).length=T.length+U.length:=List.length_append
       repeat' with_reducible first
        |refine s_ ?_
        |simp only[wZZ,seval,g0,g4,g3,g5,hzj,G3.len]
        |apply qa<;>intro h h_<;>(try simp only[wD,reduceCtorEq]at h_)<;>(try exact wb_)<;>(try simp only[h])
        |apply qQ rfl (G3.mono (Nat.le_refl _) (fun id h1 h2=>by(try simp only[wM]);(repeat rw[if_neg (by omega)])));(focus(first|exact qI.sl|exact qI.asl));(focus(simp only[wZ,hlr];omega));(focus(unfold maxLen;simp only[wZ,hlr];omega))
        |refine t_ ?_
       exact⟨by((try simp only[wN])<;>omega),j+1,by omega,trivial,trivial,⟨_,rfl,by rw[hst3,← List.append_assoc,List.map_append];exact Gr.tok (id:=s.next+8+10+13) (fin:=(T++U).length+1) (by((try simp only[wM]);(repeat first|rw[if_pos trivial]|rw[if_pos rfl]|rw[if_neg (by omega)]))) (by((try simp only[wN])<;>omega))⟩,rfl,by omega,by rw[hst3,List.length_append,List.length_singleton];omega⟩
     · have hst3:(xm.take (j+1)).filterMap (trF i)=U:=by rw[hst2];simp[trF,hc]
       repeat' with_reducible first
        |refine s_ ?_
        |simp only[wZZ,seval,g0,g4,g3,g5,hzj,G3.len]
        |apply qa<;>intro h h_<;>(try simp only[wD,reduceCtorEq]at h_)<;>(try exact wb_)<;>(try simp only[h])
        |refine t_ ?_
       refine⟨wk_,j+1,(by omega),?_⟩
       refine⟨?_,?_,?_,?_,?_,?_⟩
       iterate 4 (focus(first|(simp only[wL,wM,wN,wX,seval,Option.some.injEq,g0,g4,g3,g5,hst3]<;>first|rfl|exact⟨_,rfl⟩|exact⟨_,rfl,by first|assumption|exact Gr.nil|exact Gr.tok rfl (by omega)|exact Gr.tok (by simp only[wM,seval]<;>rfl) (by omega)|exact Gr.clip|exact G3.to (by first|rfl|(simp[*];done)) (by omega) rfl⟩)|rfl|exact⟨_,rfl⟩))
       all_goals try omega
       rw[hst3];omega
   · have e:xm.take j=xm:=List.take_of_length_le (by omega)
     rw[e]at G3 k2_1
     rw[← hst]at G3
     repeat' with_reducible first
      |refine s_ ?_
      |simp only[wZZ,seval,g0,g4,g3,g5,hz,G3.len]
      |apply qa<;>intro h h_<;>(try simp only[wD,reduceCtorEq]at h_)<;>(try exact wb_)<;>(try simp only[h])
      |refine t_ ?_
     exact⟨by((try simp only[wN])<;>omega),i+1,by omega,trivial,⟨v3,rfl,G3.mono (by((try simp only[wN])<;>omega)) (fun _ _ _=>rfl)⟩,rfl,by omega,by rw[hst,List.length_append];omega⟩
 · have e:i=m.length:=by omega
   subst e
   skip
   repeat' with_reducible first
    |refine s_ ?_
    |simp only[wZZ,seval,g0,g3,g4,hz,G3.len]
   all_goals refine qw rfl (Or.inr rfl) ?_
   all_goals(try simp only[wL,seval,g0,g3,g4])
   all_goals(first|refine er_ ?_ |refine G3.er ?_)
   all_goals(try(with_reducible rfl))

theorem qgQ {q sy:Int} {t:List (Int×Int)} {i n:Nat} {p:Int×Int} (h:t[i]?=some p):qeM q sy (t.drop i) n=if p.1=q∧p.2=sy then(n:Int)else qeM q sy (t.drop (i+1)) (n+1):=by
 have hi:=(List.getElem?_eq_some_iff.1 h)
 rw[List.drop_eq_getElem_cons hi.1,hi.2];rfl
theorem yP {t:List (Int×Int)} {q sy:Int} (ht:t.length≤1000000):Pure Try.prog 102 [.sl 2 false (t.map prV),vi q,vi sy] (vi (qa7 t q sy)):=by
 refine pure_intro Try.func102 qkR qk0 (by show 3≤31;decide) ?_
 show ewp _ qd9 _ _
 repeat' with_reducible first
  |refine s_ ?_
  |simp only[wZZ,seval]
 refine qd ?nx1 (fun(i:Nat) s=>s.f 0=?v1_0∧s.f 1=?v1_1∧s.f 2=?v1_2∧s.f 7=vi i∧(i≤t.length)∧(qa7 t q sy=qeM q sy (t.drop i) i)) (fun i=>t.length - i) (0) wj_ (by refine⟨?_,?_,?_,?_,wo_,(by rfl)⟩<;>first|(simp only[wL,wM,wN,wX,seval,Option.some.injEq]<;>exact wt_)|rfl|exact⟨_,rfl⟩) ?_
 intro i s hnx ⟨g0,g1,g2,g7,k1_0,k1_1⟩
 have hz:=w1_ i
 by_cases hi:i<t.length
 · have hgi:t[i]?=some t[i]:=ge_ hi
   have hst:=qgQ (q:=q) (sy:=sy) (n:=i) hgi
   generalize t[i]=p at *
   obtain ⟨p1,p2⟩:=p
   dsimp only at hst
   by_cases hc:p1=q∧p2=sy
   · rw[if_pos hc]at hst
     rw[k1_1,hst]
     obtain ⟨hc1,hc2⟩:=hc
     repeat' with_reducible first
      |refine s_ ?_
      |simp only[wZZ,seval,g0,g1,g2,g7,hz]
      |(first|apply qa|apply qh|apply qg)<;>intro h h_<;>(try simp only[wD,reduceCtorEq]at h_)<;>(try exact wb_)<;>(try simp only[h])
      |refine t_ ?_
     all_goals refine qw rfl (Or.inr rfl) ?_
     all_goals(try simp only[wL,seval,g0,g1,g2,g7])
     all_goals refine er_ ?_
     all_goals(try(with_reducible rfl))
   · rw[if_neg hc]at hst
     repeat' with_reducible first
      |refine s_ ?_
      |simp only[wZZ,seval,g0,g1,g2,g7,hz]
      |(first|apply qa|apply qh|apply qg)<;>intro h h_<;>(try simp only[wD,reduceCtorEq]at h_)<;>(try exact wb_)<;>(try simp only[h])
      |refine t_ ?_
     all_goals exact⟨by((try simp only[wN])<;>omega),i+1,by omega,trivial,trivial,trivial,rfl,by omega,by rw[k1_1,hst]⟩
 · have e:t.drop i=[]:=List.drop_of_length_le (by omega)
   rw[e]at k1_1
   rw[k1_1]
   repeat' with_reducible first
    |refine s_ ?_
    |simp only[wZZ,seval,g0,g1,g2,g7,hz]
    |apply qa<;>intro h h_<;>(try simp only[wD,reduceCtorEq]at h_)<;>(try exact wb_)<;>(try simp only[h])
   all_goals refine qw rfl (Or.inr rfl) ?_
   all_goals(try simp only[wL,seval,g0,g1,g2,g7])
   all_goals refine er_ ?_
   all_goals(try(with_reducible rfl))
   all_goals rfl
theorem X5 {k:List Int} (hk:k.length≤1000000):Pure Try.prog 100 [.sl 2 false (k.map itV)] (.bool (decide ((1:Int)∈k))):=by
 refine pure_intro Try.func100 qlw qp5 (by show 1≤24;decide) ?_
 show ewp _ qeL _ _
 repeat' with_reducible first
  |refine s_ ?_
  |simp only[wZZ,seval]
 refine qd ?nx1 (fun(i:Nat) s=>s.f 0=?v1_0∧s.f 3=vi i∧(i≤k.length)∧((1:Int) ∉ k.take i)) (fun i=>k.length - i) (0) wj_ (by refine⟨?_,?_,wo_,(by simp)⟩<;>first|(simp only[wL,wM,wN,wX,seval,Option.some.injEq]<;>exact wt_)|rfl|exact⟨_,rfl⟩) ?_
 intro i s hnx ⟨g0,g3,k1_0,k1_1⟩
 have hz:=w1_ i
 by_cases hi:i<k.length
 · have hgi:k[i]?=some k[i]:=ge_ hi
   have htk:k.take (i+1)=k.take i++[k[i]]:=by rw[List.take_add_one,hgi];rfl
   have hmem:=List.getElem_mem hi
   generalize k[i]=x at *
   by_cases hc:x=1
   · subst hc
     rw[decide_eq_true hmem]
     repeat' with_reducible first
      |refine s_ ?_
      |simp only[wZZ,seval,g0,g3,hz]
      |(first|apply qa|apply qh|apply qg)<;>intro h h_<;>(try simp only[wD,reduceCtorEq]at h_)<;>(try exact wb_)<;>(try simp only[h])
      |refine t_ ?_
     all_goals refine qw rfl (Or.inr rfl) ?_
     all_goals(try simp only[wL,seval,g0,g3])
     all_goals refine er_ ?_
     all_goals(try(with_reducible rfl))
   · have hn:(1:Int) ∉ k.take (i+1):=by
      rw[htk,List.mem_append,List.mem_singleton]
      rintro (h|h)
      · exact k1_1 h
      · exact hc h.symm
     repeat' with_reducible first
      |refine s_ ?_
      |simp only[wZZ,seval,g0,g3,hz]
      |(first|apply qa|apply qh|apply qg)<;>intro h h_<;>(try simp only[wD,reduceCtorEq]at h_)<;>(try exact wb_)<;>(try simp only[h])
      |refine t_ ?_
     all_goals exact⟨by((try simp only[wN])<;>omega),i+1,by omega,trivial,rfl,by omega,hn⟩
 · have e:k.take i=k:=List.take_of_length_le (by omega)
   rw[e]at k1_1
   rw[decide_eq_false k1_1]
   repeat' with_reducible first
    |refine s_ ?_
    |simp only[wZZ,seval,g0,g3,hz]
    |apply qa<;>intro h h_<;>(try simp only[wD,reduceCtorEq]at h_)<;>(try exact wb_)<;>(try simp only[h])
   all_goals refine qw rfl (Or.inr rfl) ?_
   all_goals(try simp only[wL,seval,g0,g3])
   all_goals refine er_ ?_
   all_goals(try(with_reducible rfl))
theorem qp1 {g:Grammar} (hg:GOk g) {m d:Nat} {p:GPr} {x:Int} (hp:g.prods[m]?=some p) (hd:d≤p.right.length) (hn:nxt g x=(p.right[d]?).getD (-1)):nxt g x= -1↔d=p.right.length:=by
 rw[hn]
 constructor
 · intro h
   refine Classical.byContradiction fun e=>?_
   have hlt:d<p.right.length:=by omega
   rw[ge_ hlt,Option.getD_some]at h
   rcases hg.right p (List.mem_of_getElem? hp) _ (List.getElem_mem hlt)with ⟨t,e,_⟩|⟨k,e,_⟩<;>omega
 · intro h
   rw[List.getElem?_eq_none (by omega)];rfl
abbrev qkz (g:Grammar):Int→Option Int:=fun x=>if 0<x / 16∧nxt g x= -1 then some (x / 16)else none
theorem Ye {g:Grammar} {l:List Int} (hx: ∀x∈l,Zb g x) (hr:jU l) (hl:l.length≤1000000) (hg:GOk g):Pure Try.prog 55 [g.V,.sl 2 false (l.map itV)] (.sl 1 false ((yF g l).map (V.int .i64))):=by
 refine pure_intro Try.func55 qIX qvk (by show 2≤51;decide) ?_
 show ewp _ qib _ _
 have hcl:=j6 hx hr hl hg
 obtain ⟨hI,hok,hcb⟩:=zJ hg hx hr
 have hdef:yF g l=(zC g l).filterMap (qkz g):=rfl
 rw[hdef]
 generalize zC g l=cl at *
 repeat' with_reducible first
  |refine s_ ?_
  |simp only[wZZ,seval]
  |refine cq2 hcl qb qb ?_
  |refine t_ ?_
 refine qd ?nx1 (fun(i:Nat) s=>s.f 2=?v1_2∧s.f 6=?v1_6∧s.H 0=some (.own 5 [g.V] false)∧(∃v,s.f 5=v∧Gr s.H s.next 1 (((cl.take i).filterMap (qkz g)).map (V.int .i64)) v)∧s.f 7=vi i∧(i≤cl.length)∧(((cl.take i).filterMap (qkz g)).length≤i)) (fun i=>cl.length - i) (0) wj_ (by refine⟨?_,?_,?_,?_,?_,wo_,(by exact Nat.zero_le _)⟩<;>first|(simp only[wL,wM,wN,wX,seval,Option.some.injEq]<;>exact wt_)|rfl|exact⟨_,rfl⟩) ?_
 intro i s hnx ⟨g2,g6,o0,⟨v5,g5,G5⟩,g7,k1_0,k1_1⟩
 have hz:=w1_ i
 by_cases hi:i<cl.length
 · have hgi:cl[i]?=some cl[i]:=ge_ hi
   have hst:=qfX (qkz g) hgi
   obtain ⟨m,d,p,hm,hd,hp,hdl,hn⟩:=(hok _ (List.getElem_mem hi)).nat
   have hne:=qp1 hg hp hdl hn
   generalize cl[i]=x at *
   generalize hU:(cl.take i).filterMap (qkz g)=U at *
   have hsf:(qkz g x).toList=if 0<m∧d=p.right.length then[(m:Int)]else[]:=by
    simp only[qkz,hm]
    by_cases h:0<m∧d=p.right.length
    · rw[if_pos (by rw[hne];exact⟨by omega,h.2⟩),if_pos h];rfl
    · rw[if_neg (by rw[hne];omega),if_neg h];rfl
   rw[hsf]at hst
   have hV:itV x=.agg [vi m,vi d]:=by rw[← hm,← hd]
   obtain ⟨pl,pr,pc,pco,pa,pat⟩:=p
   dsimp only at hst hdl
   by_cases hc:0<m∧d=pr.length
   · rw[if_pos hc]at hst
     obtain ⟨hc1,hc2⟩:=hc
     have hlr:U.length=U.length:=rfl
     repeat' with_reducible first
      |refine s_ ?_
      |simp only[wZZ,seval,g2,g6,g5,g7,o0,Gr.dropO G5 o0,hz,hV,hm,hd,G5.len]
      |(first|apply qa|apply qh|apply qg)<;>intro h h_<;>(try simp only[wD,reduceCtorEq]at h_)<;>(try exact wb_)<;>(try simp only[h])
      |apply qQ rfl (G5.mono (Nat.le_refl _) (fun id h1 h2=>by(try simp only[wM]);(repeat rw[if_neg (by omega)])));(focus(first|exact qI.sl|exact qI.asl));(focus(simp only[wZ,hlr];omega));(focus(unfold maxLen;simp only[wZ,hlr];omega))
      |refine t_ ?_
     all_goals exact⟨by((try simp only[wN])<;>omega),i+1,by omega,trivial,trivial,trivial,⟨_,rfl,by rw[hst];exact Gr.tok (id:=s.next+4+25+7) (fin:=U.length+1) (by((try simp only[wM]);(repeat first|rw[if_pos trivial]|rw[if_pos rfl]|rw[if_neg (by omega)]))) (by((try simp only[wN])<;>omega))⟩,rfl,by omega,by rw[hst,List.length_append,List.length_singleton];omega⟩
   · rw[if_neg hc,List.append_nil]at hst
     repeat' with_reducible first
      |refine s_ ?_
      |simp only[wZZ,seval,g2,g6,g5,g7,o0,Gr.dropO G5 o0,hz,hV,hm,hd,G5.len]
      |(first|apply qa|apply qh|apply qg)<;>intro h h_<;>(try simp only[wD,reduceCtorEq]at h_)<;>(try exact wb_)<;>(try simp only[h])
      |refine t_ ?_
     all_goals exact⟨by((try simp only[wN])<;>omega),i+1,by omega,trivial,trivial,trivial,⟨v5,rfl,by rw[hst];exact G5.mono (by((try simp only[wN])<;>omega)) (fun _ _ _=>rfl)⟩,rfl,by omega,by rw[hst];omega⟩
 · have e:cl.take i=cl:=List.take_of_length_le (by omega)
   rw[e]at G5
   repeat' with_reducible first
    |refine s_ ?_
    |simp only[wZZ,seval,g2,g6,g5,g7,o0,Gr.dropO G5 o0,hz,G5.len]
    |apply qa<;>intro h h_<;>(try simp only[wD,reduceCtorEq]at h_)<;>(try exact wb_)<;>(try simp only[h])
   all_goals refine qw rfl (Or.inr rfl) ?_
   all_goals(try simp only[wL,seval,g2,g6,g5,g7])
   all_goals(first|refine er_ ?_ |refine G5.er ?_)
   all_goals(try(with_reducible rfl))
abbrev qdD (m:List Sta) (x:GPr) (q:Int) (t:List (Int×Int)):Nat→Bool:=fun i=>decide ((t.getD i (0,0)).2=1000+x.left∧xB m (t.getD i (0,0)).1 x.right=q)
theorem qbf (f:Nat→Bool) (n:Nat):((List.range (n+1)).filter f).map (fun(i:Nat)=>(i:Int))=((List.range n).filter f).map (fun(i:Nat)=>(i:Int))++(if f n=true then[(n:Int)]else[]):=by
 rw[List.range_succ,List.filter_append,List.map_append]
 cases h:f n<;>simp[h]
theorem qdi (f:Nat→Bool) (n:Nat):(((List.range n).filter f).map (fun(i:Nat)=>(i:Int))).length≤n:=by
 rw[List.length_map]
 exact Nat.le_trans (List.length_filter_le _ _) (by rw[List.length_range];exact Nat.le_refl _)
theorem Qo {m:List Sta} (hq: ∀q∈m,q.mov.length≤1000): ∀n,(yT m n).length≤n *1000
 |0=>Nat.zero_le _
 | n+1=>by
   rw[Za,List.length_append]
   have:=Qo hq n
   have h1:=List.length_filterMap_le (trF n) (qgk m n)
   have h2:(qgk m n).length≤1000:=by
    unfold qgk
    cases h:m[n]? with
    |none=>simp
    |some q=>exact hq q (List.mem_of_getElem? h)
   omega
theorem XP {g:Grammar} {m:List Sta} {q n:Nat} (hg:GOk g) (hm:m.length≤1000) (hq: ∀q∈m,q.mov.length≤1000) (hqm:q<m.length) (hn:1≤n) (hnl:n<g.prods.length):Pure Try.prog 56 [g.V,.sl 2 false (m.map Sta.V),vi q,vi n] (.sl 1 false ((XY g m q n).map (V.int .i64))):=by
 refine pure_intro Try.func56 qwm qvC (by show 4≤74;decide) ?_
 show ewp _ qi9 _ _
 have hpl:=hg.pl2
 have hgp:g.prods[n]?=some g.prods[n]:=ge_ hnl
 have hrl:=hg.rlen _ (List.getElem_mem hnl)
 obtain ⟨lf,hl1,hl2⟩:=hg.left _ (List.getElem_mem hnl)
 have hnn:=hg.nn2
 have hdef:XY g m q n=((List.range (qx m).length).filter (qdD m g.prods[n] (q:Int) (qx m))).map (fun(i:Nat)=>(i:Int)):=by
  unfold XY
  rw[show ((n:Int)).toNat=n from rfl,hgp]
 rw[hdef]
 have htr:=jd hm hq
 have htl:(qx m).length≤1000000:=by have:=Qo hq m.length;have e:qx m=yT m m.length:=rfl;rw[e];omega
 generalize qx m=T at *
 generalize g.prods[n]=p at *
 obtain ⟨pl,pr,pc,pco,pa,pat⟩:=p
 dsimp only at hl1 hrl
 subst hl1
 have hzl:IntKind.i64.wrap (1000+(lf:Int))=1000+(lf:Int):=wrap64 (by omega) (by omega)
 repeat' with_reducible first
  |refine s_ ?_
  |simp only[wZZ,seval]
  |(first|apply qa|apply qh|apply qg)<;>intro h h_<;>(try simp only[wD,reduceCtorEq]at h_)<;>(try exact wb_)<;>(try simp only[h])
  |refine cq1 htr qb ?_
  |refine t_ ?_
 refine qd ?nx1 (fun(i:Nat) s=>s.f 1=?v1_1∧s.f 2=?v1_2∧s.f 3=?v1_3∧s.f 4=?v1_4∧s.f 9=?v1_9∧s.H 0=some (.own 5 [g.V] false)∧(∃v,s.f 10=v∧Gr s.H s.next 1 ((((List.range i).filter (qdD m {left:=(lf:Int),right:=pr,prec:=pc,code:=pco,args:=pa,at_:=pat} (q:Int) T)).map (fun(i:Nat)=>(i:Int))).map (V.int .i64)) v)∧s.f 11=vi i∧(i≤T.length)) (fun i=>T.length - i) (0) wj_ (by refine⟨?_,?_,?_,?_,?_,?_,?_,?_,wo_⟩<;>first|(simp only[wL,wM,wN,wX,seval,Option.some.injEq]<;>exact wt_)|rfl|exact⟨_,rfl⟩) ?_
 intro i s hnx ⟨g1,g2,g3,g4,g9,o0,⟨v10,g10,G10⟩,g11,k1_0⟩
 have hz:=w1_ i
 have hlr:=qdi (qdD m {left:=(lf:Int),right:=pr,prec:=pc,code:=pco,args:=pa,at_:=pat} (q:Int) T) i
 by_cases hi:i<T.length
 · have hgi:T[i]?=some T[i]:=ge_ hi
   have hst:=qbf (qdD m {left:=(lf:Int),right:=pr,prec:=pc,code:=pco,args:=pa,at_:=pat} (q:Int) T) i
   have hbf:qdD m {left:=(lf:Int),right:=pr,prec:=pc,code:=pco,args:=pa,at_:=pat} (q:Int) T i=decide (T[i].2=1000+(lf:Int)∧xB m T[i].1 pr=q):=by
    show decide _=_
    rw[List.getD,hgi,Option.getD_some]
   rw[hbf]at hst
   have hwk:=kM (m:=m) (q:=T[i].1) (l:=pr) (by omega) (fun q h=>by have:=hq q h;omega) (by omega)
   generalize ((List.range i).filter (qdD m {left:=(lf:Int),right:=pr,prec:=pc,code:=pco,args:=pa,at_:=pat} (q:Int) T)).map (fun(i:Nat)=>(i:Int))=U at *
   generalize T[i]=t at *
   obtain ⟨t1,t2⟩:=t
   dsimp only at hwk hst
   generalize xB m t1 pr=w at *
   by_cases hc:t2=1000+(lf:Int)∧w=q
   · rw[decide_eq_true hc,if_pos rfl]at hst
     obtain ⟨hc1,hc2⟩:=hc
     subst hc1 hc2
     repeat' with_reducible first
      |refine s_ ?_
      |simp only[wZZ,seval,g1,g2,g3,g4,g9,g10,g11,o0,Gr.dropO G10 o0,hz,hzl,G10.len]
      |apply qa<;>intro h h_<;>(try simp only[wD,reduceCtorEq]at h_)<;>(try exact wb_)<;>(try simp only[h])
      |apply qQ rfl (G10.mono (Nat.le_refl _) (fun id h1 h2=>by(try simp only[wM]);(repeat rw[if_neg (by omega)])));(focus(first|exact qI.sl|exact qI.asl));(focus(simp only[wZ,hz];omega));(focus(unfold maxLen;simp only[wZ,hz];omega))
      |refine t_ ?_
      |refine cq3 hwk qb qb qb ?_
     all_goals exact⟨by((try simp only[wN])<;>omega),i+1,by omega,trivial,trivial,trivial,trivial,trivial,trivial,⟨_,rfl,by rw[hst];exact Gr.tok (id:=s.next+4+30+3) (fin:=U.length+1) (by((try simp only[wM]);(repeat first|rw[if_pos trivial]|rw[if_pos rfl]|rw[if_neg (by omega)]))) (by((try simp only[wN])<;>omega))⟩,rfl,by omega⟩
   · rw[decide_eq_false hc,if_neg (by simp),List.append_nil]at hst
     repeat' with_reducible first
      |refine s_ ?_
      |simp only[wZZ,seval,g1,g2,g3,g4,g9,g10,g11,o0,Gr.dropO G10 o0,hz,hzl,G10.len]
      |(first|apply qa|apply qh|apply qg)<;>intro h h_<;>(try simp only[wD,reduceCtorEq]at h_)<;>(try exact wb_)<;>(try simp only[h])
      |refine t_ ?_
      |refine cq3 hwk qb qb qb ?_
     all_goals exact⟨by((try simp only[wN])<;>omega),i+1,by omega,trivial,trivial,trivial,trivial,trivial,trivial,⟨_,rfl,by rw[hst];exact G10.mono (by((try simp only[wN])<;>omega)) (fun _ _ _=>rfl)⟩,rfl,by omega⟩
 · have e:i=T.length:=by omega
   subst e
   repeat' with_reducible first
    |refine s_ ?_
    |simp only[wZZ,seval,g1,g2,g3,g4,g9,g10,g11,o0,Gr.dropO G10 o0,hz,G10.len]
   all_goals refine qw rfl (Or.inr rfl) ?_
   all_goals(try simp only[wL,seval,g1,g2,g3,g4,g9,g10,g11])
   all_goals(first|refine er_ ?_ |refine G10.er ?_)
   all_goals(try(with_reducible rfl))
end Go.Proofs
