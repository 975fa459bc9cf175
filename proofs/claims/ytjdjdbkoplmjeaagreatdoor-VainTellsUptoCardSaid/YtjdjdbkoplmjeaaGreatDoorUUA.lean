/- Part of a proof that a law of the given program answers true. -/
import Derived.Test.YtjdjdbkoplmjeaaGreatDoorUPA
import Derived.Test.YtjdjdbkoplmjeaaGreatDoorUVA
import Derived.Test.YtjdjdbkoplmjeaaGreatDoorURA
import Derived.Test.YtjdjdbkoplmjeaaGreatDoorUCA
set_option maxRecDepth 20000
set_option linter.unusedSimpArgs false
set_option linter.unusedVariables false
set_option maxHeartbeats 4000000
namespace Go.Proofs
open Go.E
theorem YM {l:List Int} {x:Int} (hl:l.length≤1099511627776):Pure Tryz.prog 40 [ints l,vi x] (ints (VS l x)):=by
 refine pure_intro Tryz.func40 qwH qsi (by show 2≤47;decide) ?_
 show ewp _ qhz _ _
 repeat' with_reducible first
  |refine s_ ?_
  |simp -implicitDefEqProofs only[wZZ,seval]
 refine qf ?nx1 (fun(k:Nat) s=>s.f 0=?v1_0∧s.f 1=?v1_1∧s.f 5=vi k∧(k≤l.length)∧(Yt l x k=Yt l x l.length)) (fun k=>k) (l.length) wj_ (by refine⟨?_,?_,?_,wo_,wo_⟩<;>first|(simp -implicitDefEqProofs only[wL,wM,wN,wX,seval,Option.some.injEq]<;>exact wt_)|rfl|exact⟨_,rfl⟩) ?_
 intro k s hnx ⟨g0,g1,g5,k1_0,k1_1⟩
 by_cases hk:k=0
 · subst hk
   have hc:Yt l x l.length=0:=k1_1.symm
   have hp:VS l x=[]++[x]++l:=by unfold VS;rw[hc];simp
   rw[hp]
   repeat' with_reducible first
    |refine s_ ?_
    |simp -implicitDefEqProofs only[wZZ,seval,g0,g1,g5]
    |apply qb4;(focus(first|exact qU.sl|exact qU.asl|exact qU.str));exact wf_;(focus(unfold maxLen;first|omega|(simp only[wZ]<;>omega)))
    |(refine qdX ?_;simp -implicitDefEqProofs only[wM,wN,seval,g0,g1,g5];apply qhm;(focus(first|exact qU.sl|exact qU.asl|exact qU.str));(exact wf_);(focus(unfold maxLen;first|omega|(simp only[wZ]<;>omega))))
    |apply qdu;omega;exact wf_
    |apply qeP;omega;exact wf_
   refine qA rfl (Or.inr rfl) ?_
   simp -implicitDefEqProofs only[wL,seval,g0,g1,g5]
   refine er_ ?_
   try(with_reducible rfl)
   simp
 · obtain ⟨m,rfl⟩: ∃m,k=m+1:=⟨k - 1,o_⟩
   have hm:m<l.length:=o_
   rw[Xu,getD_eq hm]at k1_1
   by_cases hgt:x<l[m]
   · rw[if_pos hgt]at k1_1
     repeat' with_reducible first
      |refine s_ ?_
      |simp -implicitDefEqProofs only[wZZ,seval,g0,g1,g5]
      |(first|apply qc|apply qm|apply qp)<;>intro h h_<;>(try simp only[wD,reduceCtorEq]at h_)<;>(try exact wb_)<;>(try simp only[h])
      |refine t_ ?_
      |simp -implicitDefEqProofs (disch:=omega) only[w64,if_neg]
     refine⟨wk_,m,o_,?_⟩
     refine⟨?_,?_,?_,?_,?_⟩
     iterate 3 (focus(first|(simp -implicitDefEqProofs only[wL,wM,wN,wX,seval,Option.some.injEq,g0,g1,g5]<;>exact wt_)|rfl|exact⟨_,rfl⟩))
     all_goals try omega
   · rw [if_neg hgt]at k1_1
     have hp:VS l x=if l[m]=x then l else l.take (m+1)++[x]++l.drop (m+1):=by
      unfold VS;rw[← k1_1];simp[ge_ hm]
     by_cases hx:l[m]=x
     · rw[hp,if_pos hx]
       repeat' with_reducible first
        |refine s_ ?_
        |simp -implicitDefEqProofs only[wZZ,seval,g0,g1,g5]
        |(first|apply qc|apply qm|apply qp)<;>intro h h_<;>(try simp only[wD,reduceCtorEq]at h_)<;>(try exact wb_)<;>(try simp only[h])
        |refine t_ ?_
        |simp -implicitDefEqProofs (disch:=omega) only[w64,if_neg]
       refine qA rfl (Or.inr rfl) ?_
       simp -implicitDefEqProofs only[wL,seval,g0,g1,g5]
       refine er_ ?_
       try(with_reducible rfl)
     · rw[hp,if_neg hx]
       repeat' with_reducible first
        |refine s_ ?_
        |simp -implicitDefEqProofs only[wZZ,seval,g0,g1,g5]
        |(first|apply qc|apply qm|apply qp)<;>intro h h_<;>(try simp only[wD,reduceCtorEq]at h_)<;>(try exact wb_)<;>(try simp only[h])
        |refine t_ ?_
        |apply qb4;(focus(first|exact qU.sl|exact qU.asl|exact qU.str));exact wf_;(focus(unfold maxLen;first|omega|(simp only[wZ]<;>omega)))
        |(refine qdX ?_;simp -implicitDefEqProofs only[wM,wN,seval,g0,g1,g5];apply qhm;(focus(first|exact qU.sl|exact qU.asl|exact qU.str));(exact wf_);(focus(unfold maxLen;first|omega|(simp only[wZ]<;>omega))))
        |apply qdu;omega;exact wf_
        |apply qeP;omega;exact wf_
        |simp -implicitDefEqProofs (disch:=omega) only[w64,if_neg]
       refine qA rfl (Or.inr rfl) ?_
       simp -implicitDefEqProofs only[wL,seval,g0,g1,g5]
       refine er_ ?_
       try(with_reducible rfl)

def mU (R o:List Int):Nat:=R.countP fun x=> !decide (x∈o)
theorem qFp {o o':List Int} (h: ∀x∈o,x∈o'): ∀R:List Int,mU R o'≤mU R o:=by
 intro R
 unfold mU
 induction R with
 |nil=>simp
 | cons a R ih=>
   rw[List.countP_cons,List.countP_cons]
   by_cases ha:a∈o
   · simp[ha,h a ha];exact ih
   · by_cases hb:a∈o'
     · simp[ha,hb];omega
     · simp[ha,hb];exact ih
theorem qEw {o o':List Int} {y:Int} (h: ∀x∈o,x∈o') (h1:y ∉ o) (h2:y∈o'): ∀R:List Int,y∈R→mU R o'+1≤mU R o:=by
 intro R
 induction R with
 |nil=>intro h;cases h
 | cons a R ih=>
   intro hm
   have hle:=qFp h R
   unfold mU at ih hle ⊢
   rw[List.countP_cons,List.countP_cons]
   by_cases e:a=y
   · subst e
     simp[h1,h2];omega
   · have hm:y∈R:=by
      rcases List.mem_cons.1 hm with h|h
      · exact absurd h.symm e
      · exact h
     have:=ih hm
     by_cases ha:a∈o
     · simp[ha,h a ha];exact this
     · by_cases hb:a∈o'
       · simp[ha,hb];omega
       · simp[ha,hb];omega
structure RS (R o:List Int):Prop where
 rise:Xy o
 st:1000∈o
 sub: ∀x∈o,x∈R
 len:o.length+mU R o≤R.length+1
def RC (L:List GPr) (o:List Int):Prop:= ∀p∈L,1000+p.left∈o→ ∀s∈p.right,s∈o
structure RT (P:List GPr) (R o0:List Int) (i:Nat) (o:List Int) (m:Bool):Prop where
 rs:RS R o
 no:m=false→o=o0∧RC (P.take i) o0
 lt:m=true→mU R o<mU R o0
structure RK (P:List GPr) (R o0:List Int) (i:Nat) (p:GPr) (k:Nat) (o:List Int) (m:Bool):Prop where
 rs:RS R o
 lf:1000+p.left∈o
 no:m=false→o=o0∧RC (P.take i) o0∧ ∀s∈p.right.take k,s∈o0
 lt:m=true→mU R o<mU R o0
theorem RT.start {P:List GPr} {R o:List Int} (h:RS R o):RT P R o 0 o false:=⟨h,fun _=>⟨rfl,fun p hp=>by simp at hp⟩,fun h=>(by cases h)⟩
theorem RT.enter {P:List GPr} {R o0 o:List Int} {i:Nat} {m:Bool} {p:GPr} (h:RT P R o0 i o m) (hl:1000+p.left∈o):RK P R o0 i p 0 o m:=
 ⟨h.rs,hl,fun e=>⟨(h.no e).1,(h.no e).2,fun s hs=>by simp at hs⟩,h.lt⟩
theorem RT.skip {P:List GPr} {R o0 o:List Int} {i:Nat} {m:Bool} {p:GPr} (h:RT P R o0 i o m) (hp:P[i]?=some p) (hl:1000+p.left ∉ o):RT P R o0 (i+1) o m:=by
 refine⟨h.rs,fun e=>?_,h.lt⟩
 obtain ⟨e1,e2⟩:=h.no e
 refine⟨e1,fun q hq hq2=>?_⟩
 rw[List.take_add_one,hp]at hq
 rcases List.mem_append.1 hq with hq|hq
 · exact e2 q hq hq2
 · simp at hq;subst hq;rw[e1]at hl;exact absurd hq2 hl
theorem RK.put {P:List GPr} {R o0 o:List Int} {i k:Nat} {m:Bool} {p:GPr} {s:Int} (h:RK P R o0 i p k o m) (h0: ∀x∈o0,x∈R) (hR:s∈R) (hn:s ∉ o):RK P R o0 i p (k+1) (VS o s) true:=by
 have hs: ∀x∈o,x∈VS o s:=fun x hx=>Jm.2 (Or.inl hx)
 have hlt:=qEw hs hn (Jm.2 (Or.inr rfl)) R hR
 have hlen:=qfw o s
 have hl:=h.rs.len
 refine⟨⟨qao h.rs.rise,hs _ h.rs.st,fun x hx=>?_,o_⟩,hs _ h.lf,fun e=>(by cases e),fun _=>?_⟩
 · rcases Jm.1 hx with hx|rfl
   · exact h.rs.sub x hx
   · exact hR
 · cases hm:m with
   |true=>have:=h.lt hm;omega
   |false=>have:=(h.no hm).1;subst this;omega
theorem RK.have' {P:List GPr} {R o0 o:List Int} {i k:Nat} {m:Bool} {p:GPr} {s:Int} (h:RK P R o0 i p k o m) (hs:p.right[k]?=some s) (hn:s∈o):RK P R o0 i p (k+1) o m:=by
 refine⟨h.rs,h.lf,fun e=>?_,h.lt⟩
 obtain ⟨e1,e2,e3⟩:=h.no e
 refine⟨e1,e2,fun x hx=>?_⟩
 rw[List.take_add_one,hs]at hx
 rcases List.mem_append.1 hx with hx|hx
 · exact e3 x hx
 · simp at hx;subst hx;rw[← e1];exact hn
theorem RK.done {P:List GPr} {R o0 o:List Int} {i:Nat} {m:Bool} {p:GPr} (h:RK P R o0 i p p.right.length o m) (hp:P[i]?=some p):RT P R o0 (i+1) o m:=by
 refine⟨h.rs,fun e=>?_,h.lt⟩
 obtain ⟨e1,e2,e3⟩:=h.no e
 rw[List.take_length]at e3
 refine⟨e1,fun q hq hq2=>?_⟩
 rw[List.take_add_one,hp]at hq
 rcases List.mem_append.1 hq with hq|hq
 · exact e2 q hq hq2
 · simp at hq;subst hq;exact e3
theorem RS.start {R:List Int} (h:1000∈R):RS R [1000]:=
 ⟨List.pairwise_singleton _ _,List.mem_singleton.2 rfl,fun x hx=>by rw[List.mem_singleton.1 hx];exact h,by
  have:mU R [1000]≤R.length:=List.countP_le_length
  simp;omega⟩
theorem RS.sym {P:List GPr} {R o:List Int} {p:GPr} {s:Int} (h:RS R o) (hR: ∀x,x∈R↔Rchd P x) (hp:p∈P) (hl:1000+p.left∈o) (hs:s∈p.right):s∈R:=
 (hR s).2 (.step ((hR _).1 (h.sub _ hl)) hp hs)
theorem RS.all {P:List GPr} {R o:List Int} (h:RS R o) (hr:Xy R) (hR: ∀x,x∈R↔Rchd P x) (hc:RC P o):o=R:=by
 refine Jq h.rise hr fun x=>⟨h.sub x,fun hx=>?_⟩
 have:=(hR x).1 hx
 clear hx
 induction this with
 |start=>exact h.st
 |step _ hp hs ih=>exact hc _ hp ih _ hs

set_option maxHeartbeats 8000000
theorem Zg {g:Grammar} {E:Nat→Bool} (hg:GOk g) (hp:Pure Tryz.prog 38 [g.V] (.sl 1 false (xh g.nons.length E))):Pure Tryz.prog 12 [g.V] (.sl 1 false ((jS g.nons.length E true).map (V.int .i64))):=by
 refine pure_intro Tryz.func12 qsG qBS (by show 1≤24;decide) ?_
 show ewp _ qhv _ _
 have hnl:=hg.nn2
 have h1:=JO g.nons.length E
 have hbl:=xq g.nons.length E
 obtain ⟨n,hn⟩: ∃n,n=g.nons.length:=⟨_,rfl⟩
 rw[← hn]at hp hnl h1 hbl ⊢
 repeat' with_reducible first
  |refine s_ ?_
  |simp -implicitDefEqProofs only[wZZ,seval,hbl]
  |refine cq1 hp ql ?_
  |refine t_ ?_
 refine qf ?nx1 (fun(i:Nat) s=>s.f 3=?v1_3∧(∃v,s.f 4=v∧Gr s.H s.next 1 ((jS i E true).map (V.int .i64)) v)∧s.f 5=vi i∧(i≤n)) (fun i=>n - i) (0) wj_ (by refine⟨?_,?_,?_,wo_⟩<;>first|(simp -implicitDefEqProofs only[wL,wM,wN,wX,seval,Option.some.injEq]<;>exact wt_)|rfl|exact⟨_,rfl⟩) ?_
 intro i s hnx ⟨g3,⟨v4,g4,G4⟩,g5,k1_0⟩
 have hz:=w1_ i
 by_cases hi:i<n
 · have hbg:=jB (h:=E) hi
   have hsu:=Qx i E true
   have hz2:IntKind.i64.wrap (1000+(i:Int))=1000+(i:Int):=wrap64 o_ o_
   have hln:=yA i E true
   cases he:E i with
   | true=>
     rw[if_pos he]at hsu
     repeat' with_reducible first
      |refine s_ ?_
      |simp -implicitDefEqProofs only[wZZ,seval,g3,g4,g5,hz,hz2,he,hbl,G4.len]
      |apply qc<;>intro h h_<;>(try simp only[wD,reduceCtorEq]at h_)<;>(try exact wb_)<;>(try simp only[h])
      |(apply jf (kT o_ (by with_unfolding_all exact hbg)))
      |apply qW (hg:=G4);(focus(first|rfl|(simp -implicitDefEqProofs only[wM];done)));(focus(first|exact qU.sl|exact qU.asl|exact qU.gr G4|exact qU.str));exact wf_;(focus(unfold maxLen;first|omega|(simp only[wZ]<;>omega)))
     refine⟨wk_,i+1,o_,?_⟩
     refine⟨?_,?_,?_,?_⟩
     iterate 3 (focus(first|(simp -implicitDefEqProofs only[wL,wM,wN,wX,seval,Option.some.injEq,g3,g4,g5,hsu]<;>first|rfl|exact⟨_,rfl⟩|exact⟨_,rfl,by first|assumption|exact Gr.nil|exact Gr.tok rfl o_|exact Gr.tok (by simp -implicitDefEqProofs only[wM,seval]<;>rfl) o_|exact Gr.clip|exact G4.to (by first|rfl|(simp[*];done)) o_ rfl⟩)|rfl|exact⟨_,rfl⟩|exact⟨_,rfl,by first|assumption|exact G4.to (by first|rfl|(simp[*];done)) o_ rfl⟩))
     all_goals try omega
   | false=>
     rw[if_neg (by rw[he];decide),List.append_nil]at hsu
     repeat' with_reducible first
      |refine s_ ?_
      |simp -implicitDefEqProofs only[wZZ,seval,g3,g4,g5,hz,hz2,he,hbl,G4.len]
      |apply qc<;>intro h h_<;>(try simp only[wD,reduceCtorEq]at h_)<;>(try exact wb_)<;>(try simp only[h])
      |(apply jf (kT o_ (by with_unfolding_all exact hbg)))
     refine⟨wk_,i+1,o_,?_⟩
     refine⟨?_,?_,?_,?_⟩
     iterate 3 (focus(first|(simp -implicitDefEqProofs only[wL,wM,wN,wX,seval,Option.some.injEq,g3,g4,g5,hsu]<;>first|rfl|exact⟨_,rfl⟩|exact⟨_,rfl,by first|assumption|exact Gr.nil|exact Gr.tok rfl o_|exact Gr.tok (by simp -implicitDefEqProofs only[wM,seval]<;>rfl) o_|exact Gr.clip|exact G4.to (by first|rfl|(simp[*];done)) o_ rfl⟩)|rfl|exact⟨_,rfl⟩|exact⟨_,rfl,by first|assumption|exact G4.to (by first|rfl|(simp[*];done)) o_ rfl⟩))
     all_goals try omega
 · have e:i=n:=o_
   subst e
   repeat' with_reducible first
    |refine s_ ?_
    |simp -implicitDefEqProofs only[wZZ,seval,g3,g4,g5,hbl,G4.len]
   all_goals refine qA rfl (Or.inr rfl) ?_
   all_goals(try simp -implicitDefEqProofs only[wL,seval,g3,g4,g5])
   all_goals(first|refine er_ ?_ |refine G4.er ?_)
   all_goals(try(with_reducible rfl))

theorem qdv {tok:Bool} {h:Nat→Bool} {l:List Int} {k:Nat} {s:Int} (hs:l[k]?=some s):qR tok h (l.take (k+1))=(qR tok h (l.take k) && (if s<1000 then tok else h (s - 1000).toNat)):=by
 unfold qR
 rw[List.take_add_one,hs,List.all_append]
 simp
theorem XJ {g :Grammar} {E:Nat→Bool} (hg:GOk g) (hE:IsGrow g true E):Pure Tryz.prog 14 [g.V] (.sl 1 false ((jS g.nons.length E false).map (V.int .i64))):=by
 refine pure_intro Tryz.func14 qss qvT (by show 1≤93;decide) ?_
 show ewp _ qg4 _ _
 have hnl:=hg.nn2;have hpl:=hg.pl2
 have hb0:=Kz g.nons.length
 repeat' with_reducible first
  |refine s_ ?_
  |simp -implicitDefEqProofs only[wZZ,seval]
  |refine t_ ?_
  |apply XF;exact wf_;exact wf_;(focus(unfold maxLen;first|omega|(simp only[wZ]<;>omega)))
 rw[hb0]
 refine qf ?nx1 (fun(q:(Nat→Bool)×Bool) s=>s.f 1=?v1_1∧s.f 3=?v1_3∧s.H 0=some (MObj.own 5 [g.V] false)∧s.f 4=.bool q.2∧((s.H 5=some (MObj.own 1 (xh g.nons.length q.1) false)))∧((∀F,jM g true F→ ∀k,q.1 k=true→F k=true))∧((q.2=false→jM g true q.1))) (fun q=>2 *cf q.1 g.nons.length+(if q.2=true then 1 else 0)) ((fun _=>false,true)) wj_ (by refine⟨?_,?_,?_,?_,wc_,(by intro F _ k h;cases h),(by intro h;cases h)⟩<;>first|(simp -implicitDefEqProofs only[wL,wM,wN,wX,seval,Option.some.injEq]<;>exact wt_)|rfl|exact⟨_,rfl⟩) ?_
 intro q s hnx ⟨g1,g3,o0,g4,k1_0,k1_1,k1_2⟩
 obtain ⟨h,b⟩:=q
 dsimp only at *
 cases b with
 | false=>
   have hcl:=k1_2 rfl
   obtain rfl:h=E:=IsGrow.uniq ⟨hcl,k1_1⟩ hE
   repeat' with_reducible first
    |refine s_ ?_
    |simp -implicitDefEqProofs only[wZZ,seval,g1,g3,g4,o0,k1_0]
   skip
   refine qf ?nx4 (fun(i:Nat) s=>s.f 3=?v4_3∧s.H 0=some (MObj.own 5 [g.V] false)∧(∃v,s.f 9=v∧Gr s.H s.next 1 ((jS i h false).map (V.int .i64)) v)∧s.f 10=vi i∧(i≤g.nons.length)∧((s.H 5=some (MObj.own 1 (xh g.nons.length h) false)))) (fun i=>g.nons.length - i) (0) wj_ (by refine⟨?_,?_,?_,?_,wo_,(by(simp only[wM];(repeat first|rw[if_pos trivial]|rw[if_pos rfl]|rw[if_neg o_]));exact k1_0)⟩<;>first|(simp -implicitDefEqProofs only[wL,wM,wN,wX,seval,Option.some.injEq,g1,g3,g4,o0]<;>exact wt_)|rfl|exact⟨_,rfl⟩) ?_
   intro i s hnx ⟨g3,o0,⟨v9,g9,G9⟩,g10,k4_0,k4_1⟩
   have hz:=w1_ i
   by_cases hi:i<g.nons.length
   · have hsu:=Qx i h false
     have hz2:IntKind.i64.wrap (1000+(i:Int))=1000+(i:Int):=wrap64 o_ o_
     have hln:=yA i h false
     cases he:h i with
     | false=>
       rw[if_pos he]at hsu
       repeat' with_reducible first
        |refine s_ ?_
        |simp -implicitDefEqProofs only[wZZ,seval,g3,g9,g10,o0,Gr.dropO G9 o0,hz,hz2,he,k4_1,G9.len]
        |apply qc<;>intro h h_<;>(try simp only[wD,reduceCtorEq]at h_)<;>(try exact wb_)<;>(try simp only[h])
        |(refine ldB hi ?_)
        |refine t_ ?_
        |apply qW (hg:=G9);(focus(first|rfl|(simp -implicitDefEqProofs only[wM];done)));(focus(first|exact qU.sl|exact qU.asl|exact qU.gr G9|exact qU.str));exact wf_;(focus(unfold maxLen;first|omega|(simp only[wZ]<;>omega)))
       refine⟨wk_,i+1,o_,?_⟩
       refine⟨?_,?_,?_,?_,?_,?_⟩
       iterate 4 (focus(first|(simp -implicitDefEqProofs only[wL,wM,wN,wX,seval,Option.some.injEq,g3,g9,g10,o0,Gr.dropO G9 o0,hsu]<;>first|rfl|exact⟨_,rfl⟩|exact⟨_,rfl,by first|assumption|exact Gr.nil|exact Gr.tok rfl o_|exact Gr.tok (by simp -implicitDefEqProofs only[wM,seval]<;>rfl) o_|exact Gr.clip|exact G9.to (by first|rfl|(simp[*];done)) o_ rfl⟩)|rfl|exact⟨_,rfl⟩|exact⟨_,rfl,by first|assumption|exact G9.to (by first|rfl|(simp[*];done)) o_ rfl⟩))
       all_goals try omega
       all_goals(first|exact G9.dropO k4_1|trivial|((simp only[wM];(repeat first|rw[if_pos trivial]|rw[if_pos rfl]|rw[if_neg o_]));exact k4_1))
     | true=>
       rw[if_neg (by rw[he];decide),List.append_nil]at hsu
       repeat' with_reducible first
        |refine s_ ?_
        |simp -implicitDefEqProofs only[wZZ,seval,g3,g9,g10,o0,Gr.dropO G9 o0,hz,hz2,he,k4_1,G9.len]
        |apply qc<;>intro h h_<;>(try simp only[wD,reduceCtorEq]at h_)<;>(try exact wb_)<;>(try simp only[h])
        |(refine ldB hi ?_)
        |refine t_ ?_
       refine⟨wk_,i+1,o_,?_⟩
       refine⟨?_,?_,?_,?_,?_,?_⟩
       iterate 4 (focus(first|(simp -implicitDefEqProofs only[wL,wM,wN,wX,seval,Option.some.injEq,g3,g9,g10,o0,Gr.dropO G9 o0,hsu]<;>first|rfl|exact⟨_,rfl⟩|exact⟨_,rfl,by first|assumption|exact Gr.nil|exact Gr.tok rfl o_|exact Gr.tok (by simp -implicitDefEqProofs only[wM,seval]<;>rfl) o_|exact Gr.clip|exact G9.to (by first|rfl|(simp[*];done)) o_ rfl⟩)|rfl|exact⟨_,rfl⟩|exact⟨_,rfl,by first|assumption|exact G9.to (by first|rfl|(simp[*];done)) o_ rfl⟩))
       all_goals try omega
       all_goals(first|exact G9.dropO k4_1|trivial|((simp only[wM];(repeat first|rw[if_pos trivial]|rw[if_pos rfl]|rw[if_neg o_]));exact k4_1))
   · have e:i=g.nons.length:=o_
     subst e
     repeat' with_reducible first
      |refine s_ ?_
      |simp -implicitDefEqProofs only[wZZ,seval,g3,g9,g10,o0,Gr.dropO G9 o0,k4_1,G9.len]
     all_goals refine qA rfl (Or.inr rfl) ?_
     all_goals(try simp -implicitDefEqProofs only[wL,seval,g3,g9,g10])
     all_goals(first|refine er_ ?_ |refine G9.er ?_)
     all_goals(try(with_reducible rfl))
 | true =>
   skip
   skip
   repeat' with_reducible first
    |refine s_ ?_
    |simp -implicitDefEqProofs only[wZZ,seval,g1,g3,g4,o0,k1_0]
   refine qf ?nx2 (fun(r:Nat×(Nat→Bool)×Bool) s=>s.f 1=?v2_1∧s.f 3=?v2_3∧s.H 0=some (MObj.own 5 [g.V] false)∧s.f 4=.bool r.2.2∧s.f 5=vi r.1∧(r.1≤g.prods.length)∧((s.H 5=some (MObj.own 1 (xh g.nons.length r.2.1) false)))∧((∀F,jM g true F→ ∀k,r.2.1 k=true→F k=true))∧((r.2.2=false→r.2.1=h∧ ∀p∈g.prods.take r.1,qR true h p.right=true→h p.left.toNat=true))∧((r.2.2=true→cf r.2.1 g.nons.length<cf h g.nons.length))) (fun r=>g.prods.length - r.1) ((0,h,false)) wj_ (by refine⟨?_,?_,?_,?_,?_,wo_,(by(simp only[wM];(repeat first|rw[if_pos trivial]|rw[if_pos rfl]|rw[if_neg o_]));exact k1_0),(by exact k1_1),(by exact fun _=>⟨rfl,fun p hp=>by simp at hp⟩),(by intro h;cases h)⟩<;>first|(simp -implicitDefEqProofs only[wL,wM,wN,wX,seval,Option.some.injEq,g1,g3,g4,o0]<;>exact wt_)|rfl|exact⟨_,rfl⟩) ?_
   intro r s hnx ⟨g1,g3,o0,g4,g5,k2_0,k2_1,k2_2,k2_3,k2_4⟩
   obtain ⟨i,h',b'⟩:=r
   dsimp only at *
   have hz:=w1_ i
   by_cases hi:i<g.prods.length
   · have hmem :=List.getElem_mem hi
     obtain ⟨lf,hl1,hl2⟩:=hg.left _ hmem
     have hrt:=hg.rt hmem
     have hrl:=hg.rlen _ hmem
     have htk:g.prods.take (i+1)=g.prods.take i++[g.prods[i]]:=by rw[List.take_add_one,ge_ hi];rfl
     generalize hp:g.prods[i]=p at *
     have hgp:g.prods[i]?=some p:=by rw[ge_ hi,hp]
     have hpm:p∈g.prods:=hp ▸ List.getElem_mem hi
     clear hp
     obtain ⟨pl,pr,pc,pco,pa,pat⟩:=p
     dsimp only at hl1 hrt hrl
     subst hl1
     have hnew:(b'=false→h'=h∧ ∀p∈g.prods.take i,qR true h p.right=true→h p.left.toNat=true)→(qR true h' pr=true→h' lf=true)→(b'=false→h'=h∧ ∀p∈g.prods.take (i+1),qR true h p.right=true→h p.left.toNat=true):=fun q1 q2 hb=>by
      obtain ⟨e1,e2⟩:=q1 hb
      refine⟨e1,fun p hp hf=>?_⟩
      rw[htk]at hp
      rcases List.mem_append.1 hp with hp|hp
      · exact e2 p hp hf
      · rw[List.mem_singleton]at hp;subst hp
        subst e1
        exact q2 hf
     repeat' with_reducible first
      |refine s_ ?_
      |simp -implicitDefEqProofs only[wZZ,seval,g1,g3,g4,g5,o0,k2_1,hz]
      |apply qc<;>intro h h_<;>(try simp only[wD,reduceCtorEq]at h_)<;>(try exact wb_)<;>(try simp only[h])
      |refine t_ ?_
     refine qf ?nx3 (fun(k:Nat) s=>s.f 1=?v3_1∧s.f 3=?v3_3∧s.f 4=?v3_4∧s.f 5=?v3_5∧s.H 0=some (MObj.own 5 [g.V] false)∧s.f 6=.bool (qR true h' (pr.take k))∧s.f 7=vi k∧(k≤pr.length)∧((s.H 5=some (MObj.own 1 (xh g.nons.length h') false)))) (fun k=>pr.length - k) (0) wj_ (by refine⟨?_,?_,?_,?_,?_,?_,?_,wo_,(by(simp only[wM];(repeat first|rw[if_pos trivial]|rw[if_pos rfl]|rw[if_neg o_]));exact k2_1)⟩<;>first|(simp -implicitDefEqProofs only[wL,wM,wN,wX,seval,Option.some.injEq,g1,g3,g4,g5,o0]<;>exact wt_)|rfl|exact⟨_,rfl⟩) ?_
     intro k s hnx ⟨g1,g3,g4,g5,o0,g6,g7,k3_0,k3_1⟩
     have hzk:=w1_ k
     by_cases hk:k<pr.length
     · have hgs:pr[k]?=some pr[k]:=ge_ hk
       have hst:=qdv (tok:=true) (h:=h') hgs
       rcases hrt _ (List.getElem_mem hk)with hlt|⟨j,hj,hjn⟩
       · generalize pr[k]=sy at *
         rw[if_pos hlt]at hst
         have hd:decide (sy<1000)=true:=decide_eq_true hlt
         cases hb:qR true h' (pr.take k)with
         | true=>
           rw[hb]at hst
           repeat' with_reducible first
            |refine s_ ?_
            |simp -implicitDefEqProofs only[wZZ,seval,g1,g3,g4,g5,g6,g7,o0,k3_1,hzk,hb,hd]
            |apply qc<;>intro h h_<;>(try simp only[wD,reduceCtorEq]at h_)<;>(try exact wb_)<;>(try simp only[h])
            |refine t_ ?_
           refine⟨wk_,k+1,o_,?_⟩
           refine⟨?_,?_,?_,?_,?_,?_,?_,?_,?_⟩
           iterate 7 (focus(first|(simp -implicitDefEqProofs only[wL,wM,wN,wX,seval,Option.some.injEq,g1,g3,g4,g5,g6,g7,o0,hst]<;>exact wt_)|rfl|exact⟨_,rfl⟩))
           all_goals try omega
           all_goals(first|trivial|((simp only[wM];(repeat first|rw[if_pos trivial]|rw[if_pos rfl]|rw[if_neg o_]));exact k3_1))
         | false=>
           rw[hb]at hst
           repeat' with_reducible first
            |refine s_ ?_
            |simp -implicitDefEqProofs only[wZZ,seval,g1,g3,g4,g5,g6,g7,o0,k3_1,hzk,hb,hd]
            |apply qc<;>intro h h_<;>(try simp only[wD,reduceCtorEq]at h_)<;>(try exact wb_)<;>(try simp only[h])
            |refine t_ ?_
           refine⟨wk_,k+1,o_,?_⟩
           refine⟨?_,?_,?_,?_,?_,?_,?_,?_,?_⟩
           iterate 7 (focus(first|(simp -implicitDefEqProofs only[wL,wM,wN,wX,seval,Option.some.injEq,g1,g3,g4,g5,g6,g7,o0,hst]<;>exact wt_)|rfl|exact⟨_,rfl⟩))
           all_goals try omega
           all_goals(first|trivial|((simp only[wM];(repeat first|rw[if_pos trivial]|rw[if_pos rfl]|rw[if_neg o_]));exact k3_1))
       · rw [hj]at hgs hst
         rw[if_neg o_,show (1000+(j:Int) - 1000).toNat=j by omega]at hst
         have hd:decide (1000+(j:Int)<1000)=false:=decide_eq_false o_
         have hz1:IntKind.i64.wrap (1000+(j:Int) - 1000)=(j:Int):=by rw[wrap64 o_ o_];omega
         cases hb:qR true h' (pr.take k)with
         | true=>
           rw[hb]at hst
           cases hh:h' j with
           | true=>
             rw[hh]at hst
             repeat' with_reducible first
              |refine s_ ?_
              |simp -implicitDefEqProofs only[wZZ,seval,g1,g3,g4,g5,g6,g7,o0,k3_1,hzk,hb,hd,hz1,hh]
              |apply qc<;>intro h h_<;>(try simp only[wD,reduceCtorEq]at h_)<;>(try exact wb_)<;>(try simp only[h])
              |(refine ldB hjn ?_)
              |refine t_ ?_
             refine⟨wk_,k+1,o_,?_⟩
             refine⟨?_,?_,?_,?_,?_,?_,?_,?_,?_⟩
             iterate 7 (focus(first|(simp -implicitDefEqProofs only[wL,wM,wN,wX,seval,Option.some.injEq,g1,g3,g4,g5,g6,g7,o0,hst]<;>exact wt_)|rfl|exact⟨_,rfl⟩))
             all_goals try omega
             all_goals(first|trivial|((simp only[wM];(repeat first|rw[if_pos trivial]|rw[if_pos rfl]|rw[if_neg o_]));exact k3_1))
           | false=>
             rw[hh]at hst
             repeat' with_reducible first
              |refine s_ ?_
              |simp -implicitDefEqProofs only[wZZ,seval,g1,g3,g4,g5,g6,g7,o0,k3_1,hzk,hb,hd,hz1,hh]
              |apply qc<;>intro h h_<;>(try simp only[wD,reduceCtorEq]at h_)<;>(try exact wb_)<;>(try simp only[h])
              |(refine ldB hjn ?_)
              |refine t_ ?_
             refine⟨wk_,k+1,o_,?_⟩
             refine⟨?_,?_,?_,?_,?_,?_,?_,?_,?_⟩
             iterate 7 (focus(first|(simp -implicitDefEqProofs only[wL,wM,wN,wX,seval,Option.some.injEq,g1,g3,g4,g5,g6,g7,o0,hst]<;>exact wt_)|rfl|exact⟨_,rfl⟩))
             all_goals try omega
             all_goals(first|trivial|((simp only[wM];(repeat first|rw[if_pos trivial]|rw[if_pos rfl]|rw[if_neg o_]));exact k3_1))
         | false=>
           rw[hb]at hst
           repeat' with_reducible first
            |refine s_ ?_
            |simp -implicitDefEqProofs only[wZZ,seval,g1,g3,g4,g5,g6,g7,o0,k3_1,hzk,hb,hd,hz1]
            |apply qc<;>intro h h_<;>(try simp only[wD,reduceCtorEq]at h_)<;>(try exact wb_)<;>(try simp only[h])
            |refine t_ ?_
           refine⟨wk_,k+1,o_,?_⟩
           refine⟨?_,?_,?_,?_,?_,?_,?_,?_,?_⟩
           iterate 7 (focus(first|(simp -implicitDefEqProofs only[wL,wM,wN,wX,seval,Option.some.injEq,g1,g3,g4,g5,g6,g7,o0,hst]<;>exact wt_)|rfl|exact⟨_,rfl⟩))
           all_goals try omega
           all_goals(first|trivial|((simp only[wM];(repeat first|rw[if_pos trivial]|rw[if_pos rfl]|rw[if_neg o_]));exact k3_1))
     · have e:k=pr.length:=o_
       subst e
       rw[List.take_length]at g6
       cases hfit:qR true h' pr with
       | true =>
         rw[hfit]at g6
         cases hh:h' lf with
         | false=>
           repeat' with_reducible first
            |refine s_ ?_
            |simp -implicitDefEqProofs only[wZZ,seval,g1,g3,g4,g5,g6,g7,o0,k3_1,hz,hfit,hh]
            |(refine ldB hl2 ?_)
            |refine t_ ?_
            |(refine stB hl2 ?_)
           refine⟨wg_,(i+1,qC h' lf true,true),by dsimp only;omega,trivial,trivial,trivial,rfl,rfl,by dsimp only;omega,rfl,fun F hF k hk=>?_,fun e=>(by cases e),fun _=>?_⟩
           · dsimp only at hk
             unfold qC at hk
             split at hk
             · rename_i e;subst e
               exact hF _ hpm (yK (k2_2 F hF) hfit)
             · exact k2_2 F hF k hk
           · have:=(KP (h:=h') (k:=lf) (by assumption) g.nons.length).2 hl2
             show cf (qC h' lf true) g.nons.length<_
             cases b' with
             |false=>have e:=(k2_3 rfl).1;subst e;omega
             |true=>have:=k2_4 rfl;omega
         | true=>
           repeat' with_reducible first
            |refine s_ ?_
            |simp -implicitDefEqProofs only[wZZ,seval,g1,g3,g4,g5,g6,g7,o0,k3_1,hz,hfit,hh]
            |(refine ldB hl2 ?_)
            |refine t_ ?_
           refine⟨wg_,(i+1,h',b'),by dsimp only;omega,trivial,trivial,trivial,rfl,rfl,by dsimp only;omega,rfl,k2_2,hnew k2_3 (fun _=>hh),k2_4⟩
       | false=>
         rw[hfit]at g6
         repeat' with_reducible first
          |refine s_ ?_
          |simp -implicitDefEqProofs only[wZZ,seval,g1,g3,g4,g5,g6,g7,o0,k3_1,hz,hfit]
          |refine t_ ?_
         refine⟨wg_,(i+1,h',b'),by dsimp only;omega,trivial,trivial,trivial,rfl,rfl,by dsimp only;omega,rfl,k2_2,hnew k2_3 (fun e=>by rw[hfit]at e;cases e),k2_4⟩
   · skip
     have e:i=g.prods.length:=o_
     subst e
     rw[List.take_length]at k2_3
     repeat' with_reducible first
      |refine s_ ?_
      |simp -implicitDefEqProofs only[wZZ,seval,g1,g3,g4,g5,o0,k2_1]
      |refine t_ ?_
     refine⟨wg_,(h',b'),?_,trivial,trivial,trivial,rfl,rfl,k2_2,fun hb=>?_⟩
     · dsimp only
       cases b' with
       |false=>have e:=(k2_3 rfl).1;subst e;simp
       |true=>have:=k2_4 rfl;simp;omega
     · obtain ⟨e1,e2⟩:=k2_3 hb
       dsimp only
       rw[e1];exact e2
end Go.Proofs
