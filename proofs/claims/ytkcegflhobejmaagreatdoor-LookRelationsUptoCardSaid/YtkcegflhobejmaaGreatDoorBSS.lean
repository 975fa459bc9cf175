/- Part of a proof that a law of the given program answers true. -/
import Derived.Test.YtkcegflhobejmaaGreatDoorBCC
import Derived.Test.YtkcegflhobejmaaGreatDoorBCJ
import Derived.Test.YtkcegflhobejmaaGreatDoorBZK
import Derived.Test.YtkcegflhobejmaaGreatDoorBRB
import Derived.Test.YtkcegflhobejmaaGreatDoorBZN
import Derived.Test.YtkcegflhobejmaaGreatDoorBJA
import Derived.Test.YtkcegflhobejmaaGreatDoorBCA
import Derived.Test.YtkcegflhobejmaaGreatDoorXEC
import Derived.Test.YtkcegflhobejmaaGreatDoorCards
import Derived.Test.YtkcegflhobejmaaGreatDoorTie
import Derived.WalkKit
import Derived.ProofKit
import Derived.OpenShut
import Derived.Deep.DeepHandedRow
import Derived.Lib.LaidTab
set_option maxRecDepth 20000
set_option linter.unusedSimpArgs false
set_option linter.unusedVariables false
set_option maxHeartbeats 8000000
namespace Go.Proofs
open Go.E
theorem YJ (l:List Int):(jm l).length≤l.length:=by
 have h: ∀l a:List Int,(l.foldl jo a).length≤a.length+l.length:=by
  intro l
  induction l with
  |nil=>intro a;exact Nat.le_refl _
  | cons x l ih=>
    intro a
    have h1:=ih (jo a x)
    have h2:=Qd a x
    rw[List.foldl_cons,List.length_cons]
    omega
 have:=h l []
 simpa using this
abbrev qg8 (n c:Nat) (out:List (List Int)):Prop:=out.length=n∧ ∀l∈out,l.length≤c
theorem QV {α:Type} {n d:Nat} {f:List (List Int)→α→List (List Int)}: ∀(l:List α) (c:Nat) (out:List (List Int)),(∀a∈l,∀c out,qg8 n c out→qg8 n (c+d) (f out a))→qg8 n c out→qg8 n (c+l.length *d) (l.foldl f out)
 |[],c,out,_,h0=>by simpa using h0
 | a::l,c,out,h,h0=>by
   have:=QV l (c+d) (f out a) (fun b hb=>h b (List.mem_cons_of_mem _ hb)) (h a (List.mem_cons_self ..) c out h0)
   rw[List.foldl_cons,List.length_cons,Nat.succ_mul,Nat.add_comm (l.length *d),← Nat.add_assoc]
   exact this
theorem qg8.mono {n c c':Nat} {out:List (List Int)} (h:qg8 n c out) (hc:c≤c'):qg8 n c' out:=⟨h.1,fun l hl=>Nat.le_trans (h.2 l hl) hc⟩
theorem qek {E:Nat→Bool} {m:List Sta} {i:Nat} {q:Int} {r:List Int} {n c:Nat} {out:List (List Int)} (k:Nat) (h:qg8 n c out):qg8 n (c+1) (Zd E m i q r out k):=by
 unfold Zd
 simp only
 split
 · refine⟨by rw[List.length_modify];exact h.1,fun l hl=>?_⟩
   obtain ⟨j,hj⟩:=List.getElem?_of_mem hl
   rw[List.getElem?_modify]at hj
   cases ho:out[j]? with
   |none=>rw[ho]at hj;cases hj
   | some l0=>
     rw[ho]at hj
     have h0:=h.2 l0 (List.mem_of_getElem? ho)
     have h1:=Qd l0 (i:Int)
     simp only[Option.map_eq_map,Option.map_some,Option.some.injEq]at hj
     subst hj
     split<;>omega
 · exact h.mono o_
theorem Kk {g:Grammar} (hg:GOk g) {E:Nat→Bool} {m:List Sta} (hM:MOk g m):qg8 (qg m).length 4608000 (zK g E m):=by
 have hpl:=hg.pl2
 have htl:=hM.trans_len
 have key:=QV (n:=(qg m).length) (d:=480) (f:=fun out i=>g.prods.foldl (ZU E m i ((qg m).getD i (0,0))) out) (List.range (qg m).length) 0 (List.replicate (qg m).length []) (fun i _ c out h0=>by
  have h1:=QV (n:=(qg m).length) (d:=8) (f:=ZU E m i ((qg m).getD i (0,0))) g.prods c out (fun p hp c out h0=>by
   unfold ZU
   split
   · have h2:=QV (n:=(qg m).length) (d:=1) (f:=Zd E m i ((qg m).getD i (0,0)).1 p.right) (List.range p.right.length) c out (fun k _ c out h=>qek k h) h0
     refine h2.mono ?_
     have:=hg.rlen p hp
     rw[List.length_range];omega
   · exact h0.mono o_) h0
  exact h1.mono o_) ⟨List.length_replicate,fun l hl=>by rw[(List.mem_replicate.1 hl).2];exact Nat.le_refl _⟩
 rw[List.length_range]at key
 exact key.mono o_
theorem Vt {g:Grammar} {m:List Sta} {E:Nat→Bool} (hg:GOk g) (hM:MOk g m) (hR: ∀q∈m,RMv q) (hG:MGo g m) (hS:qdr g m) (hE:IsGrow g false E):Pure Tryz.prog 22 [g.V,.sl 2 false (m.map Sta.V)] (.sl 1 false ((zK g E m).map yQ)):=by
 refine pure_intro Tryz.func22 nm_ qk4 (by show 2≤9;decide) ?_
 show ewp _ qM3 _ _
 have he:=kC (E:=E) hg hM hR hG hS
 repeat' with_reducible first
  |refine zN ?_
  |simp -implicitDefEqProofs only[wZZ,seval]
  |(refine zk rfl rfl rfl ((of_run hg hM hR hE).mono ?_);rintro v1 H1 n1 ⟨i,j,rfl,q1,q2,q3,q4,q5⟩)
  |refine t_ ?_
 refine zk (H:=H1) rfl wu_ rfl ((Zu (fun _=>true) (by rw[qfI];exact zi (QO q3 q5) yX) he).mono ?_)
 rintro v2 H2 n2 ⟨rfl,rfl,rfl⟩
 repeat' with_reducible first
  |refine Vo ?_
 refine qx rfl (Or.inr rfl) ?_
 (simp -implicitDefEqProofs only[wL,seval])
 exact qf
theorem qT9 (x:GrI) (y:Source) (i:Nat) (src:Source) (h:[qcM y,zw x][i]?=some src):src.Fits∧(Yn src=true→Small src):=by
 match i,h with
 |0,h=>cases h;exact⟨qdZ y,qde y⟩
 |1,h=>cases h;exact⟨ZV x,fun _=>V7 x⟩
 |i+2,h=>cases h
theorem qhS {src:Source} (h:Kw src=true):GOk (vU src)∧MOk (vU src) (Zv src)∧(∀q∈Zv src,RMv q)∧MGo (vU src) (Zv src)∧qdr (vU src) (Zv src):=by
 unfold Kw at h
 rw[Bool.and_eq_true]at h
 obtain ⟨h1,h2⟩:=h
 have hg:=gok h1
 obtain ⟨m,hm⟩:=Option.isSome_iff_exists.1 h2
 have e:Zv src=m:=by unfold Zv;rw[if_pos h1,hm];rfl
 rw[e]
 exact⟨hg,(qeN hg hm).1,qdk hg hm,(qeN hg hm).2,qhK hm⟩
theorem yo {y:Source} {x:GrI} (hy:y.Fits) (hb1:x.rules.length≤1099511627776) (hb2: ∀l∈x.rules,l.length≤1099511627776) (hib:x.inner.length≤1099511627776) (hlb:x.levels.length≤1099511627776):Pure Tryz.prog 3 [y.V,x.V] (.bool true):=by
 refine pure_intro Tryz.func3 nm_ qVh (by show 2≤70;decide) ?_
 show ewp _ qPF _ _
 have hw:=Jy
 have hcut:=VZ hy
 have hsrc:=JB (x:=x) hb1 hb2 hib hlb
 have hsl:V.sl 4 true [(qcM y).V,(zw x).V]=.sl 4 true ([qcM y,zw x].map Source.V):=rfl
 repeat' with_reducible first
  |refine s_ ?_
  |simp -implicitDefEqProofs only[wZZ,seval]
  |refine cq0 hw ?_
  |refine cq1 hcut (Q6 y) ?_
  |refine cq1 hsrc qf ?_
  |refine t_ ?_
 rw[hsl]
 have h2:=qT9 x y
 generalize hL:[qcM y,zw x]=L at *
 have hLl:L.length=2:=by rw[← hL];rfl
 clear hL hsl
 refine qc ?nx1 (fun(i:Nat) s=>s.f 5=?v1_5∧s.f 6=vi i∧(i≤L.length)) (fun i=>L.length - i) (0) wj_ (by refine⟨?_,?_,wo_⟩<;>first|(simp -implicitDefEqProofs only[wL,wM,wN,wX,seval,Option.some.injEq]<;>exact wt_)|rfl|exact⟨_,rfl⟩) ?_
 intro i s hnx ⟨g5,g6,k1_0⟩
 have hz:=w1_ i
 by_cases hi:i<L.length
 · have hgi:L[i]?=some L[i]:=ge_ hi
   obtain ⟨hf,hS⟩:=h2 i _ hgi
   have hma:=QU hf hS gok
   generalize L[i]=src at *
   have hmk:= @qhS src
   cases hb:Kw src with
   | false=>
     rw[hb]at hma
     generalize Zv src=m at *
     generalize vU src=g at *
     repeat' with_reducible first
      |refine s_ ?_
      |simp -implicitDefEqProofs only[wZZ,seval,g5,g6,hz]
      |apply qa<;>intro h h_<;>(try simp only[wD,reduceCtorEq]at h_)<;>(try exact wb_)<;>(try simp only[h])
      |refine t_ ?_
      |refine cq1 hma (Q6 src) ?_
     exact⟨wg_,i+1,o_,trivial,rfl,o_⟩
   | true=>
     rw[hb]at hma
     obtain ⟨hg,hM,hR,hG,hMS⟩:=hmk hb
     generalize Zv src=m at *
     generalize vU src=g at *
     obtain ⟨E,hE,_⟩:=X7 (token:=false) hg
     have hml:=hM.len
     have htl:=hM.trans_len
     have hmv:=hM.mvl
     have a1:=Va (m:=m) o_ (fun q h=>by have:=hmv q h;omega)
     have a2:=z8 (m:=m) o_ (fun q h=>by have:=hmv q h;omega)
     have a3:=qYV (l:=qg m) o_
     have b1:=qaQ hg hM hR
     have b2:=Zt hM hg
     have b3:=qdT (L:=kL m) (by rw[Zm,List.length_map];omega) (fun l hl=>by
      rw[Zm]at hl
      obtain ⟨t,_,rfl⟩:=List.mem_map.1 hl
      have h0:=YJ (qcP m t)
      have h1:=Zc hM (goS m t.1 t.2)
      have h2:=List.length_filter_le (fun p:Int×Int=>decide (p.1<1000)) (xB m (goS m t.1 t.2))
      have h3:(qcP m t).length≤65:=by
       unfold qcP
       rw[List.length_append,List.length_map]
       split<;>simp<;>omega
      omega)
     have c1:=qdy hg hM hR hE
     have c2:=Jq hM hg hE
     have c3:=qdT (L:=Jf E m) (by rw[XH,List.length_map];omega) (fun l hl=>by
      rw[XH]at hl
      obtain ⟨t,_,rfl⟩:=List.mem_map.1 hl
      have h0:=YJ (qck E m t)
      have h1:=Zc hM (goS m t.1 t.2)
      have h2:=List.length_filter_le (fun p:Int×Int=>decide (1000≤p.1∧E (p.1 - 1000).toNat=true)) (xB m (goS m t.1 t.2))
      have h3:(qck E m t).length≤64:=by
       unfold qck
       rw[List.length_map]
       omega
      omega)
     have d1:=Vt hg hM hR hG hMS hE
     have d2:=Qx hM hg hE htl
     obtain ⟨hil,hir⟩:=Kk hg hM (E:=E)
     have d3:=qdT (L:=zK g E m) o_ (fun l hl=>by have:=hir l hl;omega)
     generalize zK g E m=O1 at *
     generalize Jf E m=O2 at *
     generalize kL m=O3 at *
     generalize qg m=T at *
     clear hir
     repeat' with_reducible first
      |refine s_ ?_
      |simp -implicitDefEqProofs only[wZZ,seval,g5,g6,hz]
      |apply qa<;>intro h h_<;>(try simp only[wD,reduceCtorEq]at h_)<;>(try exact wb_)<;>(try simp only[h])
      |refine t_ ?_
      |refine cq1 hma (Q6 src) ?_
      |refine cq1 a1 qf ?_
      |refine cq1 a2 qf ?_
      |refine cq2 a3 qf qf ?_
      |refine cq2 b1 qf qf ?_
      |refine cq1 b2 qf ?_
      |refine cq2 b3 qf qf ?_
      |refine cq2 c1 qf qf ?_
      |refine cq2 c2 qf qf ?_
      |refine cq2 c3 qf qf ?_
      |refine cq2 d1 qf qf ?_
      |refine cq2 d2 qf qf ?_
      |refine cq2 d3 qf qf ?_
     exact⟨wg_,i+1,o_,trivial,rfl,o_⟩
 · have e:i=L.length:=o_
   repeat' with_reducible first
    |refine s_ ?_
    |simp -implicitDefEqProofs only[wZZ,seval,g5,g6,hz]
    |apply qa<;>intro h h_<;>(try simp only[wD,reduceCtorEq]at h_)<;>(try exact wb_)<;>(try simp only[h])
   all_goals refine qx rfl (Or.inr rfl) ?_
   all_goals(try simp -implicitDefEqProofs only[wL,seval,g5,g6])
   all_goals refine er_ ?_
   all_goals(try(with_reducible rfl))
end Go.Proofs

namespace Go.Proofs.YtkcegflhobejmaaGreatDoor.law
open Go.E Go.ChangeShapes Go.WideShapes Go.ChangeAt Go.RowKit
def B (H:Type) (d:DataW H):Nat:=Rows.uptoBulk d
theorem qa2 {H:Type} (l:List (DataW H)):Rows.uptoBulkAll l=(l.map (B H)).sum:=by
 induction l with
 |nil=>simp[Rows.uptoBulkAll]
 |cons x l ih=>simp only[Rows.uptoBulkAll,ih,List.map_cons,List.sum_cons];rfl
theorem yu:BulkOk B where
 one:=fun H d=>by
  cases d with
  |lit l=>cases l<;>simp[B,Rows.uptoBulk]
  | _=>simp[B,Rows.uptoBulk]
 str:=fun H s=>by simp[B,Rows.uptoBulk]
 slice:=fun H x y=>by
  show _≤Rows.uptoBulk (.slice x y)
  simp only[Rows.uptoBulk,qa2];omega
 agg:=fun H x=>by
  show _≤Rows.uptoBulk (.agg x)
  simp only[Rows.uptoBulk,qa2];omega
theorem small {H:Type} {l:List (DataW H)} (hk:Rows.uptoSmall H l=true):(l.map (B H)).sum≤1048576:=by
 have h:Rows.uptoBulkAll l≤1048576:=of_decide_eq_true hk
 rwa [qa2]at h
theorem own:ownKnob Tryz.prog.godebug=none:=by kernel_rfl
theorem kids:Kids Tryz.prog (· <Tryz.prog.types.size):=kids_rows (by kernel_rfl) (by kernel_rfl)
theorem slices: ∀t e,t<Tryz.prog.types.size→Tryz.prog.underlying t=some (.slice e)→0<Tryz.prog.cellsOf e:=slices_full_of Tryz.prog (by kernel_rfl)
theorem cells3:Tryz.prog.cellsOf 3=1:=by kernel_rfl
theorem qin (N:Nat):ReadsN N Tryz.prog B 3 (Img (fun n:Int=>.int .i64 n) (fun _=>1) (fun n=>(Lit.int .i64 n).wf=true)):=qei yu Tryz.underlying3 cells3 N
theorem QD:Tryz.prog.cellsOf 27=1:=by kernel_rfl
theorem VD:Tryz.prog.cellsOf 26=1:=by kernel_rfl
theorem qA5:Tryz.prog.cellsOf 4=1:=by kernel_rfl
theorem qL1 (N:Nat):ReadsN N Tryz.prog B 4 (Img (fun n:Bool=>.bool n) (fun _=>1) (fun _=>True)):=qc8 yu Tryz.underlying4 qA5 N
def szI (l:List Int):Nat:=(l.map fun _=>1).sum+1
theorem qs1 (N:Nat):ReadsN N Tryz.prog B 27 (Img (fun l:List Int=>.sl 1 false (l.map (V.int .i64))) szI (fun l=> ∀n∈l,(Lit.int .i64 n).wf=true)):=by
 have h:=ja yu Tryz.underlying27 QD (by rw[cells3];omega) (qin N)
 rw[cells3]at h
 exact h.le o_
theorem qLy (N:Nat):ReadsN N Tryz.prog B 26 (Img (fun l:List (List Int)=>.sl 1 false (l.map fun l=>.sl 1 false (l.map (V.int .i64)))) (fun l=>(l.map szI).sum+1) (fun l=> ∀a∈l,∀n∈a,(Lit.int .i64 n).wf=true)):=by
 have h:=ja yu Tryz.underlying26 (by kernel_rfl) (by rw[QD];omega) (qs1 N)
 rw[QD]at h
 exact h.le o_
def szG (x:GrI):Nat:=((x.rules.map szI).sum+1)+szI x.levels+szI x.inner
theorem rGr (N:Nat):ReadsN N Tryz.prog B 29 (Img (fun x:GrI=>x.V) szG (fun _=>True)):=by
 have h:=vW (N:=N) (Qs:=[Img (fun n:Int=>.int .i64 n) (fun _=>1) (fun n=>(Lit.int .i64 n).wf=true),Img (fun l:List (List Int)=>.sl 1 false (l.map fun l=>.sl 1 false (l.map (V.int .i64)))) (fun l=>(l.map szI).sum+1) (fun l=> ∀a∈l,∀n∈a,(Lit.int .i64 n).wf=true),Img (fun l:List Int=>.sl 1 false (l.map (V.int .i64))) szI (fun l=> ∀n∈l,(Lit.int .i64 n).wf=true),Img (fun l:List Int=>.sl 1 false (l.map (V.int .i64))) szI (fun l=> ∀n∈l,(Lit.int .i64 n).wf=true),Img (fun n:Bool=>.bool n) (fun _=>1) (fun _=>True)]) yu Tryz.underlying29 (by kernel_rfl) (by
  intro j f hf
  match j,hf with
  |0,hf=>cases hf;rfl
  |1,hf=>cases hf;simp[cells3,VD,QD]
  |2,hf=>cases hf;simp[cells3,VD,QD]
  |3,hf=>cases hf;simp[cells3,VD,QD]
  |4,hf=>cases hf;simp[cells3,VD,QD]) rfl (by
  intro i f Q hf hQ
  match i,hf,hQ with
  |0,hf,hQ=>cases hf;cases hQ;exact qin N
  |1,hf,hQ=>cases hf;cases hQ;exact qLy N
  |2,hf,hQ=>cases hf;cases hQ;exact qs1 N
  |3,hf,hQ=>cases hf;cases hQ;exact qs1 N
  |4,hf,hQ=>cases hf;cases hQ;exact qL1 N)
 have hc:Tryz.prog.cellsOf 29=5:=by kernel_rfl
 refine⟨?_,fun H enc w fuel cs x hf hx=>?_⟩
 · rintro v n ⟨x,_,rfl,rfl⟩
   refine⟨by rw[hc];rfl,?_,by simp[V.isAgg,qgB,Tryz.underlying29]⟩
   intro c hcm
   simp only[V.cells,List.mem_cons,List.not_mem_nil,or_false]at hcm
   rcases hcm with rfl|rfl|rfl|rfl|rfl<;>rfl
 · obtain ⟨v,n,⟨ps,hl,hq,rfl,rfl⟩,h2,h3⟩:=h.rd H enc w fuel cs x o_ hx
   match ps,hl with
   | [p0,p1,p2,p3,p4],_=>
     obtain ⟨a0,-,e0,s0⟩:=hq 0 _ _ rfl rfl
     obtain ⟨a1,-,e1,s1⟩:=hq 1 _ _ rfl rfl
     obtain ⟨a2,-,e2,s2⟩:=hq 2 _ _ rfl rfl
     obtain ⟨a3,-,e3,s3⟩:=hq 3 _ _ rfl rfl
     obtain ⟨a4,-,e4,s4⟩:=hq 4 _ _ rfl rfl
     refine⟨(GrI.mk a0 a1 a2 a3 a4).V,_,⟨GrI.mk a0 a1 a2 a3 a4,trivial,rfl,rfl⟩,?_,?_⟩
     · simp only[List.map_cons,List.map_nil,List.flatMap_cons,List.flatMap_nil,e0,e1,e2,e3,e4]at h2
       exact h2
     · simp only[List.map_cons,List.map_nil,List.sum_cons,List.sum_nil,s0,s1,s2,s3,s4]at h3
       simp only[szG]
       omega
theorem qbp (l:List Int):szI l=l.length+1:=by
 unfold szI
 induction l with
 |nil=>rfl
 |cons a l ih=>simp only[List.map_cons,List.sum_cons,List.length_cons]at ih ⊢;omega
theorem qbc: ∀{L:List (List Int)} {l:List Int},l∈L→l.length+L.length≤(L.map szI).sum
 | a::L,l,h=>by
   have hs: ∀L:List (List Int),L.length≤(L.map szI).sum:=fun L=>by
    induction L with
    |nil=>simp
    |cons a L ih=>simp only[List.map_cons,List.sum_cons,List.length_cons,qbp];omega
   simp only[List.map_cons,List.sum_cons,List.length_cons,qbp]
   rcases List.mem_cons.1 h with rfl|h
   · have:=hs L;omega
   · have:=qbc h;omega
theorem qw3 {x:GrI} (h:szG x≤1048576):x.rules.length≤1099511627776∧(∀l∈x.rules,l.length≤1099511627776)∧x.inner.length≤1099511627776∧x.levels.length≤1099511627776:=by
 simp only[szG,qbp]at h
 refine⟨?_,fun l hl=>by have:=qbc hl;omega,o_,o_⟩
 cases hx:x.rules with
 |nil=>simp
 |cons a L=>have:=qbc (L:=x.rules) (l:=a) (by simp[hx]);rw[hx]at this h;simp only[List.length_cons]at this ⊢;omega
theorem qYk:Tryz.prog.globalNamed "math/bits.deBruijn64tab"=some 0:=by kernel_rfl
theorem qhm:(Tryz.prog.globals[0]?).map (·.type)=some 194:=by kernel_rfl
theorem table {W:World} (h:laidMetH Tryz.prog [("math/bits.deBruijn64tab",Rows.laid_math_bits_deBruijn64tab)] W):Lib.TabIs Tryz.prog W "math/bits.deBruijn64tab" .u8 (Lib.deBruijn64tab.map fun(n:Nat)=>(n:Int)):=
 Lib.tabIs_of_head (rest:=[]) qYk qhm Tryz.underlying194 Tryz.underlying5 (by kernel_rfl) (by kernel_rfl) h
theorem qyD {W:World} (h:laidMetH Tryz.prog [("math/bits.deBruijn64tab",Rows.laid_math_bits_deBruijn64tab)] W):Go.E.GOk Tryz.prog W JZ:=by
 intro g
 show R noβ W JZ (if g=0 then _ else _) _
 have hl:Lib.deBruijn64tab.length=64:=by decide
 split
 · rename_i e
   subst e
   refine .iptr 64 _ 0 0 0 (fun j=>.int .u8 ((Lib.deBruijn64tab.map fun(n:Nat)=>(n:Int)).getD j 0)) (fun j hj=>⟨trivial,?_⟩) (by simp[V.cells,hl]) (by simp[V.cells,V.scalar]) (fun j c hc=>?_)
   · have:=(table h).cell qYk j (by simp[hl];exact hj)
     simpa using this
   · simp only[V.cells,List.getElem?_map,Option.map_eq_some_iff]at hc
     obtain ⟨n,hn,rfl⟩:=hc
     have:(Lib.deBruijn64tab.map fun(n:Nat)=>(n:Int)).getD j 0=(n:Int):=by simp[List.getD,hn]
     rw[this]
     exact .int _ _
 · exact .iptr 0 (.agg []) 0 g 0 (fun _=>Go.undef) (fun j hj=>absurd hj (Nat.not_lt_zero _)) rfl (by simp[V.cells]) (by simp[V.cells])
noncomputable def XO (os:Os):World:=
 {World.holding Tryz.prog os ⟨#[],#[],[]⟩with heap:=(World.holding Tryz.prog os ⟨#[],#[],[]⟩).heap.modify 0 fun
  |.cells _ t frozen=>.cells ((Lib.deBruijn64tab.map fun(n:Nat)=>Value.int .u8 (n:Int)).toArray) t frozen
  |o=>o}
end Go.Proofs.YtkcegflhobejmaaGreatDoor.law

namespace Go.Proofs.YtkcegflhobejmaaGreatDoor.law
open Go.E Go.ChangeShapes Go.WideShapes Go.ChangeAt Go.RowKit
theorem qf4 {t:TypeId} {fs:Array Field} (ht:Tryz.prog.underlying t=some (.struct fs)) (hl:fs.toList.length=3)
 (hsum:Tryz.prog.cellsOf t=(fs.toList.map fun f=>Tryz.prog.cellsOf f.type).sum) (ho: ∀j,j<4→ ∀f∈fs.toList[j]?,f.offset=((fs.toList.take j).map fun f=>Tryz.prog.cellsOf f.type).sum)
 {N:Nat} {α β γ δ:Type} {f1:α→V} {f2:β→V} {f3:γ→V} {s1:α→Nat} {s2:β→Nat} {s3:γ→Nat} {p1:α→Prop} {p2:β→Prop} {p3:γ→Prop}
 (h1: ∀f,fs.toList[0]?=some f→ReadsN N Tryz.prog B f.type (Img f1 s1 p1)) (h2: ∀f,fs.toList[1]?=some f→ReadsN N Tryz.prog B f.type (Img f2 s2 p2)) (h3: ∀f,fs.toList[2]?=some f→ReadsN N Tryz.prog B f.type (Img f3 s3 p3))
 (d1:δ→α) (d2:δ→β) (d3:δ→γ) (mk:α→β→γ→δ) (hd: ∀a b c,d1 (mk a b c)=a∧d2 (mk a b c)=b∧d3 (mk a b c)=c) (e:δ→V) (he: ∀x,e x=.agg ((f1 (d1 x)).cells++((f2 (d2 x)).cells++(f3 (d3 x)).cells))):
 ReadsN (N+1) Tryz.prog B t (Img e (fun x=>s1 (d1 x)+s2 (d2 x)+s3 (d3 x)+1) (fun x=>p1 (d1 x)∧p2 (d2 x)∧p3 (d3 x))):=by
 have h:=vW (N:=N) (Qs:=[Img f1 s1 p1,Img f2 s2 p2,Img f3 s3 p3]) yu ht hsum (fun j f hj=>ho j (by have:=(List.getElem?_eq_some_iff.1 hj).1;omega) f hj) (by rw[hl];rfl) (by
  intro i f Q hf hQ
  match i,hf,hQ with
  |0,hf,hQ=>cases hQ;exact h1 f hf
  |1,hf,hQ=>cases hQ;exact h2 f hf
  |2,hf,hQ=>cases hQ;exact h3 f hf)
 refine⟨fun v n ⟨x,hx,hv,hn⟩=>?_,fun H enc w fuel cs x hf hx=>?_⟩
 · refine h.shape v n ⟨[(f1 (d1 x),s1 (d1 x)),(f2 (d2 x),s2 (d2 x)),(f3 (d3 x),s3 (d3 x))],rfl,fun i p Q hp hQ=>?_,by rw[hv,he];simp,by rw[hn];simp;omega⟩
   match i,hp,hQ with
   |0,hp,hQ=>cases hp;cases hQ;exact⟨_,hx.1,rfl,rfl⟩
   |1,hp,hQ=>cases hp;cases hQ;exact⟨_,hx.2.1,rfl,rfl⟩
   |2,hp,hQ=>cases hp;cases hQ;exact⟨_,hx.2.2,rfl,rfl⟩
 · obtain ⟨v,n,⟨ps,hl,hq,rfl,rfl⟩,h2,h3⟩:=h.rd H enc w fuel cs x hf hx
   match ps,hl with
   | [q0,q1,q2],_=>
     obtain ⟨a,wa,e0,z0⟩:=hq 0 _ _ rfl rfl
     obtain ⟨b,wb,e1,z1⟩:=hq 1 _ _ rfl rfl
     obtain ⟨c,wc,e2,z2⟩:=hq 2 _ _ rfl rfl
     obtain ⟨k1,k2,k3⟩:=hd a b c
     refine⟨e (mk a b c),_,⟨mk a b c,by dsimp only;rw[k1,k2,k3];exact⟨wa,wb,wc⟩,rfl,rfl⟩,?_,?_⟩
     · rw[he,k1,k2,k3]
       simpa[e0,e1,e2,V.cells]using h2
     · simp only[k1,k2,k3]
       simp only[List.map_cons,List.map_nil,List.sum_cons,List.sum_nil,z0,z1,z2]at h3
       omega
theorem qdP {t:TypeId} {fs:Array Field} (ht:Tryz.prog.underlying t=some (.struct fs)) (hl:fs.toList.length=4)
 (hsum:Tryz.prog.cellsOf t=(fs.toList.map fun f=>Tryz.prog.cellsOf f.type).sum) (ho: ∀j,j<4→ ∀f∈fs.toList[j]?,f.offset=((fs.toList.take j).map fun f=>Tryz.prog.cellsOf f.type).sum)
 {N:Nat} {α β γ ε δ:Type} {f1:α→V} {f2:β→V} {f3:γ→V} {f4:ε→V} {s1:α→Nat} {s2:β→Nat} {s3:γ→Nat} {s4:ε→Nat} {p1:α→Prop} {p2:β→Prop} {p3:γ→Prop} {p4:ε→Prop}
 (h1: ∀f,fs.toList[0]?=some f→ReadsN N Tryz.prog B f.type (Img f1 s1 p1)) (h2: ∀f,fs.toList[1]?=some f→ReadsN N Tryz.prog B f.type (Img f2 s2 p2)) (h3: ∀f,fs.toList[2]?=some f→ReadsN N Tryz.prog B f.type (Img f3 s3 p3)) (h4: ∀f,fs.toList[3]?=some f→ReadsN N Tryz.prog B f.type (Img f4 s4 p4))
 (d1:δ→α) (d2:δ→β) (d3:δ→γ) (d4:δ→ε) (mk:α→β→γ→ε→δ) (hd: ∀a b c d,d1 (mk a b c d)=a∧d2 (mk a b c d)=b∧d3 (mk a b c d)=c∧d4 (mk a b c d)=d) (e:δ→V) (he: ∀x,e x=.agg ((f1 (d1 x)).cells++((f2 (d2 x)).cells++((f3 (d3 x)).cells++(f4 (d4 x)).cells)))):
 ReadsN (N+1) Tryz.prog B t (Img e (fun x=>s1 (d1 x)+s2 (d2 x)+s3 (d3 x)+s4 (d4 x)+1) (fun x=>p1 (d1 x)∧p2 (d2 x)∧p3 (d3 x)∧p4 (d4 x))):=by
 have h:=vW (N:=N) (Qs:=[Img f1 s1 p1,Img f2 s2 p2,Img f3 s3 p3,Img f4 s4 p4]) yu ht hsum (fun j f hj=>ho j (by have:=(List.getElem?_eq_some_iff.1 hj).1;omega) f hj) (by rw[hl];rfl) (by
  intro i f Q hf hQ
  match i,hf,hQ with
  |0,hf,hQ=>cases hQ;exact h1 f hf
  |1,hf,hQ=>cases hQ;exact h2 f hf
  |2,hf,hQ=>cases hQ;exact h3 f hf
  |3,hf,hQ=>cases hQ;exact h4 f hf)
 refine⟨fun v n ⟨x,hx,hv,hn⟩=>?_,fun H enc w fuel cs x hf hx=>?_⟩
 · refine h.shape v n ⟨[(f1 (d1 x),s1 (d1 x)),(f2 (d2 x),s2 (d2 x)),(f3 (d3 x),s3 (d3 x)),(f4 (d4 x),s4 (d4 x))],rfl,fun i p Q hp hQ=>?_,by rw[hv,he];simp,by rw[hn];simp;omega⟩
   match i,hp,hQ with
   |0,hp,hQ=>cases hp;cases hQ;exact⟨_,hx.1,rfl,rfl⟩
   |1,hp,hQ=>cases hp;cases hQ;exact⟨_,hx.2.1,rfl,rfl⟩
   |2,hp,hQ=>cases hp;cases hQ;exact⟨_,hx.2.2.1,rfl,rfl⟩
   |3,hp,hQ=>cases hp;cases hQ;exact⟨_,hx.2.2.2,rfl,rfl⟩
 · obtain ⟨v,n,⟨ps,hl,hq,rfl,rfl⟩,h2,h3⟩:=h.rd H enc w fuel cs x hf hx
   match ps,hl with
   | [q0,q1,q2,q3],_=>
     obtain ⟨a,wa,e0,z0⟩:=hq 0 _ _ rfl rfl
     obtain ⟨b,wb,e1,z1⟩:=hq 1 _ _ rfl rfl
     obtain ⟨c,wc,e2,z2⟩:=hq 2 _ _ rfl rfl
     obtain ⟨d,wd,e3,z3⟩:=hq 3 _ _ rfl rfl
     obtain ⟨k1,k2,k3,k4⟩:=hd a b c d
     refine⟨e (mk a b c d),_,⟨mk a b c d,by dsimp only;rw[k1,k2,k3,k4];exact⟨wa,wb,wc,wd⟩,rfl,rfl⟩,?_,?_⟩
     · rw[he,k1,k2,k3,k4]
       simpa[e0,e1,e2,e3,V.cells]using h2
     · simp only[k1,k2,k3,k4]
       simp only[List.map_cons,List.map_nil,List.sum_cons,List.sum_nil,z0,z1,z2,z3]at h3
       omega
theorem qx7 (N:Nat):ReadsN N Tryz.prog B 9 (Img (fun s:List UInt8=>.str s) (fun s=>s.length+1) (fun _=>True)):=(qel yu Tryz.underlying9 (by kernel_rfl) N).mono (fun _ _ ⟨a,_,h1,h2⟩=>⟨a,trivial,h1,h2⟩) (fun v n ⟨a,_,h1,h2⟩=>by subst h1;exact⟨by kernel_rfl,by simp[V.cells,V.scalar],by kernel_rfl⟩)
abbrev okI (n:Int):Prop:=(Lit.int .i64 n).wf=true
abbrev JA (x:Sym):Nat:=(x.name.length+1)+1+1+1+1
abbrev qhp (x:Sym):Prop:=True∧True∧okI x.num∧okI x.at_
theorem qWh (N:Nat):ReadsN (N+1) Tryz.prog B 57 (Img Sym.V JA qhp):=
 qdP (N:=N) (t:=57) Tryz.underlying57 rfl (by kernel_rfl) (by decide+kernel) (fun f hf=>by cases hf;exact qx7 N) (fun f hf=>by cases hf;exact qL1 N) (fun f hf=>by cases hf;exact qin N) (fun f hf=>by cases hf;exact qin N) (fun x:Sym=>x.name) (·.lit) (·.num) (·.at_) Sym.mk (fun _ _ _ _=>⟨rfl,rfl,rfl,rfl⟩) Sym.V (fun _=>rfl)
abbrev YQ (x:Part):Nat:=JA x.sym+(x.code.length+1)+1+1
abbrev qiG (x:Part):Prop:=qhp x.sym∧True∧okI x.at_
theorem qXx (N:Nat):ReadsN (N+1+1) Tryz.prog B 59 (Img Part.V YQ qiG):=
 qf4 (N:=N+1) (t:=59) Tryz.underlying59 rfl (by kernel_rfl) (by decide+kernel) (fun f hf=>by cases hf;exact qWh N) (fun f hf=>by cases hf;exact qx7 _) (fun f hf=>by cases hf;exact qin _) (fun x:Part=>x.sym) (·.code) (·.at_) Part.mk (fun _ _ _=>⟨rfl,rfl,rfl⟩) Part.V (fun _=>rfl)
abbrev Vq (l:List Part):Nat:=(l.map YQ).sum+1
abbrev qgD (l:List Part):Prop:= ∀a∈l,qiG a
theorem qgR:Tryz.prog.cellsOf 59=6:=by kernel_rfl
theorem qBi (N:Nat):ReadsN (N+1+1+1) Tryz.prog B 60 (Img (fun l:List Part=>.sl 6 false (l.map Part.V)) Vq qgD):=by
 have h:=ja yu Tryz.underlying60 (by kernel_rfl) (by rw[qgR];omega) (qXx N)
 rw[qgR]at h
 exact h
abbrev qdc (x:Alt):Nat:=Vq x.parts+JA x.prec+1+1
abbrev qMh (x:Alt):Prop:=qgD x.parts∧qhp x.prec∧okI x.at_
theorem qZj (N:Nat):ReadsN (N+1+1+1+1) Tryz.prog B 62 (Img Alt.V qdc qMh):=
 qf4 (N:=N+1+1+1) (t:=62) Tryz.underlying62 rfl (by kernel_rfl) (by decide+kernel) (fun f hf=>by cases hf;exact qBi N) (fun f hf=>by cases hf;exact qWh (N+2)) (fun f hf=>by cases hf;exact qin _) (fun x:Alt=>x.parts) (·.prec) (·.at_) Alt.mk (fun _ _ _=>⟨rfl,rfl,rfl⟩) Alt.V (fun _=>rfl)
abbrev qbY (l:List Alt):Nat:=(l.map qdc).sum+1
abbrev qlq (l:List Alt):Prop:= ∀a∈l,qMh a
theorem qfc:Tryz.prog.cellsOf 62=6:=by kernel_rfl
theorem qXJ (N:Nat):ReadsN (N+1+1+1+1+1) Tryz.prog B 63 (Img (fun l:List Alt=>.sl 6 false (l.map Alt.V)) qbY qlq):=by
 have h:=ja yu Tryz.underlying63 (by kernel_rfl) (by rw[qfc];omega) (qZj N)
 rw[qfc]at h
 exact h
abbrev YT (x:Rule):Nat:=(x.left.length+1)+qbY x.alts+1+1
abbrev qkP (x:Rule):Prop:=True∧qlq x.alts∧okI x.at_
theorem qVl (N:Nat):ReadsN (N+1+1+1+1+1+1) Tryz.prog B 65 (Img Rule.V YT qkP):=
 qf4 (N:=N+1+1+1+1+1) (t:=65) Tryz.underlying65 rfl (by kernel_rfl) (by decide+kernel) (fun f hf=>by cases hf;exact qx7 _) (fun f hf=>by cases hf;exact qXJ N) (fun f hf=>by cases hf;exact qin _) (fun x:Rule=>x.left) (·.alts) (·.at_) Rule.mk (fun _ _ _=>⟨rfl,rfl,rfl⟩) Rule.V (fun _=>rfl)
abbrev qbm (l:List Rule):Nat:=(l.map YT).sum+1
abbrev qft (l:List Rule):Prop:= ∀a∈l,qkP a
theorem qeq:Tryz.prog.cellsOf 65=3:=by kernel_rfl
theorem qOq (N:Nat):ReadsN (N+1+1+1+1+1+1+1) Tryz.prog B 23 (Img (fun l:List Rule=>.sl 3 false (l.map Rule.V)) qbm qft):=by
 have h:=ja yu Tryz.underlying23 (by kernel_rfl) (by rw[qeq];omega) (qVl N)
 rw[qeq]at h
 exact h
abbrev qb7 (l:List Sym):Nat:=(l.map JA).sum+1
abbrev qjG (l:List Sym):Prop:= ∀a∈l,qhp a
theorem qet:Tryz.prog.cellsOf 57=4:=by kernel_rfl
theorem qWC (N:Nat):ReadsN (N+1+1) Tryz.prog B 91 (Img (fun l:List Sym=>.sl 4 false (l.map Sym.V)) qb7 qjG):=by
 have h:=ja yu Tryz.underlying91 (by kernel_rfl) (by rw[qet];omega) (qWh N)
 rw[qet]at h
 exact h
abbrev Xn (x:Decl):Nat:=1+(x.tag.length+1)+qb7 x.syms+1+1
abbrev qlt (x:Decl):Prop:=okI x.kind∧True∧qjG x.syms∧okI x.at_
theorem qW1 (N:Nat):ReadsN (N+1+1+1) Tryz.prog B 93 (Img Decl.V Xn qlt):=
 qdP (N:=N+1+1) (t:=93) Tryz.underlying93 rfl (by kernel_rfl) (by decide+kernel) (fun f hf=>by cases hf;exact qin _) (fun f hf=>by cases hf;exact qx7 _) (fun f hf=>by cases hf;exact qWC N) (fun f hf=>by cases hf;exact qin _) (fun x:Decl=>x.kind) (·.tag) (·.syms) (·.at_) Decl.mk (fun _ _ _ _=>⟨rfl,rfl,rfl,rfl⟩) Decl.V (fun _=>rfl)
abbrev qaR (l:List Decl):Nat:=(l.map Xn).sum+1
abbrev qeL (l:List Decl):Prop:= ∀a∈l,qlt a
theorem qgi:Tryz.prog.cellsOf 93=4:=by kernel_rfl
theorem qGm (N:Nat):ReadsN (N+1+1+1+1) Tryz.prog B 22 (Img (fun l:List Decl=>.sl 4 false (l.map Decl.V)) qaR qeL):=by
 have h:=ja yu Tryz.underlying22 (by kernel_rfl) (by rw[qgi];omega) (qW1 N)
 rw[qgi]at h
 exact h
abbrev QX (x:Source):Nat:=(x.pro.length+1)+qaR x.decls+qbm x.rules+(x.tail.length+1)+1
abbrev VH (x:Source):Prop:=True∧qeL x.decls∧qft x.rules∧True
theorem quN (N:Nat):ReadsN (N+1+1+1+1+1+1+1+1) Tryz.prog B 25 (Img Source.V QX VH):=
 qdP (N:=N+1+1+1+1+1+1+1) (t:=25) Tryz.underlying25 rfl (by kernel_rfl) (by decide+kernel) (fun f hf=>by cases hf;exact qx7 _) (fun f hf=>by cases hf;exact qGm (N+3)) (fun f hf=>by cases hf;exact qOq N) (fun f hf=>by cases hf;exact qx7 _) (fun x:Source=>x.pro) (·.decls) (·.rules) (·.tail) Source.mk (fun _ _ _ _=>⟨rfl,rfl,rfl,rfl⟩) Source.V (fun _=>rfl)
theorem YD {α:Type} (sz:α→Nat): ∀{l:List α} {a:α},a∈l→sz a≤(l.map sz).sum
 | b::l,a,h=>by
   rw[List.map_cons,List.sum_cons]
   rcases List.mem_cons.1 h with rfl|h
   · omega
   · have:=YD sz h;omega
theorem YC {α:Type} (sz:α→Nat) (h: ∀a,1≤sz a): ∀l:List α,l.length≤(l.map sz).sum
 |[]=>Nat.zero_le _
 |a::l=>by have:=YC sz h l;have:=h a;rw[List.map_cons,List.sum_cons,List.length_cons];omega
theorem qvt {x:Source} (h:QX x≤1048576):x.Fits:=by
 have l1:=YC Xn (fun _=>by unfold Xn;omega) x.decls
 have l2:=YC YT (fun _=>by unfold YT;omega) x.rules
 unfold QX qaR qbm at h
 refine⟨o_,o_,o_,fun d hd=>?_,o_,fun r hr=>?_⟩
 · have m:=YD Xn hd
   unfold Xn qb7 at m
   have l3:=YC JA (fun _=>by unfold JA;omega) d.syms
   unfold Xn qb7 at h
   refine⟨o_,o_,fun y hy=>?_⟩
   have m2:=YD JA hy
   unfold JA at *
   omega
 · have m:=YD YT hr
   have l3:=YC qdc (fun _=>by unfold qdc;omega) r.alts
   have m':r.left.length+1+qbY r.alts+1+1≤(x.rules.map YT).sum:=m
   unfold qbY at m'
   refine⟨o_,o_,fun a ha=>?_⟩
   have n:=YD qdc ha
   have l4:=YC YQ (fun _=>by unfold YQ;omega) a.parts
   have n':Vq a.parts+JA a.prec+1+1≤(r.alts.map qdc).sum:=n
   unfold Vq JA at n'
   refine⟨o_,fun w hw=>?_,o_⟩
   have q:=YD YQ hw
   have q':JA w.sym+(w.code.length+1)+1+1≤(a.parts.map YQ).sum:=q
   unfold JA at q'
   exact⟨o_,o_⟩
end Go.Proofs.YtkcegflhobejmaaGreatDoor.law
