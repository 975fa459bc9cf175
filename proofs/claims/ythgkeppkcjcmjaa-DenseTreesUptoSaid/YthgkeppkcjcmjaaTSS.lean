/- Part of a proof that a law of the given program answers true. -/
import Derived.Test.YthgkeppkcjcmjaaTRB
import Derived.Test.YthgkeppkcjcmjaaTEC
import Derived.Test.YthgkeppkcjcmjaaRows
import Derived.WalkKit
import Derived.ProofKit
import Derived.OpenShut
import Derived.JoinedCond
set_option linter.unusedSimpArgs false
set_option linter.unusedVariables false
namespace Go.Proofs.Ythgkeppkcjcmjaa.law
open Go.E Go.ChangeShapes Go.WideShapes Go.ChangeAt Go.RowKit
def B (H:Type) (d:DataW H):Nat:=Rows.uptoBulk d
theorem qa5 {H:Type} (l:List (DataW H)):Rows.uptoBulkAll l=(l.map (B H)).sum:=by
 induction l with
 |nil=>simp[Rows.uptoBulkAll]
 |cons x l ih=>simp only[Rows.uptoBulkAll,ih,List.map_cons,List.sum_cons];rfl
theorem vY:BulkOk B where
 one:=fun H d=>by
  cases d with
  |lit l=>cases l<;>simp[B,Rows.uptoBulk]
  | _=>simp[B,Rows.uptoBulk]
 str:=fun H s=>by simp[B,Rows.uptoBulk]
 slice:=fun H x y=>by
  show _≤Rows.uptoBulk (.slice x y)
  simp only[Rows.uptoBulk,qa5];omega
 agg:=fun H x=>by
  show _≤Rows.uptoBulk (.agg x)
  simp only[Rows.uptoBulk,qa5];omega
theorem small {H:Type} {l:List (DataW H)} (hk:Rows.uptoSmall H l=true):(l.map (B H)).sum≤1048576:=by
 have h:Rows.uptoBulkAll l≤1048576:=of_decide_eq_true hk
 rwa [qa5]at h
theorem own:ownKnob Try.prog.godebug=none:=by kernel_rfl
theorem kids:Kids Try.prog (· <Try.prog.types.size):=kids_rows (by kernel_rfl) (by kernel_rfl)
theorem slices: ∀t e,t<Try.prog.types.size→Try.prog.underlying t=some (.slice e)→0<Try.prog.cellsOf e:=slices_full_of Try.prog (by kernel_rfl)
theorem cells3:Try.prog.cellsOf 3=1:=by kernel_rfl
theorem qCm:Try.prog.cellsOf 4=1:=by kernel_rfl
theorem qg3 (N:Nat):ReadsN N Try.prog B 3 (Img (fun n:Int=>.int .i64 n) (fun _=>1) (fun n=>(Lit.int .i64 n).wf=true)):=qe9 vY Try.underlying3 cells3 N
theorem qQA (N:Nat):ReadsN N Try.prog B 4 (Img (fun n:Bool=>.bool n) (fun _=>1) (fun _=>True)):=qdg vY Try.underlying4 qCm N
theorem qrA:Try.prog.cellsOf 27=1:=by kernel_rfl
def szI (l:List Int):Nat:=(l.map fun _=>1).sum+1
theorem qNC (N:Nat):ReadsN N Try.prog B 27 (Img (fun l:List Int=>.sl 1 false (l.map (V.int .i64))) szI (fun l=> ∀n∈l,(Lit.int .i64 n).wf=true)):=by
 have h:=jF vY Try.underlying27 qrA (by rw[cells3];omega) (qg3 N)
 rw[cells3]at h
 exact h.le o_
theorem qll (l:List Int):szI l=l.length+1:=by
 unfold szI
 induction l with
 |nil=>rfl
 |cons a l ih=>simp only[List.map_cons,List.sum_cons,List.length_cons]at ih ⊢;omega
theorem qel {t:TypeId} {fs:Array Field} (ht:Try.prog.underlying t=some (.struct fs)) (hl:fs.toList.length=3)
 (hsum:Try.prog.cellsOf t=(fs.toList.map fun f=>Try.prog.cellsOf f.type).sum) (ho: ∀j,j<4→ ∀f∈fs.toList[j]?,f.offset=((fs.toList.take j).map fun f=>Try.prog.cellsOf f.type).sum)
 {N:Nat} {α β γ δ:Type} {f1:α→V} {f2:β→V} {f3:γ→V} {s1:α→Nat} {s2:β→Nat} {s3:γ→Nat} {p1:α→Prop} {p2:β→Prop} {p3:γ→Prop}
 (h1: ∀f,fs.toList[0]?=some f→ReadsN N Try.prog B f.type (Img f1 s1 p1)) (h2: ∀f,fs.toList[1]?=some f→ReadsN N Try.prog B f.type (Img f2 s2 p2)) (h3: ∀f,fs.toList[2]?=some f→ReadsN N Try.prog B f.type (Img f3 s3 p3))
 (d1:δ→α) (d2:δ→β) (d3:δ→γ) (mk:α→β→γ→δ) (hd: ∀a b c,d1 (mk a b c)=a∧d2 (mk a b c)=b∧d3 (mk a b c)=c) (e:δ→V) (he: ∀x,e x=.agg ((f1 (d1 x)).cells++((f2 (d2 x)).cells++(f3 (d3 x)).cells))):
 ReadsN (N+1) Try.prog B t (Img e (fun x=>s1 (d1 x)+s2 (d2 x)+s3 (d3 x)+1) (fun x=>p1 (d1 x)∧p2 (d2 x)∧p3 (d3 x))):=by
 have h:=JE (N:=N) (Qs:=[Img f1 s1 p1,Img f2 s2 p2,Img f3 s3 p3]) vY ht hsum (fun j f hj=>ho j (by have:=(List.getElem?_eq_some_iff.1 hj).1;omega) f hj) (by rw[hl];rfl) (by
  intro i f Q hf hQ
  match i,hf,hQ with
  |0,hf,hQ=>cases hQ;exact h1 f hf
  |1,hf,hQ=>cases hQ;exact h2 f hf
  |2,hf,hQ=>cases hQ;exact h3 f hf)
 refine⟨fun v n ⟨x,hx,hv,hn⟩=>?_,fun H enc w fuel cs x hf hx=>?_⟩
 · refine h.shape v n ⟨[(f1 (d1 x),s1 (d1 x)),(f2 (d2 x),s2 (d2 x)),(f3 (d3 x),s3 (d3 x))],rfl,fun i p Q hp hQ=>?_,by rw[hv,he];simp,by rw[hn];simp;omega⟩
   match i,hp,hQ with
   |0,hp,hQ=>cases hp;cases hQ;exact⟨_,hx.1,rfl,rfl⟩
   |1,hp,hQ=>cases hp;cases hQ;exact⟨_,hx.2.1,rfl,rfl⟩
   |2,hp,hQ=>cases hp;cases hQ;exact⟨_,hx.2.2,rfl,rfl⟩
 · obtain ⟨v,n,⟨ps,hl,hq,rfl,rfl⟩,h2,h3⟩:=h.rd H enc w fuel cs x hf hx
   match ps,hl with
   | [q0,q1,q2],_=>
     obtain ⟨a,wa,e0,z0⟩:=hq 0 _ _ rfl rfl
     obtain ⟨b,wb,e1,z1⟩:=hq 1 _ _ rfl rfl
     obtain ⟨c,wc,e2,z2⟩:=hq 2 _ _ rfl rfl
     obtain ⟨k1,k2,k3⟩:=hd a b c
     refine⟨e (mk a b c),_,⟨mk a b c,by dsimp only;rw[k1,k2,k3];exact⟨wa,wb,wc⟩,rfl,rfl⟩,?_,?_⟩
     · rw[he,k1,k2,k3]
       simpa[e0,e1,e2,V.cells]using h2
     · simp only[k1,k2,k3]
       simp only[List.map_cons,List.map_nil,List.sum_cons,List.sum_nil,z0,z1,z2]at h3
       omega
theorem qdN {t:TypeId} {fs:Array Field} (ht:Try.prog.underlying t=some (.struct fs)) (hl:fs.toList.length=4)
 (hsum:Try.prog.cellsOf t=(fs.toList.map fun f=>Try.prog.cellsOf f.type).sum) (ho: ∀j,j<4→ ∀f∈fs.toList[j]?,f.offset=((fs.toList.take j).map fun f=>Try.prog.cellsOf f.type).sum)
 {N:Nat} {α β γ ε δ:Type} {f1:α→V} {f2:β→V} {f3:γ→V} {f4:ε→V} {s1:α→Nat} {s2:β→Nat} {s3:γ→Nat} {s4:ε→Nat} {p1:α→Prop} {p2:β→Prop} {p3:γ→Prop} {p4:ε→Prop}
 (h1: ∀f,fs.toList[0]?=some f→ReadsN N Try.prog B f.type (Img f1 s1 p1)) (h2: ∀f,fs.toList[1]?=some f→ReadsN N Try.prog B f.type (Img f2 s2 p2)) (h3: ∀f,fs.toList[2]?=some f→ReadsN N Try.prog B f.type (Img f3 s3 p3)) (h4: ∀f,fs.toList[3]?=some f→ReadsN N Try.prog B f.type (Img f4 s4 p4))
 (d1:δ→α) (d2:δ→β) (d3:δ→γ) (d4:δ→ε) (mk:α→β→γ→ε→δ) (hd: ∀a b c d,d1 (mk a b c d)=a∧d2 (mk a b c d)=b∧d3 (mk a b c d)=c∧d4 (mk a b c d)=d) (e:δ→V) (he: ∀x,e x=.agg ((f1 (d1 x)).cells++((f2 (d2 x)).cells++((f3 (d3 x)).cells++(f4 (d4 x)).cells)))):
 ReadsN (N+1) Try.prog B t (Img e (fun x=>s1 (d1 x)+s2 (d2 x)+s3 (d3 x)+s4 (d4 x)+1) (fun x=>p1 (d1 x)∧p2 (d2 x)∧p3 (d3 x)∧p4 (d4 x))):=by
 have h:=JE (N:=N) (Qs:=[Img f1 s1 p1,Img f2 s2 p2,Img f3 s3 p3,Img f4 s4 p4]) vY ht hsum (fun j f hj=>ho j (by have:=(List.getElem?_eq_some_iff.1 hj).1;omega) f hj) (by rw[hl];rfl) (by
  intro i f Q hf hQ
  match i,hf,hQ with
  |0,hf,hQ=>cases hQ;exact h1 f hf
  |1,hf,hQ=>cases hQ;exact h2 f hf
  |2,hf,hQ=>cases hQ;exact h3 f hf
  |3,hf,hQ=>cases hQ;exact h4 f hf)
 refine⟨fun v n ⟨x,hx,hv,hn⟩=>?_,fun H enc w fuel cs x hf hx=>?_⟩
 · refine h.shape v n ⟨[(f1 (d1 x),s1 (d1 x)),(f2 (d2 x),s2 (d2 x)),(f3 (d3 x),s3 (d3 x)),(f4 (d4 x),s4 (d4 x))],rfl,fun i p Q hp hQ=>?_,by rw[hv,he];simp,by rw[hn];simp;omega⟩
   match i,hp,hQ with
   |0,hp,hQ=>cases hp;cases hQ;exact⟨_,hx.1,rfl,rfl⟩
   |1,hp,hQ=>cases hp;cases hQ;exact⟨_,hx.2.1,rfl,rfl⟩
   |2,hp,hQ=>cases hp;cases hQ;exact⟨_,hx.2.2.1,rfl,rfl⟩
   |3,hp,hQ=>cases hp;cases hQ;exact⟨_,hx.2.2.2,rfl,rfl⟩
 · obtain ⟨v,n,⟨ps,hl,hq,rfl,rfl⟩,h2,h3⟩:=h.rd H enc w fuel cs x hf hx
   match ps,hl with
   | [q0,q1,q2,q3],_=>
     obtain ⟨a,wa,e0,z0⟩:=hq 0 _ _ rfl rfl
     obtain ⟨b,wb,e1,z1⟩:=hq 1 _ _ rfl rfl
     obtain ⟨c,wc,e2,z2⟩:=hq 2 _ _ rfl rfl
     obtain ⟨d,wd,e3,z3⟩:=hq 3 _ _ rfl rfl
     obtain ⟨k1,k2,k3,k4⟩:=hd a b c d
     refine⟨e (mk a b c d),_,⟨mk a b c d,by dsimp only;rw[k1,k2,k3,k4];exact⟨wa,wb,wc,wd⟩,rfl,rfl⟩,?_,?_⟩
     · rw[he,k1,k2,k3,k4]
       simpa[e0,e1,e2,e3,V.cells]using h2
     · simp only[k1,k2,k3,k4]
       simp only[List.map_cons,List.map_nil,List.sum_cons,List.sum_nil,z0,z1,z2,z3]at h3
       omega
theorem qsX (N:Nat):ReadsN N Try.prog B 9 (Img (fun s:List UInt8=>.str s) (fun s=>s.length+1) (fun _=>True)):=(qge vY Try.underlying9 (by kernel_rfl) N).mono (fun _ _ ⟨a,_,h1,h2⟩=>⟨a,trivial,h1,h2⟩) (fun v n ⟨a,_,h1,h2⟩=>by subst h1;exact⟨by kernel_rfl,by simp[V.cells,V.scalar],by kernel_rfl⟩)
abbrev okI (n:Int):Prop:=(Lit.int .i64 n).wf=true
abbrev JX (x:Sym):Nat:=(x.name.length+1)+1+1+1+1
abbrev qgC (x:Sym):Prop:=True∧True∧okI x.num∧okI x.at_
theorem qQh (N:Nat):ReadsN (N+1) Try.prog B 88 (Img Sym.V JX qgC):=
 qdN (N:=N) (t:=88) Try.underlying88 rfl (by kernel_rfl) (by decide+kernel) (fun f hf=>by cases hf;exact qsX N) (fun f hf=>by cases hf;exact qQA N) (fun f hf=>by cases hf;exact qg3 N) (fun f hf=>by cases hf;exact qg3 N) (fun x:Sym=>x.name) (·.lit) (·.num) (·.at_) Sym.mk (fun _ _ _ _=>⟨rfl,rfl,rfl,rfl⟩) Sym.V (fun _=>rfl)
abbrev YU (x:Part):Nat:=JX x.sym+(x.code.length+1)+1+1
abbrev qhV (x:Part):Prop:=qgC x.sym∧True∧okI x.at_
theorem qP9 (N:Nat):ReadsN (N+1+1) Try.prog B 90 (Img Part.V YU qhV):=
 qel (N:=N+1) (t:=90) Try.underlying90 rfl (by kernel_rfl) (by decide+kernel) (fun f hf=>by cases hf;exact qQh N) (fun f hf=>by cases hf;exact qsX _) (fun f hf=>by cases hf;exact qg3 _) (fun x:Part=>x.sym) (·.code) (·.at_) Part.mk (fun _ _ _=>⟨rfl,rfl,rfl⟩) Part.V (fun _=>rfl)
abbrev VT (l:List Part):Nat:=(l.map YU).sum+1
abbrev qfU (l:List Part):Prop:= ∀a∈l,qhV a
theorem qf9:Try.prog.cellsOf 90=6:=by kernel_rfl
theorem qAC (N:Nat):ReadsN (N+1+1+1) Try.prog B 91 (Img (fun l:List Part=>.sl 6 false (l.map Part.V)) VT qfU):=by
 have h:=jF vY Try.underlying91 (by kernel_rfl) (by rw[qf9];omega) (qP9 N)
 rw[qf9]at h
 exact h
abbrev qdz (x:Alt):Nat:=VT x.parts+JX x.prec+1+1
abbrev qyP (x:Alt):Prop:=qfU x.parts∧qgC x.prec∧okI x.at_
theorem qS7 (N:Nat):ReadsN (N+1+1+1+1) Try.prog B 93 (Img Alt.V qdz qyP):=
 qel (N:=N+1+1+1) (t:=93) Try.underlying93 rfl (by kernel_rfl) (by decide+kernel) (fun f hf=>by cases hf;exact qAC N) (fun f hf=>by cases hf;exact qQh (N+2)) (fun f hf=>by cases hf;exact qg3 _) (fun x:Alt=>x.parts) (·.prec) (·.at_) Alt.mk (fun _ _ _=>⟨rfl,rfl,rfl⟩) Alt.V (fun _=>rfl)
abbrev qcw (l:List Alt):Nat:=(l.map qdz).sum+1
abbrev qh6 (l:List Alt):Prop:= ∀a∈l,qyP a
theorem qey:Try.prog.cellsOf 93=6:=by kernel_rfl
theorem qQV (N:Nat):ReadsN (N+1+1+1+1+1) Try.prog B 94 (Img (fun l:List Alt=>.sl 6 false (l.map Alt.V)) qcw qh6):=by
 have h:=jF vY Try.underlying94 (by kernel_rfl) (by rw[qey];omega) (qS7 N)
 rw[qey]at h
 exact h
abbrev Y3 (x:Rule):Nat:=(x.left.length+1)+qcw x.alts+1+1
abbrev qix (x:Rule):Prop:=True∧qh6 x.alts∧okI x.at_
theorem qRl (N:Nat):ReadsN (N+1+1+1+1+1+1) Try.prog B 96 (Img Rule.V Y3 qix):=
 qel (N:=N+1+1+1+1+1) (t:=96) Try.underlying96 rfl (by kernel_rfl) (by decide+kernel) (fun f hf=>by cases hf;exact qsX _) (fun f hf=>by cases hf;exact qQV N) (fun f hf=>by cases hf;exact qg3 _) (fun x:Rule=>x.left) (·.alts) (·.at_) Rule.mk (fun _ _ _=>⟨rfl,rfl,rfl⟩) Rule.V (fun _=>rfl)
abbrev qbx (l:List Rule):Nat:=(l.map Y3).sum+1
abbrev qfM (l:List Rule):Prop:= ∀a∈l,qix a
theorem qec:Try.prog.cellsOf 96=3:=by kernel_rfl
theorem qC5 (N:Nat):ReadsN (N+1+1+1+1+1+1+1) Try.prog B 23 (Img (fun l:List Rule=>.sl 3 false (l.map Rule.V)) qbx qfM):=by
 have h:=jF vY Try.underlying23 (by kernel_rfl) (by rw[qec];omega) (qRl N)
 rw[qec]at h
 exact h
abbrev qb9 (l:List Sym):Nat:=(l.map JX).sum+1
abbrev qip (l:List Sym):Prop:= ∀a∈l,qgC a
theorem qeg:Try.prog.cellsOf 88=4:=by kernel_rfl
theorem qQc (N:Nat):ReadsN (N+1+1) Try.prog B 98 (Img (fun l:List Sym=>.sl 4 false (l.map Sym.V)) qb9 qip):=by
 have h:=jF vY Try.underlying98 (by kernel_rfl) (by rw[qeg];omega) (qQh N)
 rw[qeg]at h
 exact h
abbrev Xl (x:Decl):Nat:=1+(x.tag.length+1)+qb9 x.syms+1+1
abbrev qic (x:Decl):Prop:=okI x.kind∧True∧qip x.syms∧okI x.at_
theorem qON (N:Nat):ReadsN (N+1+1+1) Try.prog B 100 (Img Decl.V Xl qic):=
 qdN (N:=N+1+1) (t:=100) Try.underlying100 rfl (by kernel_rfl) (by decide+kernel) (fun f hf=>by cases hf;exact qg3 _) (fun f hf=>by cases hf;exact qsX _) (fun f hf=>by cases hf;exact qQc N) (fun f hf=>by cases hf;exact qg3 _) (fun x:Decl=>x.kind) (·.tag) (·.syms) (·.at_) Decl.mk (fun _ _ _ _=>⟨rfl,rfl,rfl,rfl⟩) Decl.V (fun _=>rfl)
abbrev qbl (l:List Decl):Nat:=(l.map Xl).sum+1
abbrev qfs (l:List Decl):Prop:= ∀a∈l,qic a
theorem qcL:Try.prog.cellsOf 100=4:=by kernel_rfl
theorem qxX (N:Nat):ReadsN (N+1+1+1+1) Try.prog B 22 (Img (fun l:List Decl=>.sl 4 false (l.map Decl.V)) qbl qfs):=by
 have h:=jF vY Try.underlying22 (by kernel_rfl) (by rw[qcL];omega) (qON N)
 rw[qcL]at h
 exact h
abbrev Q7 (x:Source):Nat:=(x.pro.length+1)+qbl x.decls+qbx x.rules+(x.tail.length+1)+1
abbrev Kk (x:Source):Prop:=True∧qfs x.decls∧qfM x.rules∧True
theorem qlr (N:Nat):ReadsN (N+1+1+1+1+1+1+1+1) Try.prog B 25 (Img Source.V Q7 Kk):=
 qdN (N:=N+1+1+1+1+1+1+1) (t:=25) Try.underlying25 rfl (by kernel_rfl) (by decide+kernel) (fun f hf=>by cases hf;exact qsX _) (fun f hf=>by cases hf;exact qxX (N+3)) (fun f hf=>by cases hf;exact qC5 N) (fun f hf=>by cases hf;exact qsX _) (fun x:Source=>x.pro) (·.decls) (·.rules) (·.tail) Source.mk (fun _ _ _ _=>⟨rfl,rfl,rfl,rfl⟩) Source.V (fun _=>rfl)
theorem Vh {α:Type} (sz:α→Nat): ∀{l:List α} {a:α},a∈l→sz a≤(l.map sz).sum
 | b::l,a,h=>by
   rw[List.map_cons,List.sum_cons]
   rcases List.mem_cons.1 h with rfl|h
   · omega
   · have:=Vh sz h;omega
theorem Vg {α:Type} (sz:α→Nat) (h: ∀a,1≤sz a): ∀l:List α,l.length≤(l.map sz).sum
 |[]=>Nat.zero_le _
 |a::l=>by have:=Vg sz h l;have:=h a;rw[List.map_cons,List.sum_cons,List.length_cons];omega
theorem qka {x:Source} (h:Q7 x≤1048576):x.Fits:=by
 have l1:=Vg Xl (fun _=>by unfold Xl;omega) x.decls
 have l2:=Vg Y3 (fun _=>by unfold Y3;omega) x.rules
 unfold Q7 qbl qbx at h
 refine⟨o_,o_,o_,fun d hd=>?_,o_,fun r hr=>?_⟩
 · have m:=Vh Xl hd
   unfold Xl qb9 at m
   have l3:=Vg JX (fun _=>by unfold JX;omega) d.syms
   unfold Xl qb9 at h
   refine⟨o_,o_,fun y hy=>?_⟩
   have m2:=Vh JX hy
   unfold JX at *
   omega
 · have m:=Vh Y3 hr
   have l3:=Vg qdz (fun _=>by unfold qdz;omega) r.alts
   have m':r.left.length+1+qcw r.alts+1+1≤(x.rules.map Y3).sum:=m
   unfold qcw at m'
   refine⟨o_,o_,fun a ha=>?_⟩
   have n:=Vh qdz ha
   have l4:=Vg YU (fun _=>by unfold YU;omega) a.parts
   have n':VT a.parts+JX a.prec+1+1≤(r.alts.map qdz).sum:=n
   unfold VT JX at n'
   refine⟨o_,fun w hw=>?_,o_⟩
   have q:=Vh YU hw
   have q':JX w.sym+(w.code.length+1)+1+1≤(a.parts.map YU).sum:=q
   unfold JX at q'
   exact⟨o_,o_⟩
theorem qNd (W:World):Go.E.GOk Try.prog W YF:=fun g=>.iptr 0 (.agg []) 0 g 0 (fun _=>Go.undef) (fun j hj=>absurd hj (Nat.not_lt_zero _)) rfl (by simp[V.cells]) (by simp[V.cells])
end Go.Proofs.Ythgkeppkcjcmjaa.law
