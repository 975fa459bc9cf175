/- Part of a proof that a law of the given program answers true. -/
import Derived.Test.YthgkeppkcjcmjaaDRB
import Derived.Test.YthgkeppkcjcmjaaDEC
import Derived.Test.YthgkeppkcjcmjaaRows
import Derived.WalkKit
import Derived.ProofKit
import Derived.OpenShut
import Derived.JoinedCond
set_option linter.unusedSimpArgs false
set_option linter.unusedVariables false
namespace Go.Proofs.Ythgkeppkcjcmjaa.law
open Go.E Go.ChangeShapes Go.WideShapes Go.ChangeAt Go.RowKit
def B (H:Type) (d:DataW H):Nat:=Rows.uptoBulk d
theorem qba {H:Type} (l:List (DataW H)):Rows.uptoBulkAll l=(l.map (B H)).sum:=by
 induction l with
 |nil=>simp[Rows.uptoBulkAll]
 |cons x l ih=>simp only[Rows.uptoBulkAll,ih,List.map_cons,List.sum_cons];rfl
theorem yR:BulkOk B where
 one:=fun H d=>by
  cases d with
  |lit l=>cases l<;>simp[B,Rows.uptoBulk]
  | _=>simp[B,Rows.uptoBulk]
 str:=fun H s=>by simp[B,Rows.uptoBulk]
 slice:=fun H x y=>by
  show _≤Rows.uptoBulk (.slice x y)
  simp only[Rows.uptoBulk,qba];omega
 agg:=fun H x=>by
  show _≤Rows.uptoBulk (.agg x)
  simp only[Rows.uptoBulk,qba];omega
theorem small {H:Type} {l:List (DataW H)} (hk:Rows.uptoSmall H l=true):(l.map (B H)).sum≤1048576:=by
 have h:Rows.uptoBulkAll l≤1048576:=of_decide_eq_true hk
 rwa [qba]at h
theorem own:ownKnob Try.prog.godebug=none:=by kernel_rfl
theorem kids:Kids Try.prog (· <Try.prog.types.size):=kids_rows (by kernel_rfl) (by kernel_rfl)
theorem slices: ∀t e,t<Try.prog.types.size→Try.prog.underlying t=some (.slice e)→0<Try.prog.cellsOf e:=slices_full_of Try.prog (by kernel_rfl)
theorem cells3:Try.prog.cellsOf 3=1:=by kernel_rfl
theorem qtV:Try.prog.cellsOf 4=1:=by kernel_rfl
theorem qa4 (N:Nat):ReadsN N Try.prog B 3 (Img (fun n:Int=>.int .i64 n) (fun _=>1) (fun n=>(Lit.int .i64 n).wf=true)):=qdX yR Try.underlying3 cells3 N
theorem qCV (N:Nat):ReadsN N Try.prog B 4 (Img (fun n:Bool=>.bool n) (fun _=>1) (fun _=>True)):=qdE yR Try.underlying4 qtV N
theorem QY:Try.prog.cellsOf 27=1:=by kernel_rfl
theorem VT:Try.prog.cellsOf 26=1:=by kernel_rfl
def szI (l:List Int):Nat:=(l.map fun _=>1).sum+1
theorem Y8 (N:Nat):ReadsN N Try.prog B 27 (Img (fun l:List Int=>.sl 1 false (l.map (V.int .i64))) szI (fun l=> ∀n∈l,(Lit.int .i64 n).wf=true)):=by
 have h:=jk yR Try.underlying27 QY (by rw[cells3];omega) (qa4 N)
 rw[cells3]at h
 exact h.le (by omega)
theorem qAp (N:Nat):ReadsN N Try.prog B 26 (Img (fun l:List (List Int)=>.sl 1 false (l.map fun l=>.sl 1 false (l.map (V.int .i64)))) (fun l=>(l.map szI).sum+1) (fun l=> ∀a∈l,∀n∈a,(Lit.int .i64 n).wf=true)):=by
 have h:=jk yR Try.underlying26 (by kernel_rfl) (by rw[QY];omega) (Y8 N)
 rw[QY]at h
 exact h.le (by omega)
def szG (x:GrI):Nat:=((x.rules.map szI).sum+1)+szI x.levels+szI x.inner
theorem rGr (N:Nat):ReadsN N Try.prog B 29 (Img (fun x:GrI=>x.V) szG (fun _=>True)):=by
 have h:=kY (N:=N) (Qs:=[Img (fun n:Int=>.int .i64 n) (fun _=>1) (fun n=>(Lit.int .i64 n).wf=true),Img (fun l:List (List Int)=>.sl 1 false (l.map fun l=>.sl 1 false (l.map (V.int .i64)))) (fun l=>(l.map szI).sum+1) (fun l=> ∀a∈l,∀n∈a,(Lit.int .i64 n).wf=true),Img (fun l:List Int=>.sl 1 false (l.map (V.int .i64))) szI (fun l=> ∀n∈l,(Lit.int .i64 n).wf=true),Img (fun l:List Int=>.sl 1 false (l.map (V.int .i64))) szI (fun l=> ∀n∈l,(Lit.int .i64 n).wf=true),Img (fun n:Bool=>.bool n) (fun _=>1) (fun _=>True)]) yR Try.underlying29 (by kernel_rfl) (by
  intro j f hf
  match j,hf with
  |0,hf=>cases hf;rfl
  |1,hf=>cases hf;simp[cells3,VT,QY]
  |2,hf=>cases hf;simp[cells3,VT,QY]
  |3,hf=>cases hf;simp[cells3,VT,QY]
  |4,hf=>cases hf;simp[cells3,VT,QY]) rfl (by
  intro i f Q hf hQ
  match i,hf,hQ with
  |0,hf,hQ=>cases hf;cases hQ;exact qa4 N
  |1,hf,hQ=>cases hf;cases hQ;exact qAp N
  |2,hf,hQ=>cases hf;cases hQ;exact Y8 N
  |3,hf,hQ=>cases hf;cases hQ;exact Y8 N
  |4,hf,hQ=>cases hf;cases hQ;exact qCV N)
 have hc:Try.prog.cellsOf 29=5:=by kernel_rfl
 refine⟨?_,fun H enc w fuel cs x hf hx=>?_⟩
 · rintro v n ⟨x,_,rfl,rfl⟩
   refine⟨by rw[hc];rfl,?_,by simp[V.isAgg,qei,Try.underlying29]⟩
   intro c hcm
   simp only[V.cells,List.mem_cons,List.not_mem_nil,or_false]at hcm
   rcases hcm with rfl|rfl|rfl|rfl|rfl<;>rfl
 · obtain ⟨v,n,⟨ps,hl,hq,rfl,rfl⟩,h2,h3⟩:=h.rd H enc w fuel cs x (by omega) hx
   match ps,hl with
   | [p0,p1,p2,p3,p4],_=>
     obtain ⟨a0,-,e0,s0⟩:=hq 0 _ _ rfl rfl
     obtain ⟨a1,-,e1,s1⟩:=hq 1 _ _ rfl rfl
     obtain ⟨a2,-,e2,s2⟩:=hq 2 _ _ rfl rfl
     obtain ⟨a3,-,e3,s3⟩:=hq 3 _ _ rfl rfl
     obtain ⟨a4,-,e4,s4⟩:=hq 4 _ _ rfl rfl
     refine⟨(GrI.mk a0 a1 a2 a3 a4).V,_,⟨GrI.mk a0 a1 a2 a3 a4,trivial,rfl,rfl⟩,?_,?_⟩
     · simp only[List.map_cons,List.map_nil,List.flatMap_cons,List.flatMap_nil,e0,e1,e2,e3,e4]at h2
       exact h2
     · simp only[List.map_cons,List.map_nil,List.sum_cons,List.sum_nil,s0,s1,s2,s3,s4]at h3
       simp only[szG]
       omega
theorem kU (l:List Int):szI l=l.length+1:=by
 unfold szI
 induction l with
 |nil=>rfl
 |cons a l ih=>simp only[List.map_cons,List.sum_cons,List.length_cons]at ih ⊢;omega
theorem qbA: ∀{L:List (List Int)} {l:List Int},l∈L→l.length+L.length≤(L.map szI).sum
 | a::L,l,h=>by
   have hs: ∀L:List (List Int),L.length≤(L.map szI).sum:=fun L=>by
    induction L with
    |nil=>simp
    |cons a L ih=>simp only[List.map_cons,List.sum_cons,List.length_cons,kU];omega
   simp only[List.map_cons,List.sum_cons,List.length_cons,kU]
   rcases List.mem_cons.1 h with rfl|h
   · have:=hs L;omega
   · have:=qbA h;omega
theorem Yn {x:GrI} (h:szG x≤1048576):x.rules.length≤1099511627776∧(∀l∈x.rules,l.length≤1099511627776)∧x.inner.length≤1099511627776∧x.levels.length≤1099511627776:=by
 simp only[szG,kU]at h
 refine⟨?_,fun l hl=>by have:=qbA hl;omega,by omega,by omega⟩
 cases hx:x.rules with
 |nil=>simp
 |cons a L=>have:=qbA (L:=x.rules) (l:=a) (by simp[hx]);rw[hx]at this h;simp only[List.length_cons]at this ⊢;omega
theorem qeJ {t:TypeId} {fs:Array Field} (ht:Try.prog.underlying t=some (.struct fs)) (hl:fs.toList.length=3)
 (hsum:Try.prog.cellsOf t=(fs.toList.map fun f=>Try.prog.cellsOf f.type).sum) (ho: ∀j,j<4→ ∀f∈fs.toList[j]?,f.offset=((fs.toList.take j).map fun f=>Try.prog.cellsOf f.type).sum)
 {N:Nat} {α β γ δ:Type} {f1:α→V} {f2:β→V} {f3:γ→V} {s1:α→Nat} {s2:β→Nat} {s3:γ→Nat} {p1:α→Prop} {p2:β→Prop} {p3:γ→Prop}
 (h1: ∀f,fs.toList[0]?=some f→ReadsN N Try.prog B f.type (Img f1 s1 p1)) (h2: ∀f,fs.toList[1]?=some f→ReadsN N Try.prog B f.type (Img f2 s2 p2)) (h3: ∀f,fs.toList[2]?=some f→ReadsN N Try.prog B f.type (Img f3 s3 p3))
 (d1:δ→α) (d2:δ→β) (d3:δ→γ) (mk:α→β→γ→δ) (hd: ∀a b c,d1 (mk a b c)=a∧d2 (mk a b c)=b∧d3 (mk a b c)=c) (e:δ→V) (he: ∀x,e x=.agg ((f1 (d1 x)).cells++((f2 (d2 x)).cells++(f3 (d3 x)).cells))):
 ReadsN (N+1) Try.prog B t (Img e (fun x=>s1 (d1 x)+s2 (d2 x)+s3 (d3 x)+1) (fun x=>p1 (d1 x)∧p2 (d2 x)∧p3 (d3 x))):=by
 have h:=kY (N:=N) (Qs:=[Img f1 s1 p1,Img f2 s2 p2,Img f3 s3 p3]) yR ht hsum (fun j f hj=>ho j (by have:=(List.getElem?_eq_some_iff.1 hj).1;omega) f hj) (by rw[hl];rfl) (by
  intro i f Q hf hQ
  match i,hf,hQ with
  |0,hf,hQ=>cases hQ;exact h1 f hf
  |1,hf,hQ=>cases hQ;exact h2 f hf
  |2,hf,hQ=>cases hQ;exact h3 f hf)
 refine⟨fun v n ⟨x,hx,hv,hn⟩=>?_,fun H enc w fuel cs x hf hx=>?_⟩
 · refine h.shape v n ⟨[(f1 (d1 x),s1 (d1 x)),(f2 (d2 x),s2 (d2 x)),(f3 (d3 x),s3 (d3 x))],rfl,fun i p Q hp hQ=>?_,by rw[hv,he];simp,by rw[hn];simp;omega⟩
   match i,hp,hQ with
   |0,hp,hQ=>cases hp;cases hQ;exact⟨_,hx.1,rfl,rfl⟩
   |1,hp,hQ=>cases hp;cases hQ;exact⟨_,hx.2.1,rfl,rfl⟩
   |2,hp,hQ=>cases hp;cases hQ;exact⟨_,hx.2.2,rfl,rfl⟩
 · obtain ⟨v,n,⟨ps,hl,hq,rfl,rfl⟩,h2,h3⟩:=h.rd H enc w fuel cs x hf hx
   match ps,hl with
   | [q0,q1,q2],_=>
     obtain ⟨a,wa,e0,z0⟩:=hq 0 _ _ rfl rfl
     obtain ⟨b,wb,e1,z1⟩:=hq 1 _ _ rfl rfl
     obtain ⟨c,wc,e2,z2⟩:=hq 2 _ _ rfl rfl
     obtain ⟨k1,k2,k3⟩:=hd a b c
     refine⟨e (mk a b c),_,⟨mk a b c,by dsimp only;rw[k1,k2,k3];exact⟨wa,wb,wc⟩,rfl,rfl⟩,?_,?_⟩
     · rw[he,k1,k2,k3]
       simpa[e0,e1,e2,V.cells]using h2
     · simp only[k1,k2,k3]
       simp only[List.map_cons,List.map_nil,List.sum_cons,List.sum_nil,z0,z1,z2]at h3
       omega
theorem qfs {t:TypeId} {fs:Array Field} (ht:Try.prog.underlying t=some (.struct fs)) (hl:fs.toList.length=4)
 (hsum:Try.prog.cellsOf t=(fs.toList.map fun f=>Try.prog.cellsOf f.type).sum) (ho: ∀j,j<4→ ∀f∈fs.toList[j]?,f.offset=((fs.toList.take j).map fun f=>Try.prog.cellsOf f.type).sum)
 {N:Nat} {α β γ ε δ:Type} {f1:α→V} {f2:β→V} {f3:γ→V} {f4:ε→V} {s1:α→Nat} {s2:β→Nat} {s3:γ→Nat} {s4:ε→Nat} {p1:α→Prop} {p2:β→Prop} {p3:γ→Prop} {p4:ε→Prop}
 (h1: ∀f,fs.toList[0]?=some f→ReadsN N Try.prog B f.type (Img f1 s1 p1)) (h2: ∀f,fs.toList[1]?=some f→ReadsN N Try.prog B f.type (Img f2 s2 p2)) (h3: ∀f,fs.toList[2]?=some f→ReadsN N Try.prog B f.type (Img f3 s3 p3)) (h4: ∀f,fs.toList[3]?=some f→ReadsN N Try.prog B f.type (Img f4 s4 p4))
 (d1:δ→α) (d2:δ→β) (d3:δ→γ) (d4:δ→ε) (mk:α→β→γ→ε→δ) (hd: ∀a b c d,d1 (mk a b c d)=a∧d2 (mk a b c d)=b∧d3 (mk a b c d)=c∧d4 (mk a b c d)=d) (e:δ→V) (he: ∀x,e x=.agg ((f1 (d1 x)).cells++((f2 (d2 x)).cells++((f3 (d3 x)).cells++(f4 (d4 x)).cells)))):
 ReadsN (N+1) Try.prog B t (Img e (fun x=>s1 (d1 x)+s2 (d2 x)+s3 (d3 x)+s4 (d4 x)+1) (fun x=>p1 (d1 x)∧p2 (d2 x)∧p3 (d3 x)∧p4 (d4 x))):=by
 have h:=kY (N:=N) (Qs:=[Img f1 s1 p1,Img f2 s2 p2,Img f3 s3 p3,Img f4 s4 p4]) yR ht hsum (fun j f hj=>ho j (by have:=(List.getElem?_eq_some_iff.1 hj).1;omega) f hj) (by rw[hl];rfl) (by
  intro i f Q hf hQ
  match i,hf,hQ with
  |0,hf,hQ=>cases hQ;exact h1 f hf
  |1,hf,hQ=>cases hQ;exact h2 f hf
  |2,hf,hQ=>cases hQ;exact h3 f hf
  |3,hf,hQ=>cases hQ;exact h4 f hf)
 refine⟨fun v n ⟨x,hx,hv,hn⟩=>?_,fun H enc w fuel cs x hf hx=>?_⟩
 · refine h.shape v n ⟨[(f1 (d1 x),s1 (d1 x)),(f2 (d2 x),s2 (d2 x)),(f3 (d3 x),s3 (d3 x)),(f4 (d4 x),s4 (d4 x))],rfl,fun i p Q hp hQ=>?_,by rw[hv,he];simp,by rw[hn];simp;omega⟩
   match i,hp,hQ with
   |0,hp,hQ=>cases hp;cases hQ;exact⟨_,hx.1,rfl,rfl⟩
   |1,hp,hQ=>cases hp;cases hQ;exact⟨_,hx.2.1,rfl,rfl⟩
   |2,hp,hQ=>cases hp;cases hQ;exact⟨_,hx.2.2.1,rfl,rfl⟩
   |3,hp,hQ=>cases hp;cases hQ;exact⟨_,hx.2.2.2,rfl,rfl⟩
 · obtain ⟨v,n,⟨ps,hl,hq,rfl,rfl⟩,h2,h3⟩:=h.rd H enc w fuel cs x hf hx
   match ps,hl with
   | [q0,q1,q2,q3],_=>
     obtain ⟨a,wa,e0,z0⟩:=hq 0 _ _ rfl rfl
     obtain ⟨b,wb,e1,z1⟩:=hq 1 _ _ rfl rfl
     obtain ⟨c,wc,e2,z2⟩:=hq 2 _ _ rfl rfl
     obtain ⟨d,wd,e3,z3⟩:=hq 3 _ _ rfl rfl
     obtain ⟨k1,k2,k3,k4⟩:=hd a b c d
     refine⟨e (mk a b c d),_,⟨mk a b c d,by dsimp only;rw[k1,k2,k3,k4];exact⟨wa,wb,wc,wd⟩,rfl,rfl⟩,?_,?_⟩
     · rw[he,k1,k2,k3,k4]
       simpa[e0,e1,e2,e3,V.cells]using h2
     · simp only[k1,k2,k3,k4]
       simp only[List.map_cons,List.map_nil,List.sum_cons,List.sum_nil,z0,z1,z2,z3]at h3
       omega
theorem qrR (N:Nat):ReadsN N Try.prog B 9 (Img (fun s:List UInt8=>.str s) (fun s=>s.length+1) (fun _=>True)):=(qf7 yR Try.underlying9 (by kernel_rfl) N).mono (fun _ _ ⟨a,_,h1,h2⟩=>⟨a,trivial,h1,h2⟩) (fun v n ⟨a,_,h1,h2⟩=>by subst h1;exact⟨by kernel_rfl,by simp[V.cells,V.scalar],by kernel_rfl⟩)
abbrev okI (n:Int):Prop:=(Lit.int .i64 n).wf=true
abbrev J9 (x:Sym):Nat:=(x.name.length+1)+1+1+1+1
abbrev qg2 (x:Sym):Prop:=True∧True∧okI x.num∧okI x.at_
theorem qNa (N:Nat):ReadsN (N+1) Try.prog B 88 (Img Sym.V J9 qg2):=
 qfs (N:=N) (t:=88) Try.underlying88 rfl (by kernel_rfl) (by decide+kernel) (fun f hf=>by cases hf;exact qrR N) (fun f hf=>by cases hf;exact qCV N) (fun f hf=>by cases hf;exact qa4 N) (fun f hf=>by cases hf;exact qa4 N) (fun x:Sym=>x.name) (·.lit) (·.num) (·.at_) Sym.mk (fun _ _ _ _=>⟨rfl,rfl,rfl,rfl⟩) Sym.V (fun _=>rfl)
abbrev Vp (x:Part):Nat:=J9 x.sym+(x.code.length+1)+1+1
abbrev qh0 (x:Part):Prop:=qg2 x.sym∧True∧okI x.at_
theorem qLt (N:Nat):ReadsN (N+1+1) Try.prog B 90 (Img Part.V Vp qh0):=
 qeJ (N:=N+1) (t:=90) Try.underlying90 rfl (by kernel_rfl) (by decide+kernel) (fun f hf=>by cases hf;exact qNa N) (fun f hf=>by cases hf;exact qrR _) (fun f hf=>by cases hf;exact qa4 _) (fun x:Part=>x.sym) (·.code) (·.at_) Part.mk (fun _ _ _=>⟨rfl,rfl,rfl⟩) Part.V (fun _=>rfl)
abbrev Ko (l:List Part):Nat:=(l.map Vp).sum+1
abbrev qdZ (l:List Part):Prop:= ∀a∈l,qh0 a
theorem qfx:Try.prog.cellsOf 90=6:=by kernel_rfl
theorem qBb (N:Nat):ReadsN (N+1+1+1) Try.prog B 91 (Img (fun l:List Part=>.sl 6 false (l.map Part.V)) Ko qdZ):=by
 have h:=jk yR Try.underlying91 (by kernel_rfl) (by rw[qfx];omega) (qLt N)
 rw[qfx]at h
 exact h
abbrev qdH (x:Alt):Nat:=Ko x.parts+J9 x.prec+1+1
abbrev qFR (x:Alt):Prop:=qdZ x.parts∧qg2 x.prec∧okI x.at_
theorem qQy (N:Nat):ReadsN (N+1+1+1+1) Try.prog B 93 (Img Alt.V qdH qFR):=
 qeJ (N:=N+1+1+1) (t:=93) Try.underlying93 rfl (by kernel_rfl) (by decide+kernel) (fun f hf=>by cases hf;exact qBb N) (fun f hf=>by cases hf;exact qNa (N+2)) (fun f hf=>by cases hf;exact qa4 _) (fun x:Alt=>x.parts) (·.prec) (·.at_) Alt.mk (fun _ _ _=>⟨rfl,rfl,rfl⟩) Alt.V (fun _=>rfl)
abbrev qb3 (l:List Alt):Nat:=(l.map qdH).sum+1
abbrev qin (l:List Alt):Prop:= ∀a∈l,qFR a
theorem qfJ:Try.prog.cellsOf 93=6:=by kernel_rfl
theorem qMQ (N:Nat):ReadsN (N+1+1+1+1+1) Try.prog B 94 (Img (fun l:List Alt=>.sl 6 false (l.map Alt.V)) qb3 qin):=by
 have h:=jk yR Try.underlying94 (by kernel_rfl) (by rw[qfJ];omega) (qQy N)
 rw[qfJ]at h
 exact h
abbrev Vl (x:Rule):Nat:=(x.left.length+1)+qb3 x.alts+1+1
abbrev qiv (x:Rule):Prop:=True∧qin x.alts∧okI x.at_
theorem qMr (N:Nat):ReadsN (N+1+1+1+1+1+1) Try.prog B 96 (Img Rule.V Vl qiv):=
 qeJ (N:=N+1+1+1+1+1) (t:=96) Try.underlying96 rfl (by kernel_rfl) (by decide+kernel) (fun f hf=>by cases hf;exact qrR _) (fun f hf=>by cases hf;exact qMQ N) (fun f hf=>by cases hf;exact qa4 _) (fun x:Rule=>x.left) (·.alts) (·.at_) Rule.mk (fun _ _ _=>⟨rfl,rfl,rfl⟩) Rule.V (fun _=>rfl)
abbrev qbj (l:List Rule):Nat:=(l.map Vl).sum+1
abbrev qfY (l:List Rule):Prop:= ∀a∈l,qiv a
theorem qfc:Try.prog.cellsOf 96=3:=by kernel_rfl
theorem qDf (N:Nat):ReadsN (N+1+1+1+1+1+1+1) Try.prog B 23 (Img (fun l:List Rule=>.sl 3 false (l.map Rule.V)) qbj qfY):=by
 have h:=jk yR Try.underlying23 (by kernel_rfl) (by rw[qfc];omega) (qMr N)
 rw[qfc]at h
 exact h
abbrev qcj (l:List Sym):Nat:=(l.map J9).sum+1
abbrev qiI (l:List Sym):Prop:= ∀a∈l,qg2 a
theorem qgi:Try.prog.cellsOf 88=4:=by kernel_rfl
theorem qPl (N:Nat):ReadsN (N+1+1) Try.prog B 98 (Img (fun l:List Sym=>.sl 4 false (l.map Sym.V)) qcj qiI):=by
 have h:=jk yR Try.underlying98 (by kernel_rfl) (by rw[qgi];omega) (qNa N)
 rw[qgi]at h
 exact h
abbrev XG (x:Decl):Nat:=1+(x.tag.length+1)+qcj x.syms+1+1
abbrev qiw (x:Decl):Prop:=okI x.kind∧True∧qiI x.syms∧okI x.at_
theorem qLv (N:Nat):ReadsN (N+1+1+1) Try.prog B 100 (Img Decl.V XG qiw):=
 qfs (N:=N+1+1) (t:=100) Try.underlying100 rfl (by kernel_rfl) (by decide+kernel) (fun f hf=>by cases hf;exact qa4 _) (fun f hf=>by cases hf;exact qrR _) (fun f hf=>by cases hf;exact qPl N) (fun f hf=>by cases hf;exact qa4 _) (fun x:Decl=>x.kind) (·.tag) (·.syms) (·.at_) Decl.mk (fun _ _ _ _=>⟨rfl,rfl,rfl,rfl⟩) Decl.V (fun _=>rfl)
abbrev qbt (l:List Decl):Nat:=(l.map XG).sum+1
abbrev qfO (l:List Decl):Prop:= ∀a∈l,qiw a
theorem qcp:Try.prog.cellsOf 100=4:=by kernel_rfl
theorem qyP (N:Nat):ReadsN (N+1+1+1+1) Try.prog B 22 (Img (fun l:List Decl=>.sl 4 false (l.map Decl.V)) qbt qfO):=by
 have h:=jk yR Try.underlying22 (by kernel_rfl) (by rw[qcp];omega) (qLv N)
 rw[qcp]at h
 exact h
abbrev Zz (x:Source):Nat:=(x.pro.length+1)+qbt x.decls+qbj x.rules+(x.tail.length+1)+1
abbrev Kz (x:Source):Prop:=True∧qfO x.decls∧qfY x.rules∧True
theorem qkZ (N:Nat):ReadsN (N+1+1+1+1+1+1+1+1) Try.prog B 25 (Img Source.V Zz Kz):=
 qfs (N:=N+1+1+1+1+1+1+1) (t:=25) Try.underlying25 rfl (by kernel_rfl) (by decide+kernel) (fun f hf=>by cases hf;exact qrR _) (fun f hf=>by cases hf;exact qyP (N+3)) (fun f hf=>by cases hf;exact qDf N) (fun f hf=>by cases hf;exact qrR _) (fun x:Source=>x.pro) (·.decls) (·.rules) (·.tail) Source.mk (fun _ _ _ _=>⟨rfl,rfl,rfl,rfl⟩) Source.V (fun _=>rfl)
theorem Vy {α:Type} (sz:α→Nat): ∀{l:List α} {a:α},a∈l→sz a≤(l.map sz).sum
 | b::l,a,h=>by
   rw[List.map_cons,List.sum_cons]
   rcases List.mem_cons.1 h with rfl|h
   · omega
   · have:=Vy sz h;omega
theorem Vv {α:Type} (sz:α→Nat) (h: ∀a,1≤sz a): ∀l:List α,l.length≤(l.map sz).sum
 |[]=>Nat.zero_le _
 |a::l=>by have:=Vv sz h l;have:=h a;rw[List.map_cons,List.sum_cons,List.length_cons];omega
theorem qmi {x:Source} (h:Zz x≤1048576):x.Fits:=by
 have l1:=Vv XG (fun _=>by unfold XG;omega) x.decls
 have l2:=Vv Vl (fun _=>by unfold Vl;omega) x.rules
 unfold Zz qbt qbj at h
 refine⟨by omega,by omega,by omega,fun d hd=>?_,by omega,fun r hr=>?_⟩
 · have m:=Vy XG hd
   unfold XG qcj at m
   have l3:=Vv J9 (fun _=>by unfold J9;omega) d.syms
   unfold XG qcj at h
   refine⟨by omega,by omega,fun y hy=>?_⟩
   have m2:=Vy J9 hy
   unfold J9 at *
   omega
 · have m:=Vy Vl hr
   have l3:=Vv qdH (fun _=>by unfold qdH;omega) r.alts
   have m':r.left.length+1+qb3 r.alts+1+1≤(x.rules.map Vl).sum:=m
   unfold qb3 at m'
   refine⟨by omega,by omega,fun a ha=>?_⟩
   have n:=Vy qdH ha
   have l4:=Vv Vp (fun _=>by unfold Vp;omega) a.parts
   have n':Ko a.parts+J9 a.prec+1+1≤(r.alts.map qdH).sum:=n
   unfold Ko J9 at n'
   refine⟨by omega,fun w hw=>?_,by omega⟩
   have q:=Vy Vp hw
   have q':J9 w.sym+(w.code.length+1)+1+1≤(a.parts.map Vp).sum:=q
   unfold J9 at q'
   exact⟨by omega,by omega⟩
theorem qiM {n:Int} (h:(Lit.int .i64 n).wf=true): -9223372036854775808≤n∧n≤9223372036854775807:=by
 simp only[Lit.wf,Bool.and_eq_true,decide_eq_true_eq]at h
 have h1:=h.1
 have h2:=h.2
 have e:IntKind.i64.max=9223372036854775807:=by decide
 have e1:IntKind.i64.min= -9223372036854775808:=by decide
 rw[e]at h2
 rw[e1]at h1
 exact⟨h1,h2⟩
theorem KY (W:World):Go.E.GOk Try.prog W Zg:=fun g=>.iptr 0 (.agg []) 0 g 0 (fun _=>Go.undef) (fun j hj=>absurd hj (Nat.not_lt_zero _)) rfl (by simp[V.cells]) (by simp[V.cells])
end Go.Proofs.Ythgkeppkcjcmjaa.law
