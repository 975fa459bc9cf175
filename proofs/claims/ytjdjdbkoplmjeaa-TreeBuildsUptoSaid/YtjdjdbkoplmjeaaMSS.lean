/- Part of a proof that a law of the given program answers true. -/
import Derived.Test.YtjdjdbkoplmjeaaMKA
import Derived.Test.YtjdjdbkoplmjeaaMNA
import Derived.Test.YtjdjdbkoplmjeaaMEC
import Derived.Test.YtjdjdbkoplmjeaaRows
import Derived.WalkKit
import Derived.ProofKit
import Derived.OpenShut
import Derived.JoinedCond
set_option linter.unusedSimpArgs false
set_option linter.unusedVariables false
namespace Go.Proofs.Ytjdjdbkoplmjeaa.law
open Go.E Go.ChangeShapes Go.WideShapes Go.ChangeAt Go.RowKit
def B (H:Type) (d:DataW H):Nat:=Rows.uptoBulk d
theorem KP {H:Type} (l:List (DataW H)):Rows.uptoBulkAll l=(l.map (B H)).sum:=by
 induction l with
 |nil=>simp[Rows.uptoBulkAll]
 |cons x l ih=>simp only[Rows.uptoBulkAll,ih,List.map_cons,List.sum_cons];rfl
theorem yc:BulkOk B where
 one:=fun H d=>by
  cases d with
  |lit l=>cases l<;>simp[B,Rows.uptoBulk]
  | _=>simp[B,Rows.uptoBulk]
 str:=fun H s=>by simp[B,Rows.uptoBulk]
 slice:=fun H x y=>by
  show _≤Rows.uptoBulk (.slice x y)
  simp only[Rows.uptoBulk,KP];omega
 agg:=fun H x=>by
  show _≤Rows.uptoBulk (.agg x)
  simp only[Rows.uptoBulk,KP];omega
theorem small {H:Type} {l:List (DataW H)} (hk:Rows.uptoSmall H l=true):(l.map (B H)).sum≤1048576:=by
 have h:Rows.uptoBulkAll l≤1048576:=of_decide_eq_true hk
 rwa [KP]at h
theorem own:ownKnob Try.prog.godebug=none:=by kernel_rfl
theorem kids:Kids Try.prog (· <Try.prog.types.size):=kids_rows (by kernel_rfl) (by kernel_rfl)
theorem slices: ∀t e,t<Try.prog.types.size→Try.prog.underlying t=some (.slice e)→0<Try.prog.cellsOf e:=slices_full_of Try.prog (by kernel_rfl)
theorem cells3:Try.prog.cellsOf 3=1:=by kernel_rfl
theorem qpw:Try.prog.cellsOf 4=1:=by kernel_rfl
theorem qdc (N:Nat):ReadsN N Try.prog B 3 (Img (fun n:Int=>.int .i64 n) (fun _=>1) (fun n=>(Lit.int .i64 n).wf=true)):=qcm yc Try.underlying3 cells3 N
theorem quL (N:Nat):ReadsN N Try.prog B 4 (Img (fun n:Bool=>.bool n) (fun _=>1) (fun _=>True)):=qbP yc Try.underlying4 qpw N
theorem Qq:Try.prog.cellsOf 23=1:=by kernel_rfl
theorem YD:Try.prog.cellsOf 22=1:=by kernel_rfl
def szI (l:List Int):Nat:=(l.map fun _=>1).sum+1
theorem Ve (N:Nat):ReadsN N Try.prog B 23 (Img (fun l:List Int=>.sl 1 false (l.map (V.int .i64))) szI (fun l=> ∀n∈l,(Lit.int .i64 n).wf=true)):=by
 have h:=jh yc Try.underlying23 Qq (by rw[cells3];omega) (qdc N)
 rw[cells3]at h
 exact h.le o_
theorem qzE (N:Nat):ReadsN N Try.prog B 22 (Img (fun l:List (List Int)=>.sl 1 false (l.map fun l=>.sl 1 false (l.map (V.int .i64)))) (fun l=>(l.map szI).sum+1) (fun l=> ∀a∈l,∀n∈a,(Lit.int .i64 n).wf=true)):=by
 have h:=jh yc Try.underlying22 (by kernel_rfl) (by rw[Qq];omega) (Ve N)
 rw[Qq]at h
 exact h.le o_
def szG (x:GrI):Nat:=((x.rules.map szI).sum+1)+szI x.levels+szI x.inner
theorem rGr (N:Nat):ReadsN N Try.prog B 25 (Img (fun x:GrI=>x.V) szG (fun _=>True)):=by
 have h:=vM (N:=N) (Qs:=[Img (fun n:Int=>.int .i64 n) (fun _=>1) (fun n=>(Lit.int .i64 n).wf=true),Img (fun l:List (List Int)=>.sl 1 false (l.map fun l=>.sl 1 false (l.map (V.int .i64)))) (fun l=>(l.map szI).sum+1) (fun l=> ∀a∈l,∀n∈a,(Lit.int .i64 n).wf=true),Img (fun l:List Int=>.sl 1 false (l.map (V.int .i64))) szI (fun l=> ∀n∈l,(Lit.int .i64 n).wf=true),Img (fun l:List Int=>.sl 1 false (l.map (V.int .i64))) szI (fun l=> ∀n∈l,(Lit.int .i64 n).wf=true),Img (fun n:Bool=>.bool n) (fun _=>1) (fun _=>True)]) yc Try.underlying25 (by kernel_rfl) (by
  intro j f hf
  match j,hf with
  |0,hf=>cases hf;rfl
  |1,hf=>cases hf;simp[cells3,YD,Qq]
  |2,hf=>cases hf;simp[cells3,YD,Qq]
  |3,hf=>cases hf;simp[cells3,YD,Qq]
  |4,hf=>cases hf;simp[cells3,YD,Qq]) rfl (by
  intro i f Q hf hQ
  match i,hf,hQ with
  |0,hf,hQ=>cases hf;cases hQ;exact qdc N
  |1,hf,hQ=>cases hf;cases hQ;exact qzE N
  |2,hf,hQ=>cases hf;cases hQ;exact Ve N
  |3,hf,hQ=>cases hf;cases hQ;exact Ve N
  |4,hf,hQ=>cases hf;cases hQ;exact quL N)
 have hc:Try.prog.cellsOf 25=5:=by kernel_rfl
 refine⟨?_,fun H enc w fuel cs x hf hx=>?_⟩
 · rintro v n ⟨x,_,rfl,rfl⟩
   refine⟨by rw[hc];rfl,?_,by simp[V.isAgg,qdi,Try.underlying25]⟩
   intro c hcm
   simp only[V.cells,List.mem_cons,List.not_mem_nil,or_false]at hcm
   rcases hcm with rfl|rfl|rfl|rfl|rfl<;>rfl
 · obtain ⟨v,n,⟨ps,hl,hq,rfl,rfl⟩,h2,h3⟩:=h.rd H enc w fuel cs x o_ hx
   match ps,hl with
   | [p0,p1,p2,p3,p4],_=>
     obtain ⟨a0,-,e0,s0⟩:=hq 0 _ _ rfl rfl
     obtain ⟨a1,-,e1,s1⟩:=hq 1 _ _ rfl rfl
     obtain ⟨a2,-,e2,s2⟩:=hq 2 _ _ rfl rfl
     obtain ⟨a3,-,e3,s3⟩:=hq 3 _ _ rfl rfl
     obtain ⟨a4,-,e4,s4⟩:=hq 4 _ _ rfl rfl
     refine⟨(GrI.mk a0 a1 a2 a3 a4).V,_,⟨GrI.mk a0 a1 a2 a3 a4,trivial,rfl,rfl⟩,?_,?_⟩
     · simp only[List.map_cons,List.map_nil,List.flatMap_cons,List.flatMap_nil,e0,e1,e2,e3,e4]at h2
       exact h2
     · simp only[List.map_cons,List.map_nil,List.sum_cons,List.sum_nil,s0,s1,s2,s3,s4]at h3
       simp only[szG]
       omega
theorem Xg (l:List Int):szI l=l.length+1:=by
 unfold szI
 induction l with
 |nil=>rfl
 |cons a l ih=>simp only[List.map_cons,List.sum_cons,List.length_cons]at ih ⊢;omega
theorem qag: ∀{L:List (List Int)} {l:List Int},l∈L→l.length+L.length≤(L.map szI).sum
 | a::L,l,h=>by
   have hs: ∀L:List (List Int),L.length≤(L.map szI).sum:=fun L=>by
    induction L with
    |nil=>simp
    |cons a L ih=>simp only[List.map_cons,List.sum_cons,List.length_cons,Xg];omega
   simp only[List.map_cons,List.sum_cons,List.length_cons,Xg]
   rcases List.mem_cons.1 h with rfl|h
   · have:=hs L;omega
   · have:=qag h;omega
theorem qjP {x:GrI} (h:szG x≤1048576):x.rules.length≤1099511627776∧(∀l∈x.rules,l.length≤1099511627776)∧x.inner.length≤1099511627776∧x.levels.length≤1099511627776:=by
 simp only[szG,Xg]at h
 refine⟨?_,fun l hl=>by have:=qag hl;omega,o_,o_⟩
 cases hx:x.rules with
 |nil=>simp
 |cons a L=>have:=qag (L:=x.rules) (l:=a) (by simp[hx]);rw[hx]at this h;simp only[List.length_cons]at this ⊢;omega
theorem qdV {t:TypeId} {fs:Array Field} (ht:Try.prog.underlying t=some (.struct fs)) (hl:fs.toList.length=3)
 (hsum:Try.prog.cellsOf t=(fs.toList.map fun f=>Try.prog.cellsOf f.type).sum) (ho: ∀j,j<4→ ∀f∈fs.toList[j]?,f.offset=((fs.toList.take j).map fun f=>Try.prog.cellsOf f.type).sum)
 {N:Nat} {α β γ δ:Type} {f1:α→V} {f2:β→V} {f3:γ→V} {s1:α→Nat} {s2:β→Nat} {s3:γ→Nat} {p1:α→Prop} {p2:β→Prop} {p3:γ→Prop}
 (h1: ∀f,fs.toList[0]?=some f→ReadsN N Try.prog B f.type (Img f1 s1 p1)) (h2: ∀f,fs.toList[1]?=some f→ReadsN N Try.prog B f.type (Img f2 s2 p2)) (h3: ∀f,fs.toList[2]?=some f→ReadsN N Try.prog B f.type (Img f3 s3 p3))
 (d1:δ→α) (d2:δ→β) (d3:δ→γ) (mk:α→β→γ→δ) (hd: ∀a b c,d1 (mk a b c)=a∧d2 (mk a b c)=b∧d3 (mk a b c)=c) (e:δ→V) (he: ∀x,e x=.agg ((f1 (d1 x)).cells++((f2 (d2 x)).cells++(f3 (d3 x)).cells))):
 ReadsN (N+1) Try.prog B t (Img e (fun x=>s1 (d1 x)+s2 (d2 x)+s3 (d3 x)+1) (fun x=>p1 (d1 x)∧p2 (d2 x)∧p3 (d3 x))):=by
 have h:=vM (N:=N) (Qs:=[Img f1 s1 p1,Img f2 s2 p2,Img f3 s3 p3]) yc ht hsum (fun j f hj=>ho j (by have:=(List.getElem?_eq_some_iff.1 hj).1;omega) f hj) (by rw[hl];rfl) (by
  intro i f Q hf hQ
  match i,hf,hQ with
  |0,hf,hQ=>cases hQ;exact h1 f hf
  |1,hf,hQ=>cases hQ;exact h2 f hf
  |2,hf,hQ=>cases hQ;exact h3 f hf)
 refine⟨fun v n ⟨x,hx,hv,hn⟩=>?_,fun H enc w fuel cs x hf hx=>?_⟩
 · refine h.shape v n ⟨[(f1 (d1 x),s1 (d1 x)),(f2 (d2 x),s2 (d2 x)),(f3 (d3 x),s3 (d3 x))],rfl,fun i p Q hp hQ=>?_,by rw[hv,he];simp,by rw[hn];simp;omega⟩
   match i,hp,hQ with
   |0,hp,hQ=>cases hp;cases hQ;exact⟨_,hx.1,rfl,rfl⟩
   |1,hp,hQ=>cases hp;cases hQ;exact⟨_,hx.2.1,rfl,rfl⟩
   |2,hp,hQ=>cases hp;cases hQ;exact⟨_,hx.2.2,rfl,rfl⟩
 · obtain ⟨v,n,⟨ps,hl,hq,rfl,rfl⟩,h2,h3⟩:=h.rd H enc w fuel cs x hf hx
   match ps,hl with
   | [q0,q1,q2],_=>
     obtain ⟨a,wa,e0,z0⟩:=hq 0 _ _ rfl rfl
     obtain ⟨b,wb,e1,z1⟩:=hq 1 _ _ rfl rfl
     obtain ⟨c,wc,e2,z2⟩:=hq 2 _ _ rfl rfl
     obtain ⟨k1,k2,k3⟩:=hd a b c
     refine⟨e (mk a b c),_,⟨mk a b c,by dsimp only;rw[k1,k2,k3];exact⟨wa,wb,wc⟩,rfl,rfl⟩,?_,?_⟩
     · rw[he,k1,k2,k3]
       simpa[e0,e1,e2,V.cells]using h2
     · simp only[k1,k2,k3]
       simp only[List.map_cons,List.map_nil,List.sum_cons,List.sum_nil,z0,z1,z2]at h3
       omega
theorem qcr {t:TypeId} {fs:Array Field} (ht:Try.prog.underlying t=some (.struct fs)) (hl:fs.toList.length=4)
 (hsum:Try.prog.cellsOf t=(fs.toList.map fun f=>Try.prog.cellsOf f.type).sum) (ho: ∀j,j<4→ ∀f∈fs.toList[j]?,f.offset=((fs.toList.take j).map fun f=>Try.prog.cellsOf f.type).sum)
 {N:Nat} {α β γ ε δ:Type} {f1:α→V} {f2:β→V} {f3:γ→V} {f4:ε→V} {s1:α→Nat} {s2:β→Nat} {s3:γ→Nat} {s4:ε→Nat} {p1:α→Prop} {p2:β→Prop} {p3:γ→Prop} {p4:ε→Prop}
 (h1: ∀f,fs.toList[0]?=some f→ReadsN N Try.prog B f.type (Img f1 s1 p1)) (h2: ∀f,fs.toList[1]?=some f→ReadsN N Try.prog B f.type (Img f2 s2 p2)) (h3: ∀f,fs.toList[2]?=some f→ReadsN N Try.prog B f.type (Img f3 s3 p3)) (h4: ∀f,fs.toList[3]?=some f→ReadsN N Try.prog B f.type (Img f4 s4 p4))
 (d1:δ→α) (d2:δ→β) (d3:δ→γ) (d4:δ→ε) (mk:α→β→γ→ε→δ) (hd: ∀a b c d,d1 (mk a b c d)=a∧d2 (mk a b c d)=b∧d3 (mk a b c d)=c∧d4 (mk a b c d)=d) (e:δ→V) (he: ∀x,e x=.agg ((f1 (d1 x)).cells++((f2 (d2 x)).cells++((f3 (d3 x)).cells++(f4 (d4 x)).cells)))):
 ReadsN (N+1) Try.prog B t (Img e (fun x=>s1 (d1 x)+s2 (d2 x)+s3 (d3 x)+s4 (d4 x)+1) (fun x=>p1 (d1 x)∧p2 (d2 x)∧p3 (d3 x)∧p4 (d4 x))):=by
 have h:=vM (N:=N) (Qs:=[Img f1 s1 p1,Img f2 s2 p2,Img f3 s3 p3,Img f4 s4 p4]) yc ht hsum (fun j f hj=>ho j (by have:=(List.getElem?_eq_some_iff.1 hj).1;omega) f hj) (by rw[hl];rfl) (by
  intro i f Q hf hQ
  match i,hf,hQ with
  |0,hf,hQ=>cases hQ;exact h1 f hf
  |1,hf,hQ=>cases hQ;exact h2 f hf
  |2,hf,hQ=>cases hQ;exact h3 f hf
  |3,hf,hQ=>cases hQ;exact h4 f hf)
 refine⟨fun v n ⟨x,hx,hv,hn⟩=>?_,fun H enc w fuel cs x hf hx=>?_⟩
 · refine h.shape v n ⟨[(f1 (d1 x),s1 (d1 x)),(f2 (d2 x),s2 (d2 x)),(f3 (d3 x),s3 (d3 x)),(f4 (d4 x),s4 (d4 x))],rfl,fun i p Q hp hQ=>?_,by rw[hv,he];simp,by rw[hn];simp;omega⟩
   match i,hp,hQ with
   |0,hp,hQ=>cases hp;cases hQ;exact⟨_,hx.1,rfl,rfl⟩
   |1,hp,hQ=>cases hp;cases hQ;exact⟨_,hx.2.1,rfl,rfl⟩
   |2,hp,hQ=>cases hp;cases hQ;exact⟨_,hx.2.2.1,rfl,rfl⟩
   |3,hp,hQ=>cases hp;cases hQ;exact⟨_,hx.2.2.2,rfl,rfl⟩
 · obtain ⟨v,n,⟨ps,hl,hq,rfl,rfl⟩,h2,h3⟩:=h.rd H enc w fuel cs x hf hx
   match ps,hl with
   | [q0,q1,q2,q3],_=>
     obtain ⟨a,wa,e0,z0⟩:=hq 0 _ _ rfl rfl
     obtain ⟨b,wb,e1,z1⟩:=hq 1 _ _ rfl rfl
     obtain ⟨c,wc,e2,z2⟩:=hq 2 _ _ rfl rfl
     obtain ⟨d,wd,e3,z3⟩:=hq 3 _ _ rfl rfl
     obtain ⟨k1,k2,k3,k4⟩:=hd a b c d
     refine⟨e (mk a b c d),_,⟨mk a b c d,by dsimp only;rw[k1,k2,k3,k4];exact⟨wa,wb,wc,wd⟩,rfl,rfl⟩,?_,?_⟩
     · rw[he,k1,k2,k3,k4]
       simpa[e0,e1,e2,e3,V.cells]using h2
     · simp only[k1,k2,k3,k4]
       simp only[List.map_cons,List.map_nil,List.sum_cons,List.sum_nil,z0,z1,z2,z3]at h3
       omega
theorem qkn (N:Nat):ReadsN N Try.prog B 9 (Img (fun s:List UInt8=>.str s) (fun s=>s.length+1) (fun _=>True)):=(qcK yc Try.underlying9 (by kernel_rfl) N).mono (fun _ _ ⟨a,_,h1,h2⟩=>⟨a,trivial,h1,h2⟩) (fun v n ⟨a,_,h1,h2⟩=>by subst h1;exact⟨by kernel_rfl,by simp[V.cells,V.scalar],by kernel_rfl⟩)
abbrev okI (n:Int):Prop:=(Lit.int .i64 n).wf=true
abbrev ZV (x:Sym):Nat:=(x.name.length+1)+1+1+1+1
abbrev qeL (x:Sym):Prop:=True∧True∧okI x.num∧okI x.at_
theorem qD7 (N:Nat):ReadsN (N+1) Try.prog B 61 (Img Sym.V ZV qeL):=
 qcr (N:=N) (t:=61) Try.underlying61 rfl (by kernel_rfl) (by decide+kernel) (fun f hf=>by cases hf;exact qkn N) (fun f hf=>by cases hf;exact quL N) (fun f hf=>by cases hf;exact qdc N) (fun f hf=>by cases hf;exact qdc N) (fun x:Sym=>x.name) (·.lit) (·.num) (·.at_) Sym.mk (fun _ _ _ _=>⟨rfl,rfl,rfl,rfl⟩) Sym.V (fun _=>rfl)
abbrev XU (x:Part):Nat:=ZV x.sym+(x.code.length+1)+1+1
abbrev qfr (x:Part):Prop:=qeL x.sym∧True∧okI x.at_
theorem qHl (N:Nat):ReadsN (N+1+1) Try.prog B 63 (Img Part.V XU qfr):=
 qdV (N:=N+1) (t:=63) Try.underlying63 rfl (by kernel_rfl) (by decide+kernel) (fun f hf=>by cases hf;exact qD7 N) (fun f hf=>by cases hf;exact qkn _) (fun f hf=>by cases hf;exact qdc _) (fun x:Part=>x.sym) (·.code) (·.at_) Part.mk (fun _ _ _=>⟨rfl,rfl,rfl⟩) Part.V (fun _=>rfl)
abbrev Yu (l:List Part):Nat:=(l.map XU).sum+1
abbrev qcB (l:List Part):Prop:= ∀a∈l,qfr a
theorem qcx:Try.prog.cellsOf 63=6:=by kernel_rfl
theorem qld (N:Nat):ReadsN (N+1+1+1) Try.prog B 64 (Img (fun l:List Part=>.sl 6 false (l.map Part.V)) Yu qcB):=by
 have h:=jh yc Try.underlying64 (by kernel_rfl) (by rw[qcx];omega) (qHl N)
 rw[qcx]at h
 exact h
abbrev qbz (x:Alt):Nat:=Yu x.parts+ZV x.prec+1+1
abbrev qAB (x:Alt):Prop:=qcB x.parts∧qeL x.prec∧okI x.at_
theorem qIf (N:Nat):ReadsN (N+1+1+1+1) Try.prog B 66 (Img Alt.V qbz qAB):=
 qdV (N:=N+1+1+1) (t:=66) Try.underlying66 rfl (by kernel_rfl) (by decide+kernel) (fun f hf=>by cases hf;exact qld N) (fun f hf=>by cases hf;exact qD7 (N+2)) (fun f hf=>by cases hf;exact qdc _) (fun x:Alt=>x.parts) (·.prec) (·.at_) Alt.mk (fun _ _ _=>⟨rfl,rfl,rfl⟩) Alt.V (fun _=>rfl)
abbrev qaP (l:List Alt):Nat:=(l.map qbz).sum+1
abbrev qfB (l:List Alt):Prop:= ∀a∈l,qAB a
theorem qdb:Try.prog.cellsOf 66=6:=by kernel_rfl
theorem qCM (N:Nat):ReadsN (N+1+1+1+1+1) Try.prog B 67 (Img (fun l:List Alt=>.sl 6 false (l.map Alt.V)) qaP qfB):=by
 have h:=jh yc Try.underlying67 (by kernel_rfl) (by rw[qdb];omega) (qIf N)
 rw[qdb]at h
 exact h
abbrev X5 (x:Rule):Nat:=(x.left.length+1)+qaP x.alts+1+1
abbrev qfj (x:Rule):Prop:=True∧qfB x.alts∧okI x.at_
theorem qDZ (N:Nat):ReadsN (N+1+1+1+1+1+1) Try.prog B 69 (Img Rule.V X5 qfj):=
 qdV (N:=N+1+1+1+1+1) (t:=69) Try.underlying69 rfl (by kernel_rfl) (by decide+kernel) (fun f hf=>by cases hf;exact qkn _) (fun f hf=>by cases hf;exact qCM N) (fun f hf=>by cases hf;exact qdc _) (fun x:Rule=>x.left) (·.alts) (·.at_) Rule.mk (fun _ _ _=>⟨rfl,rfl,rfl⟩) Rule.V (fun _=>rfl)
abbrev K7 (l:List Rule):Nat:=(l.map X5).sum+1
abbrev qcn (l:List Rule):Prop:= ∀a∈l,qfj a
theorem qc0:Try.prog.cellsOf 69=3:=by kernel_rfl
theorem qyj (N:Nat):ReadsN (N+1+1+1+1+1+1+1) Try.prog B 38 (Img (fun l:List Rule=>.sl 3 false (l.map Rule.V)) K7 qcn):=by
 have h:=jh yc Try.underlying38 (by kernel_rfl) (by rw[qc0];omega) (qDZ N)
 rw[qc0]at h
 exact h
abbrev qaJ (l:List Sym):Nat:=(l.map ZV).sum+1
abbrev qgF (l:List Sym):Prop:= ∀a∈l,qeL a
theorem qcA:Try.prog.cellsOf 61=4:=by kernel_rfl
theorem qGW (N:Nat):ReadsN (N+1+1) Try.prog B 82 (Img (fun l:List Sym=>.sl 4 false (l.map Sym.V)) qaJ qgF):=by
 have h:=jh yc Try.underlying82 (by kernel_rfl) (by rw[qcA];omega) (qD7 N)
 rw[qcA]at h
 exact h
abbrev Ju (x:Decl):Nat:=1+(x.tag.length+1)+qaJ x.syms+1+1
abbrev qfq (x:Decl):Prop:=okI x.kind∧True∧qgF x.syms∧okI x.at_
theorem qG1 (N:Nat):ReadsN (N+1+1+1) Try.prog B 84 (Img Decl.V Ju qfq):=
 qcr (N:=N+1+1) (t:=84) Try.underlying84 rfl (by kernel_rfl) (by decide+kernel) (fun f hf=>by cases hf;exact qdc _) (fun f hf=>by cases hf;exact qkn _) (fun f hf=>by cases hf;exact qGW N) (fun f hf=>by cases hf;exact qdc _) (fun x:Decl=>x.kind) (·.tag) (·.syms) (·.at_) Decl.mk (fun _ _ _ _=>⟨rfl,rfl,rfl,rfl⟩) Decl.V (fun _=>rfl)
abbrev KT (l:List Decl):Nat:=(l.map Ju).sum+1
abbrev qcy (l:List Decl):Prop:= ∀a∈l,qfq a
theorem qbY:Try.prog.cellsOf 84=4:=by kernel_rfl
theorem qqY (N:Nat):ReadsN (N+1+1+1+1) Try.prog B 37 (Img (fun l:List Decl=>.sl 4 false (l.map Decl.V)) KT qcy):=by
 have h:=jh yc Try.underlying37 (by kernel_rfl) (by rw[qbY];omega) (qG1 N)
 rw[qbY]at h
 exact h
abbrev QF (x:Source):Nat:=(x.pro.length+1)+KT x.decls+K7 x.rules+(x.tail.length+1)+1
abbrev YL (x:Source):Prop:=True∧qcy x.decls∧qcn x.rules∧True
theorem qiP (N:Nat):ReadsN (N+1+1+1+1+1+1+1+1) Try.prog B 40 (Img Source.V QF YL):=
 qcr (N:=N+1+1+1+1+1+1+1) (t:=40) Try.underlying40 rfl (by kernel_rfl) (by decide+kernel) (fun f hf=>by cases hf;exact qkn _) (fun f hf=>by cases hf;exact qqY (N+3)) (fun f hf=>by cases hf;exact qyj N) (fun f hf=>by cases hf;exact qkn _) (fun x:Source=>x.pro) (·.decls) (·.rules) (·.tail) Source.mk (fun _ _ _ _=>⟨rfl,rfl,rfl,rfl⟩) Source.V (fun _=>rfl)
theorem X8 {α:Type} (sz:α→Nat): ∀{l:List α} {a:α},a∈l→sz a≤(l.map sz).sum
 | b::l,a,h=>by
   rw[List.map_cons,List.sum_cons]
   rcases List.mem_cons.1 h with rfl|h
   · omega
   · have:=X8 sz h;omega
theorem XQ {α:Type} (sz:α→Nat) (h: ∀a,1≤sz a): ∀l:List α,l.length≤(l.map sz).sum
 |[]=>Nat.zero_le _
 |a::l=>by have:=XQ sz h l;have:=h a;rw[List.map_cons,List.sum_cons,List.length_cons];omega
theorem qiW {x:Source} (h:QF x≤1048576):x.Fits:=by
 have l1:=XQ Ju (fun _=>by unfold Ju;omega) x.decls
 have l2:=XQ X5 (fun _=>by unfold X5;omega) x.rules
 unfold QF KT K7 at h
 refine⟨o_,o_,o_,fun d hd=>?_,o_,fun r hr=>?_⟩
 · have m:=X8 Ju hd
   unfold Ju qaJ at m
   have l3:=XQ ZV (fun _=>by unfold ZV;omega) d.syms
   unfold Ju qaJ at h
   refine⟨o_,o_,fun y hy=>?_⟩
   have m2:=X8 ZV hy
   unfold ZV at *
   omega
 · have m:=X8 X5 hr
   have l3:=XQ qbz (fun _=>by unfold qbz;omega) r.alts
   have m':r.left.length+1+qaP r.alts+1+1≤(x.rules.map X5).sum:=m
   unfold qaP at m'
   refine⟨o_,o_,fun a ha=>?_⟩
   have n:=X8 qbz ha
   have l4:=XQ XU (fun _=>by unfold XU;omega) a.parts
   have n':Yu a.parts+ZV a.prec+1+1≤(r.alts.map qbz).sum:=n
   unfold Yu ZV at n'
   refine⟨o_,fun w hw=>?_,o_⟩
   have q:=X8 XU hw
   have q':ZV w.sym+(w.code.length+1)+1+1≤(a.parts.map XU).sum:=q
   unfold ZV at q'
   exact⟨o_,o_⟩
theorem qfT (W:World):Go.E.GOk Try.prog W Jl:=fun g=>.iptr 0 (.agg []) 0 g 0 (fun _=>Go.undef) (fun j hj=>absurd hj (Nat.not_lt_zero _)) rfl (by simp[V.cells]) (by simp[V.cells])
end Go.Proofs.Ytjdjdbkoplmjeaa.law
