/- Part of a proof that a law of the given program answers true. -/
import Derived.Test.YtjdjdbkoplmjeaaGreatDoorUJA
import Derived.Test.YtjdjdbkoplmjeaaGreatDoorXEC
import Derived.Test.YtjdjdbkoplmjeaaGreatDoorCards
import Derived.Test.YtjdjdbkoplmjeaaGreatDoorTie
import Derived.WalkKit
import Derived.ProofKit
import Derived.OpenShut
import Derived.Deep.DeepHandedRow
import Derived.Lib.LaidTab
import Derived.Test.YtjdjdbkoplmjeaaGreatDoorURA
set_option linter.unusedSimpArgs false
set_option linter.unusedVariables false
namespace Go.Proofs.YtjdjdbkoplmjeaaGreatDoor.law
open Go.E Go.ChangeShapes Go.WideShapes Go.ChangeAt Go.RowKit
def B (H:Type) (d:DataW H):Nat:=Rows.uptoBulk d
theorem qa6 {H:Type} (l:List (DataW H)):Rows.uptoBulkAll l=(l.map (B H)).sum:=by
 induction l with
 |nil=>simp[Rows.uptoBulkAll]
 |cons x l ih=>simp only[Rows.uptoBulkAll,ih,List.map_cons,List.sum_cons];rfl
theorem yU:BulkOk B where
 one:=fun H d=>by
  cases d with
  |lit l=>cases l<;>simp[B,Rows.uptoBulk]
  | _=>simp[B,Rows.uptoBulk]
 str:=fun H s=>by simp[B,Rows.uptoBulk]
 slice:=fun H x y=>by
  show _≤Rows.uptoBulk (.slice x y)
  simp only[Rows.uptoBulk,qa6];omega
 agg:=fun H x=>by
  show _≤Rows.uptoBulk (.agg x)
  simp only[Rows.uptoBulk,qa6];omega
theorem small {H:Type} {l:List (DataW H)} (hk:Rows.uptoSmall H l=true):(l.map (B H)).sum≤1048576:=by
 have h:Rows.uptoBulkAll l≤1048576:=of_decide_eq_true hk
 rwa [qa6]at h
theorem own:ownKnob Tryz.prog.godebug=none:=by kernel_rfl
theorem kids:Kids Tryz.prog (· <Tryz.prog.types.size):=kids_rows (by kernel_rfl) (by kernel_rfl)
theorem slices: ∀t e,t<Tryz.prog.types.size→Tryz.prog.underlying t=some (.slice e)→0<Tryz.prog.cellsOf e:=slices_full_of Tryz.prog (by kernel_rfl)
theorem cells3:Tryz.prog.cellsOf 3=1:=by kernel_rfl
theorem qgI (N:Nat):ReadsN N Tryz.prog B 3 (Img (fun n:Int=>.int .i64 n) (fun _=>1) (fun n=>(Lit.int .i64 n).wf=true)):=qeW yU Tryz.underlying3 cells3 N
theorem QJ:Tryz.prog.cellsOf 27=1:=by kernel_rfl
theorem V4:Tryz.prog.cellsOf 26=1:=by kernel_rfl
theorem que:Tryz.prog.cellsOf 4=1:=by kernel_rfl
theorem qyD (N:Nat):ReadsN N Tryz.prog B 4 (Img (fun n:Bool=>.bool n) (fun _=>1) (fun _=>True)):=qc8 yU Tryz.underlying4 que N
def szI (l:List Int):Nat:=(l.map fun _=>1).sum+1
theorem qm3 (N:Nat):ReadsN N Tryz.prog B 27 (Img (fun l:List Int=>.sl 1 false (l.map (V.int .i64))) szI (fun l=> ∀n∈l,(Lit.int .i64 n).wf=true)):=by
 have h:=jA yU Tryz.underlying27 QJ (by rw[cells3];omega) (qgI N)
 rw[cells3]at h
 exact h.le o_
theorem qBk (N:Nat):ReadsN N Tryz.prog B 26 (Img (fun l:List (List Int)=>.sl 1 false (l.map fun l=>.sl 1 false (l.map (V.int .i64)))) (fun l=>(l.map szI).sum+1) (fun l=> ∀a∈l,∀n∈a,(Lit.int .i64 n).wf=true)):=by
 have h:=jA yU Tryz.underlying26 (by kernel_rfl) (by rw[QJ];omega) (qm3 N)
 rw[QJ]at h
 exact h.le o_
def szG (x:GrI):Nat:=((x.rules.map szI).sum+1)+szI x.levels+szI x.inner
theorem rGr (N:Nat):ReadsN N Tryz.prog B 29 (Img (fun x:GrI=>x.V) szG (fun _=>True)):=by
 have h:=kX (N:=N) (Qs:=[Img (fun n:Int=>.int .i64 n) (fun _=>1) (fun n=>(Lit.int .i64 n).wf=true),Img (fun l:List (List Int)=>.sl 1 false (l.map fun l=>.sl 1 false (l.map (V.int .i64)))) (fun l=>(l.map szI).sum+1) (fun l=> ∀a∈l,∀n∈a,(Lit.int .i64 n).wf=true),Img (fun l:List Int=>.sl 1 false (l.map (V.int .i64))) szI (fun l=> ∀n∈l,(Lit.int .i64 n).wf=true),Img (fun l:List Int=>.sl 1 false (l.map (V.int .i64))) szI (fun l=> ∀n∈l,(Lit.int .i64 n).wf=true),Img (fun n:Bool=>.bool n) (fun _=>1) (fun _=>True)]) yU Tryz.underlying29 (by kernel_rfl) (by
  intro j f hf
  match j,hf with
  |0,hf=>cases hf;rfl
  |1,hf=>cases hf;simp[cells3,V4,QJ]
  |2,hf=>cases hf;simp[cells3,V4,QJ]
  |3,hf=>cases hf;simp[cells3,V4,QJ]
  |4,hf=>cases hf;simp[cells3,V4,QJ]) rfl (by
  intro i f Q hf hQ
  match i,hf,hQ with
  |0,hf,hQ=>cases hf;cases hQ;exact qgI N
  |1,hf,hQ=>cases hf;cases hQ;exact qBk N
  |2,hf,hQ=>cases hf;cases hQ;exact qm3 N
  |3,hf,hQ=>cases hf;cases hQ;exact qm3 N
  |4,hf,hQ=>cases hf;cases hQ;exact qyD N)
 have hc:Tryz.prog.cellsOf 29=5:=by kernel_rfl
 refine⟨?_,fun H enc w fuel cs x hf hx=>?_⟩
 · rintro v n ⟨x,_,rfl,rfl⟩
   refine⟨by rw[hc];rfl,?_,by simp[V.isAgg,qfu,Tryz.underlying29]⟩
   intro c hcm
   simp only[V.cells,List.mem_cons,List.not_mem_nil,or_false]at hcm
   rcases hcm with rfl|rfl|rfl|rfl|rfl<;>rfl
 · obtain ⟨v,n,⟨ps,hl,hq,rfl,rfl⟩,h2,h3⟩:=h.rd H enc w fuel cs x o_ hx
   match ps,hl with
   | [p0,p1,p2,p3,p4],_=>
     obtain ⟨a0,-,e0,s0⟩:=hq 0 _ _ rfl rfl
     obtain ⟨a1,-,e1,s1⟩:=hq 1 _ _ rfl rfl
     obtain ⟨a2,-,e2,s2⟩:=hq 2 _ _ rfl rfl
     obtain ⟨a3,-,e3,s3⟩:=hq 3 _ _ rfl rfl
     obtain ⟨a4,-,e4,s4⟩:=hq 4 _ _ rfl rfl
     refine⟨(GrI.mk a0 a1 a2 a3 a4).V,_,⟨GrI.mk a0 a1 a2 a3 a4,trivial,rfl,rfl⟩,?_,?_⟩
     · simp only[List.map_cons,List.map_nil,List.flatMap_cons,List.flatMap_nil,e0,e1,e2,e3,e4]at h2
       exact h2
     · simp only[List.map_cons,List.map_nil,List.sum_cons,List.sum_nil,s0,s1,s2,s3,s4]at h3
       simp only[szG]
       omega
theorem qbw (l:List Int):szI l=l.length+1:=by
 unfold szI
 induction l with
 |nil=>rfl
 |cons a l ih=>simp only[List.map_cons,List.sum_cons,List.length_cons]at ih ⊢;omega
theorem qaD: ∀{L:List (List Int)} {l:List Int},l∈L→l.length+L.length≤(L.map szI).sum
 | a::L,l,h=>by
   have hs: ∀L:List (List Int),L.length≤(L.map szI).sum:=fun L=>by
    induction L with
    |nil=>simp
    |cons a L ih=>simp only[List.map_cons,List.sum_cons,List.length_cons,qbw];omega
   simp only[List.map_cons,List.sum_cons,List.length_cons,qbw]
   rcases List.mem_cons.1 h with rfl|h
   · have:=hs L;omega
   · have:=qaD h;omega
theorem qmj {x:GrI} (h:szG x≤1048576):x.rules.length≤1099511627776∧(∀l∈x.rules,l.length≤1099511627776)∧x.inner.length≤1099511627776∧x.levels.length≤1099511627776:=by
 simp only[szG,qbw]at h
 refine⟨?_,fun l hl=>by have:=qaD hl;omega,o_,o_⟩
 cases hx:x.rules with
 |nil=>simp
 |cons a L=>have:=qaD (L:=x.rules) (l:=a) (by simp[hx]);rw[hx]at this h;simp only[List.length_cons]at this ⊢;omega
theorem qKa:Tryz.prog.globalNamed "math/bits.deBruijn64tab"=some 0:=by kernel_rfl
theorem qgV:(Tryz.prog.globals[0]?).map (·.type)=some 168:=by kernel_rfl
theorem table {W:World} (h:laidMetH Tryz.prog [("math/bits.deBruijn64tab",Rows.laid_math_bits_deBruijn64tab)] W):Lib.TabIs Tryz.prog W "math/bits.deBruijn64tab" .u8 (Lib.deBruijn64tab.map fun(n:Nat)=>(n:Int)):=
 Lib.tabIs_of_head (rest:=[]) qKa qgV Tryz.underlying168 Tryz.underlying5 (by kernel_rfl) (by kernel_rfl) h
theorem qsW {W:World} (h:laidMetH Tryz.prog [("math/bits.deBruijn64tab",Rows.laid_math_bits_deBruijn64tab)] W):Go.E.GOk Tryz.prog W Xj:=by
 intro g
 show R noβ W Xj (if g=0 then _ else _) _
 have hl:Lib.deBruijn64tab.length=64:=by decide
 split
 · rename_i e
   subst e
   refine .iptr 64 _ 0 0 0 (fun j=>.int .u8 ((Lib.deBruijn64tab.map fun(n:Nat)=>(n:Int)).getD j 0)) (fun j hj=>⟨trivial,?_⟩) (by simp[V.cells,hl]) (by simp[V.cells,V.scalar]) (fun j c hc=>?_)
   · have:=(table h).cell qKa j (by simp[hl];exact hj)
     simpa using this
   · simp only[V.cells,List.getElem?_map,Option.map_eq_some_iff]at hc
     obtain ⟨n,hn,rfl⟩:=hc
     have:(Lib.deBruijn64tab.map fun(n:Nat)=>(n:Int)).getD j 0=(n:Int):=by simp[List.getD,hn]
     rw[this]
     exact .int _ _
 · exact .iptr 0 (.agg []) 0 g 0 (fun _=>Go.undef) (fun j hj=>absurd hj (Nat.not_lt_zero _)) rfl (by simp[V.cells]) (by simp[V.cells])
noncomputable def JX (os:Os):World:=
 {World.holding Tryz.prog os ⟨#[],#[],[]⟩with heap:=(World.holding Tryz.prog os ⟨#[],#[],[]⟩).heap.modify 0 fun
  |.cells _ t frozen=>.cells ((Lib.deBruijn64tab.map fun(n:Nat)=>Value.int .u8 (n:Int)).toArray) t frozen
  |o=>o}
end Go.Proofs.YtjdjdbkoplmjeaaGreatDoor.law

namespace Go.Proofs.YtjdjdbkoplmjeaaGreatDoor.law
open Go.E Go.ChangeShapes Go.WideShapes Go.ChangeAt Go.RowKit
theorem qfx {t:TypeId} {fs:Array Field} (ht:Tryz.prog.underlying t=some (.struct fs)) (hl:fs.toList.length=3)
 (hsum:Tryz.prog.cellsOf t=(fs.toList.map fun f=>Tryz.prog.cellsOf f.type).sum) (ho: ∀j,j<4→ ∀f∈fs.toList[j]?,f.offset=((fs.toList.take j).map fun f=>Tryz.prog.cellsOf f.type).sum)
 {N:Nat} {α β γ δ:Type} {f1:α→V} {f2:β→V} {f3:γ→V} {s1:α→Nat} {s2:β→Nat} {s3:γ→Nat} {p1:α→Prop} {p2:β→Prop} {p3:γ→Prop}
 (h1: ∀f,fs.toList[0]?=some f→ReadsN N Tryz.prog B f.type (Img f1 s1 p1)) (h2: ∀f,fs.toList[1]?=some f→ReadsN N Tryz.prog B f.type (Img f2 s2 p2)) (h3: ∀f,fs.toList[2]?=some f→ReadsN N Tryz.prog B f.type (Img f3 s3 p3))
 (d1:δ→α) (d2:δ→β) (d3:δ→γ) (mk:α→β→γ→δ) (hd: ∀a b c,d1 (mk a b c)=a∧d2 (mk a b c)=b∧d3 (mk a b c)=c) (e:δ→V) (he: ∀x,e x=.agg ((f1 (d1 x)).cells++((f2 (d2 x)).cells++(f3 (d3 x)).cells))):
 ReadsN (N+1) Tryz.prog B t (Img e (fun x=>s1 (d1 x)+s2 (d2 x)+s3 (d3 x)+1) (fun x=>p1 (d1 x)∧p2 (d2 x)∧p3 (d3 x))):=by
 have h:=kX (N:=N) (Qs:=[Img f1 s1 p1,Img f2 s2 p2,Img f3 s3 p3]) yU ht hsum (fun j f hj=>ho j (by have:=(List.getElem?_eq_some_iff.1 hj).1;omega) f hj) (by rw[hl];rfl) (by
  intro i f Q hf hQ
  match i,hf,hQ with
  |0,hf,hQ=>cases hQ;exact h1 f hf
  |1,hf,hQ=>cases hQ;exact h2 f hf
  |2,hf,hQ=>cases hQ;exact h3 f hf)
 refine⟨fun v n ⟨x,hx,hv,hn⟩=>?_,fun H enc w fuel cs x hf hx=>?_⟩
 · refine h.shape v n ⟨[(f1 (d1 x),s1 (d1 x)),(f2 (d2 x),s2 (d2 x)),(f3 (d3 x),s3 (d3 x))],rfl,fun i p Q hp hQ=>?_,by rw[hv,he];simp,by rw[hn];simp;omega⟩
   match i,hp,hQ with
   |0,hp,hQ=>cases hp;cases hQ;exact⟨_,hx.1,rfl,rfl⟩
   |1,hp,hQ=>cases hp;cases hQ;exact⟨_,hx.2.1,rfl,rfl⟩
   |2,hp,hQ=>cases hp;cases hQ;exact⟨_,hx.2.2,rfl,rfl⟩
 · obtain ⟨v,n,⟨ps,hl,hq,rfl,rfl⟩,h2,h3⟩:=h.rd H enc w fuel cs x hf hx
   match ps,hl with
   | [q0,q1,q2],_=>
     obtain ⟨a,wa,e0,z0⟩:=hq 0 _ _ rfl rfl
     obtain ⟨b,wb,e1,z1⟩:=hq 1 _ _ rfl rfl
     obtain ⟨c,wc,e2,z2⟩:=hq 2 _ _ rfl rfl
     obtain ⟨k1,k2,k3⟩:=hd a b c
     refine⟨e (mk a b c),_,⟨mk a b c,by dsimp only;rw[k1,k2,k3];exact⟨wa,wb,wc⟩,rfl,rfl⟩,?_,?_⟩
     · rw[he,k1,k2,k3]
       simpa[e0,e1,e2,V.cells]using h2
     · simp only[k1,k2,k3]
       simp only[List.map_cons,List.map_nil,List.sum_cons,List.sum_nil,z0,z1,z2]at h3
       omega
theorem qdA {t:TypeId} {fs:Array Field} (ht:Tryz.prog.underlying t=some (.struct fs)) (hl:fs.toList.length=4)
 (hsum:Tryz.prog.cellsOf t=(fs.toList.map fun f=>Tryz.prog.cellsOf f.type).sum) (ho: ∀j,j<4→ ∀f∈fs.toList[j]?,f.offset=((fs.toList.take j).map fun f=>Tryz.prog.cellsOf f.type).sum)
 {N:Nat} {α β γ ε δ:Type} {f1:α→V} {f2:β→V} {f3:γ→V} {f4:ε→V} {s1:α→Nat} {s2:β→Nat} {s3:γ→Nat} {s4:ε→Nat} {p1:α→Prop} {p2:β→Prop} {p3:γ→Prop} {p4:ε→Prop}
 (h1: ∀f,fs.toList[0]?=some f→ReadsN N Tryz.prog B f.type (Img f1 s1 p1)) (h2: ∀f,fs.toList[1]?=some f→ReadsN N Tryz.prog B f.type (Img f2 s2 p2)) (h3: ∀f,fs.toList[2]?=some f→ReadsN N Tryz.prog B f.type (Img f3 s3 p3)) (h4: ∀f,fs.toList[3]?=some f→ReadsN N Tryz.prog B f.type (Img f4 s4 p4))
 (d1:δ→α) (d2:δ→β) (d3:δ→γ) (d4:δ→ε) (mk:α→β→γ→ε→δ) (hd: ∀a b c d,d1 (mk a b c d)=a∧d2 (mk a b c d)=b∧d3 (mk a b c d)=c∧d4 (mk a b c d)=d) (e:δ→V) (he: ∀x,e x=.agg ((f1 (d1 x)).cells++((f2 (d2 x)).cells++((f3 (d3 x)).cells++(f4 (d4 x)).cells)))):
 ReadsN (N+1) Tryz.prog B t (Img e (fun x=>s1 (d1 x)+s2 (d2 x)+s3 (d3 x)+s4 (d4 x)+1) (fun x=>p1 (d1 x)∧p2 (d2 x)∧p3 (d3 x)∧p4 (d4 x))):=by
 have h:=kX (N:=N) (Qs:=[Img f1 s1 p1,Img f2 s2 p2,Img f3 s3 p3,Img f4 s4 p4]) yU ht hsum (fun j f hj=>ho j (by have:=(List.getElem?_eq_some_iff.1 hj).1;omega) f hj) (by rw[hl];rfl) (by
  intro i f Q hf hQ
  match i,hf,hQ with
  |0,hf,hQ=>cases hQ;exact h1 f hf
  |1,hf,hQ=>cases hQ;exact h2 f hf
  |2,hf,hQ=>cases hQ;exact h3 f hf
  |3,hf,hQ=>cases hQ;exact h4 f hf)
 refine⟨fun v n ⟨x,hx,hv,hn⟩=>?_,fun H enc w fuel cs x hf hx=>?_⟩
 · refine h.shape v n ⟨[(f1 (d1 x),s1 (d1 x)),(f2 (d2 x),s2 (d2 x)),(f3 (d3 x),s3 (d3 x)),(f4 (d4 x),s4 (d4 x))],rfl,fun i p Q hp hQ=>?_,by rw[hv,he];simp,by rw[hn];simp;omega⟩
   match i,hp,hQ with
   |0,hp,hQ=>cases hp;cases hQ;exact⟨_,hx.1,rfl,rfl⟩
   |1,hp,hQ=>cases hp;cases hQ;exact⟨_,hx.2.1,rfl,rfl⟩
   |2,hp,hQ=>cases hp;cases hQ;exact⟨_,hx.2.2.1,rfl,rfl⟩
   |3,hp,hQ=>cases hp;cases hQ;exact⟨_,hx.2.2.2,rfl,rfl⟩
 · obtain ⟨v,n,⟨ps,hl,hq,rfl,rfl⟩,h2,h3⟩:=h.rd H enc w fuel cs x hf hx
   match ps,hl with
   | [q0,q1,q2,q3],_=>
     obtain ⟨a,wa,e0,z0⟩:=hq 0 _ _ rfl rfl
     obtain ⟨b,wb,e1,z1⟩:=hq 1 _ _ rfl rfl
     obtain ⟨c,wc,e2,z2⟩:=hq 2 _ _ rfl rfl
     obtain ⟨d,wd,e3,z3⟩:=hq 3 _ _ rfl rfl
     obtain ⟨k1,k2,k3,k4⟩:=hd a b c d
     refine⟨e (mk a b c d),_,⟨mk a b c d,by dsimp only;rw[k1,k2,k3,k4];exact⟨wa,wb,wc,wd⟩,rfl,rfl⟩,?_,?_⟩
     · rw[he,k1,k2,k3,k4]
       simpa[e0,e1,e2,e3,V.cells]using h2
     · simp only[k1,k2,k3,k4]
       simp only[List.map_cons,List.map_nil,List.sum_cons,List.sum_nil,z0,z1,z2,z3]at h3
       omega
theorem qow (N:Nat):ReadsN N Tryz.prog B 9 (Img (fun s:List UInt8=>.str s) (fun s=>s.length+1) (fun _=>True)):=(qeM yU Tryz.underlying9 (by kernel_rfl) N).mono (fun _ _ ⟨a,_,h1,h2⟩=>⟨a,trivial,h1,h2⟩) (fun v n ⟨a,_,h1,h2⟩=>by subst h1;exact⟨by kernel_rfl,by simp[V.cells,V.scalar],by kernel_rfl⟩)
abbrev okI (n:Int):Prop:=(Lit.int .i64 n).wf=true
abbrev Jf (x:Sym):Nat:=(x.name.length+1)+1+1+1+1
abbrev qge (x:Sym):Prop:=True∧True∧okI x.num∧okI x.at_
theorem qHd (N:Nat):ReadsN (N+1) Tryz.prog B 63 (Img Sym.V Jf qge):=
 qdA (N:=N) (t:=63) Tryz.underlying63 rfl (by kernel_rfl) (by decide+kernel) (fun f hf=>by cases hf;exact qow N) (fun f hf=>by cases hf;exact qyD N) (fun f hf=>by cases hf;exact qgI N) (fun f hf=>by cases hf;exact qgI N) (fun x:Sym=>x.name) (·.lit) (·.num) (·.at_) Sym.mk (fun _ _ _ _=>⟨rfl,rfl,rfl,rfl⟩) Sym.V (fun _=>rfl)
abbrev Yo (x:Part):Nat:=Jf x.sym+(x.code.length+1)+1+1
abbrev qg2 (x:Part):Prop:=qge x.sym∧True∧okI x.at_
theorem qHI (N:Nat):ReadsN (N+1+1) Tryz.prog B 72 (Img Part.V Yo qg2):=
 qfx (N:=N+1) (t:=72) Tryz.underlying72 rfl (by kernel_rfl) (by decide+kernel) (fun f hf=>by cases hf;exact qHd N) (fun f hf=>by cases hf;exact qow _) (fun f hf=>by cases hf;exact qgI _) (fun x:Part=>x.sym) (·.code) (·.at_) Part.mk (fun _ _ _=>⟨rfl,rfl,rfl⟩) Part.V (fun _=>rfl)
abbrev V6 (l:List Part):Nat:=(l.map Yo).sum+1
abbrev qfa (l:List Part):Prop:= ∀a∈l,qg2 a
theorem qdR:Tryz.prog.cellsOf 72=6:=by kernel_rfl
theorem qyf (N:Nat):ReadsN (N+1+1+1) Tryz.prog B 68 (Img (fun l:List Part=>.sl 6 false (l.map Part.V)) V6 qfa):=by
 have h:=jA yU Tryz.underlying68 (by kernel_rfl) (by rw[qdR];omega) (qHI N)
 rw[qdR]at h
 exact h
abbrev qcL (x:Alt):Nat:=V6 x.parts+Jf x.prec+1+1
abbrev qDa (x:Alt):Prop:=qfa x.parts∧qge x.prec∧okI x.at_
theorem qKv (N:Nat):ReadsN (N+1+1+1+1) Tryz.prog B 70 (Img Alt.V qcL qDa):=
 qfx (N:=N+1+1+1) (t:=70) Tryz.underlying70 rfl (by kernel_rfl) (by decide+kernel) (fun f hf=>by cases hf;exact qyf N) (fun f hf=>by cases hf;exact qHd (N+2)) (fun f hf=>by cases hf;exact qgI _) (fun x:Alt=>x.parts) (·.prec) (·.at_) Alt.mk (fun _ _ _=>⟨rfl,rfl,rfl⟩) Alt.V (fun _=>rfl)
abbrev qcp (l:List Alt):Nat:=(l.map qcL).sum+1
abbrev qhJ (l:List Alt):Prop:= ∀a∈l,qDa a
theorem qdO:Tryz.prog.cellsOf 70=6:=by kernel_rfl
theorem qE0 (N:Nat):ReadsN (N+1+1+1+1+1) Tryz.prog B 65 (Img (fun l:List Alt=>.sl 6 false (l.map Alt.V)) qcp qhJ):=by
 have h:=jA yU Tryz.underlying65 (by kernel_rfl) (by rw[qdO];omega) (qKv N)
 rw[qdO]at h
 exact h
abbrev Yr (x:Rule):Nat:=(x.left.length+1)+qcp x.alts+1+1
abbrev qh4 (x:Rule):Prop:=True∧qhJ x.alts∧okI x.at_
theorem qFF (N:Nat):ReadsN (N+1+1+1+1+1+1) Tryz.prog B 67 (Img Rule.V Yr qh4):=
 qfx (N:=N+1+1+1+1+1) (t:=67) Tryz.underlying67 rfl (by kernel_rfl) (by decide+kernel) (fun f hf=>by cases hf;exact qow _) (fun f hf=>by cases hf;exact qE0 N) (fun f hf=>by cases hf;exact qgI _) (fun x:Rule=>x.left) (·.alts) (·.at_) Rule.mk (fun _ _ _=>⟨rfl,rfl,rfl⟩) Rule.V (fun _=>rfl)
abbrev qbq (l:List Rule):Nat:=(l.map Yr).sum+1
abbrev qeo (l:List Rule):Prop:= ∀a∈l,qh4 a
theorem qeP:Tryz.prog.cellsOf 67=3:=by kernel_rfl
theorem qoy (N:Nat):ReadsN (N+1+1+1+1+1+1+1) Tryz.prog B 23 (Img (fun l:List Rule=>.sl 3 false (l.map Rule.V)) qbq qeo):=by
 have h:=jA yU Tryz.underlying23 (by kernel_rfl) (by rw[qeP];omega) (qFF N)
 rw[qeP]at h
 exact h
abbrev qbV (l:List Sym):Nat:=(l.map Jf).sum+1
abbrev qin (l:List Sym):Prop:= ∀a∈l,qge a
theorem qet:Tryz.prog.cellsOf 63=4:=by kernel_rfl
theorem qFr (N:Nat):ReadsN (N+1+1) Tryz.prog B 59 (Img (fun l:List Sym=>.sl 4 false (l.map Sym.V)) qbV qin):=by
 have h:=jA yU Tryz.underlying59 (by kernel_rfl) (by rw[qet];omega) (qHd N)
 rw[qet]at h
 exact h
abbrev Xh (x:Decl):Nat:=1+(x.tag.length+1)+qbV x.syms+1+1
abbrev qir (x:Decl):Prop:=okI x.kind∧True∧qin x.syms∧okI x.at_
theorem qHq (N:Nat):ReadsN (N+1+1+1) Tryz.prog B 61 (Img Decl.V Xh qir):=
 qdA (N:=N+1+1) (t:=61) Tryz.underlying61 rfl (by kernel_rfl) (by decide+kernel) (fun f hf=>by cases hf;exact qgI _) (fun f hf=>by cases hf;exact qow _) (fun f hf=>by cases hf;exact qFr N) (fun f hf=>by cases hf;exact qgI _) (fun x:Decl=>x.kind) (·.tag) (·.syms) (·.at_) Decl.mk (fun _ _ _ _=>⟨rfl,rfl,rfl,rfl⟩) Decl.V (fun _=>rfl)
abbrev qaY (l:List Decl):Nat:=(l.map Xh).sum+1
abbrev qdW (l:List Decl):Prop:= ∀a∈l,qir a
theorem qdF:Tryz.prog.cellsOf 61=4:=by kernel_rfl
theorem qDU (N:Nat):ReadsN (N+1+1+1+1) Tryz.prog B 22 (Img (fun l:List Decl=>.sl 4 false (l.map Decl.V)) qaY qdW):=by
 have h:=jA yU Tryz.underlying22 (by kernel_rfl) (by rw[qdF];omega) (qHq N)
 rw[qdF]at h
 exact h
abbrev Zb (x:Source):Nat:=(x.pro.length+1)+qaY x.decls+qbq x.rules+(x.tail.length+1)+1
abbrev Vu (x:Source):Prop:=True∧qdW x.decls∧qeo x.rules∧True
theorem qjF (N:Nat):ReadsN (N+1+1+1+1+1+1+1+1) Tryz.prog B 25 (Img Source.V Zb Vu):=
 qdA (N:=N+1+1+1+1+1+1+1) (t:=25) Tryz.underlying25 rfl (by kernel_rfl) (by decide+kernel) (fun f hf=>by cases hf;exact qow _) (fun f hf=>by cases hf;exact qDU (N+3)) (fun f hf=>by cases hf;exact qoy N) (fun f hf=>by cases hf;exact qow _) (fun x:Source=>x.pro) (·.decls) (·.rules) (·.tail) Source.mk (fun _ _ _ _=>⟨rfl,rfl,rfl,rfl⟩) Source.V (fun _=>rfl)
theorem X6 {α:Type} (sz:α→Nat): ∀{l:List α} {a:α},a∈l→sz a≤(l.map sz).sum
 | b::l,a,h=>by
   rw[List.map_cons,List.sum_cons]
   rcases List.mem_cons.1 h with rfl|h
   · omega
   · have:=X6 sz h;omega
theorem Yp {α:Type} (sz:α→Nat) (h: ∀a,1≤sz a): ∀l:List α,l.length≤(l.map sz).sum
 |[]=>Nat.zero_le _
 |a::l=>by have:=Yp sz h l;have:=h a;rw[List.map_cons,List.sum_cons,List.length_cons];omega
theorem qiI {x:Source} (h:Zb x≤1048576):x.Fits:=by
 have l1:=Yp Xh (fun _=>by unfold Xh;omega) x.decls
 have l2:=Yp Yr (fun _=>by unfold Yr;omega) x.rules
 unfold Zb qaY qbq at h
 refine⟨o_,o_,o_,fun d hd=>?_,o_,fun r hr=>?_⟩
 · have m:=X6 Xh hd
   unfold Xh qbV at m
   have l3:=Yp Jf (fun _=>by unfold Jf;omega) d.syms
   unfold Xh qbV at h
   refine⟨o_,o_,fun y hy=>?_⟩
   have m2:=X6 Jf hy
   unfold Jf at *
   omega
 · have m:=X6 Yr hr
   have l3:=Yp qcL (fun _=>by unfold qcL;omega) r.alts
   have m':r.left.length+1+qcp r.alts+1+1≤(x.rules.map Yr).sum:=m
   unfold qcp at m'
   refine⟨o_,o_,fun a ha=>?_⟩
   have n:=X6 qcL ha
   have l4:=Yp Yo (fun _=>by unfold Yo;omega) a.parts
   have n':V6 a.parts+Jf a.prec+1+1≤(r.alts.map qcL).sum:=n
   unfold V6 Jf at n'
   refine⟨o_,fun w hw=>?_,o_⟩
   have q:=X6 Yo hw
   have q':Jf w.sym+(w.code.length+1)+1+1≤(a.parts.map Yo).sum:=q
   unfold Jf at q'
   exact⟨o_,o_⟩
end Go.Proofs.YtjdjdbkoplmjeaaGreatDoor.law
