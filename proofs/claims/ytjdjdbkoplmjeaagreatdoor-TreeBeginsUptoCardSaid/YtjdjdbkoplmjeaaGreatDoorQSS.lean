/- Part of a proof that a law of the given program answers true. -/
import Derived.Test.YtjdjdbkoplmjeaaGreatDoorQJA
import Derived.Test.YtjdjdbkoplmjeaaGreatDoorQEC
import Derived.Test.YtjdjdbkoplmjeaaGreatDoorCards
import Derived.Test.YtjdjdbkoplmjeaaGreatDoorTie
import Derived.WalkKit
import Derived.ProofKit
import Derived.OpenShut
import Derived.Deep.DeepHandedRow
import Derived.Lib.LaidTab
import Derived.Test.YtjdjdbkoplmjeaaGreatDoorQRA
set_option linter.unusedSimpArgs false
set_option linter.unusedVariables false
namespace Go.Proofs.YtjdjdbkoplmjeaaGreatDoor.law
open Go.E Go.ChangeShapes Go.WideShapes Go.ChangeAt Go.RowKit
def B (H:Type) (d:DataW H):Nat:=Rows.uptoBulk d
theorem qaG {H:Type} (l:List (DataW H)):Rows.uptoBulkAll l=(l.map (B H)).sum:=by
 induction l with
 |nil=>simp[Rows.uptoBulkAll]
 |cons x l ih=>simp only[Rows.uptoBulkAll,ih,List.map_cons,List.sum_cons];rfl
theorem kW:BulkOk B where
 one:=fun H d=>by
  cases d with
  |lit l=>cases l<;>simp[B,Rows.uptoBulk]
  | _=>simp[B,Rows.uptoBulk]
 str:=fun H s=>by simp[B,Rows.uptoBulk]
 slice:=fun H x y=>by
  show _≤Rows.uptoBulk (.slice x y)
  simp only[Rows.uptoBulk,qaG];omega
 agg:=fun H x=>by
  show _≤Rows.uptoBulk (.agg x)
  simp only[Rows.uptoBulk,qaG];omega
theorem small {H:Type} {l:List (DataW H)} (hk:Rows.uptoSmall H l=true):(l.map (B H)).sum≤1048576:=by
 have h:Rows.uptoBulkAll l≤1048576:=of_decide_eq_true hk
 rwa [qaG]at h
theorem own:ownKnob Tryz.prog.godebug=none:=by kernel_rfl
theorem kids:Kids Tryz.prog (· <Tryz.prog.types.size):=kids_rows (by kernel_rfl) (by kernel_rfl)
theorem slices: ∀t e,t<Tryz.prog.types.size→Tryz.prog.underlying t=some (.slice e)→0<Tryz.prog.cellsOf e:=slices_full_of Tryz.prog (by kernel_rfl)
theorem cells3:Tryz.prog.cellsOf 3=1:=by kernel_rfl
theorem qip (N:Nat):ReadsN N Tryz.prog B 3 (Img (fun n:Int=>.int .i64 n) (fun _=>1) (fun n=>(Lit.int .i64 n).wf=true)):=qeN kW Tryz.underlying3 cells3 N
theorem qnB:Tryz.prog.cellsOf 27=1:=by kernel_rfl
theorem qye:Tryz.prog.cellsOf 4=1:=by kernel_rfl
theorem qIs (N:Nat):ReadsN N Tryz.prog B 4 (Img (fun n:Bool=>.bool n) (fun _=>1) (fun _=>True)):=qcM kW Tryz.underlying4 qye N
def szI (l:List Int):Nat:=(l.map fun _=>1).sum+1
theorem qFn (N:Nat):ReadsN N Tryz.prog B 27 (Img (fun l:List Int=>.sl 1 false (l.map (V.int .i64))) szI (fun l=> ∀n∈l,(Lit.int .i64 n).wf=true)):=by
 have h:=jN kW Tryz.underlying27 qnB (by rw[cells3];omega) (qip N)
 rw[cells3]at h
 exact h.le o_
theorem qlH (l:List Int):szI l=l.length+1:=by
 unfold szI
 induction l with
 |nil=>rfl
 |cons a l ih=>simp only[List.map_cons,List.sum_cons,List.length_cons]at ih ⊢;omega
theorem qJY:Tryz.prog.globalNamed "math/bits.deBruijn64tab"=some 0:=by kernel_rfl
theorem qfx:(Tryz.prog.globals[0]?).map (·.type)=some 168:=by kernel_rfl
theorem table {W:World} (h:laidMetH Tryz.prog [("math/bits.deBruijn64tab",Rows.laid_math_bits_deBruijn64tab)] W):Lib.TabIs Tryz.prog W "math/bits.deBruijn64tab" .u8 (Lib.deBruijn64tab.map fun(n:Nat)=>(n:Int)):=
 Lib.tabIs_of_head (rest:=[]) qJY qfx Tryz.underlying168 Tryz.underlying5 (by kernel_rfl) (by kernel_rfl) h
theorem qBF {W:World} (h:laidMetH Tryz.prog [("math/bits.deBruijn64tab",Rows.laid_math_bits_deBruijn64tab)] W):Go.E.GOk Tryz.prog W JL:=by
 intro g
 show R noβ W JL (if g=0 then _ else _) _
 have hl:Lib.deBruijn64tab.length=64:=by decide
 split
 · rename_i e
   subst e
   refine .iptr 64 _ 0 0 0 (fun j=>.int .u8 ((Lib.deBruijn64tab.map fun(n:Nat)=>(n:Int)).getD j 0)) (fun j hj=>⟨trivial,?_⟩) (by simp[V.cells,hl]) (by simp[V.cells,V.scalar]) (fun j c hc=>?_)
   · have:=(table h).cell qJY j (by simp[hl];exact hj)
     simpa using this
   · simp only[V.cells,List.getElem?_map,Option.map_eq_some_iff]at hc
     obtain ⟨n,hn,rfl⟩:=hc
     have:(Lib.deBruijn64tab.map fun(n:Nat)=>(n:Int)).getD j 0=(n:Int):=by simp[List.getD,hn]
     rw[this]
     exact .int _ _
 · exact .iptr 0 (.agg []) 0 g 0 (fun _=>Go.undef) (fun j hj=>absurd hj (Nat.not_lt_zero _)) rfl (by simp[V.cells]) (by simp[V.cells])
noncomputable def JZ (os:Os):World:=
 {World.holding Tryz.prog os ⟨#[],#[],[]⟩with heap:=(World.holding Tryz.prog os ⟨#[],#[],[]⟩).heap.modify 0 fun
  |.cells _ t frozen=>.cells ((Lib.deBruijn64tab.map fun(n:Nat)=>Value.int .u8 (n:Int)).toArray) t frozen
  |o=>o}
end Go.Proofs.YtjdjdbkoplmjeaaGreatDoor.law

namespace Go.Proofs.YtjdjdbkoplmjeaaGreatDoor.law
open Go.E Go.ChangeShapes Go.WideShapes Go.ChangeAt Go.RowKit
theorem qe3 {t:TypeId} {fs:Array Field} (ht:Tryz.prog.underlying t=some (.struct fs)) (hl:fs.toList.length=3)
 (hsum:Tryz.prog.cellsOf t=(fs.toList.map fun f=>Tryz.prog.cellsOf f.type).sum) (ho: ∀j,j<4→ ∀f∈fs.toList[j]?,f.offset=((fs.toList.take j).map fun f=>Tryz.prog.cellsOf f.type).sum)
 {N:Nat} {α β γ δ:Type} {f1:α→V} {f2:β→V} {f3:γ→V} {s1:α→Nat} {s2:β→Nat} {s3:γ→Nat} {p1:α→Prop} {p2:β→Prop} {p3:γ→Prop}
 (h1: ∀f,fs.toList[0]?=some f→ReadsN N Tryz.prog B f.type (Img f1 s1 p1)) (h2: ∀f,fs.toList[1]?=some f→ReadsN N Tryz.prog B f.type (Img f2 s2 p2)) (h3: ∀f,fs.toList[2]?=some f→ReadsN N Tryz.prog B f.type (Img f3 s3 p3))
 (d1:δ→α) (d2:δ→β) (d3:δ→γ) (mk:α→β→γ→δ) (hd: ∀a b c,d1 (mk a b c)=a∧d2 (mk a b c)=b∧d3 (mk a b c)=c) (e:δ→V) (he: ∀x,e x=.agg ((f1 (d1 x)).cells++((f2 (d2 x)).cells++(f3 (d3 x)).cells))):
 ReadsN (N+1) Tryz.prog B t (Img e (fun x=>s1 (d1 x)+s2 (d2 x)+s3 (d3 x)+1) (fun x=>p1 (d1 x)∧p2 (d2 x)∧p3 (d3 x))):=by
 have h:=Z6 (N:=N) (Qs:=[Img f1 s1 p1,Img f2 s2 p2,Img f3 s3 p3]) kW ht hsum (fun j f hj=>ho j (by have:=(List.getElem?_eq_some_iff.1 hj).1;omega) f hj) (by rw[hl];rfl) (by
  intro i f Q hf hQ
  match i,hf,hQ with
  |0,hf,hQ=>cases hQ;exact h1 f hf
  |1,hf,hQ=>cases hQ;exact h2 f hf
  |2,hf,hQ=>cases hQ;exact h3 f hf)
 refine⟨fun v n ⟨x,hx,hv,hn⟩=>?_,fun H enc w fuel cs x hf hx=>?_⟩
 · refine h.shape v n ⟨[(f1 (d1 x),s1 (d1 x)),(f2 (d2 x),s2 (d2 x)),(f3 (d3 x),s3 (d3 x))],rfl,fun i p Q hp hQ=>?_,by rw[hv,he];simp,by rw[hn];simp;omega⟩
   match i,hp,hQ with
   |0,hp,hQ=>cases hp;cases hQ;exact⟨_,hx.1,rfl,rfl⟩
   |1,hp,hQ=>cases hp;cases hQ;exact⟨_,hx.2.1,rfl,rfl⟩
   |2,hp,hQ=>cases hp;cases hQ;exact⟨_,hx.2.2,rfl,rfl⟩
 · obtain ⟨v,n,⟨ps,hl,hq,rfl,rfl⟩,h2,h3⟩:=h.rd H enc w fuel cs x hf hx
   match ps,hl with
   | [q0,q1,q2],_=>
     obtain ⟨a,wa,e0,z0⟩:=hq 0 _ _ rfl rfl
     obtain ⟨b,wb,e1,z1⟩:=hq 1 _ _ rfl rfl
     obtain ⟨c,wc,e2,z2⟩:=hq 2 _ _ rfl rfl
     obtain ⟨k1,k2,k3⟩:=hd a b c
     refine⟨e (mk a b c),_,⟨mk a b c,by dsimp only;rw[k1,k2,k3];exact⟨wa,wb,wc⟩,rfl,rfl⟩,?_,?_⟩
     · rw[he,k1,k2,k3]
       simpa[e0,e1,e2,V.cells]using h2
     · simp only[k1,k2,k3]
       simp only[List.map_cons,List.map_nil,List.sum_cons,List.sum_nil,z0,z1,z2]at h3
       omega
theorem qdI {t:TypeId} {fs:Array Field} (ht:Tryz.prog.underlying t=some (.struct fs)) (hl:fs.toList.length=4)
 (hsum:Tryz.prog.cellsOf t=(fs.toList.map fun f=>Tryz.prog.cellsOf f.type).sum) (ho: ∀j,j<4→ ∀f∈fs.toList[j]?,f.offset=((fs.toList.take j).map fun f=>Tryz.prog.cellsOf f.type).sum)
 {N:Nat} {α β γ ε δ:Type} {f1:α→V} {f2:β→V} {f3:γ→V} {f4:ε→V} {s1:α→Nat} {s2:β→Nat} {s3:γ→Nat} {s4:ε→Nat} {p1:α→Prop} {p2:β→Prop} {p3:γ→Prop} {p4:ε→Prop}
 (h1: ∀f,fs.toList[0]?=some f→ReadsN N Tryz.prog B f.type (Img f1 s1 p1)) (h2: ∀f,fs.toList[1]?=some f→ReadsN N Tryz.prog B f.type (Img f2 s2 p2)) (h3: ∀f,fs.toList[2]?=some f→ReadsN N Tryz.prog B f.type (Img f3 s3 p3)) (h4: ∀f,fs.toList[3]?=some f→ReadsN N Tryz.prog B f.type (Img f4 s4 p4))
 (d1:δ→α) (d2:δ→β) (d3:δ→γ) (d4:δ→ε) (mk:α→β→γ→ε→δ) (hd: ∀a b c d,d1 (mk a b c d)=a∧d2 (mk a b c d)=b∧d3 (mk a b c d)=c∧d4 (mk a b c d)=d) (e:δ→V) (he: ∀x,e x=.agg ((f1 (d1 x)).cells++((f2 (d2 x)).cells++((f3 (d3 x)).cells++(f4 (d4 x)).cells)))):
 ReadsN (N+1) Tryz.prog B t (Img e (fun x=>s1 (d1 x)+s2 (d2 x)+s3 (d3 x)+s4 (d4 x)+1) (fun x=>p1 (d1 x)∧p2 (d2 x)∧p3 (d3 x)∧p4 (d4 x))):=by
 have h:=Z6 (N:=N) (Qs:=[Img f1 s1 p1,Img f2 s2 p2,Img f3 s3 p3,Img f4 s4 p4]) kW ht hsum (fun j f hj=>ho j (by have:=(List.getElem?_eq_some_iff.1 hj).1;omega) f hj) (by rw[hl];rfl) (by
  intro i f Q hf hQ
  match i,hf,hQ with
  |0,hf,hQ=>cases hQ;exact h1 f hf
  |1,hf,hQ=>cases hQ;exact h2 f hf
  |2,hf,hQ=>cases hQ;exact h3 f hf
  |3,hf,hQ=>cases hQ;exact h4 f hf)
 refine⟨fun v n ⟨x,hx,hv,hn⟩=>?_,fun H enc w fuel cs x hf hx=>?_⟩
 · refine h.shape v n ⟨[(f1 (d1 x),s1 (d1 x)),(f2 (d2 x),s2 (d2 x)),(f3 (d3 x),s3 (d3 x)),(f4 (d4 x),s4 (d4 x))],rfl,fun i p Q hp hQ=>?_,by rw[hv,he];simp,by rw[hn];simp;omega⟩
   match i,hp,hQ with
   |0,hp,hQ=>cases hp;cases hQ;exact⟨_,hx.1,rfl,rfl⟩
   |1,hp,hQ=>cases hp;cases hQ;exact⟨_,hx.2.1,rfl,rfl⟩
   |2,hp,hQ=>cases hp;cases hQ;exact⟨_,hx.2.2.1,rfl,rfl⟩
   |3,hp,hQ=>cases hp;cases hQ;exact⟨_,hx.2.2.2,rfl,rfl⟩
 · obtain ⟨v,n,⟨ps,hl,hq,rfl,rfl⟩,h2,h3⟩:=h.rd H enc w fuel cs x hf hx
   match ps,hl with
   | [q0,q1,q2,q3],_=>
     obtain ⟨a,wa,e0,z0⟩:=hq 0 _ _ rfl rfl
     obtain ⟨b,wb,e1,z1⟩:=hq 1 _ _ rfl rfl
     obtain ⟨c,wc,e2,z2⟩:=hq 2 _ _ rfl rfl
     obtain ⟨d,wd,e3,z3⟩:=hq 3 _ _ rfl rfl
     obtain ⟨k1,k2,k3,k4⟩:=hd a b c d
     refine⟨e (mk a b c d),_,⟨mk a b c d,by dsimp only;rw[k1,k2,k3,k4];exact⟨wa,wb,wc,wd⟩,rfl,rfl⟩,?_,?_⟩
     · rw[he,k1,k2,k3,k4]
       simpa[e0,e1,e2,e3,V.cells]using h2
     · simp only[k1,k2,k3,k4]
       simp only[List.map_cons,List.map_nil,List.sum_cons,List.sum_nil,z0,z1,z2,z3]at h3
       omega
theorem qod (N:Nat):ReadsN N Tryz.prog B 9 (Img (fun s:List UInt8=>.str s) (fun s=>s.length+1) (fun _=>True)):=(qdl kW Tryz.underlying9 (by kernel_rfl) N).mono (fun _ _ ⟨a,_,h1,h2⟩=>⟨a,trivial,h1,h2⟩) (fun v n ⟨a,_,h1,h2⟩=>by subst h1;exact⟨by kernel_rfl,by simp[V.cells,V.scalar],by kernel_rfl⟩)
abbrev okI (n:Int):Prop:=(Lit.int .i64 n).wf=true
abbrev Jf (x:Sym):Nat:=(x.name.length+1)+1+1+1+1
abbrev qfw (x:Sym):Prop:=True∧True∧okI x.num∧okI x.at_
theorem qFc (N:Nat):ReadsN (N+1) Tryz.prog B 63 (Img Sym.V Jf qfw):=
 qdI (N:=N) (t:=63) Tryz.underlying63 rfl (by kernel_rfl) (by decide+kernel) (fun f hf=>by cases hf;exact qod N) (fun f hf=>by cases hf;exact qIs N) (fun f hf=>by cases hf;exact qip N) (fun f hf=>by cases hf;exact qip N) (fun x:Sym=>x.name) (·.lit) (·.num) (·.at_) Sym.mk (fun _ _ _ _=>⟨rfl,rfl,rfl,rfl⟩) Sym.V (fun _=>rfl)
abbrev XO (x:Part):Nat:=Jf x.sym+(x.code.length+1)+1+1
abbrev qg8 (x:Part):Prop:=qfw x.sym∧True∧okI x.at_
theorem qFm (N:Nat):ReadsN (N+1+1) Tryz.prog B 72 (Img Part.V XO qg8):=
 qe3 (N:=N+1) (t:=72) Tryz.underlying72 rfl (by kernel_rfl) (by decide+kernel) (fun f hf=>by cases hf;exact qFc N) (fun f hf=>by cases hf;exact qod _) (fun f hf=>by cases hf;exact qip _) (fun x:Part=>x.sym) (·.code) (·.at_) Part.mk (fun _ _ _=>⟨rfl,rfl,rfl⟩) Part.V (fun _=>rfl)
abbrev Vf (l:List Part):Nat:=(l.map XO).sum+1
abbrev qfb (l:List Part):Prop:= ∀a∈l,qg8 a
theorem qeA:Tryz.prog.cellsOf 72=6:=by kernel_rfl
theorem qB1 (N:Nat):ReadsN (N+1+1+1) Tryz.prog B 68 (Img (fun l:List Part=>.sl 6 false (l.map Part.V)) Vf qfb):=by
 have h:=jN kW Tryz.underlying68 (by kernel_rfl) (by rw[qeA];omega) (qFm N)
 rw[qeA]at h
 exact h
abbrev qcy (x:Alt):Nat:=Vf x.parts+Jf x.prec+1+1
abbrev qyR (x:Alt):Prop:=qfb x.parts∧qfw x.prec∧okI x.at_
theorem qKq (N:Nat):ReadsN (N+1+1+1+1) Tryz.prog B 70 (Img Alt.V qcy qyR):=
 qe3 (N:=N+1+1+1) (t:=70) Tryz.underlying70 rfl (by kernel_rfl) (by decide+kernel) (fun f hf=>by cases hf;exact qB1 N) (fun f hf=>by cases hf;exact qFc (N+2)) (fun f hf=>by cases hf;exact qip _) (fun x:Alt=>x.parts) (·.prec) (·.at_) Alt.mk (fun _ _ _=>⟨rfl,rfl,rfl⟩) Alt.V (fun _=>rfl)
abbrev qbw (l:List Alt):Nat:=(l.map qcy).sum+1
abbrev qhA (l:List Alt):Prop:= ∀a∈l,qyR a
theorem qdf:Tryz.prog.cellsOf 70=6:=by kernel_rfl
theorem qF0 (N:Nat):ReadsN (N+1+1+1+1+1) Tryz.prog B 65 (Img (fun l:List Alt=>.sl 6 false (l.map Alt.V)) qbw qhA):=by
 have h:=jN kW Tryz.underlying65 (by kernel_rfl) (by rw[qdf];omega) (qKq N)
 rw[qdf]at h
 exact h
abbrev XI (x:Rule):Nat:=(x.left.length+1)+qbw x.alts+1+1
abbrev qg3 (x:Rule):Prop:=True∧qhA x.alts∧okI x.at_
theorem qFG (N:Nat):ReadsN (N+1+1+1+1+1+1) Tryz.prog B 67 (Img Rule.V XI qg3):=
 qe3 (N:=N+1+1+1+1+1) (t:=67) Tryz.underlying67 rfl (by kernel_rfl) (by decide+kernel) (fun f hf=>by cases hf;exact qod _) (fun f hf=>by cases hf;exact qF0 N) (fun f hf=>by cases hf;exact qip _) (fun x:Rule=>x.left) (·.alts) (·.at_) Rule.mk (fun _ _ _=>⟨rfl,rfl,rfl⟩) Rule.V (fun _=>rfl)
abbrev qaP (l:List Rule):Nat:=(l.map XI).sum+1
abbrev qdR (l:List Rule):Prop:= ∀a∈l,qg3 a
theorem qeH:Tryz.prog.cellsOf 67=3:=by kernel_rfl
theorem qtr (N:Nat):ReadsN (N+1+1+1+1+1+1+1) Tryz.prog B 23 (Img (fun l:List Rule=>.sl 3 false (l.map Rule.V)) qaP qdR):=by
 have h:=jN kW Tryz.underlying23 (by kernel_rfl) (by rw[qeH];omega) (qFG N)
 rw[qeH]at h
 exact h
abbrev qbB (l:List Sym):Nat:=(l.map Jf).sum+1
abbrev qim (l:List Sym):Prop:= ∀a∈l,qfw a
theorem qdk:Tryz.prog.cellsOf 63=4:=by kernel_rfl
theorem qHl (N:Nat):ReadsN (N+1+1) Tryz.prog B 59 (Img (fun l:List Sym=>.sl 4 false (l.map Sym.V)) qbB qim):=by
 have h:=jN kW Tryz.underlying59 (by kernel_rfl) (by rw[qdk];omega) (qFc N)
 rw[qdk]at h
 exact h
abbrev Xh (x:Decl):Nat:=1+(x.tag.length+1)+qbB x.syms+1+1
abbrev qhT (x:Decl):Prop:=okI x.kind∧True∧qim x.syms∧okI x.at_
theorem qG9 (N:Nat):ReadsN (N+1+1+1) Tryz.prog B 61 (Img Decl.V Xh qhT):=
 qdI (N:=N+1+1) (t:=61) Tryz.underlying61 rfl (by kernel_rfl) (by decide+kernel) (fun f hf=>by cases hf;exact qip _) (fun f hf=>by cases hf;exact qod _) (fun f hf=>by cases hf;exact qHl N) (fun f hf=>by cases hf;exact qip _) (fun x:Decl=>x.kind) (·.tag) (·.syms) (·.at_) Decl.mk (fun _ _ _ _=>⟨rfl,rfl,rfl,rfl⟩) Decl.V (fun _=>rfl)
abbrev qa2 (l:List Decl):Nat:=(l.map Xh).sum+1
abbrev qde (l:List Decl):Prop:= ∀a∈l,qhT a
theorem qdz:Tryz.prog.cellsOf 61=4:=by kernel_rfl
theorem qwA (N:Nat):ReadsN (N+1+1+1+1) Tryz.prog B 22 (Img (fun l:List Decl=>.sl 4 false (l.map Decl.V)) qa2 qde):=by
 have h:=jN kW Tryz.underlying22 (by kernel_rfl) (by rw[qdz];omega) (qG9 N)
 rw[qdz]at h
 exact h
abbrev QO (x:Source):Nat:=(x.pro.length+1)+qa2 x.decls+qaP x.rules+(x.tail.length+1)+1
abbrev Vn (x:Source):Prop:=True∧qde x.decls∧qdR x.rules∧True
theorem qiG (N:Nat):ReadsN (N+1+1+1+1+1+1+1+1) Tryz.prog B 25 (Img Source.V QO Vn):=
 qdI (N:=N+1+1+1+1+1+1+1) (t:=25) Tryz.underlying25 rfl (by kernel_rfl) (by decide+kernel) (fun f hf=>by cases hf;exact qod _) (fun f hf=>by cases hf;exact qwA (N+3)) (fun f hf=>by cases hf;exact qtr N) (fun f hf=>by cases hf;exact qod _) (fun x:Source=>x.pro) (·.decls) (·.rules) (·.tail) Source.mk (fun _ _ _ _=>⟨rfl,rfl,rfl,rfl⟩) Source.V (fun _=>rfl)
theorem Yl {α:Type} (sz:α→Nat): ∀{l:List α} {a:α},a∈l→sz a≤(l.map sz).sum
 | b::l,a,h=>by
   rw[List.map_cons,List.sum_cons]
   rcases List.mem_cons.1 h with rfl|h
   · omega
   · have:=Yl sz h;omega
theorem XJ {α:Type} (sz:α→Nat) (h: ∀a,1≤sz a): ∀l:List α,l.length≤(l.map sz).sum
 |[]=>Nat.zero_le _
 |a::l=>by have:=XJ sz h l;have:=h a;rw[List.map_cons,List.sum_cons,List.length_cons];omega
theorem qis {x:Source} (h:QO x≤1048576):x.Fits:=by
 have l1:=XJ Xh (fun _=>by unfold Xh;omega) x.decls
 have l2:=XJ XI (fun _=>by unfold XI;omega) x.rules
 unfold QO qa2 qaP at h
 refine⟨o_,o_,o_,fun d hd=>?_,o_,fun r hr=>?_⟩
 · have m:=Yl Xh hd
   unfold Xh qbB at m
   have l3:=XJ Jf (fun _=>by unfold Jf;omega) d.syms
   unfold Xh qbB at h
   refine⟨o_,o_,fun y hy=>?_⟩
   have m2:=Yl Jf hy
   unfold Jf at *
   omega
 · have m:=Yl XI hr
   have l3:=XJ qcy (fun _=>by unfold qcy;omega) r.alts
   have m':r.left.length+1+qbw r.alts+1+1≤(x.rules.map XI).sum:=m
   unfold qbw at m'
   refine⟨o_,o_,fun a ha=>?_⟩
   have n:=Yl qcy ha
   have l4:=XJ XO (fun _=>by unfold XO;omega) a.parts
   have n':Vf a.parts+Jf a.prec+1+1≤(r.alts.map qcy).sum:=n
   unfold Vf Jf at n'
   refine⟨o_,fun w hw=>?_,o_⟩
   have q:=Yl XO hw
   have q':Jf w.sym+(w.code.length+1)+1+1≤(a.parts.map XO).sum:=q
   unfold Jf at q'
   exact⟨o_,o_⟩
end Go.Proofs.YtjdjdbkoplmjeaaGreatDoor.law
