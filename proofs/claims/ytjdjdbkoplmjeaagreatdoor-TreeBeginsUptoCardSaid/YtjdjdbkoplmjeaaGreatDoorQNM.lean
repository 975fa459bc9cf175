/- Part of a proof that a law of the given program answers true. -/
import Derived.Test.YtjdjdbkoplmjeaaGreatDoorQNL
import Derived.Test.YtjdjdbkoplmjeaaGreatDoorQNA
import Derived.Test.YtjdjdbkoplmjeaaGreatDoorQEC
import Derived.WalkKit
import Derived.BigCall
set_option linter.unusedSimpArgs false
set_option linter.unusedVariables false
set_option maxHeartbeats 4000000
set_option maxRecDepth 100000
namespace Go.Proofs
open Go.E Go.RowKit
mutual
def Nd.txt (nm:Int→List UInt8):Nd→List UInt8
 |.mk s p _ ks=>if p= -1 then nm s else 40::nm s++(Nd.txts nm ks++[41])
def Nd.txts (nm:Int→List UInt8):List Nd→List UInt8
 |[]=>[]
 |k::r=>32::(k.txt nm++Nd.txts nm r)
end
theorem Zj {W w:World} {lim:Nat→Option Nat} (h:Below W.heap.size W w):Ext lim W w:=
 ⟨h.size,fun b cur et fz hb=>⟨cur,et,fz,(h.block b (Array.getElem?_eq_some_iff.1 hb).1).trans hb,rfl,fun _ _=>rfl⟩⟩
theorem XL {W w:World} {lim:Nat→Option Nat} {v:V} {r:Value} (h:R noβ W lim v r) (hb:Below W.heap.size W w):R noβ w lim v r:=
 R.mono (fun _ _ h=>h) (Zj hb) (xU.refl _ _) h
theorem qdA {β:Nat→Option E.Loc} {w:World} {lim:Nat→Option Nat} {v:V} {r:Value} (h:R β w lim v r) {s:List UInt8} (e:v=.str s):r=.string ⟨s.toArray⟩:=by
 cases h<;>cases e
 rfl
theorem qb6 {f:FuncId} {xs:List V} {s:List UInt8} (hp:Go.E.Pure Tryz.prog f xs (.str s)) {W w:World} {lim:Nat→Option Nat} {ra:Array Value} (hG:Go.E.GOk Tryz.prog W lim) (hb:Below W.heap.size W w) (hR:Rs noβ w lim xs ra):
 Calls Tryz.prog f ra w fun e w'=>e=.returned (.string ⟨s.toArray⟩)∧Below w.heap.size w w':=
 (hp.2 w lim ra (hG.mono (Zj hb) (xU.refl _ _)) hR).mono fun e w' ⟨r,h1,h2,h3⟩=>by
  rw[qdA h3 rfl]at h1
  exact⟨h1,h2⟩
theorem QM {T e:TypeId} {B b:Nat} {bs:List Value} {W w:World} (h:Lib.IsBuilderF T e B b bs W) (hb:Below W.heap.size W w):Lib.IsBuilderF T e B b bs w:=by
 have one: ∀p,Lib.BuilderAtF T e B b p bs W→Lib.BuilderAtF T e B b p bs w:=fun p h=>by
  have hlt:=h.lt
  obtain ⟨hB,v,hv,hown,hne⟩:=h
  exact⟨hB,v,(hb.block b hlt).trans hv,hown.kept (row:=none) ⟨hb.os,hb.tape,hb.output,hb.size,fun k hk _=>hb.block k hk⟩ (Classical.em _),hne⟩
 exact h.elim (fun x=>.inl (one _ x)) (fun x=>.inr (one _ x))
theorem xB {e:TypeId} {b:Option Nat} {w w':World} (h:Below w.heap.size w w'):Lib.OthersKept e b w w':=
 fun k o hk _ _=>(h.block k (Array.getElem?_eq_some_iff.1 hk).1).trans hk
def qb0 (B b:Nat) (bs:List Value) (l:List UInt8) (w:World):Ending→World→Prop:=fun e w'=>
 e=.returned (.tuple #[])∧Lib.IsBuilderF 145 5 B b (bs++Lib.byteCells l) w'∧Below B w w'∧Lib.OthersKept 5 (some b) w w'
theorem qmX (l:List UInt8):ByteArray.size ⟨l.toArray⟩=l.length:=by simp[ByteArray.size]
theorem zM {A B:Nat} {w w':World} (h:Below B w w') (hB:A≤B):Below A w w':=⟨h.os,h.tape,h.output,h.size,fun k hk=>h.block k o_⟩
theorem rs2 {w:World} {lim:Nat→Option Nat} {v0 v1:V} {r0 r1:Value} (h0:R noβ w lim v0 r0) (h1:R noβ w lim v1 r1):Rs noβ w lim [v0,v1] #[r0,r1]:=by
 refine⟨rfl,fun i v r hv hr=>?_⟩
 match i,hv,hr with
 |0,hv,hr=>cases hv;cases hr;exact h0
 |1,hv,hr=>cases hv;cases hr;exact h1
theorem qcI {nm:Int→List UInt8} {g:Grammar} {W:World} {lim:Nat→Option Nat} (hG:Go.E.GOk Tryz.prog W lim) {g0 g1 g2 g3 g4:Value} (hg:R noβ W lim g.V (.agg #[g0,g1,g2,g3,g4]))
 {s a:Int} {rk:Value} (hnm:Go.E.Pure Tryz.prog 97 [g.V,vi s] (.str (nm s))) {b:Nat} {bs:List Value} {w:World} (hb:Below W.heap.size W w) (h:Lib.IsBuilderF 145 5 W.heap.size b bs w) (hbt:b<w.heap.size) (hl:bs.length+(nm s).length≤140737488355328):
 Calls Tryz.prog 78 #[.agg #[g0,g1,g2,g3,g4],.agg #[.int .i64 s,.int .i64 (-1),.int .i64 a,rk],.pointer (some ⟨b,0,none⟩)] w (qb0 W.heap.size b bs (nm s) w):=by
 have b1:Below w.heap.size w ((w.alloc (.cells #[g0,g1,g2,g3,g4] 38)).alloc (.cells #[.int .i64 s,.int .i64 (-1),.int .i64 a,rk] 46)):=((Below.refl _ w).alloc (Nat.le_refl _) _).alloc (by simp) _
 have hb1:=hb.trans (zM b1 hb.size)
 have h1:=QM h b1
 go_enter Tryz.func78,Tryz.ntmps78
 go_wp2_with (go_at_call 97;refine(qb6 hnm hG hb1 (rs2 (XL hg hb1) (.int _ _))).mono ?_)
 rintro e w2 ⟨rfl,b2⟩
 have hb2:=hb1.trans (zM b2 hb1.size)
 have h2:=QM h1 b2
 go_wp2_with (go_at_call 96;refine(Zm _ _ _ _ _ h2 (by rw[qmX];exact hl) hb2.size).mono ?_)
 rintro e w3 ⟨rfl,h3,b3,k3⟩
 go_wp2
 go_end0
 refine⟨rfl,Or.inr h3,(zM (b1.trans (zM b2 b1.size)) hb.size).trans b3,((xB b1).trans (xB b2)).trans k3⟩
end Go.Proofs

namespace Go.Proofs
open Go.E Go.RowKit
theorem Nd.txts_take (nm:Int→List UInt8): ∀(ks:List Nd) (i:Nat) (k:Nd),ks[i]?=some k→Nd.txts nm (ks.take (i+1))=Nd.txts nm (ks.take i)++32::k.txt nm
 |[],i,k,h=>by simp at h
 | x::r,0,k,h=>by
   simp at h;subst h;simp[Nd.txts]
 | x::r,i+1,k,h=>by
   have:=Nd.txts_take nm r i k (by simpa using h)
   simp only[List.take_succ_cons,Nd.txts]
   rw[this];simp
theorem Nd.txts_len (nm:Int→List UInt8) (ks:List Nd) (i:Nat):(Nd.txts nm (ks.take i)).length≤(Nd.txts nm ks).length:=by
 have e: ∀a b:List Nd,Nd.txts nm (a++b)=Nd.txts nm a++Nd.txts nm b:=fun a b=>by
  induction a with
  |nil=>rfl
  |cons x r ih=>rw[List.cons_append,Nd.txts,Nd.txts,ih];simp
 have h:=congrArg List.length (e (ks.take i) (ks.drop i))
 rw[List.take_append_drop,List.length_append]at h
 omega
def qgP (W:World) (lim:Nat→Option Nat) (ks:List Nd) (rk:Value):Prop:=
 ∃ao cap,rk=.slice ao ks.length cap∧ ∀i k,ks[i]?=some k→ ∃kb ko r0 r1 r2 r3,ao=some ⟨kb,ko,none⟩∧R noβ W lim k.V (.agg #[r0,r1,r2,r3])∧
  W.cell? ⟨kb,ko+i *4,none⟩=some r0∧W.cell? ⟨kb,ko+i *4+1,none⟩=some r1∧W.cell? ⟨kb,ko+i *4+2,none⟩=some r2∧W.cell? ⟨kb,ko+i *4+3,none⟩=some r3
theorem Vw {W:World} {lim:Nat→Option Nat} {ks:List Nd} {rk:Value} (h:R noβ W lim (.sl 4 false (Nd.Vs ks)) rk):qgP W lim ks rk:=by
 have gen: ∀v,R noβ W lim v rk→v=.sl 4 false (Nd.Vs ks)→qgP W lim ks rk:=fun v h e=>by
  cases h<;>try(cases e;done)
  case sl0 sz clip a cap hc hm=>
   injection e with e1 e2 e3
   have:ks=[]:=by cases ks with|nil=>rfl|cons x r=>simp[Nd.Vs]at e3
   subst this
   exact⟨a,cap,rfl,fun i k hi=>by simp at hi⟩
  case sl size clip es b o cap rv hlen hst hsz h hcap hm hc=>
   injection e with e1 e2 e3
   subst e1 e2 e3
   have hl:(Nd.Vs ks).length=ks.length:=by rw[Nd.Vs_map];simp
   rw[hl]at hst hlen hcap
   refine⟨some ⟨b,o,none⟩,cap,by rw[hl],fun i k hi=>⟨b,o,rv (i *4),rv (i *4+1),rv (i *4+2),rv (i *4+3),rfl,?_,?_⟩⟩
   · have hg:(Nd.Vs ks)[i]?=some k.V:=by rw[Nd.Vs_map,List.getElem?_map,hi];rfl
     cases k with
     | mk s p a ks'=>
       refine .agg _ _ rfl (by simp[V.scalar]) fun j c r hc hr=>?_
       match j,hc,hr with
       |0,hc,hr=>cases hr;exact h i 0 _ c hg hc
       |1,hc,hr=>cases hr;exact h i 1 _ c hg hc
       |2,hc,hr=>cases hr;exact h i 2 _ c hg hc
       |3,hc,hr=>cases hr;exact h i 3 _ c hg hc
   · have hi':=(List.getElem?_eq_some_iff.1 hi).1
     have c:=fun j (hj:j<4)=>(hst (i *4+j) o_).2
     exact⟨c 0 o_,by rw[Nat.add_assoc];exact c 1 o_,by rw[Nat.add_assoc];exact c 2 o_,by rw[Nat.add_assoc];exact c 3 o_⟩
 exact gen _ h rfl
theorem qe1 {W:World} {lim:Nat→Option Nat} {s p a:Int} {ks:List Nd} {r:Value} (h:R noβ W lim (Nd.mk s p a ks).V r): ∃rk,r=.agg #[.int .i64 s,.int .i64 p,.int .i64 a,rk]∧R noβ W lim (.sl 4 false (Nd.Vs ks)) rk:=by
 have gen: ∀v,R noβ W lim v r→v=(Nd.mk s p a ks).V→ ∃rk,r=.agg #[.int .i64 s,.int .i64 p,.int .i64 a,rk]∧R noβ W lim (.sl 4 false (Nd.Vs ks)) rk:=fun v h e=>by
  cases h<;>try(cases e;done)
  rename_i cs rs hs hl h
  rw[Nd.V]at e
  injection e with e
  subst e
  rcases rs with ⟨l⟩
  match l,hl,h with
  | [x0,x1,x2,x3],_,h=>
    have h0:=h 0 _ x0 rfl rfl
    have h1:=h 1 _ x1 rfl rfl
    have h2:=h 2 _ x2 rfl rfl
    have h3:=h 3 _ x3 rfl rfl
    cases h0;cases h1;cases h2
    exact⟨x3,rfl,h3⟩
 exact gen _ h rfl
theorem sz1 (c:UInt8):ByteArray.size ⟨#[c]⟩=1:=rfl
theorem sc1 (c:UInt8):Lib.strCells ⟨#[c]⟩=Lib.byteCells [c]:=rfl
theorem cell_below {W w:World} (h:Below W.heap.size W w) {b i:Nat} {v:Value} (hc:W.cell? ⟨b,i,none⟩=some v):w.cell? ⟨b,i,none⟩=some v:=by
 have hlt:=YJ hc
 unfold World.cell? at *
 dsimp only at *
 rw[h.block b hlt];exact hc
theorem qcu {nm:Int→List UInt8} {g:Grammar} {W:World} {lim:Nat→Option Nat} (hG:Go.E.GOk Tryz.prog W lim) {g0 g1 g2 g3 g4:Value} (hg:R noβ W lim g.V (.agg #[g0,g1,g2,g3,g4]))
 {s p a:Int} {rk:Value} {ks:List Nd} (hp: ¬ p= -1) (hk:R noβ W lim (.sl 4 false (Nd.Vs ks)) rk) (hnm:Go.E.Pure Tryz.prog 97 [g.V,vi s] (.str (nm s))) {b:Nat}
 (IH: ∀k∈ks,∀{r0 r1 r2 r3:Value} {bs:List Value} {w:World},R noβ W lim k.V (.agg #[r0,r1,r2,r3])→Below W.heap.size W w→Lib.IsBuilderF 145 5 W.heap.size b bs w→bs.length+(k.txt nm).length≤140737488355328→
  Calls Tryz.prog 78 #[.agg #[g0,g1,g2,g3,g4],.agg #[r0,r1,r2,r3],.pointer (some ⟨b,0,none⟩)] w (qb0 W.heap.size b bs (k.txt nm) w))
 {bs:List Value} {w:World} (hb:Below W.heap.size W w) (h:Lib.IsBuilderF 145 5 W.heap.size b bs w) (hl:bs.length+((Nd.mk s p a ks).txt nm).length≤140737488355328) (hkl:ks.length≤1000000000):
 Calls Tryz.prog 78 #[.agg #[g0,g1,g2,g3,g4],.agg #[.int .i64 s,.int .i64 p,.int .i64 a,rk],.pointer (some ⟨b,0,none⟩)] w (qb0 W.heap.size b bs ((Nd.mk s p a ks).txt nm) w):=by
 have b1:Below w.heap.size w ((w.alloc (.cells #[g0,g1,g2,g3,g4] 38)).alloc (.cells #[.int .i64 s,.int .i64 p,.int .i64 a,rk] 46)):=((Below.refl _ w).alloc (Nat.le_refl _) _).alloc (by simp) _
 have hb1:=hb.trans (zM b1 hb.size)
 have b1':=b1
 have h1:=QM h b1
 have hlt:=h.elim (fun x=>x.lt) (fun x=>x.lt)
 obtain ⟨ao,cap,rfl,hkid⟩:=Vw hk
 rw[Nd.txt,if_neg hp]at hl ⊢
 have x0:((w.alloc (.cells #[g0,g1,g2,g3,g4] 38)).alloc (.cells #[.int .i64 s,.int .i64 p,.int .i64 a,.slice ao ks.length cap] 46)).heap[w.heap.size]?=some (.cells #[g0,g1,g2,g3,g4] 38 (0,0)):=by
  rw[Lib.alloc_old _ _ _ (by simp)];exact heap_alloc_new w _
 have x1:((w.alloc (.cells #[g0,g1,g2,g3,g4] 38)).alloc (.cells #[.int .i64 s,.int .i64 p,.int .i64 a,.slice ao ks.length cap] 46)).heap[w.heap.size+1]?=some (.cells #[.int .i64 s,.int .i64 p,.int .i64 a,.slice ao ks.length cap] 46 (0,0)):=by
  have:=heap_alloc_new (w.alloc (.cells #[g0,g1,g2,g3,g4] 38)) (.cells #[.int .i64 s,.int .i64 p,.int .i64 a,.slice ao ks.length cap] 46)
  simpa using this
 have hl1:bs.length+(1+(nm s).length)+(Nd.txts nm ks).length+1≤140737488355328:=by simp only[List.length_append,List.length_cons,List.length_nil]at hl;omega
 have hs0: ¬ 9223372036854775807<1+(nm s).length:=o_
 have hsz:ByteArray.size (⟨#[40]⟩++⟨(nm s).toArray⟩)=1+(nm s).length:=by simp[ByteArray.size];omega
 have hsc:Lib.strCells (⟨#[40]⟩++⟨(nm s).toArray⟩)=Lib.byteCells (40::nm s):=by rw[Lib.strCells_eq];simp
 go_enter Tryz.func78,Tryz.ntmps78
 go_wp2_with (go_at_call 97;refine(qb6 hnm hG hb1 (rs2 (XL hg hb1) (.int _ _))).mono ?_)
 rintro e w2 ⟨rfl,b2⟩
 have hb2:=hb1.trans (zM b2 hb1.size)
 have h2:=QM h1 b2
 have k2:Lib.OthersKept 5 (some b) w w2:=(xB b1).trans (xB b2)
 have y0:=(b2.block _ (Array.getElem?_eq_some_iff.1 x0).1).trans x0
 have y1:=(b2.block _ (Array.getElem?_eq_some_iff.1 x1).1).trans x1
 clear x0 x1 b1 hb1 h1
 go_wp2_with (go_at_call 96;go_loud (refine(Zm _ _ _ _ _ h2 (by rw[hsz];omega) hb2.size).mono ?_))
 rintro e w3 ⟨rfl,h3,b3,k3⟩
 rw[hsc]at h3
 have hb3:=hb2.trans b3
 have nb: ∀k,w.heap.size≤k→some k≠some b:=fun k hk e=>by injection e with e;omega
 have nt: ∀{cs:Array Value} {ty:TypeId} (hty:ty≠5),∀c fz,Obj.cells cs ty (0,0)≠ .cells c 5 fz:=fun hty c fz e=>by injection e with _ e _;exact hty e
 have z0:=k3 _ _ y0 (nb _ (Nat.le_refl _)) (nt (by decide))
 have z1:=k3 _ _ y1 (nb _ o_) (nt (by decide))
 have c3:w3.cell? ⟨w.heap.size+1,3,none⟩=some (.slice ao ks.length cap):=by rw[Lib.cell_of_heap z1];rfl
 have k03:=k2.trans k3
 have b03:=(zM (b1'.trans (zM b2 b1'.size)) hb.size).trans b3
 clear y0 y1 k2 k3 b2 hb2 h2 b3 hsz hsc b1'
 go_wp2
 clear c3
 go_loopw [27] (fun c wr=> ∃k:Nat,k≤ks.length∧c=.int .i64 k∧Lib.IsBuilderF 145 5 W.heap.size b (bs++Lib.byteCells (40::nm s++Nd.txts nm (ks.take k))) wr∧(Below W.heap.size W wr∧Below W.heap.size w wr)∧Lib.OthersKept 5 (some b) w wr∧wr.heap[w.heap.size]?=some (.cells #[g0,g1,g2,g3,g4] 38 (0,0))) (fun c _=>ks.length - (intOf c).toNat)
 case atStart=>
  refine⟨0,Nat.zero_le _,rfl,Or.inr (by simpa[Nd.txts]using h3),⟨hb3,b03⟩,k03,z0⟩
 case round=>
  obtain ⟨k,hk,rfl,hbd,⟨hbw,hbv⟩,hok,hz⟩:=hrel
  by_cases hlt2:k<ks.length
  · obtain ⟨kb,ko,r0,r1,r2,r3,rfl,hR,d0,d1,d2,d3⟩:=hkid k ks[k] (ge_ hlt2)
    obtain ⟨s',p',a',ks',hkk⟩: ∃s' p' a' ks',ks[k]=.mk s' p' a' ks':=by
     cases h:ks[k]with
     |mk s' p' a' ks'=>exact⟨s',p',a',ks',rfl⟩
    have hR0:=hR
    rw[hkk]at hR
    obtain ⟨rk',e,hR'⟩:=qe1 hR
    injection e with e
    injection e with e
    injection e with e0 e
    injection e with e1 e
    injection e with e2 e
    injection e with e3 e
    obtain ⟨ao',cap',rfl,_⟩:=Vw hR'
    subst e0 e1 e2 e3
    clear hR' hkk hR
    have d0:=cell_below hbw d0
    have d1:=cell_below hbw d1
    have d2:=cell_below hbw d2
    have d3:=cell_below hbw d3
    have hws:w.heap.size<wr.heap.size:=(Array.getElem?_eq_some_iff.1 hz).1
    have hts:=Nd.txts_take nm ks k ks[k] (ge_ hlt2)
    have htl:=Nd.txts_len nm ks (k+1)
    rw[hts,List.length_append,List.length_cons]at htl
    have hbw5:=hbw.alloc hbw.size (.cells #[.int .i64 s',.int .i64 p',.int .i64 a',.slice ao' ks'.length cap'] 46)
    have hbd5:=hbd.alloc (.cells #[.int .i64 s',.int .i64 p',.int .i64 a',.slice ao' ks'.length cap'] 46)
    have hz5:=(Lib.alloc_old wr (.cells #[.int .i64 s',.int .i64 p',.int .i64 a',.slice ao' ks'.length cap'] 46) _ hws).trans hz
    have hy5:=heap_alloc_new wr (.cells #[.int .i64 s',.int .i64 p',.int .i64 a',.slice ao' ks'.length cap'] 46)
    have hok5:=hok.alloc (.cells #[.int .i64 s',.int .i64 p',.int .i64 a',.slice ao' ks'.length cap'] 46)
    go_wp2_with (go_at_call 96;go_loud (refine(Zm _ _ _ _ _ hbd5 (by rw[sz1,List.length_append,Lib.byteCells_length,List.length_append,List.length_cons];omega) hbw5.size).mono ?_))
    rintro e w6 rfl h6 b6 k6
    replace h6:Lib.BuilderAtF 145 5 W.heap.size b (.pointer (some ⟨b,0,none⟩)) (bs++Lib.byteCells (40::nm s++Nd.txts nm (ks.take k)++[32])) w6:=by simpa[sc1,Lib.byteCells]using h6
    have hz6:=k6 _ _ hz5 (nb _ (Nat.le_refl _)) (nt (by decide))
    have hy6:=k6 _ _ hy5 (nb _ o_) (nt (by decide))
    have hbw6:=hbw5.trans b6
    have hbv6:=(hbv.alloc hbw.size (.cells #[.int .i64 s',.int .i64 p',.int .i64 a',.slice ao' ks'.length cap'] 46)).trans b6
    have hok6:=hok5.trans k6
    clear hbw5 hbd5 hz5 hy5 hok5 d0 d1 d2 d3 b6 k6
    have u0:w6.cell? ⟨w.heap.size,0,none⟩=some g0:=by rw[Lib.cell_of_heap hz6];rfl
    have u1:w6.cell? ⟨w.heap.size,1,none⟩=some g1:=by rw[Lib.cell_of_heap hz6];rfl
    have u2:w6.cell? ⟨w.heap.size,2,none⟩=some g2:=by rw[Lib.cell_of_heap hz6];rfl
    have u3:w6.cell? ⟨w.heap.size,3,none⟩=some g3:=by rw[Lib.cell_of_heap hz6];rfl
    have u4:w6.cell? ⟨w.heap.size,4,none⟩=some g4:=by rw[Lib.cell_of_heap hz6];rfl
    have v0:w6.cell? ⟨wr.heap.size,0,none⟩=some (.int .i64 s'):=by rw[Lib.cell_of_heap hy6];rfl
    have v1:w6.cell? ⟨wr.heap.size,1,none⟩=some (.int .i64 p'):=by rw[Lib.cell_of_heap hy6];rfl
    have v2:w6.cell? ⟨wr.heap.size,2,none⟩=some (.int .i64 a'):=by rw[Lib.cell_of_heap hy6];rfl
    have v3:w6.cell? ⟨wr.heap.size,3,none⟩=some (.slice ao' ks'.length cap'):=by rw[Lib.cell_of_heap hy6];rfl
    go_wp2_with (go_at_call 78;go_loud (refine(IH ks[k] (List.getElem_mem hlt2) hR0 hbw6 (Or.inr h6) (by rw[List.length_append,Lib.byteCells_length,List.length_append,List.length_append,List.length_cons,List.length_singleton];omega)).mono ?_))
    rintro e w7 ⟨rfl,h7,b7,k7⟩
    clear u0 u1 u2 u3 u4 v0 v1 v2 v3
    go_wp2
    go_roundw
    case rel=>
     refine⟨k+1,o_,by go_num,?_,⟨hbw6.trans b7,hbv6.trans b7⟩,hok6.trans k7,k7 _ _ hz6 (nb _ (Nat.le_refl _)) (nt (by decide))⟩
     rw[hts]
     rw[List.append_assoc,← Lib.byteCells_append]at h7
     simpa using h7
    case measure=>simp[intOf];omega
  · have ek:ks.take k=ks:=List.take_of_length_le o_
    rw[ek]at hbd
    obtain rfl:k=ks.length:=o_
    go_wp2_with (go_at_call 96;go_loud (refine(Zm _ _ _ _ _ hbd (by rw[sz1,List.length_append,Lib.byteCells_length,List.length_append,List.length_cons];omega) hbw.size).mono ?_))
    rintro e w6 ⟨rfl,h6,b6,k6⟩
    rw[sc1,List.append_assoc,← Lib.byteCells_append]at h6
    go_wp2
    go_end0
    exact⟨rfl,Or.inr (by simpa using h6),hbv.trans b6,hok.trans k6⟩
end Go.Proofs

namespace Go.Proofs
open Go.E Go.RowKit
mutual
def Nd.NmAll (Q:Int→Prop):Nd→Prop
 |.mk s _ _ ks=>Q s∧Nd.NmAlls Q ks
def Nd.NmAlls (Q:Int→Prop):List Nd→Prop
 |[]=>True
 |k::r=>k.NmAll Q∧Nd.NmAlls Q r
end
theorem Nd.NmAlls_mem {Q:Int→Prop}: ∀{ks:List Nd},Nd.NmAlls Q ks→ ∀k∈ks,k.NmAll Q
 |[],_,k,h=>by simp at h
 | x::r,h,k,hk=>by
   rcases List.mem_cons.1 hk with rfl|hk
   · exact h.1
   · exact Nd.NmAlls_mem h.2 k hk
theorem K5 {nm:Int→List UInt8} {g:Grammar} {W:World} {lim:Nat→Option Nat} (hG:Go.E.GOk Tryz.prog W lim) {g0 g1 g2 g3 g4:Value} (hg:R noβ W lim g.V (.agg #[g0,g1,g2,g3,g4])) {b:Nat}:
 ∀(n:Nat) (t:Nd),t.size≤n→n≤1000000000→t.NmAll (fun s=>Go.E.Pure Tryz.prog 97 [g.V,vi s] (.str (nm s)))→ ∀{r:Value} {bs:List Value} {w:World},R noβ W lim t.V r→Below W.heap.size W w→Lib.IsBuilderF 145 5 W.heap.size b bs w→bs.length+(t.txt nm).length≤140737488355328→
  Calls Tryz.prog 78 #[.agg #[g0,g1,g2,g3,g4],r,.pointer (some ⟨b,0,none⟩)] w (qb0 W.heap.size b bs (t.txt nm) w)
 |0,t,hn,_,_,r,bs,w,_,_,_,_=>by cases t;simp only[Nd.size]at hn;omega
 | n +1,.mk s p a ks,hn,hm,hq,r,bs,w,hr,hb,h,hl=>by
   obtain ⟨rk,rfl,hk⟩:=qe1 hr
   rw[Nd.size]at hn
   by_cases hp:p= -1
   · subst hp
     have e:(Nd.mk s (-1) a ks).txt nm=nm s:=by rw[Nd.txt,if_pos rfl]
     rw[e]at hl ⊢
     exact qcI hG hg hq.1 hb h (h.elim (fun x=>x.lt) (fun x=>x.lt)) hl
   · have hlen:ks.length≤Nd.sizes ks:=Nd.sizes_len ks
     refine qcu hG hg hp hk hq.1 (fun k hk=>?_) hb h hl o_
     intro r0 r1 r2 r3 bs w hr hb h hl
     obtain ⟨i,hi,e⟩:=List.mem_iff_getElem.1 hk
     have:=Nd.sizes_get (ge_ hi)
     rw[e]at this
     exact K5 hG hg n k o_ o_ (Nd.NmAlls_mem hq.2 k hk) hr hb h hl
theorem qnV {W:World} {lim:Nat→Option Nat} {cs:List V} {r:Value} (h:R noβ W lim (.agg cs) r): ∃rs,r=.agg rs∧rs.size=cs.length:=by
 have gen: ∀v,R noβ W lim v r→v=.agg cs→ ∃rs,r=.agg rs∧rs.size=cs.length:=fun v h e=>by
  cases h<;>try(cases e;done)
  rename_i hl _ _
  injection e with e
  subst e
  exact⟨_,rfl,hl⟩
 exact gen _ h rfl
theorem qtZ {W:World} {lim:Nat→Option Nat} {g:Grammar} {r:Value} (h:R noβ W lim g.V r): ∃g0 g1 g2 g3 g4,r=.agg #[g0,g1,g2,g3,g4]:=by
 obtain ⟨⟨l⟩,rfl,hl⟩:=qnV h
 match l,hl with
 |[a,b,c,d,e],_=>exact⟨a,b,c,d,e,rfl⟩
theorem KN {nm:Int→List UInt8} {g:Grammar} {t:Nd} {m:Bool} (hb:t.size≤1000000000) (hM:Go.E.Pure Tryz.prog 53 [g.V,t.V] (.bool m)) (hq:m=true→t.NmAll (fun s=>Go.E.Pure Tryz.prog 97 [g.V,vi s] (.str (nm s))))
 (hl:m=true→(t.txt nm).length≤140737488355328):Go.E.Pure Tryz.prog 50 [g.V,t.V] (.str (if m then t.txt nm else[])):=by
 refine⟨⟨Tryz.f50,Tryz.func50,by kernel_rfl,by kernel_rfl⟩,fun w lim ra hG hR=>?_⟩
 obtain ⟨h2,hR⟩:=hR
 obtain ⟨rg,rt,rfl⟩: ∃rg rt,ra= #[rg,rt]:=by
  rcases ra with ⟨l⟩
  match l,h2 with
  |[x,y],_=>exact⟨x,y,rfl⟩
 have hRg:=hR 0 _ rg rfl rfl
 have hRt:=hR 1 _ rt rfl rfl
 obtain ⟨g0,g1,g2,g3,g4,rfl⟩:=qtZ hRg
 have hRt0:=hRt
 cases t with
 |mk s p a ks=>
 obtain ⟨rk,rfl,hk⟩:=qe1 hRt0
 have hMc: ∀w',Below w.heap.size w w'→Calls Tryz.prog 53 #[.agg #[g0,g1,g2,g3,g4],.agg #[.int .i64 s,.int .i64 p,.int .i64 a,rk]] w' fun e w''=>e=.returned (.bool m)∧Below w'.heap.size w' w'':=fun w' hb'=>
  (hM.2 w' lim _ (hG.mono (Zj hb') (xU.refl _ _)) (rs2 (XL hRg hb') (XL hRt hb'))).mono fun e w'' ⟨r,h1,h2,h3⟩=>by
   cases h3
   exact⟨h1,h2⟩
 obtain ⟨ao,cap,rfl,_⟩:=Vw hk
 have b1:Below w.heap.size w ((w.alloc (.cells #[g0,g1,g2,g3,g4] 38)).alloc (.cells #[.int .i64 s,.int .i64 p,.int .i64 a,.slice ao ks.length cap] 46)):=((Below.refl _ w).alloc (Nat.le_refl _) _).alloc (by simp) _
 go_enter Tryz.func50,Tryz.ntmps50
 go_wp2_with (go_at_call 53;go_loud (refine(hMc _ b1).mono ?_))
 rintro e w2 ⟨rfl,b2⟩
 have hb2:=b1.trans (zM b2 b1.size)
 have x0:((w.alloc (.cells #[g0,g1,g2,g3,g4] 38)).alloc (.cells #[.int .i64 s,.int .i64 p,.int .i64 a,.slice ao ks.length cap] 46)).heap[w.heap.size]?=some (.cells #[g0,g1,g2,g3,g4] 38 (0,0)):=by
  rw[Lib.alloc_old _ _ _ (by simp)];exact heap_alloc_new w _
 have x1:((w.alloc (.cells #[g0,g1,g2,g3,g4] 38)).alloc (.cells #[.int .i64 s,.int .i64 p,.int .i64 a,.slice ao ks.length cap] 46)).heap[w.heap.size+1]?=some (.cells #[.int .i64 s,.int .i64 p,.int .i64 a,.slice ao ks.length cap] 46 (0,0)):=by
  have:=heap_alloc_new (w.alloc (.cells #[g0,g1,g2,g3,g4] 38)) (.cells #[.int .i64 s,.int .i64 p,.int .i64 a,.slice ao ks.length cap] 46)
  simpa using this
 have y0:=(b2.block _ (Array.getElem?_eq_some_iff.1 x0).1).trans x0
 have y1:=(b2.block _ (Array.getElem?_eq_some_iff.1 x1).1).trans x1
 have hG2:=hG.mono (Zj hb2) (xU.refl _ _)
 have hg2:=XL hRg hb2
 have ht2:=XL hRt hb2
 clear x0 x1 b1 b2 hMc
 cases m with
 | false=>
   go_wp2
   go_ret
   exact⟨_,rfl,hb2,.str []⟩
 | true=>
   have h0:=Lib.IsBuilderF.of (Lib.fresh_isBuilder 145 5 w2)
   have b3:Below w2.heap.size w2 (w2.alloc (.cells #[.pointer none,.slice none 0 0] 145)):=(Below.refl _ w2).alloc (Nat.le_refl _) _
   have y0:=(Lib.alloc_old w2 (.cells #[.pointer none,.slice none 0 0] 145) _ (Array.getElem?_eq_some_iff.1 y0).1).trans y0
   have y1:=(Lib.alloc_old w2 (.cells #[.pointer none,.slice none 0 0] 145) _ (Array.getElem?_eq_some_iff.1 y1).1).trans y1
   have u0:(w2.alloc (.cells #[.pointer none,.slice none 0 0] 145)).cell? ⟨w.heap.size,0,none⟩=some g0:=by rw[Lib.cell_of_heap y0];rfl
   have u1:(w2.alloc (.cells #[.pointer none,.slice none 0 0] 145)).cell? ⟨w.heap.size,1,none⟩=some g1:=by rw[Lib.cell_of_heap y0];rfl
   have u2:(w2.alloc (.cells #[.pointer none,.slice none 0 0] 145)).cell? ⟨w.heap.size,2,none⟩=some g2:=by rw[Lib.cell_of_heap y0];rfl
   have u3:(w2.alloc (.cells #[.pointer none,.slice none 0 0] 145)).cell? ⟨w.heap.size,3,none⟩=some g3:=by rw[Lib.cell_of_heap y0];rfl
   have u4:(w2.alloc (.cells #[.pointer none,.slice none 0 0] 145)).cell? ⟨w.heap.size,4,none⟩=some g4:=by rw[Lib.cell_of_heap y0];rfl
   have v0:(w2.alloc (.cells #[.pointer none,.slice none 0 0] 145)).cell? ⟨w.heap.size+1,0,none⟩=some (.int .i64 s):=by rw[Lib.cell_of_heap y1];rfl
   have v1:(w2.alloc (.cells #[.pointer none,.slice none 0 0] 145)).cell? ⟨w.heap.size+1,1,none⟩=some (.int .i64 p):=by rw[Lib.cell_of_heap y1];rfl
   have v2:(w2.alloc (.cells #[.pointer none,.slice none 0 0] 145)).cell? ⟨w.heap.size+1,2,none⟩=some (.int .i64 a):=by rw[Lib.cell_of_heap y1];rfl
   have v3:(w2.alloc (.cells #[.pointer none,.slice none 0 0] 145)).cell? ⟨w.heap.size+1,3,none⟩=some (.slice ao ks.length cap):=by rw[Lib.cell_of_heap y1];rfl
   clear y0 y1
   have hq':=hq rfl
   have hl':([]:List Value).length+((Nd.mk s p a ks).txt nm).length≤140737488355328:=by have:=hl rfl;simpa using this
   clear hq hl
   go_wp2_with (go_at_call 78;go_loud (refine(K5 hG2 hg2 _ (.mk s p a ks) (Nat.le_refl _) hb hq' ht2 b3 h0 hl').mono ?_))
   rintro e w4 ⟨rfl,h4,b4,k4⟩
   have h4':Lib.IsBuilderF 145 5 w2.heap.size w2.heap.size (Lib.byteCells ((Nd.mk s p a ks).txt nm)) w4:=by simpa using h4
   have b34:=b3.trans b4
   clear u0 u1 u2 u3 u4 v0 v1 v2 v3 h4 h0
   go_wp2_with (go_at_call 79;go_loud (refine(qcH _ _ _ _ h4' b34.size).mono ?_))
   rintro e w5 ⟨rfl,_,b5⟩
   go_wp2
   go_ret
   exact⟨_,rfl,hb2.trans (zM (b34.trans b5) hb2.size),.str _⟩
end Go.Proofs
