/- Part of a proof that a law of the given program answers true. -/
import Derived.Test.YtjdjdbkoplmjeaaGreatDoorQEC
import Derived.Sort.Grow
import Derived.Shelf.SlSortCmp.Kit1
import Derived.Sort.AssemblyPlain
import Derived.Test.YtjdjdbkoplmjeaaGreatDoorQCA
import Derived.Shelf.SlGeneric
import Derived.Shelf.Sort.Plain
import Derived.Ground.Names2Prog
import Derived.Ground.NamesProg
import Derived.Shelf.Slices.Clone
import Derived.Shelf.SlSortCmp.Whole1
import Derived.Shelf.Small.Wraps
import Derived.Ground.SlsfProg
import Derived.Deep.QuietTactic
import Derived.BigQuiet
import Derived.WalkKit
set_option linter.unusedSimpArgs false
set_option linter.unusedVariables false
set_option maxHeartbeats 4000000
namespace Go.Proofs
open Go.E Go.Sort Go.Lib Go.RowKit
theorem R.msl_inv {β:Nat→Option E.Loc} {w:World} {lim:Nat→Option Nat} {v:V} {r:Value} (h:R β w lim v r) {id sz off len:Nat} (e:v=.msl id sz off len) (hl:0<len):
 ∃l cap,β id=some l∧l.size=sz∧r=.slice (some ⟨l.b,l.o+off *sz,none⟩) len cap:=by
 cases h<;>cases e
 · omega
 · exact⟨_,_,by assumption,rfl,rfl⟩
theorem R.int_inv {β:Nat→Option E.Loc} {w:World} {lim:Nat→Option Nat} {v:V} {r:Value} (h:R β w lim v r) {k:IntKind} {n:Int} (e:v=.int k n):r=.int k n:=by
 cases h<;>cases e
 rfl
theorem R.fn_inv {β:Nat→Option E.Loc} {w:World} {lim:Nat→Option Nat} {v:V} {r:Value} (h:R β w lim v r) {f:FuncId} (e:v=.fn f []):r=.func (.func f) #[] #[]:=by
 cases h<;>cases e
 rename_i rs hl _
 have:rs= #[]:=Array.eq_empty_of_size_eq_zero hl
 rw[this]
theorem K6 {α:Type} [Inhabited α] {β:Nat→Option E.Loc} {w w':World} {lim:Nat→Option Nat} {H:Nat→Option MObj} {next base id:Nat} (hR:RelH H next β lim base w) {es:List V} (hH:H id=some (.own 1 es false))
 {l:E.Loc} (hβ:β id=some l) (hpos:0<es.length) {enc:α→Value} {v:α→V} {d:Array α} (hd:d.size=es.length)
 (hv: ∀x∈d.toList,(v x).cells=[v x]∧(v x).scalar=true∧R β w lim (v x) (enc x)) {n:Nat} {os:Array Obj} (hw:w'=grow (putRow enc (Sort.ahead w n) l.b l.o d) os):
 RelH (fun j=>if j=id then some (.own 1 (d.toList.map v) false)else H j) next β lim base w'∧Ext lim w w'∧RowKit.Below base w w':=by
 rcases hR.obj id _ hH with ⟨h1,h0⟩|⟨l',cur,et,h1,h2,h3,h4,h5,h6,h7⟩
 · rw[h1]at hβ;cases hβ
 · rw [hβ]at h1
   cases h1
   rw[Nat.mul_one]at h4
   have hlb:l.b<w.heap.size:=(hR.own id l hβ).2
   have hid:id<next:=by
    rcases Nat.lt_or_ge id next with h|h
    · exact h
    · have:=(hR.fresh id h).2;rw[hH]at this;cases this
   have at_:w'.heap[l.b]?=some (.cells (putCells enc l.o d cur) et (0,0)):=by
    rw[hw,heap_grow_old _ _ (by simpa using hlb)]
    simp[putRow,mapBlock,Sort.ahead,Array.getElem?_modify,h3,onCells]
   have other: ∀k,k<w.heap.size→k≠l.b→w'.heap[k]?=w.heap[k]?:=fun k hk hne=>by
    rw[hw,heap_grow_old _ _ (by simpa using hk)]
    have:l.b≠k:=fun e=>hne e.symm
    simp[putRow,mapBlock,Sort.ahead,Array.getElem?_modify,this]
   have size_:w.heap.size≤w'.heap.size:=by
    rw[hw];simp[grow,putRow,mapBlock,Sort.ahead]
   have psz:(putCells enc l.o d cur).size=cur.size:=by simp[putCells]
   have s123:w'.os=w.os∧w'.tape=w.tape∧w'.output=w.output:=by subst hw;exact⟨rfl,rfl,rfl⟩
   obtain ⟨s1,s2,s3⟩:=s123
   have hlim:lim l.b=some 0:=by simpa using h5
   have hext:Ext lim w w':=⟨size_,fun b c e fz hb=>by
    by_cases hbl:b=l.b
    · subst hbl
      rw[h3]at hb
      cases hb
      refine⟨_,_,_,at_,psz,fun i hi=>?_⟩
      unfold vZ at hi
      rw[hlim]at hi
      simp at hi
    · have hlt:b<w.heap.size:=(Array.getElem?_eq_some_iff.1 hb).1
      exact⟨c,e,fz,(other b hlt hbl).trans hb,rfl,fun _ _=>rfl⟩⟩
   have hbe:RowKit.Below base w w':=⟨s1,s2,s3,size_,fun k hk=>other k (Nat.lt_of_lt_of_le hk hR.base_le) (by have:=(hR.own id l hβ).1;omega)⟩
   have hgr:Grows β β lim lim base w w':=⟨fun _ _ h=>h,hext,xU.refl _ _,hbe,fun _ _=>rfl⟩
   refine⟨?_,hext,hbe⟩
   refine hR.step hgr (Nat.le_refl _) (id:=id) (tb:=l.b) hid (fun b hb hne=>⟨other b hb hne,rfl⟩) (fun _ _=>rfl) (fun j o hj h=>by rwa [if_neg hj]at h) (fun j o l2 hj h hβ2 e=>?_) (fun o h=>?_) (fun l2 h=>?_) (fun o l2 h h2=>?_)
   · rw[if_neg hj]at h
     exact hj (hR.uniq j id o _ l2 l h hH hβ2 hβ e)
   · rw [if_pos rfl]at h
     cases h
     refine .inr ⟨l,_,et,hβ,h2,at_,by rw[psz,List.length_map,Array.length_toList,hd];omega,by simpa using hlim,fun e he=>?_,fun i j e c he hcj=>?_⟩
     · obtain ⟨x,hx,rfl⟩:=List.mem_map.1 he
       obtain ⟨e1,e2,_⟩:=hv x hx
       rw[e1]
       exact⟨rfl,fun c hc=>by simp at hc;subst hc;exact e2⟩
     · rw[List.getElem?_map,Option.map_eq_some_iff]at he
       obtain ⟨x,hx1,rfl⟩:=he
       have hi:i<d.size:=by have:=(List.getElem?_eq_some_iff.1 hx1).1;simpa using this
       obtain ⟨e1,e2,e3⟩:=hv x (List.mem_of_getElem? hx1)
       rw[e1]at hcj
       have hj0:j=0∧c=v x:=by
        cases j with
        |zero=>exact⟨rfl,by simpa using hcj.symm⟩
        |succ j=>simp at hcj
       obtain ⟨rfl,rfl⟩:=hj0
       refine⟨enc x,?_,hgr.R e3⟩
       rw[Nat.mul_one,Nat.add_zero]
       have hc1:l.o+i<cur.size:=o_
       have hz2:d[i]! =x:=by
        rw[getElem!_pos d i hi]
        have:=(List.getElem?_eq_some_iff.1 hx1).2
        simpa using this
       simp only[putCells,Array.getElem?_mapIdx,Array.getElem?_eq_getElem hc1,Option.map_some]
       rw[if_pos o_,show l.o+i - l.o=i by omega,hz2]
   · rw[hβ]at h
     cases h
     exact⟨(hR.own id l hβ).1,Nat.lt_of_lt_of_le hlb size_⟩
   · rw[hβ]at h2
     cases h2
     rfl
abbrev qcT (zs:List Int):List Int:=zs.mergeSort fun x y=>decide (x≤y)
theorem qa6 {P:Program} [Glob P] {f:FuncId} (hE:E.Enters P f)
 (hc: ∀(blk off cap:Nat) (zs:List Int) (w:World),Holds (Value.int .i64) w blk off zs.toArray→blk<w.heap.size→zs.length<4611686018427387904→
  Calls P f #[.slice (some ⟨blk,off,none⟩) zs.length cap] w fun e w'=>e=.returned (.tuple #[])∧ ∃n os,w'=grow (putRow (Value.int .i64) (Sort.ahead w n) blk off (qcT zs).toArray) os)
 {H:Nat→Option MObj} {next id:Nat} {zs:List Int} (hH:H id=some (.own 1 (zs.map (V.int .i64)) false)) (hn:0<zs.length) (hz:zs.length<4611686018427387904):
 qJ P f [.msl id 1 0 zs.length] H next fun v H' n'=>v=.tup []∧n'=next∧H' id=some (.own 1 ((qcT zs).map (V.int .i64)) false)∧ ∀j,j≠id→H' j=H j:=by
 have hlen:(qcT zs).length=zs.length:=List.length_mergeSort _
 refine⟨.tup [],fun j=>if j=id then some (.own 1 ((qcT zs).map (V.int .i64)) false)else H j,next,⟨rfl,rfl,if_pos rfl,fun j hj=>if_neg hj⟩,⟨⟨hE,_,_,_,rfl,rfl,rfl⟩,fun w β lim base ra hg hR hra=>?_⟩⟩
 obtain ⟨hsz,hrs⟩:=hra
 obtain ⟨r,rfl⟩: ∃r,ra= #[r]:=by
  rcases ra with ⟨l⟩
  match l,hsz with
  |[r],_=>exact⟨r,rfl⟩
 obtain ⟨l,cap,hβ,hls,rfl⟩:=R.msl_inv (hrs 0 _ r rfl rfl) rfl hn
 rw[Nat.zero_mul,Nat.add_zero]
 rcases hR.obj id _ hH with ⟨h1,_⟩|⟨l',cur,et,h1,h2,h3,h4,h5,h6,h7⟩
 · rw[h1]at hβ;cases hβ
 · rw[hβ]at h1
   cases h1
   rw[List.length_map,Nat.mul_one]at h4
   have hlb:l.b<w.heap.size:=(hR.own id l hβ).2
   have holds:Holds (Value.int .i64) w l.b l.o zs.toArray:=fun j hj=>by
    have hj':j<zs.length:=by simpa using hj
    obtain ⟨r,hr,hRr⟩:=h7 j 0 (.int .i64 zs[j]) (.int .i64 zs[j]) (by rw[List.getElem?_map,ge_ hj'];rfl) rfl
    rw[Nat.mul_one,Nat.add_zero,R.int_inv hRr rfl]at hr
    refine⟨?_,by simp[World.frozen?,h3]⟩
    simp only[World.cell?,h3]
    simp[hr,hj']
   refine(hc l.b l.o cap zs w holds hlb hz).mono ?_
   rintro e w' ⟨rfl,n,os,hw⟩
   obtain ⟨k1,k2,k3⟩:=K6 hR hH hβ (by simpa using hn) (v:=V.int .i64) (d:=(qcT zs).toArray) (by simp[hlen]) (fun x _=>⟨rfl,rfl,.int _ _⟩) hw
   refine⟨.tuple #[],.tup [],_,next,β,lim,rfl,⟨rfl,rfl,rfl⟩,k1,.tup [] #[] rfl (by simp),fun _ _ h=>h,k2,xU.refl _ _,k3,Nat.le_refl _,fun _ _=>rfl,fun j hj h=>?_,fun _ _=>rfl⟩
   have hne:j≠id:=fun e=>by subst e;rw[hH]at h;cases h
   rw[if_neg hne];exact h
theorem Kc {P:Program} [Glob P] {f:FuncId} (hE:E.Enters P f) (ty:TypeId)
 (hc: ∀(b off n c:Nat) (zs:List Int) (w:World),n≤zs.length→n *8≤140737488355328→(∀j,j<zs.length→w.cell? ⟨b,off+j,none⟩=some (.int .i64 (zs.getD j 0)))→
  Calls P f #[.slice (some ⟨b,off,none⟩) n c] w fun e w'=> ∃v',e=.returned v'∧w'.ownsRow w.heap.size ty 1 v' n ((zs.take n).map (Value.int .i64))∧v'≠ .slice none 0 0∧RowKit.Below w.heap.size w w')
 {H:Nat→Option MObj} {next id off len:Nat} {zs:List Int} {ro:Bool} (hH:H id=some (.own 1 (zs.map (V.int .i64)) ro)) (hn:0<len) (hle:off+len≤zs.length) (hz:len≤17592186044416):
 qJ P f [.msl id 1 off len] H next fun v H' n'=>v=.msl next 1 0 len∧n'=next+1∧H' next=some (.own 1 (((zs.drop off).take len).map (V.int .i64)) false)∧ ∀j,j≠next→H' j=H j:=by
 refine⟨.msl next 1 0 len,qM H next (some (.own 1 (((zs.drop off).take len).map (V.int .i64)) false)),next+1,⟨rfl,rfl,qi _ _ _,fun j hj=>qy _ _ hj⟩,⟨⟨hE,_,_,_,rfl,rfl,rfl⟩,fun w β lim base ra hg hR hra=>?_⟩⟩
 obtain ⟨hsz,hrs⟩:=hra
 obtain ⟨r,rfl⟩: ∃r,ra= #[r]:=by
  rcases ra with ⟨l⟩
  match l,hsz with
  |[r],_=>exact⟨r,rfl⟩
 obtain ⟨l,cap,hβ,hls,rfl⟩:=R.msl_inv (hrs 0 _ r rfl rfl) rfl hn
 rcases hR.obj id _ hH with ⟨h1,_⟩|⟨l',cur,et,h1,h2,h3,h4,h5,h6,h7⟩
 · rw[h1]at hβ;cases hβ
 · rw [hβ] at h1
   cases h1
   have cell: ∀j,j<(zs.drop off).length→w.cell? ⟨l.b,l.o+off *1+j,none⟩=some (.int .i64 ((zs.drop off).getD j 0)):=fun j hj=>by
    have hj':off+j<zs.length:=by simp at hj;omega
    obtain ⟨r,hr,hRr⟩:=h7 (off+j) 0 (.int .i64 zs[off+j]) (.int .i64 zs[off+j]) (by rw[List.getElem?_map,ge_ hj'];rfl) rfl
    rw[Nat.mul_one,Nat.add_zero,R.int_inv hRr rfl]at hr
    simp only[World.cell?,h3]
    rw[Nat.mul_one,Nat.add_assoc]
    simp[hr,hj',List.getD,List.getElem?_drop]
   refine(hc l.b _ len cap (zs.drop off) w (by simp;omega) o_ cell).mono ?_
   rintro e w' ⟨v',rfl,⟨ho1,ho2⟩,hne,hbel⟩
   rcases ho2 with ⟨rfl,_⟩|⟨g,cap',cur',rfl,hg1,hg2,hg3,hg4,hg5,hg6⟩
   · exact absurd rfl hne
   · rw [Nat.mul_one]at hg5 hg6
     have hgs:g<w'.heap.size:=(Array.getElem?_eq_some_iff.1 hg2).1
     have hf:=hR.fresh next (Nat.le_refl _)
     have hgr:Grows β (qM β next (some ⟨g,0,1⟩)) lim (qM lim g (some 0)) base w w':=⟨fun j l2 h=>by
      by_cases hj:j=next
      · subst hj;rw[hf.1]at h;cases h
      · rw[qy _ _ hj];exact h,
      ⟨hbel.size,fun b c e fz hb=>⟨c,e,fz,(hbel.block b (Array.getElem?_eq_some_iff.1 hb).1).trans hb,rfl,fun _ _=>rfl⟩⟩,
      fun b i hb hs=>by unfold vZ at *;rw[qy _ _ o_];exact hs,
      hbel.mono hR.base_le,fun b hb=>qy _ _ (by have:=hR.base_le;omega)⟩
     have hlen:((zs.drop off).take len).length=len:=by simp;omega
     refine⟨_,.msl next 1 0 len,_,next+1,qM β next (some ⟨g,0,1⟩),qM lim g (some 0),rfl,⟨rfl,rfl,rfl⟩,?_,?_,hgr.β,hgr.ext,hgr.limLe,hgr.below,o_,fun j hj=>qy _ _ o_,fun j hj h=>by rw[qy _ _ o_];exact h,hgr.old⟩
     · refine hR.step hgr o_ (id:=next) (tb:=g) o_ (fun b hb hne=>⟨hbel.block b hb,qy _ _ hne⟩) (fun j hj=>qy _ _ hj) (fun j o hj h=>by rwa [qy _ _ hj]at h) (fun j o l2 hj h hβ2=>?_) (fun o h=>?_) (fun l2 h=>?_) (fun o l2 h h2=>?_)
       · have:=(hR.own j l2 hβ2).2;omega
       · rw [qi]at h
         cases h
         refine .inr ⟨⟨g,0,1⟩,cur',ty,qi _ _ _,rfl,hg2,by simp;omega,qi _ _ _,fun e he=>?_,fun i j e c he hcj=>?_⟩
         · obtain ⟨x,hx,rfl⟩:=List.mem_map.1 he
           exact⟨rfl,fun c hc=>by simp[V.cells]at hc;subst hc;rfl⟩
         · rw[List.getElem?_map,Option.map_eq_some_iff]at he
           obtain ⟨x,hx1,rfl⟩:=he
           have hj0:j=0∧c=.int .i64 x:=by
            cases j with
            |zero=>exact⟨rfl,by simpa[V.cells]using hcj.symm⟩
            |succ j=>simp[V.cells]at hcj
           obtain ⟨rfl,rfl⟩:=hj0
           refine⟨.int .i64 x,?_,.int _ _⟩
           have hi:=(List.getElem?_eq_some_iff.1 hx1).1
           have e1:(cur'.toList.take len)[i]?=some (Value.int .i64 x):=by rw[hg6,List.getElem?_map,hx1];rfl
           rw[List.getElem?_take_of_lt o_]at e1
           simpa using e1
       · rw[qi]at h
         cases h
         exact⟨Nat.le_trans hR.base_le hg1,hgs⟩
       · rw[qi]at h2
         cases h2
         rfl
     · have:=R.msl (β:=qM β next (some ⟨g,0,1⟩)) (w:=w') (lim:=qM lim g (some 0)) next 0 len ⟨g,0,1⟩ cap' (qi _ _ _) hg3 hg4 (by
        show 0+(0+cap') *1≤zF w' g
        simp only[E.zF,hg2];omega)
       simpa using this
theorem Kg {P:Program} [Glob P] {f g:FuncId} (hE:E.Enters P f)
 (hc: ∀(enc:Nat→Value) (h1:OneCell enc) (cf:Nat→Nat→Int) (hO:SWO (ltOf cf)) (blk off cap:Nat) (d:Array Nat) (w:World),CmpLays1 P g #[] enc cf blk off d.size w→Holds enc w blk off d→blk<w.heap.size→d.size<4611686018427387904→
  Calls P f #[.slice (some ⟨blk,off,none⟩) d.size cap,.func (.func g) #[] #[]] w fun e w'=>e=.returned (.tuple #[])∧ ∃n os,w'=sortWorld enc w blk off n (pdq (ltOf cf) d 0 d.size (Lib.bitLen d.size) true true) os)
 (hg: ∀(W:World) (b1 o1 n1 c1 b2 o2 n2 c2:Nat) (x y:Int),0<n1→0<n2→W.cell? ⟨b1,o1,none⟩=some (.int .i64 x)→W.cell? ⟨b2,o2,none⟩=some (.int .i64 y)→
  Calls P g #[.slice (some ⟨b1,o1,none⟩) n1 c1,.slice (some ⟨b2,o2,none⟩) n2 c2] W fun e w'=>e=.returned (.int .i64 (Lib.compareInt x y))∧ ∃q os',w'=grow (W.drewN q) os')
 {H:Nat→Option MObj} {next id:Nat} {es:List V} {key:Nat→Int} (hH:H id=some (.own 1 es false)) (hn:0<es.length) (hz:es.length<4611686018427387904)
 (hes: ∀i e,es[i]?=some e→ ∃(id2 n2:Nat) (ro:Bool) (zs:List Int),e=.msl id2 1 0 n2∧id2≠id∧H id2=some (.own 1 (zs.map (V.int .i64)) ro)∧0<n2∧zs[0]?=some (key i)):
 qJ P f [.msl id 1 0 es.length,.fn g []] H next fun v H' n'=>v=.tup []∧n'=next∧(∃p:List Nat,p.Perm (List.range es.length)∧(p.map key).Pairwise (· ≤ ·)∧H' id=some (.own 1 (p.map fun i=>es.getD i .undef) false))∧ ∀j,j≠id→H' j=H j:=by
 let c:Nat→Nat:=fun i=>if i<es.length then i else 0
 have hcl: ∀i,c i<es.length:=fun i=>by
  show (if i<es.length then i else 0)<_
  split
  · assumption
  · exact hn
 let cf:Nat→Nat→Int:=fun x y=>Lib.compareInt (key (c x)) (key (c y))
 have hlt: ∀x y,ltOf cf x y=decide (key (c x)<key (c y)):=fun x y=>by
  show decide (Lib.compareInt (key (c x)) (key (c y))<0)=_
  unfold Lib.compareInt
  by_cases h1:key (c x)<key (c y)
  · simp[h1]
  · by_cases h2:key (c y)<key (c x)<;>simp[h1,h2]
 have hO:SWO (ltOf cf):=⟨fun x=>by rw[hlt];simp,fun x y z h1 h2=>by rw[hlt]at *;simp at *;omega,fun x y z h1 h2=>by rw[hlt]at *;simp at *;omega⟩
 let d:Array Nat:=(List.range es.length).toArray
 have hds:d.size=es.length:=by show (List.range es.length).toArray.size=_;simp
 have hdj: ∀j,j<es.length→d[j]! =j:=fun j hj=>by
  rw[getElem!_pos d j o_]
  show (List.range es.length).toArray[j]'_=j
  simp
 obtain ⟨⟨hp1,_,hp3⟩,hs⟩:=pdq_sorts (ltOf cf) hO d 0 d.size (Lib.bitLen d.size) true true (Nat.zero_le _) (Nat.le_refl _) (Or.inl rfl)
 generalize hD:pdq (ltOf cf) d 0 d.size (Lib.bitLen d.size) true true=D at hp1 hp3 hs
 have hperm:D.toList.Perm (List.range es.length):=by
  have e1:(D.extract 0 d.size)=D:=by rw[← hp1];exact Array.extract_size
  have e2:(d.extract 0 d.size)=d:=Array.extract_size
  rw[e1,e2]at hp3
  exact hp3
 have hin: ∀x∈D.toList,x<es.length:=fun x hx=>List.mem_range.1 (hperm.mem_iff.1 hx)
 have hsort:(D.toList.map key).Pairwise (· ≤ ·):=by
  rw[List.pairwise_iff_getElem]
  intro i j hi hj hij
  simp only[List.length_map,Array.length_toList]at hi hj
  have:=hs i j (Nat.zero_le _) hij o_
  rw[hlt,getElem!_pos D j hj,getElem!_pos D i hi]at this
  have c1:c D[j]=D[j]:=if_pos (hin _ (by simp))
  have c2:c D[i]=D[i]:=if_pos (hin _ (by simp))
  rw[c1,c2]at this
  simp at this
  simpa using this
 refine⟨.tup [],fun j=>if j=id then some (.own 1 (D.toList.map fun i=>es.getD i .undef) false)else H j,next,⟨rfl,rfl,⟨D.toList,hperm,hsort,if_pos rfl⟩,fun j hj=>if_neg hj⟩,⟨⟨hE,_,_,_,rfl,rfl,rfl⟩,fun w β lim base ra hg0 hR hra=>?_⟩⟩
 obtain ⟨hsz,hrs⟩:=hra
 obtain ⟨r,r2,rfl⟩: ∃r r2,ra= #[r,r2]:=by
  rcases ra with ⟨l⟩
  match l,hsz with
  |[r,r2],_=>exact⟨r,r2,rfl⟩
 obtain ⟨l,cap,hβ,hls,rfl⟩:=R.msl_inv (hrs 0 _ r rfl rfl) rfl hn
 obtain rfl:=R.fn_inv (hrs 1 _ r2 rfl rfl) rfl
 rw[Nat.zero_mul,Nat.add_zero]
 rcases hR.obj id _ hH with ⟨h1,_⟩|⟨l',cur,et,h1,h2,h3,h4,h5,h6,h7⟩
 · rw[h1]at hβ;cases hβ
 · rw [hβ]at h1
   cases h1
   rw[Nat.mul_one]at h4
   have hlb:l.b<w.heap.size:=(hR.own id l hβ).2
   let enc:Nat→Value:=fun i=>(cur[l.o+c i]?).getD Go.undef
   have hel: ∀i,i<es.length→ ∃r,cur[l.o+i]?=some r∧R β w lim (es.getD i .undef) r∧ ∃b o n cp,r=.slice (some ⟨b,o,none⟩) n cp∧0<n∧b<w.heap.size∧b≠l.b∧w.cell? ⟨b,o,none⟩=some (.int .i64 (key i)):=fun i hi=>by
    obtain ⟨id2,n2,ro,zs,e1,e2,e3,e4,e5⟩:=hes i es[i] (ge_ hi)
    have hgd:es.getD i .undef=es[i]:=by simp[List.getD,hi]
    obtain ⟨r,hr,hRr⟩:=h7 i 0 es[i] es[i] (ge_ hi) (by rw[e1];rfl)
    rw[Nat.mul_one,Nat.add_zero]at hr
    refine⟨r,hr,by rw[hgd];exact hRr,?_⟩
    obtain ⟨l2,cp,hβ2,hl2,rfl⟩:=R.msl_inv hRr e1 e4
    refine⟨l2.b,_,n2,cp,rfl,e4,(hR.own id2 l2 hβ2).2,fun e=>e2 (hR.uniq id2 id _ _ l2 l e3 hH hβ2 hβ e),?_⟩
    rcases hR.obj id2 _ e3 with ⟨q1,_⟩|⟨l3,cur2,et2,q1,q2,q3,q4,q5,q6,q7⟩
    · rw[q1]at hβ2;cases hβ2
    · rw[hβ2]at q1
      cases q1
      obtain ⟨r3,hr3,hR3⟩:=q7 0 0 (.int .i64 (key i)) (.int .i64 (key i)) (by rw[List.getElem?_map,e5];rfl) rfl
      rw[R.int_inv hR3 rfl]at hr3
      simp only[World.cell?,q3]
      simpa using hr3
   have henc: ∀i,i<es.length→cur[l.o+i]?=some (enc i):=fun i hi=>by
    obtain ⟨r,hr,_⟩:=hel i hi
    show _=some ((cur[l.o+c i]?).getD Go.undef)
    rw[show c i=i from if_pos hi,hr];rfl
   have hencE: ∀i,enc i=enc (c i):=fun i=>by
    show (cur[l.o+c i]?).getD Go.undef=(cur[l.o+c (c i)]?).getD Go.undef
    rw[show c (c i)=c i from if_pos (hcl i)]
   have hone:OneCell enc:=fun i=>by
    rw[hencE]
    obtain ⟨r,hr,_,b,o,n,cp,rfl,_⟩:=hel (c i) (hcl i)
    have:=henc (c i) (hcl i)
    rw[hr]at this
    rw[← Option.some.inj this];rfl
   have holds:Holds enc w l.b l.o d:=fun j hj=>by
    have hj':j<es.length:=o_
    rw[hdj j hj']
    refine⟨?_,by simp[World.frozen?,h3]⟩
    simp only[World.cell?,h3]
    exact henc j hj'
   have hcmp:CmpLays1 P g #[] enc cf l.b l.o d.size w:=fun m os dk hdk x y=>by
    obtain ⟨r,hr,_,b1,o1,n1,c1,hr1,p1,p2,p3,p4⟩:=hel (c x) (hcl x)
    obtain ⟨r',hr',_,b2,o2,n2,c2,hr2,s1,s2,s3,s4⟩:=hel (c y) (hcl y)
    have ex:enc x=.slice (some ⟨b1,o1,none⟩) n1 c1:=by
     have:=henc (c x) (hcl x)
     rw[hr,hr1]at this
     rw[hencE];exact(Option.some.inj this).symm
    have ey:enc y=.slice (some ⟨b2,o2,none⟩) n2 c2:=by
     have:=henc (c y) (hcl y)
     rw[hr',hr2]at this
     rw[hencE];exact(Option.some.inj this).symm
    have far: ∀b o,b<w.heap.size→b≠l.b→(sortWorld enc w l.b l.o m dk os).cell? ⟨b,o,none⟩=w.cell? ⟨b,o,none⟩:=fun b o hb hne=>by
     have hhp:(sortWorld enc w l.b l.o m dk os).heap[b]?=w.heap[b]?:=by
      unfold sortWorld
      rw[heap_grow_old _ _ (by simpa using hb)]
      have:l.b≠b:=fun e=>hne e.symm
      simp[putRow,mapBlock,Sort.ahead,Array.getElem?_modify,this]
     simp only[World.cell?,hhp]
    rw[ex,ey]
    exact hg _ b1 o1 n1 c1 b2 o2 n2 c2 (key (c x)) (key (c y)) p1 s1 ((far b1 o1 p2 p3).trans p4) ((far b2 o2 s2 s3).trans s4)
   have hcall:=hc enc hone cf hO l.b l.o cap d w hcmp holds hlb o_
   rw[hD,hds]at hcall
   refine hcall.mono ?_
   rintro e w' ⟨rfl,n,os,hw⟩
   obtain ⟨k1,k2,k3⟩:=K6 hR hH hβ hn (v:=fun i=>es.getD i .undef) (d:=D) o_ (fun x hx=>by
    have hx':=hin x hx
    obtain ⟨r,hr,hRr,_⟩:=hel x hx'
    obtain ⟨id2,n2,ro,zs,e1,_⟩:=hes x es[x] (ge_ hx')
    have hgd:es.getD x .undef=es[x]:=by simp[List.getD,hx']
    have:=henc x hx'
    rw[hr]at this
    refine⟨?_,?_,by rw[← Option.some.inj this];exact hRr⟩
    · show (es.getD x .undef).cells=[es.getD x .undef]
      rw[hgd,e1];rfl
    · show (es.getD x .undef).scalar=true
      rw[hgd,e1];rfl) hw
   refine⟨.tuple #[],.tup [],_,next,β,lim,rfl,⟨rfl,rfl,rfl⟩,k1,.tup [] #[] rfl (by simp),fun _ _ h=>h,k2,xU.refl _ _,k3,Nat.le_refl _,fun _ _=>rfl,fun j hj h=>?_,fun _ _=>rfl⟩
   have hne:j≠id:=fun e=>by subst e;rw[hH]at h;cases h
   rw[if_neg hne];exact h
end Go.Proofs

namespace Go.Proofs
open Go.Shelf
def Tryz.lays189_ren:Go.Shelf.Ren:=⟨fun|189=>121|125=>93|257=>131|128=>111|129=>112|294=>134|295=>135|296=>136|297=>137|298=>138|299=>139|216=>140|300=>141|301=>142|328=>144|329=>123|330=>124|331=>145|332=>146|215=>94|343=>147|n=>n,fun|28=>27|3=>3|46=>160|0=>0|51=>181|53=>88|4=>4|183=>174|182=>173|131=>178|5=>5|9=>9|218=>189|222=>148|228=>199|229=>200|n=>n,fun|n=>n⟩
theorem Tryz.lays189:Go.Proofs.Lays.n189 Tryz.prog Tryz.lays189_ren:={
 mixed:=by kernel_rfl
 f125:=Tryz.func93.trans (congrArg some (by kernel_rfl))
 f128:=Tryz.func111.trans (congrArg some (by kernel_rfl))
 f129:=Tryz.func112.trans (congrArg some (by kernel_rfl))
 f189:=Tryz.func121.trans (congrArg some (by kernel_rfl))
 f215:=Tryz.func94.trans (congrArg some (by kernel_rfl))
 f216:=Tryz.func140.trans (congrArg some (by kernel_rfl))
 f257:=Tryz.func131.trans (congrArg some (by kernel_rfl))
 f294:=Tryz.func134.trans (congrArg some (by kernel_rfl))
 f295:=Tryz.func135.trans (congrArg some (by kernel_rfl))
 f296:=Tryz.func136.trans (congrArg some (by kernel_rfl))
 f297:=Tryz.func137.trans (congrArg some (by kernel_rfl))
 f298:=Tryz.func138.trans (congrArg some (by kernel_rfl))
 f299:=Tryz.func139.trans (congrArg some (by kernel_rfl))
 f300:=Tryz.func141.trans (congrArg some (by kernel_rfl))
 f301:=Tryz.func142.trans (congrArg some (by kernel_rfl))
 f328:=Tryz.func144.trans (congrArg some (by kernel_rfl))
 f329:=Tryz.func123.trans (congrArg some (by kernel_rfl))
 f330:=Tryz.func124.trans (congrArg some (by kernel_rfl))
 f331:=Tryz.func145.trans (congrArg some (by kernel_rfl))
 f332:=Tryz.func146.trans (congrArg some (by kernel_rfl))
 f343:=Tryz.func147.trans (congrArg some (by kernel_rfl))
 t0:=Tryz.underlying0
 a0:=Tryz.isAgg0
 z0:=Tryz.sizeOf0
 v0:=Tryz.zeroValue0
 t3:=Tryz.underlying3
 a3:=Tryz.isAgg3
 z3:=Tryz.sizeOf3
 v3:=Tryz.zeroValue3
 t4:=Tryz.underlying4
 a4:=Tryz.isAgg4
 z4:=Tryz.sizeOf4
 v4:=Tryz.zeroValue4
 t5:=Tryz.underlying5
 a5:=Tryz.isAgg5
 z5:=Tryz.sizeOf5
 v5:=Tryz.zeroValue5
 t9:=Tryz.underlying9
 a9:=Tryz.isAgg9
 z9:=Tryz.sizeOf9
 v9:=Tryz.zeroValue9
 t28:=Tryz.underlying27
 a28:=Tryz.isAgg27
 z28:=Tryz.sizeOf27
 v28:=Tryz.zeroValue27
 t46:=Tryz.underlying160
 a46:=Tryz.isAgg160
 z46:=Tryz.sizeOf160
 v46:=Tryz.zeroValue160
 t51:=Tryz.underlying181
 a51:=Tryz.isAgg181
 z51:=Tryz.sizeOf181
 v51:=Tryz.zeroValue181
 t53:=Tryz.underlying88
 a53:=Tryz.isAgg88
 z53:=Tryz.sizeOf88
 v53:=Tryz.zeroValue88
 t131:=Tryz.underlying178
 a131:=Tryz.isAgg178
 z131:=Tryz.sizeOf178
 v131:=Tryz.zeroValue178
 t182:=Tryz.underlying173
 a182:=Tryz.isAgg173
 z182:=Tryz.sizeOf173
 v182:=Tryz.zeroValue173
 t183:=Tryz.underlying174
 a183:=Tryz.isAgg174
 z183:=Tryz.sizeOf174
 v183:=Tryz.zeroValue174
 t218:=Tryz.underlying189
 a218:=Tryz.isAgg189
 z218:=Tryz.sizeOf189
 v218:=Tryz.zeroValue189
 t222:=Tryz.underlying148
 a222:=Tryz.isAgg148
 z222:=Tryz.sizeOf148
 v222:=Tryz.zeroValue148
 t228:=Tryz.underlying199
 a228:=Tryz.isAgg199
 z228:=Tryz.sizeOf199
 v228:=Tryz.zeroValue199
 t229:=Tryz.underlying200
 a229:=Tryz.isAgg200
 z229:=Tryz.sizeOf200
 v229:=Tryz.zeroValue200}
def Tryz.laysNm215_ren:Go.Shelf.Ren:=⟨fun|15=>120|n=>n,fun|22=>27|3=>3|4=>4|n=>n,fun|n=>n⟩
theorem Tryz.laysNm215:Go.Proofs.Lays2.n15 Tryz.prog Tryz.laysNm215_ren:={
 mixed:=by kernel_rfl
 f15:=Tryz.func120.trans (congrArg some (by kernel_rfl))
 t3:=Tryz.underlying3
 a3:=Tryz.isAgg3
 z3:=Tryz.sizeOf3
 v3:=Tryz.zeroValue3
 t4:=Tryz.underlying4
 a4:=Tryz.isAgg4
 z4:=Tryz.sizeOf4
 v4:=Tryz.zeroValue4
 t22:=Tryz.underlying27
 a22:=Tryz.isAgg27
 z22:=Tryz.sizeOf27
 v22:=Tryz.zeroValue27
 i3:=by kernel_rfl}
def Tryz.sortL_ren:Go.Shelf.Ren:=⟨fun|6=>72|15=>93|14=>92|28=>111|29=>112|20=>103|21=>104|22=>105|23=>106|24=>107|25=>108|26=>109|27=>110|46=>122|47=>123|48=>124|49=>125|50=>126|57=>132|n=>n,fun|22=>26|24=>27|25=>137|3=>3|39=>160|0=>0|53=>181|55=>88|4=>4|46=>174|45=>173|50=>178|5=>5|9=>9|66=>189|70=>148|76=>199|77=>200|n=>n,fun|n=>n⟩
theorem Tryz.sortL:Go.Proofs.SlLaysF.n6 Tryz.prog Tryz.sortL_ren:={
 mixed:=by kernel_rfl
 f6:=⟨Tryz.f72.name,by decide,Tryz.func72.trans (congrArg some (by kernel_rfl))⟩
 f14:=⟨Tryz.f92.name,by decide,Tryz.func92.trans (congrArg some (by kernel_rfl))⟩
 f15:=Tryz.func93.trans (congrArg some (by kernel_rfl))
 f20:=⟨Tryz.f103.name,by decide,Tryz.func103.trans (congrArg some (by kernel_rfl))⟩
 f21:=⟨Tryz.f104.name,by decide,Tryz.func104.trans (congrArg some (by kernel_rfl))⟩
 f22:=⟨Tryz.f105.name,by decide,Tryz.func105.trans (congrArg some (by kernel_rfl))⟩
 f23:=⟨Tryz.f106.name,by decide,Tryz.func106.trans (congrArg some (by kernel_rfl))⟩
 f24:=⟨Tryz.f107.name,by decide,Tryz.func107.trans (congrArg some (by kernel_rfl))⟩
 f25:=⟨Tryz.f108.name,by decide,Tryz.func108.trans (congrArg some (by kernel_rfl))⟩
 f26:=⟨Tryz.f109.name,by decide,Tryz.func109.trans (congrArg some (by kernel_rfl))⟩
 f27:=⟨Tryz.f110.name,by decide,Tryz.func110.trans (congrArg some (by kernel_rfl))⟩
 f28:=Tryz.func111.trans (congrArg some (by kernel_rfl))
 f29:=Tryz.func112.trans (congrArg some (by kernel_rfl))
 f46:=⟨Tryz.f122.name,by decide,Tryz.func122.trans (congrArg some (by kernel_rfl))⟩
 f47:=Tryz.func123.trans (congrArg some (by kernel_rfl))
 f48:=Tryz.func124.trans (congrArg some (by kernel_rfl))
 f49:=⟨Tryz.f125.name,by decide,Tryz.func125.trans (congrArg some (by kernel_rfl))⟩
 f50:=⟨Tryz.f126.name,by decide,Tryz.func126.trans (congrArg some (by kernel_rfl))⟩
 f57:=⟨Tryz.f132.name,by decide,Tryz.func132.trans (congrArg some (by kernel_rfl))⟩
 t0:=Tryz.underlying0
 a0:=Tryz.isAgg0
 z0:=Tryz.sizeOf0
 v0:=Tryz.zeroValue0
 t3:=Tryz.underlying3
 a3:=Tryz.isAgg3
 z3:=Tryz.sizeOf3
 v3:=Tryz.zeroValue3
 t4:=Tryz.underlying4
 a4:=Tryz.isAgg4
 z4:=Tryz.sizeOf4
 v4:=Tryz.zeroValue4
 t5:=Tryz.underlying5
 a5:=Tryz.isAgg5
 z5:=Tryz.sizeOf5
 v5:=Tryz.zeroValue5
 t9:=Tryz.underlying9
 a9:=Tryz.isAgg9
 z9:=Tryz.sizeOf9
 v9:=Tryz.zeroValue9
 t22:=Tryz.underlying26
 a22:=Tryz.isAgg26
 z22:=Tryz.sizeOf26
 v22:=Tryz.zeroValue26
 a24:=Tryz.isAgg27
 z24:=Tryz.sizeOf27
 t25:=Tryz.underlying137
 a25:=Tryz.isAgg137
 z25:=Tryz.sizeOf137
 v25:=Tryz.zeroValue137
 t39:=Tryz.underlying160
 a39:=Tryz.isAgg160
 z39:=Tryz.sizeOf160
 v39:=Tryz.zeroValue160
 t45:=Tryz.underlying173
 a45:=Tryz.isAgg173
 z45:=Tryz.sizeOf173
 v45:=Tryz.zeroValue173
 t46:=Tryz.underlying174
 a46:=Tryz.isAgg174
 z46:=Tryz.sizeOf174
 v46:=Tryz.zeroValue174
 t50:=Tryz.underlying178
 a50:=Tryz.isAgg178
 z50:=Tryz.sizeOf178
 v50:=Tryz.zeroValue178
 t53:=Tryz.underlying181
 a53:=Tryz.isAgg181
 z53:=Tryz.sizeOf181
 v53:=Tryz.zeroValue181
 t55:=Tryz.underlying88
 a55:=Tryz.isAgg88
 z55:=Tryz.sizeOf88
 v55:=Tryz.zeroValue88
 t66:=Tryz.underlying189
 a66:=Tryz.isAgg189
 z66:=Tryz.sizeOf189
 v66:=Tryz.zeroValue189
 t70:=Tryz.underlying148
 a70:=Tryz.isAgg148
 z70:=Tryz.sizeOf148
 v70:=Tryz.zeroValue148
 t76:=Tryz.underlying199
 a76:=Tryz.isAgg199
 z76:=Tryz.sizeOf199
 v76:=Tryz.zeroValue199
 t77:=Tryz.underlying200
 a77:=Tryz.isAgg200
 z77:=Tryz.sizeOf200
 v77:=Tryz.zeroValue200}
def Tryz.cmpL_ren:Go.Shelf.Ren:=⟨fun|122=>74|215=>94|n=>n,fun|3=>3|4=>4|n=>n,fun|n=>n⟩
theorem Tryz.cmpL:Go.Proofs.Lays.n122 Tryz.prog Tryz.cmpL_ren:={
 mixed:=by kernel_rfl
 f122:=Tryz.func74.trans (congrArg some (by kernel_rfl))
 f215:=Tryz.func94.trans (congrArg some (by kernel_rfl))
 t3:=Tryz.underlying3
 a3:=Tryz.isAgg3
 z3:=Tryz.sizeOf3
 v3:=Tryz.zeroValue3
 t4:=Tryz.underlying4
 a4:=Tryz.isAgg4
 z4:=Tryz.sizeOf4
 v4:=Tryz.zeroValue4}
end Go.Proofs

namespace Go.Proofs
open Go.E Go.Sort Go.Lib Go.RowKit Go.Shelf
theorem qal (W:World) (b1 o1 n1 c1 b2 o2 n2 c2:Nat) (x y:Int) (h1:0<n1) (h2:0<n2) (hx:W.cell? ⟨b1,o1,none⟩=some (.int .i64 x)) (hy:W.cell? ⟨b2,o2,none⟩=some (.int .i64 y)):
 Calls Tryz.prog 73 #[.slice (some ⟨b1,o1,none⟩) n1 c1,.slice (some ⟨b2,o2,none⟩) n2 c2] W fun e w'=>e=.returned (.int .i64 (Lib.compareInt x y))∧ ∃q os',w'=grow (W.drewN q) os':=by
 have hcon:=fun W=>Any.cmp_Compare_int Tryz.cmpL x y W
 change ∀W,Calls Tryz.prog 74 _ W _ at hcon
 generalize Lib.compareInt x y=r at hcon ⊢
 go_enter Tryz.func73,Tryz.ntmps73
 go_wp2
 go_quiet ((go_at_call 74;exact Calls.quiet_of_same (hcon _)))
 go_wp2
 go_ret
 exact⟨rfl,_,#[],(grow_empty _).symm⟩
theorem qax {H:Nat→Option MObj} {next id:Nat} {zs:List Int} (hH:H id=some (.own 1 (zs.map (V.int .i64)) false)) (hn:0<zs.length) (hz:zs.length<4611686018427387904):
 qJ Tryz.prog 121 [.msl id 1 0 zs.length] H next fun v H' n'=>v=.tup []∧n'=next∧H' id=some (.own 1 ((qcT zs).map (V.int .i64)) false)∧ ∀j,j≠id→H' j=H j:=
 qa6 ⟨Tryz.f121,Tryz.func121,by kernel_rfl,by kernel_rfl⟩ (fun blk off cap zs w h1 h2 h3=>Any.slices_Sort_int Tryz.lays189 blk off cap zs w h1 h2 h3) hH hn hz
theorem slices_Clone {H:Nat→Option MObj} {next id off len:Nat} {zs:List Int} {ro:Bool} (hH:H id=some (.own 1 (zs.map (V.int .i64)) ro)) (hn:0<len) (hle:off+len≤zs.length) (hz:len≤17592186044416):
 qJ Tryz.prog 120 [.msl id 1 off len] H next fun v H' n'=>v=.msl next 1 0 len∧n'=next+1∧H' next=some (.own 1 (((zs.drop off).take len).map (V.int .i64)) false)∧ ∀j,j≠next→H' j=H j:=
 Kc ⟨Tryz.f120,Tryz.func120,by kernel_rfl,by kernel_rfl⟩ _ (fun b off n c zs w h1 h2 h3=>Any.slices_Clone_int Tryz.laysNm215 b off n c zs w h1 h2 h3) hH hn hle hz
theorem slices_SortFunc {H:Nat→Option MObj} {next id:Nat} {es:List V} {key:Nat→Int} (hH:H id=some (.own 1 es false)) (hn:0<es.length) (hz:es.length<4611686018427387904)
 (hes: ∀i e,es[i]?=some e→ ∃(id2 n2:Nat) (ro:Bool) (zs:List Int),e=.msl id2 1 0 n2∧id2≠id∧H id2=some (.own 1 (zs.map (V.int .i64)) ro)∧0<n2∧zs[0]?=some (key i)):
 qJ Tryz.prog 72 [.msl id 1 0 es.length,.fn 73 []] H next fun v H' n'=>v=.tup []∧n'=next∧(∃p:List Nat,p.Perm (List.range es.length)∧(p.map key).Pairwise (· ≤ ·)∧H' id=some (.own 1 (p.map fun i=>es.getD i .undef) false))∧ ∀j,j≠id→H' j=H j:=
 Kg ⟨Tryz.f72,Tryz.func72,by kernel_rfl,by kernel_rfl⟩ (fun enc h1 cf hO blk off cap d w hc hH hb hs=>Any.slices_SortFunc_eq Tryz.sortL enc h1 cf hO 73 #[] blk off cap d w (enters_of Tryz.func73 (by kernel_rfl) rfl) hc hH hb hs)
  (fun W b1 o1 n1 c1 b2 o2 n2 c2 x y h1 h2 hx hy=>qal W b1 o1 n1 c1 b2 o2 n2 c2 x y h1 h2 hx hy) hH hn hz hes
end Go.Proofs
