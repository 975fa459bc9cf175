/- Part of a proof that a law of the given program answers true. -/
import Derived.Test.YtkcegflhobejmaaGreatDoorXEC
import Derived.Sort.Grow
import Derived.Lib.RowBridge
import Derived.Test.YtkcegflhobejmaaGreatDoorBCA
import Derived.Shelf.SlGeneric
import Derived.Shelf.Lays2
import Derived.Shelf.Sort.Plain
import Derived.Ground.Names2Prog
import Derived.Ground.NamesProg
import Derived.Shelf.Small.Wraps
import Derived.Deep.QuietTactic
import Derived.BigQuiet
import Derived.WalkKit
import Derived.Shelf.Slices.CompactI
import Derived.Test.YtkcegflhobejmaaGreatDoorXED
import Derived.Test.YtkcegflhobejmaaGreatDoorBBA
set_option maxRecDepth 20000
set_option linter.unusedSimpArgs false
set_option linter.unusedVariables false
set_option maxHeartbeats 4000000
namespace Go.Proofs
open Go.E Go.Sort Go.Lib Go.RowKit
theorem R.msl_inv {β:Nat→Option E.Loc} {w:World} {lim:Nat→Option Nat} {v:V} {r:Value} (h:R β w lim v r) {id sz off len:Nat} (e:v=.msl id sz off len) (hl:0<len):
 ∃l cap,β id=some l∧l.size=sz∧r=.slice (some ⟨l.b,l.o+off *sz,none⟩) len cap:=by
 cases h<;>cases e
 · omega
 · exact⟨_,_,by assumption,rfl,rfl⟩
theorem R.msl_inv2 {β:Nat→Option E.Loc} {w:World} {lim:Nat→Option Nat} {v:V} {r:Value} (h:R β w lim v r) {id sz off len:Nat} (e:v=.msl id sz off len) (hl:0<len):
 ∃l cap,β id=some l∧l.size=sz∧r=.slice (some ⟨l.b,l.o+off *sz,none⟩) len cap∧len≤cap∧cap≤maxLen∧l.o+(off+cap) *l.size≤zo w l.b:=by
 cases h<;>cases e
 · omega
 · exact⟨_,_,by assumption,rfl,rfl,by assumption,by assumption,by assumption⟩
theorem R.int_inv {β:Nat→Option E.Loc} {w:World} {lim:Nat→Option Nat} {v:V} {r:Value} (h:R β w lim v r) {k:IntKind} {n:Int} (e:v=.int k n):r=.int k n:=by
 cases h<;>cases e
 rfl
theorem qaw {α:Type} [Inhabited α] {β:Nat→Option E.Loc} {w w':World} {lim:Nat→Option Nat} {H:Nat→Option MObj} {next base id:Nat} (hR:RelH H next β lim base w) {es:List V} (hH:H id=some (.own 1 es false))
 {l:E.Loc} (hβ:β id=some l) (hpos:0<es.length) {enc:α→Value} {v:α→V} {d:Array α} (hd:d.size=es.length)
 (hv: ∀x∈d.toList,(v x).cells=[v x]∧(v x).scalar=true∧R β w lim (v x) (enc x)) {n:Nat} {os:Array Obj} (hw:w'=grow (putRow enc (Sort.ahead w n) l.b l.o d) os):
 RelH (fun j=>if j=id then some (.own 1 (d.toList.map v) false)else H j) next β lim base w'∧Ext lim w w'∧RowKit.Below base w w':=by
 rcases hR.obj id _ hH with ⟨h1,h0⟩|⟨l',cur,et,h1,h2,h3,h4,h5,h6,h7⟩
 · rw[h1]at hβ;cases hβ
 · rw [hβ]at h1
   cases h1
   rw[Nat.mul_one]at h4
   have hlb:l.b<w.heap.size:=(hR.own id l hβ).2
   have hid:id<next:=by
    rcases Nat.lt_or_ge id next with h|h
    · exact h
    · have:=(hR.fresh id h).2;rw[hH]at this;cases this
   have at_:w'.heap[l.b]?=some (.cells (putCells enc l.o d cur) et (0,0)):=by
    rw[hw,heap_grow_old _ _ (by simpa using hlb)]
    simp[putRow,mapBlock,Sort.ahead,Array.getElem?_modify,h3,onCells]
   have other: ∀k,k<w.heap.size→k≠l.b→w'.heap[k]?=w.heap[k]?:=fun k hk hne=>by
    rw[hw,heap_grow_old _ _ (by simpa using hk)]
    have:l.b≠k:=fun e=>hne e.symm
    simp[putRow,mapBlock,Sort.ahead,Array.getElem?_modify,this]
   have size_:w.heap.size≤w'.heap.size:=by
    rw[hw];simp[grow,putRow,mapBlock,Sort.ahead]
   have psz:(putCells enc l.o d cur).size=cur.size:=by simp[putCells]
   have s123:w'.os=w.os∧w'.tape=w.tape∧w'.output=w.output:=by subst hw;exact⟨rfl,rfl,rfl⟩
   obtain ⟨s1,s2,s3⟩:=s123
   have hlim:lim l.b=some 0:=by simpa using h5
   have hext:Ext lim w w':=⟨size_,fun b c e fz hb=>by
    by_cases hbl:b=l.b
    · subst hbl
      rw[h3]at hb
      cases hb
      refine⟨_,_,_,at_,psz,fun i hi=>?_⟩
      unfold xP at hi
      rw[hlim]at hi
      simp at hi
    · have hlt:b<w.heap.size:=(Array.getElem?_eq_some_iff.1 hb).1
      exact⟨c,e,fz,(other b hlt hbl).trans hb,rfl,fun _ _=>rfl⟩,fun b es c _ hb=>by
    have hbl:b≠l.b:=fun e=>by subst e;rw[h3]at hb;cases hb
    have hlt:b<w.heap.size:=(Array.getElem?_eq_some_iff.1 hb).1
    exact(other b hlt hbl).trans hb⟩
   have hbe:RowKit.Below base w w':=⟨s1,s2,s3,size_,fun k hk=>other k (Nat.lt_of_lt_of_le hk hR.base_le) (by have:=(hR.own id l hβ).1;omega)⟩
   have hgr:Grows β β lim lim base w w':=⟨fun _ _ h=>h,hext,xJ.refl _ _,hbe,fun _ _=>rfl⟩
   refine⟨?_,hext,hbe⟩
   refine hR.step hgr (Nat.le_refl _) (id:=id) (tb:=l.b) hid (fun b hb hne=>⟨other b hb hne,rfl⟩) (fun _ _=>rfl) (fun j o hj h=>by rwa [if_neg hj]at h) (fun j o l2 hj h hβ2 e=>?_) (fun o h=>?_) (fun l2 h=>?_) (fun o l2 h h2=>?_)
   · rw[if_neg hj]at h
     exact hj (hR.uniq j id o _ l2 l h hH hβ2 hβ e)
   · rw [if_pos rfl]at h
     cases h
     refine .inr ⟨l,_,et,hβ,h2,at_,by rw[psz,List.length_map,Array.length_toList,hd];omega,by simpa using hlim,fun e he=>?_,fun i j e c he hcj=>?_⟩
     · obtain ⟨x,hx,rfl⟩:=List.mem_map.1 he
       obtain ⟨e1,e2,_⟩:=hv x hx
       rw[e1]
       exact⟨rfl,fun c hc=>by simp at hc;subst hc;exact e2⟩
     · rw[List.getElem?_map,Option.map_eq_some_iff]at he
       obtain ⟨x,hx1,rfl⟩:=he
       have hi:i<d.size:=by have:=(List.getElem?_eq_some_iff.1 hx1).1;simpa using this
       obtain ⟨e1,e2,e3⟩:=hv x (List.mem_of_getElem? hx1)
       rw[e1]at hcj
       have hj0:j=0∧c=v x:=by
        cases j with
        |zero=>exact⟨rfl,by simpa using hcj.symm⟩
        |succ j=>simp at hcj
       obtain ⟨rfl,rfl⟩:=hj0
       refine⟨enc x,?_,hgr.R e3⟩
       rw[Nat.mul_one,Nat.add_zero]
       have hc1:l.o+i<cur.size:=o_
       have hz2:d[i]! =x:=by
        rw[getElem!_pos d i hi]
        have:=(List.getElem?_eq_some_iff.1 hx1).2
        simpa using this
       simp only[putCells,Array.getElem?_mapIdx,Array.getElem?_eq_getElem hc1,Option.map_some]
       rw[if_pos o_,show l.o+i - l.o=i by omega,hz2]
   · rw[hβ]at h
     cases h
     exact⟨(hR.own id l hβ).1,Nat.lt_of_lt_of_le hlb size_⟩
   · rw[hβ]at h2
     cases h2
     rfl
abbrev qk6 (zs:List Int):List Int:=zs.mergeSort fun x y=>decide (x≤y)
theorem qbu {P:Program} [Glob P] {f:FuncId} (hE:E.Enters P f)
 (hc: ∀(blk off cap:Nat) (zs:List Int) (w:World),Holds (Value.int .i64) w blk off zs.toArray→blk<w.heap.size→zs.length<4611686018427387904→
  Calls P f #[.slice (some ⟨blk,off,none⟩) zs.length cap] w fun e w'=>e=.returned (.tuple #[])∧ ∃n os,w'=grow (putRow (Value.int .i64) (Sort.ahead w n) blk off (qk6 zs).toArray) os)
 {H:Nat→Option MObj} {next id:Nat} {zs:List Int} (hH:H id=some (.own 1 (zs.map (V.int .i64)) false)) (hn:0<zs.length) (hz:zs.length<4611686018427387904):
 zl P f [.msl id 1 0 zs.length] H next fun v H' n'=>v=.tup []∧n'=next∧H' id=some (.own 1 ((qk6 zs).map (V.int .i64)) false)∧ ∀j,j≠id→H' j=H j:=by
 have hlen:(qk6 zs).length=zs.length:=List.length_mergeSort _
 refine⟨.tup [],fun j=>if j=id then some (.own 1 ((qk6 zs).map (V.int .i64)) false)else H j,next,⟨rfl,rfl,if_pos rfl,fun j hj=>if_neg hj⟩,⟨⟨hE,_,_,_,rfl,rfl,rfl⟩,fun w β lim base ra hg hR hra=>?_⟩⟩
 obtain ⟨hsz,hrs⟩:=hra
 obtain ⟨r,rfl⟩: ∃r,ra= #[r]:=by
  rcases ra with ⟨l⟩
  match l,hsz with
  |[r],_=>exact⟨r,rfl⟩
 obtain ⟨l,cap,hβ,hls,rfl⟩:=R.msl_inv (hrs 0 _ r rfl rfl) rfl hn
 rw[Nat.zero_mul,Nat.add_zero]
 rcases hR.obj id _ hH with ⟨h1,_⟩|⟨l',cur,et,h1,h2,h3,h4,h5,h6,h7⟩
 · rw[h1]at hβ;cases hβ
 · rw[hβ]at h1
   cases h1
   rw[List.length_map,Nat.mul_one]at h4
   have hlb:l.b<w.heap.size:=(hR.own id l hβ).2
   have holds:Holds (Value.int .i64) w l.b l.o zs.toArray:=fun j hj=>by
    have hj':j<zs.length:=by simpa using hj
    obtain ⟨r,hr,hRr⟩:=h7 j 0 (.int .i64 zs[j]) (.int .i64 zs[j]) (by rw[List.getElem?_map,ge_ hj'];rfl) rfl
    rw[Nat.mul_one,Nat.add_zero,R.int_inv hRr rfl]at hr
    refine⟨?_,by simp[World.frozen?,h3]⟩
    simp only[World.cell?,h3]
    simp[hr,hj']
   refine(hc l.b l.o cap zs w holds hlb hz).mono ?_
   rintro e w' ⟨rfl,n,os,hw⟩
   obtain ⟨k1,k2,k3⟩:=qaw hR hH hβ (by simpa using hn) (v:=V.int .i64) (d:=(qk6 zs).toArray) (by simp[hlen]) (fun x _=>⟨rfl,rfl,.int _ _⟩) hw
   refine⟨.tuple #[],.tup [],_,next,β,lim,rfl,⟨rfl,rfl,rfl⟩,k1,.tup [] #[] rfl (by simp),fun _ _ h=>h,k2,xJ.refl _ _,k3,Nat.le_refl _,fun _ _=>rfl,fun j hj h=>?_,fun _ _=>rfl⟩
   have hne:j≠id:=fun e=>by subst e;rw[hH]at h;cases h
   rw[if_neg hne];exact h
theorem Yg {P:Program} [Glob P] {f:FuncId} {zs O:List Int} {m:Nat} (hO:O.length=zs.length) (hmz:m≤zs.length) (hE:E.Enters P f)
 (hc: ∀(blk off cap:Nat) (w:World),Holds (Value.int .i64) w blk off zs.toArray→zs.length≤9223372036854775807→zs.length≤cap→
  Calls P f #[.slice (some ⟨blk,off,none⟩) zs.length cap] w fun e w'=>e=.returned (.slice (some ⟨blk,off,none⟩) m cap)∧ ∃q,w'=putRow (Value.int .i64) (Sort.ahead w q) blk off O.toArray)
 {H:Nat→Option MObj} {next id:Nat} (hH:H id=some (.own 1 (zs.map (V.int .i64)) false)) (hn:0<zs.length) (hz:zs.length<4611686018427387904):
 zl P f [.msl id 1 0 zs.length] H next fun v H' n'=>v=.msl id 1 0 m∧n'=next∧H' id=some (.own 1 (O.map (V.int .i64)) false)∧ ∀j,j≠id→H' j=H j:=by
 refine⟨.msl id 1 0 m,fun j=>if j=id then some (.own 1 (O.map (V.int .i64)) false)else H j,next,⟨rfl,rfl,if_pos rfl,fun j hj=>if_neg hj⟩,⟨⟨hE,_,_,_,rfl,rfl,rfl⟩,fun w β lim base ra hg hR hra=>?_⟩⟩
 obtain ⟨hsz,hrs⟩:=hra
 obtain ⟨r,rfl⟩: ∃r,ra= #[r]:=by
  rcases ra with ⟨l⟩
  match l,hsz with
  |[r],_=>exact⟨r,rfl⟩
 obtain ⟨l,cap,hβ,hls,rfl,hcap,hm,hrow⟩:=R.msl_inv2 (hrs 0 _ r rfl rfl) rfl hn
 rw[Nat.zero_mul,Nat.add_zero]
 rcases hR.obj id _ hH with ⟨h1,_⟩|⟨l',cur,et,h1,h2,h3,h4,h5,h6,h7⟩
 · rw[h1]at hβ;cases hβ
 · rw[hβ]at h1
   cases h1
   rw[List.length_map,Nat.mul_one]at h4
   have hlb:l.b<w.heap.size:=(hR.own id l hβ).2
   have holds:Holds (Value.int .i64) w l.b l.o zs.toArray:=fun j hj=>by
    have hj':j<zs.length:=by simpa using hj
    obtain ⟨r,hr,hRr⟩:=h7 j 0 (.int .i64 zs[j]) (.int .i64 zs[j]) (by rw[List.getElem?_map,ge_ hj'];rfl) rfl
    rw[Nat.mul_one,Nat.add_zero,R.int_inv hRr rfl]at hr
    refine⟨?_,by simp[World.frozen?,h3]⟩
    simp only[World.cell?,h3]
    simp[hr,hj']
   refine(hc l.b l.o cap w holds o_ hcap).mono ?_
   rintro e w' ⟨rfl,n,hw⟩
   have hw:w'=grow (putRow (Value.int .i64) (Sort.ahead w n) l.b l.o O.toArray) #[]:=by rw[hw];exact(grow_empty _).symm
   obtain ⟨k1,k2,k3⟩:=qaw hR hH hβ (by simpa using hn) (v:=V.int .i64) (d:=O.toArray) (by simp[hO]) (fun x _=>⟨rfl,rfl,.int _ _⟩) hw
   have hRv:R β w' lim (.msl id 1 0 m) (.slice (some ⟨l.b,l.o,none⟩) m cap):=by
    have:=R.msl (w:=w') (lim:=lim) id 0 m l cap hβ o_ hm (Nat.le_trans hrow (k2.zo _))
    rwa [hls,Nat.zero_mul,Nat.add_zero]at this
   refine⟨.slice (some ⟨l.b,l.o,none⟩) m cap,.msl id 1 0 m,_,next,β,lim,rfl,⟨rfl,rfl,rfl⟩,k1,hRv,fun _ _ h=>h,k2,xJ.refl _ _,k3,Nat.le_refl _,fun _ _=>rfl,fun j hj h=>?_,fun _ _=>rfl⟩
   have hne:j≠id:=fun e=>by subst e;rw[hH]at h;cases h
   rw[if_neg hne];exact h
end Go.Proofs

namespace Go.Proofs
open Go.Shelf
def Tryz.lays189_ren:Go.Shelf.Ren:=⟨fun|189=>89|125=>122|257=>121|128=>146|129=>147|294=>137|295=>138|296=>139|297=>140|298=>141|299=>142|216=>143|300=>144|301=>145|328=>164|329=>165|330=>166|331=>167|332=>168|215=>161|343=>176|n=>n,fun|28=>27|3=>3|46=>191|0=>0|51=>212|53=>123|4=>4|183=>205|182=>204|131=>162|5=>5|9=>9|218=>223|222=>227|228=>234|229=>235|n=>n,fun|n=>n⟩
theorem Tryz.lays189:Go.Proofs.Lays.n189 Tryz.prog Tryz.lays189_ren:={
 mixed:=by kernel_rfl
 f125:=Tryz.func122.trans (congrArg some (by kernel_rfl))
 f128:=Tryz.func146.trans (congrArg some (by kernel_rfl))
 f129:=Tryz.func147.trans (congrArg some (by kernel_rfl))
 f189:=Tryz.func89.trans (congrArg some (by kernel_rfl))
 f215:=Tryz.func161.trans (congrArg some (by kernel_rfl))
 f216:=Tryz.func143.trans (congrArg some (by kernel_rfl))
 f257:=Tryz.func121.trans (congrArg some (by kernel_rfl))
 f294:=Tryz.func137.trans (congrArg some (by kernel_rfl))
 f295:=Tryz.func138.trans (congrArg some (by kernel_rfl))
 f296:=Tryz.func139.trans (congrArg some (by kernel_rfl))
 f297:=Tryz.func140.trans (congrArg some (by kernel_rfl))
 f298:=Tryz.func141.trans (congrArg some (by kernel_rfl))
 f299:=Tryz.func142.trans (congrArg some (by kernel_rfl))
 f300:=Tryz.func144.trans (congrArg some (by kernel_rfl))
 f301:=Tryz.func145.trans (congrArg some (by kernel_rfl))
 f328:=Tryz.func164.trans (congrArg some (by kernel_rfl))
 f329:=Tryz.func165.trans (congrArg some (by kernel_rfl))
 f330:=Tryz.func166.trans (congrArg some (by kernel_rfl))
 f331:=Tryz.func167.trans (congrArg some (by kernel_rfl))
 f332:=Tryz.func168.trans (congrArg some (by kernel_rfl))
 f343:=Tryz.func176.trans (congrArg some (by kernel_rfl))
 t0:=Tryz.underlying0
 a0:=Tryz.isAgg0
 z0:=Tryz.sizeOf0
 v0:=Tryz.zeroValue0
 t3:=Tryz.underlying3
 a3:=Tryz.isAgg3
 z3:=Tryz.sizeOf3
 v3:=Tryz.zeroValue3
 t4:=Tryz.underlying4
 a4:=Tryz.isAgg4
 z4:=Tryz.sizeOf4
 v4:=Tryz.zeroValue4
 t5:=Tryz.underlying5
 a5:=Tryz.isAgg5
 z5:=Tryz.sizeOf5
 v5:=Tryz.zeroValue5
 t9:=Tryz.underlying9
 a9:=Tryz.isAgg9
 z9:=Tryz.sizeOf9
 v9:=Tryz.zeroValue9
 t28:=Tryz.underlying27
 a28:=Tryz.isAgg27
 z28:=Tryz.sizeOf27
 v28:=Tryz.zeroValue27
 t46:=Tryz.underlying191
 a46:=Tryz.isAgg191
 z46:=Tryz.sizeOf191
 v46:=Tryz.zeroValue191
 t51:=Tryz.underlying212
 a51:=Tryz.isAgg212
 z51:=Tryz.sizeOf212
 v51:=Tryz.zeroValue212
 t53:=Tryz.underlying123
 a53:=Tryz.isAgg123
 z53:=Tryz.sizeOf123
 v53:=Tryz.zeroValue123
 t131:=Tryz.underlying162
 a131:=Tryz.isAgg162
 z131:=Tryz.sizeOf162
 v131:=Tryz.zeroValue162
 t182:=Tryz.underlying204
 a182:=Tryz.isAgg204
 z182:=Tryz.sizeOf204
 v182:=Tryz.zeroValue204
 t183:=Tryz.underlying205
 a183:=Tryz.isAgg205
 z183:=Tryz.sizeOf205
 v183:=Tryz.zeroValue205
 t218:=Tryz.underlying223
 a218:=Tryz.isAgg223
 z218:=Tryz.sizeOf223
 v218:=Tryz.zeroValue223
 t222:=Tryz.underlying227
 a222:=Tryz.isAgg227
 z222:=Tryz.sizeOf227
 v222:=Tryz.zeroValue227
 t228:=Tryz.underlying234
 a228:=Tryz.isAgg234
 z228:=Tryz.sizeOf234
 v228:=Tryz.zeroValue234
 t229:=Tryz.underlying235
 a229:=Tryz.isAgg235
 z229:=Tryz.sizeOf235
 v229:=Tryz.zeroValue235}
def Tryz.laysN20_ren:Go.Shelf.Ren:=⟨fun|20=>90|n=>n,fun|22=>27|n=>n,fun|n=>n⟩
theorem Tryz.laysN20:Go.Proofs.Lays2.n20 Tryz.prog Tryz.laysN20_ren:={
 mixed:=by kernel_rfl
 f20:=Tryz.func90.trans (congrArg some (by kernel_rfl))
 t0:=Tryz.underlying0
 a0:=Tryz.isAgg0
 z0:=Tryz.sizeOf0
 v0:=Tryz.zeroValue0
 t3:=Tryz.underlying3
 a3:=Tryz.isAgg3
 z3:=Tryz.sizeOf3
 v3:=Tryz.zeroValue3
 t4:=Tryz.underlying4
 a4:=Tryz.isAgg4
 z4:=Tryz.sizeOf4
 v4:=Tryz.zeroValue4
 t22:=Tryz.underlying27
 a22:=Tryz.isAgg27
 z22:=Tryz.sizeOf27
 v22:=Tryz.zeroValue27
 i3:=by kernel_rfl}
end Go.Proofs

namespace Go.Proofs
open Go.E Go.Sort Go.Lib Go.RowKit Go.Shelf
theorem qbd {H:Nat→Option MObj} {next id:Nat} {zs:List Int} (hH:H id=some (.own 1 (zs.map (V.int .i64)) false)) (hn:0<zs.length) (hz:zs.length<4611686018427387904):
 zl Tryz.prog 89 [.msl id 1 0 zs.length] H next fun v H' n'=>v=.tup []∧n'=next∧H' id=some (.own 1 ((qk6 zs).map (V.int .i64)) false)∧ ∀j,j≠id→H' j=H j:=
 qbu ⟨Tryz.f89,Tryz.func89,by kernel_rfl,by kernel_rfl⟩ (fun blk off cap zs w h1 h2 h3=>Any.slices_Sort_int Tryz.lays189 blk off cap zs w h1 h2 h3) hH hn hz
theorem slices_Compact {H:Nat→Option MObj} {next id:Nat} {zs:List Int} (hH:H id=some (.own 1 (zs.map (V.int .i64)) false)) (hn:0<zs.length) (hz:zs.length<4611686018427387904):
 zl Tryz.prog 90 [.msl id 1 0 zs.length] H next fun v H' n'=>v=.msl id 1 0 (Lib.compact zs).length∧n'=next∧H' id=some (.own 1 ((Lib.compact zs++List.replicate (zs.length - (Lib.compact zs).length) 0).map (V.int .i64)) false)∧ ∀j,j≠id→H' j=H j:=
 Yg (by have:=Lib.compact_length_le zs;rw[List.length_append,List.length_replicate];omega) (Lib.compact_length_le zs) ⟨Tryz.f90,Tryz.func90,by kernel_rfl,by kernel_rfl⟩ (fun blk off cap w h1 h2 h3=>Any.slices_Compact_int Tryz.laysN20 blk off cap zs w h1 h2 h3) hH hn hz

set_option maxRecDepth 100000
def qZm:List (FuncId×Bool×EF):=[(10,false,e10),(13,false,e13),(15,false,e15),(17,false,e17),(18,false,e18),(20,false,e20),(22,false,e22),(25,false,e25),(26,false,e26),(28,false,e28),(31,false,e31),(34,false,e34),(36,false,e36),(37,false,e37),(38,false,e38),(50,false,e50),(51,false,e51),(52,false,e52),(53,true,e53),(56,true,e56),(59,false,e59),(62,false,e62),(63,false,e63),(65,false,e65),(66,false,e66),(67,false,e67),(68,false,e68),(70,false,e70),(72,false,e72),(75,true,e75),(83,false,e83),(84,false,e84),(85,false,e85),(86,false,e86),(87,false,e87),(88,false,e88),(89,true,e89),(90,true,e90),(91,false,e91),(92,false,e92),(93,false,e93),(94,false,e94),(95,false,e95),(96,false,e96),(97,false,e97),(98,false,e98),(101,false,qYA),(102,false,qYh),(103,true,qXn),(104,false,qYv),(106,false,qXY),(107,false,qXZ),(108,true,e108),(109,false,e109),(110,true,qXV),(115,true,e115),(116,false,e116),(117,false,e117),(118,false,e118),(119,false,e119),(120,true,e120),(121,true,qX5),(122,false,qYs),(123,false,qYi),(124,false,qYl),(125,false,e125),(127,false,e127),(128,false,e128),(129,true,e129),(130,false,qX8),(131,true,qYx),(132,true,qX4),(133,false,qYf),(134,false,qYp),(135,true,qYB),(136,true,qX6),(137,true,e137),(143,false,e143),(147,false,qX1),(148,false,qYq),(149,false,qYg),(150,false,qX0),(151,false,qYt),(153,true,e153),(161,false,qYb),(162,false,qYd),(163,true,qX9),(169,false,e169),(170,false,e170)]
theorem tok:TOk Tryz.prog qZm:=⟨⟨_,_,Tryz.func10,nm_,qJx⟩,⟨_,_,Tryz.func13,nm_,qiT⟩,⟨_,_,Tryz.func15,nm_,qj3⟩,⟨_,_,Tryz.func17,nm_,qiK⟩,⟨_,_,Tryz.func18,nm_,qkb⟩,⟨_,_,Tryz.func20,nm_,qlh⟩,⟨_,_,Tryz.func22,nm_,qk4⟩,⟨_,_,Tryz.func25,nm_,qi2⟩,⟨_,_,Tryz.func26,nm_,qOW⟩,⟨_,_,Tryz.func28,nm_,qBa⟩,⟨_,_,Tryz.func31,nm_,qRU⟩,⟨_,_,Tryz.func34,nm_,qkd⟩,⟨_,_,Tryz.func36,nm_,qLe⟩,⟨_,_,Tryz.func37,nm_,qkN⟩,⟨_,_,Tryz.func38,nm_,qjU⟩,⟨_,_,Tryz.func50,nm_,qkn⟩,⟨_,_,Tryz.func51,nm_,qiJ⟩,⟨_,_,Tryz.func52,nm_,qjv⟩,⟨_,_,Tryz.func53,nm_,qkq⟩,⟨_,_,Tryz.func56,nm_,qiD⟩,⟨_,_,Tryz.func59,nm_,qkp⟩,⟨_,_,Tryz.func62,nm_,qA8⟩,⟨_,_,Tryz.func63,nm_,qAZ⟩,⟨_,_,Tryz.func65,nm_,qHP⟩,⟨_,_,Tryz.func66,nm_,qEn⟩,⟨_,_,Tryz.func67,nm_,qL4⟩,⟨_,_,Tryz.func68,nm_,qHA⟩,⟨_,_,Tryz.func70,nm_,qiV⟩,⟨_,_,Tryz.func72,nm_,qPJ⟩,⟨_,_,Tryz.func75,nm_,qA9⟩,⟨_,_,Tryz.func83,nm_,qko⟩,⟨_,_,Tryz.func84,nm_,qli⟩,⟨_,_,Tryz.func85,nm_,qi4⟩,⟨_,_,Tryz.func86,nm_,qj1⟩,⟨_,_,Tryz.func87,nm_,qiY⟩,⟨_,_,Tryz.func88,nm_,qju⟩,⟨_,_,Tryz.func89,nm_,qFF⟩,⟨_,_,Tryz.func90,nm_,qF5⟩,⟨_,_,Tryz.func91,nm_,qjB⟩,⟨_,_,Tryz.func92,nm_,qkg⟩,⟨_,_,Tryz.func93,nm_,qjb⟩,⟨_,_,Tryz.func94,nm_,qiS⟩,⟨_,_,Tryz.func95,nm_,qIS⟩,⟨_,_,Tryz.func96,nm_,qMo⟩,⟨_,_,Tryz.func97,nm_,qRl⟩,⟨_,_,Tryz.func98,nm_,qiP⟩,⟨_,_,Tryz.func101,nm_,qgp⟩,⟨_,_,Tryz.func102,nm_,qf7⟩,⟨_,_,Tryz.func103,nm_,qfV⟩,⟨_,_,Tryz.func104,nm_,qfv⟩,⟨_,_,Tryz.func106,nm_,qn8⟩,⟨_,_,Tryz.func107,nm_,qxy⟩,⟨_,_,Tryz.func108,nm_,qwg⟩,⟨_,_,Tryz.func109,nm_,qpF⟩,⟨_,_,Tryz.func110,nm_,qsJ⟩,⟨_,_,Tryz.func115,nm_,qrH⟩,⟨_,_,Tryz.func116,nm_,qfR⟩,⟨_,_,Tryz.func117,nm_,qej⟩,⟨_,_,Tryz.func118,nm_,qd0⟩,⟨_,_,Tryz.func119,nm_,qeI⟩,⟨_,_,Tryz.func120,nm_,qgb⟩,⟨_,_,Tryz.func121,nm_,qxW⟩,⟨_,_,Tryz.func122,nm_,qpV⟩,⟨_,_,Tryz.func123,nm_,qfK⟩,⟨_,_,Tryz.func124,nm_,qgI⟩,⟨_,_,Tryz.func125,nm_,qd1⟩,⟨_,_,Tryz.func127,nm_,qfp⟩,⟨_,_,Tryz.func128,nm_,qgX⟩,⟨_,_,Tryz.func129,nm_,qgG⟩,⟨_,_,Tryz.func130,nm_,qfO⟩,⟨_,_,Tryz.func131,nm_,qf8⟩,⟨_,_,Tryz.func132,nm_,qxH⟩,⟨_,_,Tryz.func133,nm_,qtu⟩,⟨_,_,Tryz.func134,nm_,qlC⟩,⟨_,_,Tryz.func135,nm_,qqm⟩,⟨_,_,Tryz.func136,nm_,qfQ⟩,⟨_,_,Tryz.func137,nm_,qlD⟩,⟨_,_,Tryz.func143,nm_,qov⟩,⟨_,_,Tryz.func147,nm_,qsM⟩,⟨_,_,Tryz.func148,nm_,qdV⟩,⟨_,_,Tryz.func149,nm_,qe2⟩,⟨_,_,Tryz.func150,nm_,qem⟩,⟨_,_,Tryz.func151,nm_,qdX⟩,⟨_,_,Tryz.func153,nm_,qxk⟩,⟨_,_,Tryz.func161,nm_,qxC⟩,⟨_,_,Tryz.func162,nm_,qwI⟩,⟨_,_,Tryz.func163,nm_,qtG⟩,⟨_,_,Tryz.func169,nm_,qeu⟩,⟨_,_,Tryz.func170,nm_,qeW⟩,trivial⟩
theorem qRw:FOk Tryz.prog [(10,[],.bool true)]:=VP tok (n:=60) qbw (by kernel_rfl)
theorem Jy:Pure Tryz.prog 10 [] (.bool true):=qRw _ (List.mem_singleton.2 rfl)

theorem qnJ {K:V→Prop} {k k' z:Nat} {es:List V} {v:V} {ro:Bool} {o:Option MObj} (ho:o=some (.own z es ro)) (hz:z=1) (e:k=k') (hv:es[k']?=some v) (ha:v.isAgg=false) (hk:K v):onS (ldQ o false 1 k 0) K:=by
 subst ho e hz
 have e:ldQ (some (.own 1 es ro)) false 1 k 0=some v:=by simp[ldQ,hv,jw,ha]
 rw[e];exact hk
theorem qmB {K:St→Prop} {s:St} {k k' id:Nat} {es:List V} {e v:V} {o:Option MObj} (ho:o=some (.own 1 es false)) (ek:k=k') (he:es[k']?=some e) (hea:e.isAgg=false) (h1:v.cells.length=1) (h2:v.okCell=true) (h3:v.isAgg=false)
 (hk:K (s.setO id (some (.own 1 (es.set k' v) false)))):onS (stQ s o 1 id k 0 v) K:=by
 subst ho ek
 have e:stQ s (some (.own 1 es false)) 1 id k 0 v=some (s.setO id (some (.own 1 (es.set k v) false))):=by
  simp[stQ,he,h1,h2,jf,hea,h3]
 rw[e];exact hk
theorem qhH:Pure Tryz.prog 89 [.sl 1 false []] (.tup []):=(VP tok (n:=20) qbw (by kernel_rfl):FOk Tryz.prog [(89,[.sl 1 false []],.tup [])]) _ (List.mem_singleton.2 rfl)
theorem qcE:Pure Tryz.prog 90 [.sl 1 false []] (.sl 1 false []):=(VP tok (n:=20) qbw (by kernel_rfl):FOk Tryz.prog [(90,[.sl 1 false []],.sl 1 false [])]) _ (List.mem_singleton.2 rfl)
abbrev qJ7 (zs:List Int):Prop:=zs.Pairwise (· ≤ ·)
theorem qew {zs:List Int} (h:qJ7 zs):qk6 zs=zs:=by
 unfold qk6
 exact List.mergeSort_of_pairwise (h.imp fun h=>decide_eq_true h)
def Ki (H:Nat→Option MObj) (base next:Nat) (l:List Int) (v:V):Prop:=(l=[]∧v=.sl 1 false [])∨ ∃id es,v=.msl id 1 0 l.length∧H id=some (.own 1 es false)∧l.length≤es.length∧es.take l.length=l.map (V.int .i64)∧base≤id∧id<next
theorem Ki.keep {H H':Nat→Option MObj} {base base' next next':Nat} {l:List Int} {v:V} (h:Ki H base next l v) (hb:base'≤base) (hn:next≤next') (hH: ∀j,base≤j→j<next→H' j=H j):Ki H' base' next' l v:=by
 rcases h with h|⟨id,es,h1,h2,h3,h4,h5,h6⟩
 · exact Or.inl h
 · exact Or.inr ⟨id,es,h1,by rw[hH id h5 h6];exact h2,h3,h4,o_,o_⟩
theorem Ki.fl {H:Nat→Option MObj} {base next:Nat} {l:List Int} {v:V} (h:Ki H base next l v):v.cells.length=1∧v.okCell=true∧v.isAgg=false:=by
 rcases h with ⟨_,rfl⟩|⟨id,es,rfl,_⟩<;>exact⟨rfl,rfl,rfl⟩
theorem Ki.er {H:Nat→Option MObj} {base next:Nat} {l:List Int} {v:V} (h:Ki H base next l v):Er true H v (yQ l):=by
 rcases h with ⟨rfl,rfl⟩|⟨id,es,rfl,h2,h3,h4,_,_⟩
 · exact ErL.sl .nil
 · refine .msl id 1 0 _ es false _ rfl h2 o_ (by simp) ?_
   intro i c c' e1 e2
   rw[Nat.zero_add]at e1
   have hi:i<l.length:=by have:=(List.getElem?_eq_some_iff.1 e2).1;simpa using this
   have e3:(es.take l.length)[i]?=some c:=by rw[List.getElem?_take,if_pos hi];exact e1
   rw[h4,e2]at e3
   cases e3
   rw[List.getElem?_map,Option.map_eq_some_iff]at e2
   obtain ⟨n,_,rfl⟩:=e2
   exact .int _ _
theorem qQ0 {id:Nat} {s:St} {K:V→St→Prop} {fo a:Opd} {fid:FuncId} {x v:V} (hf:ev s fo=.mfn fid x) (ha:ev s a=v) (h:zl Tryz.prog fid [x,v] s.H s.next fun r H' n'=>K r {s with H:=H',next:=n'}):qd Tryz.prog .any id s K (.call fo [a]):=by
 show (match funArgs (ev s fo) ([a].map (ev s))with
  | some (fid,w0)=>
    (∃bor as' res,(Cls.any=.r→bor=false)∧Ers bor s.H w0 as'∧Pure Tryz.prog fid as' res∧(bor=true→Flat res)∧K res s)∨
    (qnx .any=true∧zl Tryz.prog fid w0 s.H s.next fun v H' next'=>Yo .any s.next s.H H' next'∧K v {s with H:=H',next:=next'})
  |none=>False)
 rw[hf]
 subst ha
 exact Or.inr ⟨rfl,h.mono fun _ _ _ hk=>⟨trivial,hk⟩⟩
theorem qYr {id base next:Nat} {s:St} {K:V→St→Prop} {zs:List Int} {v:V} (hG:GrN s.H base next 1 (zs.map (V.int .i64)) v) (hr:qJ7 zs) (hl:zs.length≤1000000000) (hk:K (.tup []) s):kT Tryz.prog .any id s K 89 [v]:=by
 rcases hG with ⟨h0,rfl⟩|⟨h0,i,rfl,h1,_,_⟩
 · exact jF (hE:=ErL.sl .nil) (hp:=qhH) hk
 · have hn:0<zs.length:=by
    cases zs with
    |nil=>exact absurd rfl h0
    |cons a l=>simp
   · rw[List.length_map]
     refine qf5 rfl ((qbd h1 hn o_).mono ?_)
     rintro v H' n' ⟨rfl,rfl,h2,h3⟩
     have e:H'=s.H:=by
      funext j
      by_cases hj:j=i
      · subst hj;rw[h2,qew hr,h1]
      · exact h3 j hj
     subst e
     exact hk
theorem qYU {id base next:Nat} {s:St} {K:V→St→Prop} {zs:List Int} {v:V} (hG:GrN s.H base next 1 (zs.map (V.int .i64)) v) (hl:zs.length≤1000000)
 (hk: ∀v' H',Ki H' base next (Lib.compact zs) v'→(∀j,j<base→H' j=s.H j)→K v' {s with H:=H'}):kT Tryz.prog .any id s K 90 [v]:=by
 rcases hG with ⟨h0,rfl⟩|⟨h0,i,rfl,h1,hb,hn⟩
 · cases zs with
   |nil=>exact jF (hE:=ErL.sl .nil) (hp:=qcE) (hk _ s.H (Or.inl ⟨rfl,rfl⟩) fun _ _=>rfl)
   |cons a l=>cases h0
 · have hn0:0<zs.length:=by
    cases zs with
    |nil=>exact absurd rfl h0
    |cons a l=>simp
   have hle:=Lib.compact_length_le zs
   rw[List.length_map]
   refine qf5 rfl ((slices_Compact (next:=s.next) h1 hn0 o_).mono ?_)
   rintro v H' n' ⟨rfl,rfl,h2,h3⟩
   exact hk _ H' (Or.inr ⟨i,_,rfl,h2,by simp,by rw[List.map_append,List.take_append_of_le_length (by simp),List.take_of_length_le (by simp)],hb,hn⟩) fun j hj=>h3 j o_
structure TabR (H:Nat→Option MObj) (base next:Nat) (R:List (List Int)) (i:Nat) (es:List V):Prop where
 ln:es.length=R.length
 row: ∀(k:Nat) l,R[k]?=some l→k<i→ ∃v,es[k]?=some v∧Ki H base next l v
 nil: ∀k,i≤k→k<R.length→es[k]?=some (.sl 1 true [])
theorem TabR.keep {H H':Nat→Option MObj} {base next next' i:Nat} {R:List (List Int)} {es:List V} (h:TabR H base next R i es) (hn:next≤next') (hH: ∀j,base≤j→j<next→H' j=H j):TabR H' base next' R i es:=
 ⟨h.ln,fun k l hl hk=>by obtain ⟨v,h1,h2⟩:=h.row k l hl hk;exact⟨v,h1,h2.keep (Nat.le_refl _) hn hH⟩,h.nil⟩
theorem TabR.new (H:Nat→Option MObj) (base next:Nat) (R:List (List Int)):TabR H base next R 0 (List.replicate R.length (.sl 1 true [])):=
 ⟨List.length_replicate,fun k l hl hk=>absurd hk (Nat.not_lt_zero _),fun k _ hk=>by rw[List.getElem?_replicate,if_pos hk]⟩
theorem TabR.set {H:Nat→Option MObj} {base next i:Nat} {R:List (List Int)} {es:List V} (h:TabR H base next R i es) {l:List Int} {v:V} (hl:R[i]?=some l) (hv:Ki H base next l v):TabR H base next R (i+1) (es.set i v):=by
 have hi:=(List.getElem?_eq_some_iff.1 hl).1
 refine⟨by rw[List.length_set];exact h.ln,fun k l' hl' hk=>?_,fun k hk hk2=>?_⟩
 · by_cases e:i=k
   · subst e
     rw[hl]at hl';cases hl'
     exact⟨v,by rw[List.getElem?_set_self (by rw[h.ln];exact hi)],hv⟩
   · obtain ⟨w,h1,h2⟩:=h.row k l' hl' o_
     exact⟨w,by rw[List.getElem?_set_ne e];exact h1,h2⟩
 · rw[List.getElem?_set_ne o_];exact h.nil k o_ hk2
theorem TabR.er {H:Nat→Option MObj} {base next:Nat} {R:List (List Int)} {es:List V} (h:TabR H base next R R.length es):ErL true H es (R.map yQ):=by
 have key: ∀(R:List (List Int)) (es:List V),es.length=R.length→(∀(k:Nat) l,R[k]?=some l→ ∃v,es[k]?=some v∧Ki H base next l v)→ErL true H es (R.map yQ):=by
  intro R
  induction R with
  | nil=>intro es h1 _;cases es with
    |nil=>exact .nil
    |cons a l=>cases h1
  | cons l R ih=>
    intro es h1 h2
    cases es with
    |nil=>cases h1
    | cons v es=>
      obtain ⟨w,h3,h4⟩:=h2 0 l rfl
      cases h3
      exact .cons h4.er (ih es (by simpa using h1) fun k l' hl'=>h2 (k+1) l' hl')
 exact key R es h.ln fun k l hl=>h.row k l hl (List.getElem?_eq_some_iff.1 hl).1
theorem yA {g:Grammar} {m:List Sta} {E:Nat→Bool} {f:FuncId} {F:Int×Int→List Int} (hM:MOk g m) (hF: ∀t∈qg m,∀(H:Nat→Option MObj) (next:Nat),zl Tryz.prog f [.iptr 9 (QA g m E) 0,prV t] H next fun v H' n'=>next≤n'∧GrN H' next n' 1 ((F t).map (V.int .i64)) v∧ ∀j,j<next→H' j=H j) (hr: ∀t∈qg m,qJ7 (F t)∧(F t).length≤1000000):Pure Tryz.prog 52 [.iptr 9 (QA g m E) 0,.mfn f (.iptr 9 (QA g m E) 0)] (.sl 1 false (((qg m).map fun t=>Lib.compact (F t)).map yQ)):=by
 refine pure_intro Tryz.func52 nm_ qjv (by show 2≤37;decide) ?_
 show ewp _ qjX _ _
 have htl:=hM.trans_len
 repeat' with_reducible first
  |refine s_ ?_
  |simp -implicitDefEqProofs only[wZZ,seval]
  |refine t_ ?_
  |apply qaU;exact wf_;exact wf_;(focus(unfold maxLen;first|omega|(simp only[wZ]<;>omega)))
 refine qc ?nx1 (fun(k:Nat) s=>s.f 1=?v1_1∧s.f 5=?v1_5∧s.f 18=?v1_18∧s.f 19=?v1_19∧s.f 20=vi k∧(k≤(qg m).length)∧((∃es,s.H 6=some (.own 1 es false)∧TabR s.H 7 s.next ((qg m).map fun t=>Lib.compact (F t)) k es))) (fun k=>(qg m).length - k) (0) wj_ (by refine⟨?_,?_,?_,?_,?_,wo_,(by exact⟨_,hh_,(by rw[show (qg m).length=((qg m).map fun t=>Lib.compact (F t)).length by simp];exact TabR.new _ _ _ _)⟩)⟩<;>first|(simp -implicitDefEqProofs only[wL,wM,wN,wX,seval,Option.some.injEq]<;>exact wt_)|rfl|exact⟨_,rfl⟩) ?_
 intro k s hnx ⟨g1,g5,g18,g19,g20,k1_0,k1_1⟩
 obtain ⟨es,ho,hT⟩:=k1_1
 have hz:=w1_ k
 by_cases hk:k<(qg m).length
 · have hgk:(qg m)[k]?=some (qg m)[k]:=ge_ hk
   have hgR:((qg m).map fun t=>Lib.compact (F t))[k]?=some (Lib.compact (F (qg m)[k])):=by rw[List.getElem?_map,hgk];rfl
   have hmem:=List.getElem_mem hk
   have hFt:=hF _ hmem
   obtain ⟨hrt,hlt⟩:=hr _ hmem
   have hel:=hT.nil k (Nat.le_refl _) (by rw[List.length_map];exact hk)
   generalize (qg m)[k]=t at *
   obtain ⟨a,b⟩:=t
   repeat' with_reducible first
    |refine s_ ?_
    |simp -implicitDefEqProofs only[wZZ,seval,g1,g5,g18,g19,g20,hz]
    |apply qa<;>intro h h_<;>(try simp only[wD,reduceCtorEq]at h_)<;>(try exact wb_)<;>(try simp only[h])
    |refine t_ ?_
   refine qQ0 (fid:=f) (x:= .iptr 9 (QA g m E) 0) (v:= .agg [vi a,vi b]) rfl rfl ((hFt _ _).mono ?_)
   rintro v H1 n1 ⟨q1,q2,q3⟩
   (try simp only[wN]at q1)
   have hb7:7≤n1:=o_
   repeat' with_reducible first
    |refine zN ?_
    |simp -implicitDefEqProofs only[wZZ,seval,g1,g5,g18,g19,g20]
   refine qYr (next:=n1) (zs:=F (a,b)) (q2.keep rfl (Nat.le_refl _) (fun _ _ _=>rfl)) hrt o_ ?_
   repeat' with_reducible first
    |refine Xl ?_
    |simp -implicitDefEqProofs only[wZZ,seval,g1,g5,g18,g19,g20]
   refine qYU (next:=n1) (zs:=F (a,b)) (q2.keep rfl (Nat.le_refl _) (fun _ _ _=>rfl)) hlt ?_
   intro w H2 hw q4
   (try simp only[wM,wN]at q4)
   have hwR:Ki H2 7 n1 (Lib.compact (F (a,b))) w:=hw.keep wg_ (Nat.le_refl _) (fun _ _ _=>rfl)
   obtain ⟨w1,w2,w3⟩:=hwR.fl
   have ho1:H2 6=some (.own 1 es false):=by rw[q4 6 o_,q3 6 wg_];((try simp only[wM]);(repeat first|rw[if_pos trivial]|rw[if_pos rfl]|rw[if_neg o_]));exact ho
   repeat' with_reducible first
    |simp -implicitDefEqProofs only[wZZ,seval,g1,g5,g18,g19,g20]
    |refine t_ ?_
   refine qmB (es:=es) (k':=k) (e:= .sl 1 true []) ho1 rfl hel rfl w1 w2 w3 ?_
   repeat' with_reducible first
    |refine s_ ?_
    |simp -implicitDefEqProofs only[wZZ,seval,g1,g5,g18,g19,g20,hz]
   refine⟨wg_,k+1,o_,?_⟩;(repeat refine⟨True.intro,?_⟩)
   exact⟨rfl,o_,es.set k w,hh_,((hT.keep wg_ (fun j h1 h2=>by(try simp only[wM]);rw[if_neg o_,q4 j o_,q3 j wg_];((try simp only[wM]);(repeat first|rw[if_pos trivial]|rw[if_pos rfl]|rw[if_neg o_])))).set hgR (hwR.keep (Nat.le_refl _) wg_ (fun j h1 h2=>hh_)))⟩
 · have e:k=(qg m).length:=o_
   subst e
   repeat' with_reducible first
    |refine s_ ?_
    |simp -implicitDefEqProofs only[wZZ,seval,g1,g5,g18,g19,g20]
   refine qx rfl (Or.inr rfl) ?_
   (simp -implicitDefEqProofs only[wL,seval])
   have hT':TabR s.H 7 s.next ((qg m).map fun t=>Lib.compact (F t)) ((qg m).map fun t=>Lib.compact (F t)).length es:=by rw[List.length_map];exact hT
   refine .msl 6 1 0 _ es false _ rfl (by((try simp only[wM]);(repeat first|rw[if_pos trivial]|rw[if_pos rfl]|rw[if_neg o_]));exact ho) (by rw[hT.ln,List.length_map];omega) (by simp) ?_
   intro i c c' h1 h2
   rw[Nat.zero_add]at h1
   exact hT'.er.get.2 i c c' h1 h2

set_option maxRecDepth 20000
abbrev jm (l:List Int):List Int:=l.foldl jo []
theorem qcq {x:Int}: ∀(l a:List Int),x∈l.foldl jo a↔x∈a∨x∈l
 |[],a=>by simp
 | y ::l,a=>by
   rw[List.foldl_cons,qcq l,zH,List.mem_cons]
   constructor
   · rintro ((h|h)|h)
     · exact Or.inl h
     · exact Or.inr (Or.inl h)
     · exact Or.inr (Or.inr h)
   · rintro (h|h|h)
     · exact Or.inl (Or.inl h)
     · exact Or.inl (Or.inr h)
     · exact Or.inr h
theorem qal: ∀(l:List Int) {a:List Int},xD a→xD (l.foldl jo a)
 |[],a,h=>h
 |y::l,a,h=>by rw[List.foldl_cons];exact qal l (jG h)
theorem KG {zs:List Int} (h:zs.Pairwise (· ≤ ·)): ∀n,n≤zs.length→xD (Lib.compactUpTo zs.toArray n)∧ ∀x,x∈Lib.compactUpTo zs.toArray n↔x∈zs.take n
 |0,_=>⟨List.Pairwise.nil,fun x=>by simp[Lib.compactUpTo]⟩
 | n + 1,hn=>by
   obtain ⟨h1,h2⟩:=KG h n o_
   have hlt:n<zs.length:=o_
   have hg:zs[n]?=some zs[n]:=ge_ hlt
   have ht:zs.take (n+1)=zs.take n++[zs[n]]:=by rw[List.take_add_one,hg];rfl
   have hd:zs.toArray[n]! =zs[n]:=by simp[hlt]
   have hle: ∀x∈zs.take n,x≤zs[n]:=fun x hx=>by
    obtain ⟨i,hi,rfl⟩:=List.getElem_of_mem hx
    rw[List.getElem_take]
    rw[List.length_take]at hi
    exact List.pairwise_iff_getElem.1 h i n o_ hlt o_
   rw[Lib.compactUpTo_succ,ht,hd]
   by_cases hk:Lib.keeps zs.toArray n=true
   · rw[if_pos hk]
     refine⟨?_,fun x=>by rw[List.mem_append,List.mem_append,h2]⟩
     refine List.pairwise_append.2 ⟨h1,by simp,fun a ha b hb=>?_⟩
     rw[List.mem_singleton]at hb
     subst hb
     have ha:=(h2 a).1 ha
     unfold Lib.keeps at hk
     rw[decide_eq_true_eq]at hk
     obtain ⟨i,hi,rfl⟩:=List.getElem_of_mem ha
     rw[List.length_take]at hi
     rw[List.getElem_take]
     have hp:n - 1<zs.length:=o_
     have h3:zs[n]≠zs[n - 1]:=by
      rcases hk with hk|hk
      · omega
      · intro e;apply hk;simp[hlt,hp,e]
     have h4:zs[n - 1]≤zs[n]:=List.pairwise_iff_getElem.1 h (n - 1) n hp hlt o_
     have h5:zs[i]≤zs[n - 1]:=by
      by_cases e:i=n - 1
      · subst e;exact Int.le_refl _
      · exact List.pairwise_iff_getElem.1 h i (n - 1) o_ hp o_
     omega
   · rw [if_neg hk,List.append_nil]
     refine⟨h1,fun x=>?_⟩
     rw[h2,List.mem_append,List.mem_singleton]
     constructor
     · exact Or.inl
     · rintro (hx|rfl)
       · exact hx
       · unfold Lib.keeps at hk
         rw[decide_eq_true_eq,not_or]at hk
         obtain ⟨hk0,hk1⟩:=hk
         have hp:n - 1<zs.length:=o_
         have e:zs[n]=zs[n - 1]:=Classical.byContradiction fun e=>hk1 (by simp[hlt,hp];exact e)
         rw[e]
         exact List.mem_iff_getElem.2 ⟨n - 1,by rw[List.length_take];omega,by rw[List.getElem_take]⟩
theorem Vx {zs:List Int} (h:zs.Pairwise (· ≤ ·)):Lib.compact zs=jm zs:=by
 obtain ⟨h1,h2⟩:=KG h zs.length (Nat.le_refl _)
 refine JF h1 (qal zs List.Pairwise.nil) fun x=>?_
 rw[qcq]
 have:=h2 x
 rw[List.take_length]at this
 simp only[List.not_mem_nil,false_or]
 exact this

theorem qbf {α:Type} (f:α→Bool) (k:α→Int): ∀(l:List α) (a:List Int),((l.filter f).map k).foldl jo a=l.foldl (fun a p=>if f p=true then jo a (k p)else a) a
 |[],a=>rfl
 | x::l,a=>by
   rw[List.foldl_cons,← qbf f k l]
   cases hf:f x<;>simp[hf]
theorem Zm (m:List Sta):kL m=(qg m).map fun t=>jm (qcP m t):=by
 unfold kL
 refine List.map_congr_left fun t _=>?_
 unfold jm qcP
 rw[List.foldl_append,qbf]
 simp only[decide_eq_true_eq]
 congr 1
 split<;>rfl
theorem XH (E:Nat→Bool) (m:List Sta):Jf E m=(qg m).map fun t=>jm (qck E m t):=by
 unfold Jf
 refine List.map_congr_left fun t _=>?_
 unfold jm qck
 rw[qbf]
 simp only[decide_eq_true_eq]
theorem qaB {g:Grammar} {m:List Sta} (hM:MOk g m) (h: ∀q∈m,RMv q) (t:Int×Int):qJ7 (qcP m t):=by
 unfold qcP
 refine List.pairwise_append.2 ⟨by split<;>simp,(RMv.filt (YR h _) _).imp Int.le_of_lt,fun a ha b hb=>?_⟩
 have ea:a=0:=by split at ha<;>simp at ha;exact ha
 subst ea
 obtain ⟨p,hp,rfl⟩:=List.mem_map.1 hb
 have hp:=(List.mem_filter.1 hp).1
 unfold xB at hp
 cases hq:m[(goS m t.1 t.2).toNat]? with
 |none=>rw[hq]at hp;cases hp
 | some q=>
   rw[hq]at hp
   rcases (hM.mv q (List.mem_of_getElem? hq) p hp).1 with ⟨k,e,_⟩|⟨k,e,_⟩<;>omega
theorem Zc {g:Grammar} {m:List Sta} (hM:MOk g m) (q:Int):(xB m q).length≤64:=by
 unfold xB
 cases hq:m[q.toNat]? with
 |none=>exact Nat.zero_le _
 |some x=>exact hM.mvl x (List.mem_of_getElem? hq)
theorem QO {H:Nat→Option MObj} {i j:Nat} {g:Grammar} {m:List Sta} {E:Nat→Bool} (h1:H i=some (.own 9 [qpv g m E j] false)) (h2:H j=some (.mapo (VA (qg m) (qg m).length))):Er true H (.ptr i 0 0) (.iptr 9 (QA g m E) 0):=
 .ptr i 0 0 9 _ false (qpv g m E j) (QA g m E) rfl h1 rfl (ErL.agg (.cons qf (.cons qf (.cons qf (.cons (.str _) (.cons (.str _) (.cons qf (.cons qf (.cons (.mapo _ _ rfl h2) (.cons (@jv _ _ _ _ _ (Y2 _ _)) .nil))))))))))
theorem qfI (H:Nat→Option MObj):rsH (fun _=>true) H=H:=by
 funext j;rfl
theorem qbX {P:Program} [Glob P] {cls:Cls} {id:Nat} {s:St} {K:V→St→Prop} (f:FuncId) (x:Opd):qd P cls id s K (.mkmfn f x)=K (.mfn f (ev s x)) s:=rfl
theorem qaQ {g:Grammar} {m:List Sta} (hg:GOk g) (hM:MOk g m) (hR: ∀q∈m,RMv q):Pure Tryz.prog 18 [g.V,.sl 2 false (m.map Sta.V)] (.sl 1 false ((kL m).map yQ)):=by
 refine pure_intro Tryz.func18 nm_ qkb (by show 2≤13;decide) ?_
 show ewp _ qOu _ _
 obtain ⟨E,hE,_⟩:=X7 (token:=false) hg
 have he:=yA (E:=E) (F:=qcP m) (f:=53) hM (fun t ht H next=>by
  obtain ⟨a,b⟩:=t
  obtain ⟨i,hi⟩:=List.getElem?_of_mem ht
  obtain ⟨n,rfl,hn⟩:=VW hi
  exact qdi hg hM ht) (fun t ht=>⟨qaB hM hR t,by
   unfold qcP
   have h1:=Zc hM (goS m t.1 t.2)
   have h2:=List.length_filter_le (fun p:Int×Int=>decide (p.1<1000)) (xB m (goS m t.1 t.2))
   rw[List.length_append,List.length_map]
   split<;>simp<;>omega⟩)
 have hd:((qg m).map fun t=>Lib.compact (qcP m t))=kL m:=by
  rw[Zm]
  exact List.map_congr_left fun t _=>Vx (qaB hM hR t)
 rw[hd]at he
 repeat' with_reducible first
  |refine zN ?_
  |simp -implicitDefEqProofs only[wZZ,seval,qbX]
  |(refine zk rfl rfl rfl ((of_run hg hM hR hE).mono ?_);rintro v1 H1 n1 ⟨i,j,rfl,q1,q2,q3,q4,q5⟩)
  |refine t_ ?_
 refine zk (H:=H1) rfl wu_ rfl ((Zu (fun _=>true) (by rw[qfI];exact zi (QO q3 q5) (zi (.mfn _ _ _ (QO q3 q5)) yX)) he).mono ?_)
 rintro v2 H2 n2 ⟨rfl,rfl,rfl⟩
 repeat' with_reducible first
  |refine Vo ?_
  |simp -implicitDefEqProofs only[wZZ,seval]
 refine qx rfl (Or.inr rfl) ?_
 (simp -implicitDefEqProofs only[wL,seval])
 exact qf
theorem qdy {g:Grammar} {m:List Sta} {E:Nat→Bool} (hg:GOk g) (hM:MOk g m) (hR: ∀q∈m,RMv q) (hE:IsGrow g false E):Pure Tryz.prog 20 [g.V,.sl 2 false (m.map Sta.V)] (.sl 1 false ((Jf E m).map yQ)):=by
 refine pure_intro Tryz.func20 nm_ qlh (by show 2≤13;decide) ?_
 show ewp _ qNb _ _
 have hrn: ∀t∈qg m,qJ7 (qck E m t):=fun t ht=>(qfu hM hR E ht).imp Int.le_of_lt
 have he:=yA (E:=E) (F:=qck E m) (f:=56) hM (fun t ht H next=>by
  obtain ⟨a,b⟩:=t
  obtain ⟨i,hi⟩:=List.getElem?_of_mem ht
  obtain ⟨n,rfl,hn⟩:=VW hi
  exact qd3 hg hM hR ht) (fun t ht=>⟨hrn t ht,by
   unfold qck
   have h1:=Zc hM (goS m t.1 t.2)
   have h2:=List.length_filter_le (fun p:Int×Int=>decide (1000≤p.1∧E (p.1 - 1000).toNat=true)) (xB m (goS m t.1 t.2))
   rw[List.length_map]
   omega⟩)
 have hd:((qg m).map fun t=>Lib.compact (qck E m t))=Jf E m:=by
  rw[XH]
  exact List.map_congr_left fun t ht=>Vx (hrn t ht)
 rw[hd]at he
 repeat' with_reducible first
  |refine zN ?_
  |simp -implicitDefEqProofs only[wZZ,seval,qbX]
  |(refine zk rfl rfl rfl ((of_run hg hM hR hE).mono ?_);rintro v1 H1 n1 ⟨i,j,rfl,q1,q2,q3,q4,q5⟩)
  |refine t_ ?_
 refine zk (H:=H1) rfl wu_ rfl ((Zu (fun _=>true) (by rw[qfI];exact zi (QO q3 q5) (zi (.mfn _ _ _ (QO q3 q5)) yX)) he).mono ?_)
 rintro v2 H2 n2 ⟨rfl,rfl,rfl⟩
 repeat' with_reducible first
  |refine Vo ?_
  |simp -implicitDefEqProofs only[wZZ,seval]
 refine qx rfl (Or.inr rfl) ?_
 (simp -implicitDefEqProofs only[wL,seval])
 exact qf

theorem qBr {s:St} {sz off:Nat} {e:V} {K:V→Prop} (hk:K (.iptr sz e off)):onS (qW s false 1 (.iptr 1 (.iptr sz e off) 0)) K:=hk
theorem vY {g:Grammar} {m:List Sta} {E:Nat→Bool} {y:Int} (hy:y<1000∨ ∃k:Nat,y=1000+(k:Int)∧k<g.nons.length) (hnn:g.nons.length≤1000000):Pure Tryz.prog 125 [vi y,.iptr 1 (.iptr 9 (QA g m E) 0) 0] (.bool (!(if y<1000 then false else E (y - 1000).toNat))):=by
 refine pure_intro Tryz.func125 nm_ qd1 (by show 2≤17;decide) ?_
 show ewp _ qjl _ _
 rcases hy with hy|⟨k,rfl,hk⟩
 · rw[if_pos hy]
   repeat' with_reducible first
    |refine s_ ?_
    |simp -implicitDefEqProofs only[wZZ,seval,hy]
   all_goals refine qx rfl (Or.inr rfl) ?_
   all_goals(try simp -implicitDefEqProofs only[wL,seval])
   all_goals refine er_ ?_
   all_goals(try(with_reducible rfl))
 · rw[if_neg o_,show (1000+(k:Int) - 1000).toNat=k by omega]
   have hn: ¬ (1000+(k:Int)<1000):=o_
   have hz1:IntKind.i64.wrap (1000+(k:Int) - 1000)=(k:Int):=by rw[wrap64 o_ o_];omega
   repeat' with_reducible first
    |refine s_ ?_
    |simp -implicitDefEqProofs only[wZZ,seval,hn,hz1]
    |apply qgm;exact hk
    |(apply qBr)
    |refine t_ ?_
   all_goals refine qx rfl (Or.inr rfl) ?_
   all_goals(try simp -implicitDefEqProofs only[wL,seval])
   all_goals refine er_ ?_
   all_goals(try(with_reducible rfl))
def qc0 (p:Int→Bool):List Int→Nat→Int
 |[],_=> -1
 |y::l,i=>if p y=true then(i:Int)else qc0 p l (i+1)
theorem qht {p:Int→Bool} {l:List Int} {y:Int} {i n:Nat} (h:l[i]?=some y):qc0 p (l.drop i) n=if p y=true then(n:Int)else qc0 p (l.drop (i+1)) (n+1):=by
 have hi:=(List.getElem?_eq_some_iff.1 h)
 rw[List.drop_eq_getElem_cons hi.1,hi.2];rfl
theorem qcs {p:Int→Bool}: ∀(l:List Int) (n:Nat),decide (0≤qc0 p l n)=l.any p
 |[],n=>by simp[qc0]
 | y::l,n=>by
   unfold qc0
   rw[List.any_cons,← qcs l (n+1)]
   cases h:p y<;>simp
theorem yE {l:List Int} {fid:FuncId} {caps:List V} {p:Int→Bool} (hl:l.length≤1000000) (hc: ∀b H,ErL b H caps caps) (hp: ∀x∈l,Pure Tryz.prog fid (vi x::caps) (.bool (p x))):Pure Tryz.prog 148 [.sl 1 false (l.map (V.int .i64)),.fn fid caps] (vi (qc0 p l 0)):=by
 refine pure_intro Tryz.func148 nm_ qdV (by show 2≤19;decide) ?_
 show ewp _ qey _ _
 repeat' with_reducible first
  |refine s_ ?_
  |simp -implicitDefEqProofs only[wZZ,seval]
 refine qc ?nx1 (fun(i:Nat) s=>s.f 0=?v1_0∧s.f 1=?v1_1∧s.f 7=?v1_7∧s.f 8=vi i∧(i≤l.length)∧(qc0 p l 0=qc0 p (l.drop i) i)) (fun i=>l.length - i) (0) wj_ (by refine⟨?_,?_,?_,?_,wo_,(by rfl)⟩<;>first|(simp -implicitDefEqProofs only[wL,wM,wN,wX,seval,Option.some.injEq]<;>exact wt_)|rfl|exact⟨_,rfl⟩) ?_
 intro i s hnx ⟨g0,g1,g7,g8,k1_0,k1_1⟩
 have hz:=w1_ i
 by_cases hi:i<l.length
 · have hgi:l[i]?=some l[i]:=ge_ hi
   have hst:=qht (p:=p) (n:=i) hgi
   have hpx:=hp _ (List.getElem_mem hi)
   generalize l[i]=y at *
   repeat' with_reducible first
    |refine s_ ?_
    |simp -implicitDefEqProofs only[wZZ,seval,g0,g1,g7,g8,hz]
    |apply qa<;>intro h h_<;>(try simp only[wD,reduceCtorEq]at h_)<;>(try exact wb_)<;>(try simp only[h])
    |refine t_ ?_
   refine qjf (fid:=fid) (caps:=caps) (as':=vi y::caps) rfl rfl rfl (zi (.int _ _) (hc _ _).get) hpx (Flat.bool _) ?_
   cases hb:p y with
   | true=>
     rw[hb,if_pos rfl]at hst
     rw[k1_1,hst]
     repeat' with_reducible first
      |refine s_ ?_
      |simp -implicitDefEqProofs only[wZZ,seval,g0,g1,g7,g8,hz]
     all_goals refine qx rfl (Or.inr rfl) ?_
     all_goals(try simp -implicitDefEqProofs only[wL,seval,g0,g1,g7,g8])
     all_goals refine er_ ?_
     all_goals(try(with_reducible rfl))
   | false=>
     rw[hb,if_neg (by simp)]at hst
     repeat' with_reducible first
      |refine s_ ?_
      |simp -implicitDefEqProofs only[wZZ,seval,g0,g1,g7,g8,hz]
     refine⟨wk_,i+1,o_,?_⟩
     refine⟨?_,?_,?_,?_,?_,?_⟩
     iterate 4 (focus(first|(simp -implicitDefEqProofs only[wL,wM,wN,wX,seval,Option.some.injEq,g0,g1,g7,g8]<;>exact wt_)|rfl|exact⟨_,rfl⟩))
     all_goals try omega
 · have e:l.drop i=[]:=List.drop_of_length_le o_
   rw[e]at k1_1
   rw[k1_1]
   repeat' with_reducible first
    |refine s_ ?_
    |simp -implicitDefEqProofs only[wZZ,seval,g0,g1,g7,g8,hz]
    |apply qa<;>intro h h_<;>(try simp only[wD,reduceCtorEq]at h_)<;>(try exact wb_)<;>(try simp only[h])
   all_goals refine qx rfl (Or.inr rfl) ?_
   all_goals(try simp -implicitDefEqProofs only[wL,seval,g0,g1,g7,g8])
   all_goals refine er_ ?_
   all_goals(try(with_reducible rfl))
   all_goals rfl
theorem qlu {b:Bool} {H:Nat→Option MObj} {f:FuncId} {c c':List V} (h:ErL b H c c'):Er b H (.fn f c) (.fn f c'):= .fn _ _ _ h.get.1 h.get.2
theorem xw {l:List Int} {fid:FuncId} {caps:List V} {p:Int→Bool} (hl:l.length≤1000000) (hc: ∀b H,ErL b H caps caps) (hp: ∀x∈l,Pure Tryz.prog fid (vi x::caps) (.bool (p x))):Pure Tryz.prog 124 [.sl 1 false (l.map (V.int .i64)),.fn fid caps] (.bool (l.any p)):=by
 refine pure_intro Tryz.func124 nm_ qgI (by show 2≤9;decide) ?_
 show ewp _ qjI _ _
 have hix:=yE hl hc hp
 rw[← qcs l 0]
 repeat' with_reducible first
  |refine s_ ?_
  |simp -implicitDefEqProofs only[wZZ,seval]
  |refine cq2 hix qf (qlu (hc _ _)) ?_
 all_goals refine qx rfl (Or.inr rfl) ?_
 all_goals(try simp -implicitDefEqProofs only[wL,seval])
 all_goals refine er_ ?_
 all_goals(try(with_reducible rfl))
theorem Qw {g:Grammar} {m:List Sta} {E:Nat→Bool} {l:List Int} (hl:l.length≤1000000) (hs: ∀y∈l,y<1000∨ ∃k:Nat,y=1000+(k:Int)∧k<g.nons.length) (hnn:g.nons.length≤1000000):Pure Tryz.prog 93 [.iptr 9 (QA g m E) 0,.sl 1 false (l.map (V.int .i64))] (.bool (zT false E l)):=by
 refine pure_intro Tryz.func93 nm_ qjb (by show 2≤9;decide) ?_
 show ewp _ qN2 _ _
 have hcf:=xw (l:=l) (fid:=125) (caps:=[.iptr 1 (.iptr 9 (QA g m E) 0) 0]) (p:=fun y=> !(if y<1000 then false else E (y - 1000).toNat)) hl (fun b H=>.cons (.iptr _ _ _ _ Qq) .nil) (fun x hx=>vY (m:=m) (hs x hx) hnn)
 have e:zT false E l= !(l.any fun y=> !(if y<1000 then false else E (y - 1000).toNat)):=by
  unfold zT
  rw[List.not_any_eq_all_not]
  simp only[Bool.not_not]
 rw[e]
 repeat' with_reducible first
  |refine s_ ?_
  |simp -implicitDefEqProofs only[wZZ,seval]
  |apply qI (hp:=hcf);exact qf;exact qlu (.cons (.ptr 0 0 0 1 _ false _ _ rfl rfl rfl Qq) .nil);exact wu_;exact Flat.bool _
  |refine t_ ?_
 all_goals refine qx rfl (Or.inr rfl) ?_
 all_goals(try simp -implicitDefEqProofs only[wL,seval])
 all_goals refine er_ ?_
 all_goals(try(with_reducible rfl))

def zV (E:Nat→Bool) (m:List Sta) (i:Nat) (q:Int) (r:List Int) (out:List (List Int)) (k:Nat):List (List Int):=
 if 1000≤r.getD k 0∧zT false E (r.drop (k+1))=true∧0≤zU m q (r.take k)∧0≤Ze (qg m) (zU m q (r.take k)) (r.getD k 0)then
  out.modify (Ze (qg m) (zU m q (r.take k)) (r.getD k 0)).toNat fun l=>l++[(i:Int)]
 else out
def xH (E:Nat→Bool) (m:List Sta) (i:Nat) (t:Int×Int) (out:List (List Int)) (p:GPr):List (List Int):=
 if 1000+p.left=t.2 then(List.range p.right.length).foldl (zV E m i t.1 p.right) out else out
def qbT (g:Grammar) (E:Nat→Bool) (m:List Sta) (out:List (List Int)) (i:Nat):List (List Int):=g.prods.foldl (xH E m i ((qg m).getD i (0,0))) out
def Vu (g:Grammar) (E:Nat→Bool) (m:List Sta) (n:Nat):List (List Int):=(List.range n).foldl (qbT g E m) (List.replicate (qg m).length [])
theorem qxv {α β:Type} (g:α→β) (f:α→α) (f':β→β) (h: ∀x,g (f x)=f' (g x)) (l:List α) (i:Nat):(l.modify i f).map g=(l.map g).modify i f':=by
 refine List.ext_getElem? fun j=>?_
 rw[List.getElem?_map,List.getElem?_modify,List.getElem?_modify,List.getElem?_map]
 cases l[j]? with
 |none=>rfl
 | some x=>
   by_cases e:i=j
   · simp[e,h]
   · simp[e]
theorem qhT (l:List Int) (x:Int):jm (l++[x])=jo (jm l) x:=by
 unfold jm;rw[List.foldl_append];rfl
theorem qeS {E:Nat→Bool} {m:List Sta} {i:Nat} {q:Int} {r:List Int} (out:List (List Int)) (k:Nat):(zV E m i q r out k).map jm=Zd E m i q r (out.map jm) k:=by
 unfold zV Zd
 simp only
 split
 · exact qxv jm _ _ (fun l=>qhT l _) out _
 · rfl
theorem fold_map {α β γ:Type} (h:β→γ) (f:β→α→β) (f':γ→α→γ) (e: ∀b a,h (f b a)=f' (h b) a): ∀(l:List α) (b:β),h (l.foldl f b)=l.foldl f' (h b)
 |[],b=>rfl
 |a::l,b=>by rw[List.foldl_cons,List.foldl_cons,fold_map h f f' e l,e]
theorem qdW {E:Nat→Bool} {m:List Sta} {i:Nat} {t:Int×Int} (out:List (List Int)) (p:GPr):(xH E m i t out p).map jm=ZU E m i t (out.map jm) p:=by
 unfold xH ZU
 split
 · exact fold_map (List.map jm) _ _ (fun b a=>qeS b a) _ _
 · rfl
theorem K5 (g:Grammar) (E:Nat→Bool) (m:List Sta):(Vu g E m (qg m).length).map jm=zK g E m:=by
 unfold Vu zK
 have h:=fold_map (List.map jm) (qbT g E m) (fun out i=>g.prods.foldl (ZU E m i ((qg m).getD i (0,0))) out) (fun b a=>fold_map (List.map jm) _ _ (fun b p=>qdW b p) _ _) (List.range (qg m).length) (List.replicate (qg m).length [])
 rw[h]
 congr 1
 simp[jm]
structure RowsI (n:Nat) (i:Int) (c:Nat) (out:List (List Int)):Prop where
 ln:out.length=n
 nd: ∀l∈out,l.Pairwise (· ≤ ·)
 le: ∀l∈out,(∀x∈l,x≤i)∧l.length≤c
theorem RowsI.mono {n:Nat} {i i':Int} {c c':Nat} {out:List (List Int)} (h:RowsI n i c out) (hi:i≤i') (hc:c≤c'):RowsI n i' c' out:=
 ⟨h.ln,h.nd,fun l hl=>⟨fun x hx=>Int.le_trans ((h.le l hl).1 x hx) hi,Nat.le_trans (h.le l hl).2 hc⟩⟩
theorem RowsI.push {n j:Nat} {i:Int} {c:Nat} {out:List (List Int)} (h:RowsI n i c out):RowsI n i (c+1) (out.modify j fun l=>l++[i]):=by
 have key: ∀l∈out.modify j (fun l=>l++[i]),l∈out∨ ∃l0∈out,l=l0++[i]:=fun l hl=>by
  obtain ⟨k,hk⟩:=List.getElem?_of_mem hl
  rw[List.getElem?_modify]at hk
  cases ho:out[k]? with
  |none=>rw[ho]at hk;cases hk
  | some l0=>
    rw[ho]at hk
    by_cases e:j=k
    · simp[e]at hk;exact Or.inr ⟨l0,List.mem_of_getElem? ho,hk.symm⟩
    · simp[e]at hk;subst hk;exact Or.inl (List.mem_of_getElem? ho)
 refine⟨by rw[List.length_modify];exact h.ln,fun l hl=>?_,fun l hl=>?_⟩
 · rcases key l hl with h0|⟨l0,h0,rfl⟩
   · exact h.nd l h0
   · exact List.pairwise_append.2 ⟨h.nd l0 h0,by simp,fun a ha b hb=>by rw[List.mem_singleton]at hb;subst hb;exact(h.le l0 h0).1 a ha⟩
 · rcases key l hl with h0|⟨l0,h0,rfl⟩
   · exact⟨(h.le l h0).1,Nat.le_succ_of_le (h.le l h0).2⟩
   · refine⟨fun x hx=>?_,by rw[List.length_append,List.length_singleton];have:=(h.le l0 h0).2;omega⟩
     rw[List.mem_append,List.mem_singleton]at hx
     rcases hx with hx|rfl
     · exact(h.le l0 h0).1 x hx
     · exact Int.le_refl _
theorem RowsI.stepK {E:Nat→Bool} {m:List Sta} {i:Nat} {q:Int} {r:List Int} {n c:Nat} {out:List (List Int)} (h:RowsI n i c out) (k:Nat):RowsI n i (c+1) (zV E m i q r out k):=by
 unfold zV
 split
 · exact h.push
 · exact h.mono (Int.le_refl _) (Nat.le_succ _)
theorem RowsI.new (n:Nat):RowsI n 0 0 (List.replicate n []):=
 ⟨List.length_replicate,fun l hl=>by rw[(List.mem_replicate.1 hl).2];exact List.Pairwise.nil,fun l hl=>by rw[(List.mem_replicate.1 hl).2];exact⟨(fun x hx=>by cases hx),Nat.le_refl _⟩⟩

def YM:V→Option Nat
 |.msl id _ _ _=>some id
 | _=>none
theorem qQK {cls:Cls} {id:Nat} {s:St} {K:V→St→Prop} {z bytes:Nat} {vx vy:V} {xs ys:List V} {base next:Nat} (hcl:(cls == .t)=false)
 (hg:GrN s.H base next z xs vx) (hs:qP s.H z ys vy) (hb:(xs.length+ys.length) *bytes≤140737488355328) (hl:xs.length+ys.length≤maxLen)
 (hk: ∀H',H' id=some (.own z (xs++ys) false)→(∀j,j≠id→YM vx≠some j→H' j=s.H j)→K (.msl id z 0 (xs++ys).length) {s with H:=H'}):Kh cls id s K true z bytes vx vy:=by
 unfold Kh
 rw[hs.1 s rfl]
 refine⟨fun e=>(by subst e;cases hcl),?_⟩
 rcases hg with ⟨rfl,rfl⟩|⟨_,i,rfl,h1,h2,h3⟩
 · have e:qE id s true z (.sl z true []) ys=some (.msl id z 0 ys.length,s.setO id (some (.own z ys false)),ys.length):=by simp[qE]
   rw[e]
   refine⟨by simpa using hb,by simpa using hl,?_⟩
   exact hk (fun i=>if i=id then some (.own z ys false)else s.H i) (by simp) (fun j hj _=>by simp[hj])
 · have e:qE id s true z (.msl i z 0 xs.length) ys=some (.msl id z 0 (xs.length+ys.length),(s.setO i none).setO id (some (.own z (xs++ys) false)),xs.length+ys.length):=by simp[qE,h1]
   rw[e]
   refine⟨hb,hl,?_⟩
   have:=hk (fun j=>if j=id then some (.own z (xs++ys) false)else if j=i then none else s.H j) (by simp) (fun j hj hne=>by
    have:j≠i:=fun e=>hne (by rw[e];rfl)
    simp[hj,this])
   rw[List.length_append]at this
   exact this
theorem qTH {id base next:Nat} {s:St} {K:V→St→Prop} {zs:List Int} {v:V} (hG:GrN s.H base next 1 (zs.map (V.int .i64)) v) (hl:zs.length≤1000000000)
 (hk: ∀v' H',Ki H' base next (Lib.compact zs) v'→(v'=.sl 1 false []∨YM v'=YM v)→(∀j,YM v≠some j→H' j=s.H j)→K v' {s with H:=H'}):kT Tryz.prog .any id s K 90 [v]:=by
 rcases hG with ⟨h0,rfl⟩|⟨h0,i,rfl,h1,hb,hn⟩
 · cases zs with
   |nil=>exact jF (hE:=ErL.sl .nil) (hp:=qcE) (hk _ s.H (Or.inl ⟨rfl,rfl⟩) (Or.inl rfl) fun _ _=>rfl)
   |cons a l=>cases h0
 · have hn0:0<zs.length:=by
    cases zs with
    |nil=>exact absurd rfl h0
    |cons a l=>simp
   have hle:=Lib.compact_length_le zs
   rw[List.length_map]at hk ⊢
   refine qf5 rfl ((slices_Compact (next:=s.next) h1 hn0 o_).mono ?_)
   rintro v H' n' ⟨rfl,rfl,h2,h3⟩
   exact hk _ H' (Or.inr ⟨i,_,rfl,h2,by simp,by rw[List.map_append,List.take_append_of_le_length (by simp),List.take_of_length_le (by simp)],hb,hn⟩) (Or.inr rfl) fun j hj=>h3 j (fun e=>hj (by rw[e];rfl))
theorem Ki.keepM {H H':Nat→Option MObj} {base next next':Nat} {l:List Int} {v:V} (h:Ki H base next l v) (hn:next≤next') (hH: ∀j,YM v=some j→H' j=H j):Ki H' base next' l v:=by
 rcases h with h|⟨id,es,rfl,h2,h3,h4,h5,h6⟩
 · exact Or.inl h
 · exact Or.inr ⟨id,es,rfl,by rw[hH id rfl];exact h2,h3,h4,h5,o_⟩
structure TabN (H:Nat→Option MObj) (base next:Nat) (L:List (List Int)) (es:List V):Prop where
 ln:es.length=L.length
 row: ∀(k:Nat) l,L[k]?=some l→ ∃v,es[k]?=some v∧GrN H base next 1 (l.map (V.int .i64)) v
 ap: ∀(j k:Nat) v w i,j≠k→es[j]?=some v→es[k]?=some w→YM v=some i→YM w≠some i
theorem GrN.mid {H:Nat→Option MObj} {base next z:Nat} {es:List V} {v:V} (h:GrN H base next z es v) {i:Nat} (e:YM v=some i):base≤i∧i<next:=by
 rcases h with ⟨_,rfl⟩|⟨_,id,rfl,_,h2,h3⟩
 · cases e
 · cases e;exact⟨h2,h3⟩
theorem GrN.keepM {H H':Nat→Option MObj} {base next next' z:Nat} {es:List V} {v:V} (h:GrN H base next z es v) (hn:next≤next') (hH: ∀j,YM v=some j→H' j=H j):GrN H' base next' z es v:=by
 rcases h with h|⟨h0,id,rfl,h1,h2,h3⟩
 · exact Or.inl h
 · exact Or.inr ⟨h0,id,rfl,by rw[hH id rfl];exact h1,h2,o_⟩
theorem TabN.keep {H H':Nat→Option MObj} {base next next':Nat} {L:List (List Int)} {es:List V} (h:TabN H base next L es) (hn:next≤next') (hH: ∀j,base≤j→j<next→H' j=H j):TabN H' base next' L es:=
 ⟨h.ln,fun k l hl=>by obtain ⟨v,h1,h2⟩:=h.row k l hl;exact⟨v,h1,h2.keep rfl hn hH⟩,h.ap⟩
theorem TabN.new (H:Nat→Option MObj) (base next n:Nat):TabN H base next (List.replicate n []) (List.replicate n (.sl 1 true [])):=by
 refine⟨by simp,fun k l hl=>?_,fun j k v w i _ hv _ hm=>?_⟩
 · have hk:=(List.getElem?_eq_some_iff.1 hl).1
   rw[List.length_replicate]at hk
   rw[List.getElem?_replicate,if_pos hk]at hl
   cases hl
   exact⟨_,by rw[List.getElem?_replicate,if_pos hk],Or.inl ⟨rfl,rfl⟩⟩
 · obtain ⟨_,e⟩:=List.mem_replicate.1 (List.mem_of_getElem? hv)
   rw[e]at hm;cases hm
theorem TabN.put {H H':Nat→Option MObj} {base next next' k id:Nat} {L:List (List Int)} {es:List V} {l':List Int} {v w:V} (h:TabN H base next L es) (hv:es[k]?=some v) (hn:next≤next') (hid:next≤id) (hw:YM w=some id)
 (hg:GrN H' base next' 1 (l'.map (V.int .i64)) w) (hH: ∀j,j<next→base≤j→YM v≠some j→H' j=H j):TabN H' base next' (L.set k l') (es.set k w):=by
 refine⟨by rw[List.length_set,List.length_set];exact h.ln,fun a l hl=>?_,fun a b x y i hab hx hy hm=>?_⟩
 · rw[List.getElem?_set]at hl
   by_cases e:k=a
   · subst e
     have hk:=(List.getElem?_eq_some_iff.1 hv).1
     rw[if_pos rfl,if_pos (by rw[← h.ln];exact hk)]at hl
     cases hl
     exact⟨w,List.getElem?_set_self hk,hg⟩
   · rw[if_neg e]at hl
     obtain ⟨x,h1,h2⟩:=h.row a l hl
     refine⟨x,by rw[List.getElem?_set_ne e];exact h1,h2.keepM hn fun j hj=>?_⟩
     obtain ⟨b1,b2⟩:=h2.mid hj
     exact hH j b2 b1 fun e2=>h.ap k a v x j e hv h1 e2 hj
 · intro hm2
   have old: ∀(c:Nat) z j,c≠k→es[c]?=some z→YM z=some j→j<next:=fun c z j hc hz hj=>by
    have hlt:=(List.getElem?_eq_some_iff.1 hz).1
    obtain ⟨z',h1,h2⟩:=h.row c _ (ge_ (by rw[← h.ln];exact hlt))
    rw[hz]at h1;cases h1
    exact(h2.mid hj).2
   by_cases ea:k=a
   · subst ea
     have hk:=(List.getElem?_eq_some_iff.1 hv).1
     rw[List.getElem?_set_self hk]at hx
     cases hx
     rw[hw]at hm;cases hm
     rw[List.getElem?_set_ne hab]at hy
     have:=old b y id (fun e=>hab e.symm) hy hm2
     omega
   · rw[List.getElem?_set_ne ea]at hx
     by_cases eb:k=b
     · subst eb
       have hk:=(List.getElem?_eq_some_iff.1 hv).1
       rw[List.getElem?_set_self hk]at hy
       cases hy
       rw[hw]at hm2;cases hm2
       have:=old a x id (fun e=>ea e.symm) hx hm
       omega
     · rw[List.getElem?_set_ne eb]at hy
       exact h.ap a b x y i hab hx hy hm hm2
structure TabM (H:Nat→Option MObj) (base next:Nat) (L:List (List Int)) (j:Nat) (es:List V):Prop where
 ln:es.length=L.length
 old: ∀(k:Nat) l,L[k]?=some l→j≤k→ ∃v,es[k]?=some v∧GrN H base next 1 (l.map (V.int .i64)) v
 new: ∀(k:Nat) l,L[k]?=some l→k<j→ ∃v,es[k]?=some v∧Ki H base next (Lib.compact l) v
 ap: ∀(j k:Nat) v w i,j≠k→es[j]?=some v→es[k]?=some w→YM v=some i→YM w≠some i
theorem TabN.toM {H:Nat→Option MObj} {base next:Nat} {L:List (List Int)} {es:List V} (h:TabN H base next L es):TabM H base next L 0 es:=
 ⟨h.ln,fun k l hl _=>h.row k l hl,fun k l hl hk=>absurd hk (Nat.not_lt_zero _),h.ap⟩
theorem TabM.keep {H H':Nat→Option MObj} {base next next' j:Nat} {L:List (List Int)} {es:List V} (h:TabM H base next L j es) (hn:next≤next') (hH: ∀j,base≤j→j<next→H' j=H j):TabM H' base next' L j es:=
 ⟨h.ln,fun k l hl hk=>by obtain ⟨v,h1,h2⟩:=h.old k l hl hk;exact⟨v,h1,h2.keep rfl hn hH⟩,fun k l hl hk=>by obtain ⟨v,h1,h2⟩:=h.new k l hl hk;exact⟨v,h1,h2.keep (Nat.le_refl _) hn hH⟩,h.ap⟩
theorem TabM.step {H H':Nat→Option MObj} {base next j:Nat} {L:List (List Int)} {es:List V} {l:List Int} {v w:V} (h:TabM H base next L j es) (hl:L[j]?=some l) (hv:es[j]?=some v)
 (hw:Ki H' base next (Lib.compact l) w) (hm:w=.sl 1 false []∨YM w=YM v) (hH: ∀a,YM v≠some a→H' a=H a):TabM H' base next L (j+1) (es.set j w):=by
 have hj:=(List.getElem?_eq_some_iff.1 hv).1
 have ne: ∀(k:Nat) x a,k≠j→es[k]?=some x→YM x=some a→YM v≠some a:=fun k x a hk hx ha e=>h.ap j k v x a (fun e2=>hk e2.symm) hv hx e ha
 refine⟨by rw[List.length_set];exact h.ln,fun k l' hl' hk=>?_,fun k l' hl' hk=>?_,fun a b x y i hab hx hy hx2 hy2=>?_⟩
 · obtain ⟨x,h1,h2⟩:=h.old k l' hl' o_
   exact⟨x,by rw[List.getElem?_set_ne o_];exact h1,h2.keepM (Nat.le_refl _) fun a ha=>hH a (ne k x a o_ h1 ha)⟩
 · by_cases e:k=j
   · subst e
     rw[hl]at hl';cases hl'
     exact⟨w,List.getElem?_set_self hj,hw⟩
   · obtain ⟨x,h1,h2⟩:=h.new k l' hl' o_
     exact⟨x,by rw[List.getElem?_set_ne (fun e2=>e e2.symm)];exact h1,h2.keepM (Nat.le_refl _) fun a ha=>hH a (ne k x a e h1 ha)⟩
 · by_cases ea:j=a
   · subst ea
     rw[List.getElem?_set_self hj]at hx
     cases hx
     rw[List.getElem?_set_ne hab]at hy
     rcases hm with rfl|hm
     · cases hx2
     · exact ne b y i (fun e=>hab e.symm) hy hy2 (by rw[← hm];exact hx2)
   · rw[List.getElem?_set_ne ea]at hx
     by_cases eb:j=b
     · subst eb
       rw[List.getElem?_set_self hj]at hy
       cases hy
       rcases hm with rfl|hm
       · cases hy2
       · exact ne a x i (fun e=>ea e.symm) hx hx2 (by rw[← hm];exact hy2)
     · rw[List.getElem?_set_ne eb]at hy
       exact h.ap a b x y i hab hx hy hx2 hy2
theorem TabM.row {H:Nat→Option MObj} {base next:Nat} {L:List (List Int)} {es:List V} (h:TabM H base next L L.length es):TabR H base next (L.map Lib.compact) (L.map Lib.compact).length es:=
 ⟨by rw[List.length_map];exact h.ln,fun k l hl hk=>by
  rw[List.getElem?_map,Option.map_eq_some_iff]at hl
  obtain ⟨l0,hl0,rfl⟩:=hl
  exact h.new k l0 hl0 (List.getElem?_eq_some_iff.1 hl0).1,fun k h1 h2=>absurd h2 o_⟩
end Go.Proofs
