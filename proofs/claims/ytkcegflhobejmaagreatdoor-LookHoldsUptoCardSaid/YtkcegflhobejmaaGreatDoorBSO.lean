import Derived.Sort.Grow
import Derived.Lib.RowBridge
import Derived.Shelf.SlGeneric
import Derived.Shelf.Lays2
import Derived.Shelf.Sort.Plain
import Derived.Ground.Names2Prog
import Derived.Ground.NamesProg
import Derived.Shelf.Small.Wraps
import Derived.Deep.QuietTactic
import Derived.BigQuiet
import Derived.WalkKit
import Derived.Shelf.Slices.CompactI
import Derived.Shelf.SlSortCmp.WholeK
import Derived.Ground.SlsfProg
import Derived.LoopTactic
import Derived.BigRegion
import Derived.StillTailTactics
import Derived.Test.YtkcegflhobejmaaGreatDoorBJA
import Derived.Shelf.Slices.Clone
set_option maxRecDepth 20000
set_option linter.all false
set_option maxHeartbeats 4000000
namespace Go.Proofs
open Go.E Go.Sort Go.Lib Go.RowKit
variable {β:Nat->Option E.Loc} {w:World} {lim:Nat->Option Nat} {v:Go.E.V} {r:Value} {sz off:Nat}
theorem R.msl_inv(h:R β w lim v r){id len:Nat}(e:v=.msl id sz off len)(hl:0<len):
 ∃l cap,β id=some l/\l.size=sz/\r=.slice (some ⟨l.b,l.o+off *sz,none⟩) len cap:=by
 cases h<;>cases e
 . omega
 . exact⟨_,_,by assumption,rfl,rfl⟩
theorem R.msl_inv2(h:R β w lim v r){id len:Nat}(e:v=.msl id sz off len)(hl:0<len):
 ∃l cap,β id=some l/\l.size=sz/\r=.slice (some ⟨l.b,l.o+off *sz,none⟩) len cap/\len<=cap/\cap<=maxLen/\l.o+(off+cap) *l.size<=zQ w l.b:=by
 cases h<;>cases e
 . omega
 . exact⟨_,_,by assumption,rfl,rfl,by assumption,by assumption,by assumption⟩
theorem R.int_inv(h:R β w lim v r){k:IntKind}{n:Int}(e:v=.int k n):r=.int k n:=by cases h<;>cases e;rfl
variable {H:Nat->Option MObj}
theorem qcv{α:Type}[Inhabited α]{w':World}{next base id:Nat}(hR:RelH H next β lim base w){es:List V}(hH:H id=some (.own 1 es false))
{l:E.Loc}(hβ:β id=some l)(hpos:0<es.length){enc:α->Value}{v:α->V}{d:Array α}(hd:d.size=es.length)
(hv:∀x∈d.toList,(v x).cells=[v x]/\(v x).scalar=true/\R β w lim (v x) (enc x)){n:Nat}{os:Array Obj}(hw:w'=grow (putRow enc (Sort.ahead w n) l.b l.o d) os):
 RelH (λj=>if j=id then some (.own 1 (d.toList.map v) false)else H j) next β lim base w'/\Ext lim w w'/\RowKit.Below base w w':=by
 rcases hR.obj id _ hH with ⟨h1,h0⟩|⟨l',cur,et,h1,h2,h3,h4,h5,h6,h7⟩
 . rw[h1]at hβ;cases hβ
 . rw [hβ]at h1;cases h1;rw[Nat.mul_one]at h4;have hlb:l.b<w.heap.size:=(hR.own id l hβ).2;have hid:id<next:=by
    rcases Nat.lt_or_ge id next with h|h
    . exact h
    . have:=(hR.fresh id h).2;rw[hH]at this;cases this
   have at_:w'.heap[l.b]?=some (.cells (putCells enc l.o d cur) et (0,0)):=by rw[hw,heap_grow_old _ _ (by simpa using hlb)];simp[putRow,mapBlock,Sort.ahead,Array.getElem?_modify,h3,onCells]
   have other:∀k,k<w.heap.size->k≠l.b->w'.heap[k]?=w.heap[k]?:=λk hk hne=>by
    rw[hw,heap_grow_old _ _ (by simpa using hk)]
    have:l.b≠k:=λe=>hne e.symm
    simp[putRow,mapBlock,Sort.ahead,Array.getElem?_modify,this]
   have size_:w.heap.size<=w'.heap.size:=by rw[hw];simp[grow,putRow,mapBlock,Sort.ahead]
   have psz:(putCells enc l.o d cur).size=cur.size:=(by simp[putCells]);have s123:w'.os=w.os/\w'.tape=w.tape/\w'.output=w.output:=(by subst hw;exact⟨rfl,rfl,rfl⟩);obtain ⟨s1,s2,s3⟩:=s123;have hlim:lim l.b=some 0:=(by simpa using h5);have hext:Ext lim w w':=⟨size_,λb c e fz hb=>by
    by_cases hbl:b=l.b
    . subst hbl;rw[h3]at hb;cases hb;refine⟨_,_,_,at_,psz,λi hi=>?_⟩;unfold yP at hi;rw[hlim]at hi;simp at hi
    . have hlt:b<w.heap.size:=(Array.getElem?_eq_some_iff.1 hb).1;exact⟨c,e,fz,(other b hlt hbl).trans hb,rfl,λ_ _=>rfl⟩,λb es c _ hb=>by
    have hbl:b≠l.b:=λe=>by subst e;rw[h3]at hb;cases hb
    have hlt:b<w.heap.size:=(Array.getElem?_eq_some_iff.1 hb).1;exact(other b hlt hbl).trans hb⟩
   have hbe:RowKit.Below base w w':=⟨s1,s2,s3,size_,λk hk=>other k (Nat.lt_of_lt_of_le hk hR.base_le) (by have:=(hR.own id l hβ).1;omega)⟩;have hgr:Grows β β lim lim base w w':=⟨λ_ _ h=>h,hext,yj.refl _ _,hbe,λ_ _=>rfl⟩;refine⟨?_,hext,hbe⟩;refine hR.step hgr (Nat.le_refl _) (id:=id) (tb:=l.b) hid (λb hb hne=>⟨other b hb hne,rfl⟩) (λ_ _=>rfl) (λj o hj h=>by rwa [if_neg hj]at h) (λj o l2 hj h hβ2 e=>?_) (λo h=>?_) (λl2 h=>?_) (λo l2 h h2=>?_)
   . rw[if_neg hj]at h;exact hj (hR.uniq j id o _ l2 l h hH hβ2 hβ e)
   . rw [if_pos rfl]at h;cases h;refine .inr ⟨l,_,et,hβ,h2,at_,by rw[psz,List.length_map,Array.length_toList,hd];omega,by simpa using hlim,λe he=>?_,λi j e c he hcj=>?_⟩
     . obtain ⟨x,hx,rfl⟩:=List.mem_map.1 he;obtain ⟨e1,e2,_⟩:=hv x hx;rw[e1];exact⟨rfl,λc hc=>by simp at hc;subst hc;exact e2⟩
     . rw[List.getElem?_map,Option.map_eq_some_iff]at he;obtain ⟨x,hx1,rfl⟩:=he;have hi:i<d.size:=(by have:=(List.getElem?_eq_some_iff.1 hx1).1;simpa using this);obtain ⟨e1,e2,e3⟩:=hv x (List.mem_of_getElem? hx1);rw[e1]at hcj;have hj0:j=0/\c=v x:=by
        cases j with
        |zero=>exact⟨rfl,by simpa using hcj.symm⟩
        |succ j=>simp at hcj
       obtain ⟨rfl,rfl⟩:=hj0;refine⟨enc x,?_,hgr.R e3⟩;rw[Nat.mul_one,Nat.add_zero];have hc1:l.o+i<cur.size:=o_;have hz2:d[i]! =x:=by rw[getElem!_pos d i hi];have:=(List.getElem?_eq_some_iff.1 hx1).2;simpa using this
       simp only[putCells,Array.getElem?_mapIdx,Array.getElem?_eq_getElem hc1,Option.map_some];rw[if_pos o_,show l.o+i - l.o=i by omega,hz2]
   . rw[hβ]at h;cases h;exact⟨(hR.own id l hβ).1,Nat.lt_of_lt_of_le hlb size_⟩
   . rw[hβ]at h2;cases h2;rfl
abbrev qdi(zs:List Int):List Int:=zs.mergeSort λx y=>decide (x<=y)
variable {zs:List Int}
theorem qdP{P:Program}[Glob P]{f:FuncId}(hE:E.Enters P f)
(hc:∀(blk off cap:Nat) (zs:List Int) (w:World),Holds (Value.int .i64) w blk off zs.toArray->blk<w.heap.size->zs.length<4611686018427387904->
  Calls P f #[.slice (some ⟨blk,off,none⟩) zs.length cap] w λe w'=>e=.returned (.tuple #[])/\∃n os,w'=grow (putRow (Value.int .i64) (Sort.ahead w n) blk off (qdi zs).toArray) os)
{next id:Nat}(hH:H id=some (.own 1 (zs.map (V.int .i64)) false))(hn:0<zs.length)(hz:zs.length<4611686018427387904):
 zh P f [.msl id 1 0 zs.length] H next λv H' n'=>v=.tup []/\n'=next/\H' id=some (.own 1 ((qdi zs).map (V.int .i64)) false)/\∀j,j≠id->H' j=H j:=by
 have hlen:(qdi zs).length=zs.length:=List.length_mergeSort _;refine⟨.tup [],λj=>if j=id then some (.own 1 ((qdi zs).map (V.int .i64)) false)else H j,next,⟨rfl,rfl,if_pos rfl,λj hj=>if_neg hj⟩,⟨⟨hE,_,_,_,rfl,rfl,rfl⟩,λw β lim base ra hg hR hra=>?_⟩⟩;obtain ⟨hsz,hrs⟩:=hra;obtain ⟨r,rfl⟩:∃r,ra= #[r]:=by
  rcases ra with ⟨l⟩
  match l,hsz with
  |[r],_=>exact⟨r,rfl⟩
 obtain ⟨l,cap,hβ,hls,rfl⟩:=R.msl_inv (hrs 0 _ r rfl rfl) rfl hn;rw[Nat.zero_mul,Nat.add_zero];rcases hR.obj id _ hH with ⟨h1,_⟩|⟨l',cur,et,h1,h2,h3,h4,h5,h6,h7⟩
 . rw[h1]at hβ;cases hβ
 . rw[hβ]at h1;cases h1;rw[List.length_map,Nat.mul_one]at h4;have hlb:l.b<w.heap.size:=(hR.own id l hβ).2;have holds:Holds (Value.int .i64) w l.b l.o zs.toArray:=λj hj=>by
    have hj':j<zs.length:=(by simpa using hj);obtain ⟨r,hr,hRr⟩:=h7 j 0 (.int .i64 zs[j]) (.int .i64 zs[j]) (by rw[List.getElem?_map,ge_ hj'];rfl) rfl;rw[Nat.mul_one,Nat.add_zero,R.int_inv hRr rfl]at hr;refine⟨?_,by simp[World.frozen?,h3]⟩;simp only[World.cell?,h3];simp[hr,hj']
   refine(hc l.b l.o cap zs w holds hlb hz).mono ?_;rintro e w' ⟨rfl,n,os,hw⟩;obtain ⟨k1,k2,k3⟩:=qcv hR hH hβ (by simpa using hn) (v:=V.int .i64) (d:=(qdi zs).toArray) (by simp[hlen]) (λx _=>⟨rfl,rfl,.int _ _⟩) hw;refine⟨.tuple #[],.tup [],_,next,β,lim,rfl,⟨rfl,rfl,rfl⟩,k1,.tup [] #[] rfl (by simp),λ_ _ h=>h,k2,yj.refl _ _,k3,Nat.le_refl _,λ_ _=>rfl,λj hj h=>?_,λ_ _=>rfl⟩;have hne:j≠id:=λe=>by subst e;rw[hH]at h;cases h
   rw[if_neg hne];exact h
theorem VQ{P:Program}[Glob P]{f:FuncId}{O:List Int}{m:Nat}(hO:O.length=zs.length)(hmz:m<=zs.length)(hE:E.Enters P f)
(hc:∀(blk off cap:Nat) (w:World),Holds (Value.int .i64) w blk off zs.toArray->zs.length<=9223372036854775807->zs.length<=cap->
  Calls P f #[.slice (some ⟨blk,off,none⟩) zs.length cap] w λe w'=>e=.returned (.slice (some ⟨blk,off,none⟩) m cap)/\∃q,w'=putRow (Value.int .i64) (Sort.ahead w q) blk off O.toArray)
{next id:Nat}(hH:H id=some (.own 1 (zs.map (V.int .i64)) false))(hn:0<zs.length)(hz:zs.length<4611686018427387904):
 zh P f [.msl id 1 0 zs.length] H next λv H' n'=>v=.msl id 1 0 m/\n'=next/\H' id=some (.own 1 (O.map (V.int .i64)) false)/\∀j,j≠id->H' j=H j:=by
 refine⟨.msl id 1 0 m,λj=>if j=id then some (.own 1 (O.map (V.int .i64)) false)else H j,next,⟨rfl,rfl,if_pos rfl,λj hj=>if_neg hj⟩,⟨⟨hE,_,_,_,rfl,rfl,rfl⟩,λw β lim base ra hg hR hra=>?_⟩⟩;obtain ⟨hsz,hrs⟩:=hra;obtain ⟨r,rfl⟩:∃r,ra= #[r]:=by
  rcases ra with ⟨l⟩
  match l,hsz with
  |[r],_=>exact⟨r,rfl⟩
 obtain ⟨l,cap,hβ,hls,rfl,hcap,hm,hrow⟩:=R.msl_inv2 (hrs 0 _ r rfl rfl) rfl hn;rw[Nat.zero_mul,Nat.add_zero];rcases hR.obj id _ hH with ⟨h1,_⟩|⟨l',cur,et,h1,h2,h3,h4,h5,h6,h7⟩
 . rw[h1]at hβ;cases hβ
 . rw[hβ]at h1;cases h1;rw[List.length_map,Nat.mul_one]at h4;have hlb:l.b<w.heap.size:=(hR.own id l hβ).2;have holds:Holds (Value.int .i64) w l.b l.o zs.toArray:=λj hj=>by
    have hj':j<zs.length:=(by simpa using hj);obtain ⟨r,hr,hRr⟩:=h7 j 0 (.int .i64 zs[j]) (.int .i64 zs[j]) (by rw[List.getElem?_map,ge_ hj'];rfl) rfl;rw[Nat.mul_one,Nat.add_zero,R.int_inv hRr rfl]at hr;refine⟨?_,by simp[World.frozen?,h3]⟩;simp only[World.cell?,h3];simp[hr,hj']
   refine(hc l.b l.o cap w holds o_ hcap).mono ?_;rintro e w' ⟨rfl,n,hw⟩;have hw:w'=grow (putRow (Value.int .i64) (Sort.ahead w n) l.b l.o O.toArray) #[]:=(by rw[hw];exact(grow_empty _).symm);obtain ⟨k1,k2,k3⟩:=qcv hR hH hβ (by simpa using hn) (v:=V.int .i64) (d:=O.toArray) (by simp[hO]) (λx _=>⟨rfl,rfl,.int _ _⟩) hw;have hRv:R β w' lim (.msl id 1 0 m) (.slice (some ⟨l.b,l.o,none⟩) m cap):=by have:=R.msl (w:=w') (lim:=lim) id 0 m l cap hβ o_ hm (Nat.le_trans hrow (k2.zQ _));rwa [hls,Nat.zero_mul,Nat.add_zero]at this
   refine⟨.slice (some ⟨l.b,l.o,none⟩) m cap,.msl id 1 0 m,_,next,β,lim,rfl,⟨rfl,rfl,rfl⟩,k1,hRv,λ_ _ h=>h,k2,yj.refl _ _,k3,Nat.le_refl _,λ_ _=>rfl,λj hj h=>?_,λ_ _=>rfl⟩;have hne:j≠id:=λe=>by subst e;rw[hH]at h;cases h
   rw[if_neg hne];exact h
end Go.Proofs

namespace Go.Proofs
open Go.Shelf
def Tryz.lays189_ren:Go.Shelf.Ren:=⟨λ|189=>89|125=>122|257=>121|128=>146|129=>147|294=>137|295=>138|296=>139|297=>140|298=>141|299=>142|216=>143|300=>144|301=>145|328=>164|329=>165|330=>166|331=>167|332=>168|215=>161|343=>176|n=>n,λ|28=>27|3=>3|46=>191|0=>0|51=>212|53=>123|4=>4|183=>205|182=>204|131=>162|5=>5|9=>9|218=>223|222=>227|228=>234|229=>235|n=>n,λ|n=>n⟩
theorem Tryz.lays189:Go.Proofs.Lays.n189 Tryz.prog Tryz.lays189_ren:={
 mixed:=by kernel_rfl
 f125:=Tryz.func122.trans (congrArg some (by kernel_rfl))
 f128:=Tryz.func146.trans (congrArg some (by kernel_rfl))
 f129:=Tryz.func147.trans (congrArg some (by kernel_rfl))
 f189:=Tryz.func89.trans (congrArg some (by kernel_rfl))
 f215:=Tryz.func161.trans (congrArg some (by kernel_rfl))
 f216:=Tryz.func143.trans (congrArg some (by kernel_rfl))
 f257:=Tryz.func121.trans (congrArg some (by kernel_rfl))
 f294:=Tryz.func137.trans (congrArg some (by kernel_rfl))
 f295:=Tryz.func138.trans (congrArg some (by kernel_rfl))
 f296:=Tryz.func139.trans (congrArg some (by kernel_rfl))
 f297:=Tryz.func140.trans (congrArg some (by kernel_rfl))
 f298:=Tryz.func141.trans (congrArg some (by kernel_rfl))
 f299:=Tryz.func142.trans (congrArg some (by kernel_rfl))
 f300:=Tryz.func144.trans (congrArg some (by kernel_rfl))
 f301:=Tryz.func145.trans (congrArg some (by kernel_rfl))
 f328:=Tryz.func164.trans (congrArg some (by kernel_rfl))
 f329:=Tryz.func165.trans (congrArg some (by kernel_rfl))
 f330:=Tryz.func166.trans (congrArg some (by kernel_rfl))
 f331:=Tryz.func167.trans (congrArg some (by kernel_rfl))
 f332:=Tryz.func168.trans (congrArg some (by kernel_rfl))
 f343:=Tryz.func176.trans (congrArg some (by kernel_rfl))
 t0:=Tryz.underlying0
 a0:=Tryz.isAgg0
 z0:=Tryz.sizeOf0
 v0:=Tryz.zeroValue0
 t3:=Tryz.underlying3
 a3:=Tryz.isAgg3
 z3:=Tryz.sizeOf3
 v3:=Tryz.zeroValue3
 t4:=Tryz.underlying4
 a4:=Tryz.isAgg4
 z4:=Tryz.sizeOf4
 v4:=Tryz.zeroValue4
 t5:=Tryz.underlying5
 a5:=Tryz.isAgg5
 z5:=Tryz.sizeOf5
 v5:=Tryz.zeroValue5
 t9:=Tryz.underlying9
 a9:=Tryz.isAgg9
 z9:=Tryz.sizeOf9
 v9:=Tryz.zeroValue9
 t28:=Tryz.underlying27
 a28:=Tryz.isAgg27
 z28:=Tryz.sizeOf27
 v28:=Tryz.zeroValue27
 t46:=Tryz.underlying191
 a46:=Tryz.isAgg191
 z46:=Tryz.sizeOf191
 v46:=Tryz.zeroValue191
 t51:=Tryz.underlying212
 a51:=Tryz.isAgg212
 z51:=Tryz.sizeOf212
 v51:=Tryz.zeroValue212
 t53:=Tryz.underlying123
 a53:=Tryz.isAgg123
 z53:=Tryz.sizeOf123
 v53:=Tryz.zeroValue123
 t131:=Tryz.underlying162
 a131:=Tryz.isAgg162
 z131:=Tryz.sizeOf162
 v131:=Tryz.zeroValue162
 t182:=Tryz.underlying204
 a182:=Tryz.isAgg204
 z182:=Tryz.sizeOf204
 v182:=Tryz.zeroValue204
 t183:=Tryz.underlying205
 a183:=Tryz.isAgg205
 z183:=Tryz.sizeOf205
 v183:=Tryz.zeroValue205
 t218:=Tryz.underlying223
 a218:=Tryz.isAgg223
 z218:=Tryz.sizeOf223
 v218:=Tryz.zeroValue223
 t222:=Tryz.underlying227
 a222:=Tryz.isAgg227
 z222:=Tryz.sizeOf227
 v222:=Tryz.zeroValue227
 t228:=Tryz.underlying234
 a228:=Tryz.isAgg234
 z228:=Tryz.sizeOf234
 v228:=Tryz.zeroValue234
 t229:=Tryz.underlying235
 a229:=Tryz.isAgg235
 z229:=Tryz.sizeOf235
 v229:=Tryz.zeroValue235}
def Tryz.laysN20_ren:Go.Shelf.Ren:=⟨λ|20=>90|n=>n,λ|22=>27|n=>n,λ|n=>n⟩
theorem Tryz.laysN20:Go.Proofs.Lays2.n20 Tryz.prog Tryz.laysN20_ren:={
 mixed:=by kernel_rfl
 f20:=Tryz.func90.trans (congrArg some (by kernel_rfl))
 t0:=Tryz.underlying0
 a0:=Tryz.isAgg0
 z0:=Tryz.sizeOf0
 v0:=Tryz.zeroValue0
 t3:=Tryz.underlying3
 a3:=Tryz.isAgg3
 z3:=Tryz.sizeOf3
 v3:=Tryz.zeroValue3
 t4:=Tryz.underlying4
 a4:=Tryz.isAgg4
 z4:=Tryz.sizeOf4
 v4:=Tryz.zeroValue4
 t22:=Tryz.underlying27
 a22:=Tryz.isAgg27
 z22:=Tryz.sizeOf27
 v22:=Tryz.zeroValue27
 i3:=by kernel_rfl}
end Go.Proofs

namespace Go.Proofs
open Go.E Go.Sort Go.Lib Go.RowKit Go.Shelf
variable {zs:List Int}
theorem Vn{H:Nat->Option MObj}{next id:Nat}(hH:H id=some (.own 1 (zs.map (V.int .i64)) false))(hn:0<zs.length)(hz:zs.length<4611686018427387904):
 zh Tryz.prog 89 [.msl id 1 0 zs.length] H next λv H' n'=>v=.tup []/\n'=next/\H' id=some (.own 1 ((qdi zs).map (V.int .i64)) false)/\∀j,j≠id->H' j=H j:=
 qdP ⟨Tryz.f89,Tryz.func89,by kernel_rfl,by kernel_rfl⟩ (λblk off cap zs w h1 h2 h3=>Any.slices_Sort_int Tryz.lays189 blk off cap zs w h1 h2 h3) hH hn hz
theorem slices_Compact{H:Nat->Option MObj}{next id:Nat}(hH:H id=some (.own 1 (zs.map (V.int .i64)) false))(hn:0<zs.length)(hz:zs.length<4611686018427387904):
 zh Tryz.prog 90 [.msl id 1 0 zs.length] H next λv H' n'=>v=.msl id 1 0 (Lib.compact zs).length/\n'=next/\H' id=some (.own 1 ((Lib.compact zs++List.replicate (zs.length - (Lib.compact zs).length) 0).map (V.int .i64)) false)/\∀j,j≠id->H' j=H j:=
 VQ (by have:=Lib.compact_length_le zs;rw[List.length_append,List.length_replicate];omega) (Lib.compact_length_le zs) ⟨Tryz.f90,Tryz.func90,by kernel_rfl,by kernel_rfl⟩ (λblk off cap w h1 h2 h3=>Any.slices_Compact_int Tryz.laysN20 blk off cap zs w h1 h2 h3) hH hn hz
end Go.Proofs

namespace Go.Proofs
open Go.Shelf
def Tryz.cmpL_ren:Go.Shelf.Ren:=⟨λ|122=>134|215=>161|n=>n,λ|3=>3|4=>4|n=>n,λ|n=>n⟩
theorem Tryz.cmpL:Go.Proofs.Lays.n122 Tryz.prog Tryz.cmpL_ren:={
 mixed:=by kernel_rfl
 f122:=Tryz.func134.trans (congrArg some (by kernel_rfl))
 f215:=Tryz.func161.trans (congrArg some (by kernel_rfl))
 t3:=Tryz.underlying3
 a3:=Tryz.isAgg3
 z3:=Tryz.sizeOf3
 v3:=Tryz.zeroValue3
 t4:=Tryz.underlying4
 a4:=Tryz.isAgg4
 z4:=Tryz.sizeOf4
 v4:=Tryz.zeroValue4}
def Tryz.sortL_ren:Go.Shelf.Ren:=⟨λ|6=>108|15=>122|14=>132|28=>146|29=>147|20=>153|21=>154|22=>155|23=>156|24=>157|25=>158|26=>159|27=>160|46=>173|47=>165|48=>166|49=>174|50=>175|57=>178|n=>n,λ|22=>102|24=>135|25=>181|3=>3|39=>191|0=>0|53=>212|55=>123|4=>4|46=>205|45=>204|50=>162|5=>5|9=>9|66=>223|70=>227|76=>234|77=>235|n=>n,λ|n=>n⟩
theorem Tryz.sortL:Go.Proofs.SlLaysF0.n6 Tryz.prog Tryz.sortL_ren:={
 mixed:=by kernel_rfl
 f6:=⟨Tryz.f108.name,by decide,Tryz.func108.trans (congrArg some (by kernel_rfl))⟩
 f14:=⟨Tryz.f132.name,by decide,Tryz.func132.trans (congrArg some (by kernel_rfl))⟩
 f15:=Tryz.func122.trans (congrArg some (by kernel_rfl))
 f20:=⟨Tryz.f153.name,by decide,Tryz.func153.trans (congrArg some (by kernel_rfl))⟩
 f21:=⟨Tryz.f154.name,by decide,Tryz.func154.trans (congrArg some (by kernel_rfl))⟩
 f22:=⟨Tryz.f155.name,by decide,Tryz.func155.trans (congrArg some (by kernel_rfl))⟩
 f23:=⟨Tryz.f156.name,by decide,Tryz.func156.trans (congrArg some (by kernel_rfl))⟩
 f24:=⟨Tryz.f157.name,by decide,Tryz.func157.trans (congrArg some (by kernel_rfl))⟩
 f25:=⟨Tryz.f158.name,by decide,Tryz.func158.trans (congrArg some (by kernel_rfl))⟩
 f26:=⟨Tryz.f159.name,by decide,Tryz.func159.trans (congrArg some (by kernel_rfl))⟩
 f27:=⟨Tryz.f160.name,by decide,Tryz.func160.trans (congrArg some (by kernel_rfl))⟩
 f28:=Tryz.func146.trans (congrArg some (by kernel_rfl))
 f29:=Tryz.func147.trans (congrArg some (by kernel_rfl))
 f46:=⟨Tryz.f173.name,by decide,Tryz.func173.trans (congrArg some (by kernel_rfl))⟩
 f47:=Tryz.func165.trans (congrArg some (by kernel_rfl))
 f48:=Tryz.func166.trans (congrArg some (by kernel_rfl))
 f49:=⟨Tryz.f174.name,by decide,Tryz.func174.trans (congrArg some (by kernel_rfl))⟩
 f50:=⟨Tryz.f175.name,by decide,Tryz.func175.trans (congrArg some (by kernel_rfl))⟩
 f57:=⟨Tryz.f178.name,by decide,Tryz.func178.trans (congrArg some (by kernel_rfl))⟩
 t0:=Tryz.underlying0
 a0:=Tryz.isAgg0
 z0:=Tryz.sizeOf0
 v0:=Tryz.zeroValue0
 t3:=Tryz.underlying3
 a3:=Tryz.isAgg3
 z3:=Tryz.sizeOf3
 v3:=Tryz.zeroValue3
 t4:=Tryz.underlying4
 a4:=Tryz.isAgg4
 z4:=Tryz.sizeOf4
 v4:=Tryz.zeroValue4
 t5:=Tryz.underlying5
 a5:=Tryz.isAgg5
 z5:=Tryz.sizeOf5
 v5:=Tryz.zeroValue5
 t9:=Tryz.underlying9
 a9:=Tryz.isAgg9
 z9:=Tryz.sizeOf9
 v9:=Tryz.zeroValue9
 t22:=Tryz.underlying102
 a22:=Tryz.isAgg102
 z22:=Tryz.sizeOf102
 v22:=Tryz.zeroValue102
 t25:=Tryz.underlying181
 a25:=Tryz.isAgg181
 z25:=Tryz.sizeOf181
 v25:=Tryz.zeroValue181
 t39:=Tryz.underlying191
 a39:=Tryz.isAgg191
 z39:=Tryz.sizeOf191
 v39:=Tryz.zeroValue191
 t45:=Tryz.underlying204
 a45:=Tryz.isAgg204
 z45:=Tryz.sizeOf204
 v45:=Tryz.zeroValue204
 t46:=Tryz.underlying205
 a46:=Tryz.isAgg205
 z46:=Tryz.sizeOf205
 v46:=Tryz.zeroValue205
 t50:=Tryz.underlying162
 a50:=Tryz.isAgg162
 z50:=Tryz.sizeOf162
 v50:=Tryz.zeroValue162
 t53:=Tryz.underlying212
 a53:=Tryz.isAgg212
 z53:=Tryz.sizeOf212
 v53:=Tryz.zeroValue212
 t55:=Tryz.underlying123
 a55:=Tryz.isAgg123
 z55:=Tryz.sizeOf123
 v55:=Tryz.zeroValue123
 t66:=Tryz.underlying223
 a66:=Tryz.isAgg223
 z66:=Tryz.sizeOf223
 v66:=Tryz.zeroValue223
 t70:=Tryz.underlying227
 a70:=Tryz.isAgg227
 z70:=Tryz.sizeOf227
 v70:=Tryz.zeroValue227
 t76:=Tryz.underlying234
 a76:=Tryz.isAgg234
 z76:=Tryz.sizeOf234
 v76:=Tryz.zeroValue234
 t77:=Tryz.underlying235
 a77:=Tryz.isAgg235
 z77:=Tryz.sizeOf235
 v77:=Tryz.zeroValue235}
end Go.Proofs

set_option maxRecDepth 100000
namespace Go.Proofs
open Go.E Go.Sort Go.Lib Go.RowKit Go.Shelf
theorem qvc(W:World)(b o c:Nat)(x y:Int)(h0:W.cell? ⟨b,o,none⟩=some (.int .i64 x))(h1:W.cell? ⟨b,o+1,none⟩=some (.int .i64 y)):
 Calls Tryz.prog 133 #[.slice (some ⟨b,o,none⟩) 2 c] W λe w'=>e=.returned (.int .i64 (if x=0 then y else x))/\w'=W:=by
 go_enter Tryz.func133,Tryz.ntmps133
 go_wp2
 go_loop [8] (λi=>∃k:Nat,k<=2/\i=.int .i64 k/\(0<k->x=0)/\(1<k->y=0)) (λi=>2 - (intOf i).toNat)
 case atStart=>exact⟨0,o_,rfl,λh=>by omega,λh=>by omega⟩
 case round=>
  obtain ⟨k,hk,rfl,hx,hy⟩:=hrel;rcases Nat.lt_or_ge k 1 with h|h
  . have:k=0:=o_
    subst this
    go_wp2
    . exfalso;simp_all
    . go_ret;exact⟨rfl,rfl⟩
    . refine⟨⟨1,o_,rfl,λ_=>by first|assumption|omega|simp_all,λh=>by omega⟩,by simp[intOf]⟩
  . rcases Nat.lt_or_ge k 2 with h2|h2
    . have:k=1:=o_
      subst this;have hx:=hx o_;subst hx
      go_wp2
      . go_ret;exact⟨rfl,rfl⟩
      . refine⟨⟨2,o_,rfl,λ_=>trivial,λ_=>by first|assumption|omega|simp_all⟩,by simp[intOf]⟩
    . have:k=2:=o_
      subst this;have hx:=hx o_;have hy:=hy o_;subst hx hy
      go_wp2
      go_ret;exact⟨rfl,rfl⟩
theorem qlf(a1 a2 b1 b2:Int)(W:World):
 Calls Tryz.prog 109 #[.agg #[.int .i64 a1,.int .i64 a2],.agg #[.int .i64 b1,.int .i64 b2]] W λe w'=>e=.returned (.int .i64 (if Lib.compareInt a1 b1=0 then Lib.compareInt a2 b2 else Lib.compareInt a1 b1))/\∃q os',w'=grow (W.drewN q) os':=by
 have hcon:=λx y W=>Any.cmp_Compare_int Tryz.cmpL x y W
 change ∀x y W,Calls Tryz.prog 134 _ W _ at hcon
 go_enter Tryz.func109,Tryz.ntmps109
 go_wp2
 have c0:((W.alloc (Obj.cells #[.int .i64 a1,.int .i64 a2] 135)).alloc (Obj.cells #[.int .i64 b1,.int .i64 b2] 135)).cell? ⟨W.heap.size,0,none⟩=some (.int .i64 a1):=by go_simp
 have c1:((W.alloc (Obj.cells #[.int .i64 a1,.int .i64 a2] 135)).alloc (Obj.cells #[.int .i64 b1,.int .i64 b2] 135)).cell? ⟨W.heap.size,1,none⟩=some (.int .i64 a2):=by go_simp
 have c2:((W.alloc (Obj.cells #[.int .i64 a1,.int .i64 a2] 135)).alloc (Obj.cells #[.int .i64 b1,.int .i64 b2] 135)).cell? ⟨W.heap.size+1,0,none⟩=some (.int .i64 b1):=by go_simp
 have c3:((W.alloc (Obj.cells #[.int .i64 a1,.int .i64 a2] 135)).alloc (Obj.cells #[.int .i64 b1,.int .i64 b2] 135)).cell? ⟨W.heap.size+1,1,none⟩=some (.int .i64 b2):=by go_simp
 have hW2:∃os',(W.alloc (Obj.cells #[.int .i64 a1,.int .i64 a2] 135)).alloc (Obj.cells #[.int .i64 b1,.int .i64 b2] 135)=grow W os':=⟨#[Obj.cells #[.int .i64 a1,.int .i64 a2] 135,Obj.cells #[.int .i64 b1,.int .i64 b2] 135],rfl⟩;generalize (W.alloc (Obj.cells #[.int .i64 a1,.int .i64 a2] 135)).alloc (Obj.cells #[.int .i64 b1,.int .i64 b2] 135)=W2 at *;have k0:({W2 with drawn:=W2.drawn+1}:World).cell? ⟨W.heap.size,0,none⟩=some (.int .i64 a1):=c0;have k1:({W2 with drawn:=W2.drawn+1}:World).cell? ⟨W.heap.size,1,none⟩=some (.int .i64 a2):=c1;have k2:({W2 with drawn:=W2.drawn+1}:World).cell? ⟨W.heap.size+1,0,none⟩=some (.int .i64 b1):=c2;have k3:({W2 with drawn:=W2.drawn+1}:World).cell? ⟨W.heap.size+1,1,none⟩=some (.int .i64 b2):=c3
 go_still_tail 10,(by kernel_rfl)
 still_call (hcon _ _ _)
 repeat still_step
 still_call (hcon _ _ _)
 refine wpStill_nil ?_
 change wpList _ _ _ _ _ W2.drew
 generalize hw2:W2.drew=w2
 go_wp2_with (go_at_call 133;refine(qvc _ _ _ _ (Lib.compareInt a1 b1) (Lib.compareInt a2 b2) (by go_simp) (by go_simp)).mono ?_;rintro e w' ⟨rfl,rfl⟩)
 go_wp2
 all_goals
  go_ret
  obtain ⟨os',rfl⟩:=hW2;have key:∀o:Obj,(grow W os').drew.alloc o=grow (W.drewN 1) (os'++ #[o]):=λo=>by rw[alloc_eq_grow,drew_grow,grow_grow];rfl
  subst hw2;exact⟨rfl,1,_,key _⟩
end Go.Proofs

set_option maxRecDepth 20000
namespace Go.Proofs
open Go.E Go.Sort Go.Lib Go.RowKit
variable {lim:Nat->Option Nat}
theorem qfz{β:Nat->Option E.Loc}{w w':World}{H:Nat->Option MObj}{next base id sz:Nat}(hR:RelH H next β lim base w){es es':List V}(hH:H id=some (.own sz es false))
{l:E.Loc}(hβ:β id=some l){F:Array Value}(hl:es'.length=es.length)(hF:F.size=es.length *sz)(hc:∀e∈es',e.cells.length=sz/\∀c∈e.cells,c.scalar=true)
(hv:∀(i j:Nat) e c,es'[i]?=some e->e.cells[j]?=some c->∃r,F[i *sz+j]?=some r/\R β w lim c r){n:Nat}{os:Array Obj}(hw:w'=grow (putRow (λx=>x) (Sort.ahead w n) l.b l.o F) os):
 RelH (λj=>if j=id then some (.own sz es' false)else H j) next β lim base w'/\Ext lim w w'/\RowKit.Below base w w':=by
 rcases hR.obj id _ hH with ⟨h1,h0⟩|⟨l',cur,et,h1,h2,h3,h4,h5,h6,h7⟩
 . rw[h1]at hβ;cases hβ
 . rw [hβ]at h1;cases h1;have hlb:l.b<w.heap.size:=(hR.own id l hβ).2;have hid:id<next:=by
    rcases Nat.lt_or_ge id next with h|h
    . exact h
    . have:=(hR.fresh id h).2;rw[hH]at this;cases this
   have at_:w'.heap[l.b]?=some (.cells (putCells (λx=>x) l.o F cur) et (0,0)):=by rw[hw,heap_grow_old _ _ (by simpa using hlb)];simp[putRow,mapBlock,Sort.ahead,Array.getElem?_modify,h3,onCells]
   have other:∀k,k<w.heap.size->k≠l.b->w'.heap[k]?=w.heap[k]?:=λk hk hne=>by
    rw[hw,heap_grow_old _ _ (by simpa using hk)]
    have:l.b≠k:=λe=>hne e.symm
    simp[putRow,mapBlock,Sort.ahead,Array.getElem?_modify,this]
   have size_:w.heap.size<=w'.heap.size:=by rw[hw];simp[grow,putRow,mapBlock,Sort.ahead]
   have psz:(putCells (λx=>x) l.o F cur).size=cur.size:=(by simp[putCells]);have s123:w'.os=w.os/\w'.tape=w.tape/\w'.output=w.output:=(by subst hw;exact⟨rfl,rfl,rfl⟩);obtain ⟨s1,s2,s3⟩:=s123;have hlim:lim l.b=some 0:=(by simpa using h5);have hext:Ext lim w w':=⟨size_,λb c e fz hb=>by
    by_cases hbl:b=l.b
    . subst hbl;rw[h3]at hb;cases hb;refine⟨_,_,_,at_,psz,λi hi=>?_⟩;unfold yP at hi;rw[hlim]at hi;simp at hi
    . have hlt:b<w.heap.size:=(Array.getElem?_eq_some_iff.1 hb).1;exact⟨c,e,fz,(other b hlt hbl).trans hb,rfl,λ_ _=>rfl⟩,λb es c _ hb=>by
    have hbl:b≠l.b:=λe=>by subst e;rw[h3]at hb;cases hb
    have hlt:b<w.heap.size:=(Array.getElem?_eq_some_iff.1 hb).1;exact(other b hlt hbl).trans hb⟩
   have hbe:RowKit.Below base w w':=⟨s1,s2,s3,size_,λk hk=>other k (Nat.lt_of_lt_of_le hk hR.base_le) (by have:=(hR.own id l hβ).1;omega)⟩;have hgr:Grows β β lim lim base w w':=⟨λ_ _ h=>h,hext,yj.refl _ _,hbe,λ_ _=>rfl⟩;refine⟨?_,hext,hbe⟩;refine hR.step hgr (Nat.le_refl _) (id:=id) (tb:=l.b) hid (λb hb hne=>⟨other b hb hne,rfl⟩) (λ_ _=>rfl) (λj o hj h=>by rwa [if_neg hj]at h) (λj o l2 hj h hβ2 e=>?_) (λo h=>?_) (λl2 h=>?_) (λo l2 h h2=>?_)
   . rw[if_neg hj]at h;exact hj (hR.uniq j id o _ l2 l h hH hβ2 hβ e)
   . rw[if_pos rfl]at h;cases h;refine .inr ⟨l,_,et,hβ,h2,at_,by rw[psz,hl];exact h4,by simpa using hlim,hc,λi j e c he hcj=>?_⟩;obtain ⟨r,hr1,hr2⟩:=hv i j e c he hcj;have hi:i *sz+j<F.size:=(Array.getElem?_eq_some_iff.1 hr1).1;refine⟨r,?_,hgr.R hr2⟩;have hc1:l.o+i *sz+j<cur.size:=o_;simp only[putCells,Array.getElem?_mapIdx,Array.getElem?_eq_getElem hc1,Option.map_some];rw[if_pos o_,show l.o+i *sz+j - l.o=i *sz+j by omega,getElem!_pos F _ hi];rw[<- hr1,Array.getElem?_eq_getElem hi]
   . rw[hβ]at h;cases h;exact⟨(hR.own id l hβ).1,Nat.lt_of_lt_of_le hlb size_⟩
   . rw[hβ]at h2;cases h2;rfl
def itE(x:Int):List Value:=[.int .i64 (x / 16),.int .i64 (x % 16)]
def qjI(x y:Int):Int:=if Lib.compareInt (x / 16) (y / 16)=0 then Lib.compareInt (x % 16) (y % 16)else Lib.compareInt (x / 16) (y / 16)
theorem qaf(x y:Int):ltOf qjI x y=decide (x<y):=by
 show decide (qjI x y<0)=_;unfold qjI Lib.compareInt;congr 1;apply propext;constructor
 . intro h;split at h<;>(repeat' split at h)<;>omega
 . intro h;split<;>(repeat' split)<;>omega
theorem R.fn_inv{β:Nat->Option E.Loc}{w:World}{v:V}{r:Value}(h:R β w lim v r){f:FuncId}(e:v=.fn f []):r=.func (.func f) #[] #[]:=by
 cases h<;>cases e;rename_i rs hl _
 have:rs= #[]:=Array.eq_empty_of_size_eq_zero hl
 rw[this]
theorem qhb(d:Array Int){t:Nat}(h:t<d.size *2):(flatK itE 2 d)[t]?=some (if t % 2=0 then .int .i64 (d[t / 2]! / 16)else .int .i64 (d[t / 2]! % 16)):=by
 have hs:t<(flatK itE 2 d).size:=by rw[size_flatK];exact h
 rw[Array.getElem?_eq_getElem hs,<- getElem!_pos (flatK itE 2 d) t hs,get_flatK itE 2 d t h]
 have:t % 2=0\/t % 2=1:=o_
 rcases this with e|e<;>rw[e]<;>rfl
theorem qcG{P:Program}[Glob P]{f g:FuncId}(hE:E.Enters P f)
(hc:∀(hO:SWO (ltOf qjI)) (blk off cap:Nat) (d:Array Int) (w:World),CmpLays P g #[] itE 2 qjI blk off d.size w->HoldsK itE 2 w blk off d->blk<w.heap.size->d.size<4611686018427387904->
  Calls P f #[.slice (some ⟨blk,off,none⟩) d.size cap,.func (.func g) #[] #[]] w λe w'=>e=.returned (.tuple #[])/\∃n os,w'=sortWorldK itE 2 w blk off n (pdq (ltOf qjI) d 0 d.size (Lib.bitLen d.size) true true) os)
(hg:∀(a1 a2 b1 b2:Int) (W:World),Calls P g #[.agg #[.int .i64 a1,.int .i64 a2],.agg #[.int .i64 b1,.int .i64 b2]] W λe w'=>e=.returned (.int .i64 (if Lib.compareInt a1 b1=0 then Lib.compareInt a2 b2 else Lib.compareInt a1 b1))/\∃q os',w'=grow (W.drewN q) os')
{H:Nat->Option MObj}{next id:Nat}{L:List Int}(hH:H id=some (.own 2 (L.map itV) false))(hn:0<L.length)(hz:L.length<4611686018427387904):
 ∃L':List Int,L'.Perm L/\L'.Pairwise (· <= ·)/\zh P f [.msl id 2 0 L.length,.fn g []] H next λv H' n'=>v=.tup []/\n'=next/\H' id=some (.own 2 (L'.map itV) false)/\∀j,j≠id->H' j=H j:=by
 have hO:SWO (ltOf qjI):=⟨λx=>by rw[qaf];simp,λx y z h1 h2=>by rw[qaf]at *;simp at *;omega,λx y z h1 h2=>by rw[qaf]at *;simp at *;omega⟩;have hds:L.toArray.size=L.length:=by simp
 obtain ⟨⟨hp1,_,hp3⟩,hs⟩:=pdq_sorts (ltOf qjI) hO L.toArray 0 L.toArray.size (Lib.bitLen L.toArray.size) true true (Nat.zero_le _) (Nat.le_refl _) (Or.inl rfl);generalize hD:pdq (ltOf qjI) L.toArray 0 L.toArray.size (Lib.bitLen L.toArray.size) true true=D at hp1 hp3 hs;have hperm:D.toList.Perm L:=by
  have e1:(D.extract 0 L.toArray.size)=D:=by rw[<- hp1];exact Array.extract_size
  have e2:(L.toArray.extract 0 L.toArray.size)=L.toArray:=Array.extract_size;rw[e1,e2]at hp3;exact hp3
 have hsort:D.toList.Pairwise (· <= ·):=by rw[List.pairwise_iff_getElem];intro i j hi hj hij;simp only[Array.length_toList]at hi hj;have:=hs i j (Nat.zero_le _) hij o_;rw[qaf,getElem!_pos D j hj,getElem!_pos D i hi]at this;simp at this;simpa using this
 have hDs:D.size=L.length:=by rw[hp1];simp
 refine⟨D.toList,hperm,hsort,.tup [],λj=>if j=id then some (.own 2 (D.toList.map itV) false)else H j,next,⟨rfl,rfl,if_pos rfl,λj hj=>if_neg hj⟩,⟨⟨hE,_,_,_,rfl,rfl,rfl⟩,λw β lim base ra hgl hR hra=>?_⟩⟩;obtain ⟨hsz,hrs⟩:=hra;obtain ⟨r,r2,rfl⟩:∃r r2,ra= #[r,r2]:=by
  rcases ra with ⟨l⟩
  match l,hsz with
  |[r,r2],_=>exact⟨r,r2,rfl⟩
 obtain ⟨l,cap,hβ,hls,rfl⟩:=R.msl_inv (hrs 0 _ r rfl rfl) rfl hn;obtain rfl:=R.fn_inv (hrs 1 _ r2 rfl rfl) rfl;rw[Nat.zero_mul,Nat.add_zero];rcases hR.obj id _ hH with ⟨h1,_⟩|⟨l',cur,et,h1,h2,h3,h4,h5,h6,h7⟩
 . rw[h1]at hβ;cases hβ
 . rw [hβ]at h1;cases h1;have hlb:l.b<w.heap.size:=(hR.own id l hβ).2;have holds:HoldsK itE 2 w l.b l.o L.toArray:=λt ht=>by
    rw[size_flatK,hds]at ht;have hx:(L.map itV)[t / 2]?=some (itV L[t / 2]!):=by rw[List.getElem?_map,ge_ (show t / 2<L.length by omega),getElem!_pos L _ (show t / 2<L.length by omega)];rfl
    have hft:=qhb L.toArray (t:=t) (by rw[hds];exact ht);have hg!:(flatK itE 2 L.toArray)[t]! =(if t % 2=0 then .int .i64 (L[t / 2]! / 16)else .int .i64 (L[t / 2]! % 16)):=by rw[getElem!_def,hft];simp
    have hd:t=t / 2 *2+t % 2:=o_;have h01:t % 2=0\/t % 2=1:=o_;refine⟨?_,by simp[World.frozen?,h3]⟩;rw[hg!];simp only[World.cell?,h3];rcases h01 with e|e
    . obtain ⟨r,hr,hRr⟩:=h7 (t / 2) 0 _ _ hx rfl;rw[R.int_inv hRr rfl]at hr;rw[if_pos e,show l.o+t=l.o+t / 2 *2+0 by omega,hr];rfl
    . obtain ⟨r,hr,hRr⟩:=h7 (t / 2) 1 _ _ hx rfl;rw[R.int_inv hRr rfl]at hr;rw[if_neg (show ¬ t % 2=0 by omega),show l.o+t=l.o+t / 2 *2+1 by omega,hr];rfl
   have hcall:=hc hO l.b l.o cap L.toArray w (λm os dk hdk x y=>hg _ _ _ _ _) holds hlb o_;rw[hD,hds]at hcall;refine hcall.mono ?_;rintro e w' ⟨rfl,n,os,hw⟩;obtain ⟨k1,k2,k3⟩:=qfz hR hH hβ (es':=D.toList.map itV) (F:=flatK itE 2 D) (by simp[hDs]) (by rw[size_flatK,hDs,List.length_map]) (λe he=>by
    obtain ⟨x,_,rfl⟩:=List.mem_map.1 he;exact⟨rfl,λc hc=>by simp[V.cells]at hc;rcases hc with rfl|rfl<;>rfl⟩) (λi j e c he hc=>by
    rw[List.getElem?_map,Option.map_eq_some_iff]at he;obtain ⟨x,hx,rfl⟩:=he;have hi:i<D.size:=(by have:=(List.getElem?_eq_some_iff.1 hx).1;simpa using this);have hx2:D[i]! =x:=(by rw[getElem!_pos D i hi];have:=(List.getElem?_eq_some_iff.1 hx).2;simpa using this);have hj:j<2:=(List.getElem?_eq_some_iff.1 hc).1;have hft:=qhb D (t:=i *2+j) o_;rw[show (i *2+j) / 2=i by omega,show (i *2+j) % 2=j by omega,hx2]at hft;refine⟨_,hft,?_⟩
    match j,hj with
    |0,_=>cases hc;exact .int _ _
    |1,_=>cases hc;exact .int _ _) hw
   refine⟨.tuple #[],.tup [],_,next,β,lim,rfl,⟨rfl,rfl,rfl⟩,k1,.tup [] #[] rfl (by simp),λ_ _ h=>h,k2,yj.refl _ _,k3,Nat.le_refl _,λ_ _=>rfl,λj hj h=>?_,λ_ _=>rfl⟩;have hne:j≠id:=λe=>by subst e;rw[hH]at h;cases h
   rw[if_neg hne];exact h
end Go.Proofs

namespace Go.Proofs
open Go.E Go.Sort Go.Lib Go.RowKit Go.Shelf
theorem Kq{H:Nat->Option MObj}{next id:Nat}{L:List Int}(hH:H id=some (.own 2 (L.map itV) false))(hn:0<L.length)(hz:L.length<4611686018427387904):
 ∃L':List Int,L'.Perm L/\L'.Pairwise (· <= ·)/\zh Tryz.prog 108 [.msl id 2 0 L.length,.fn 109 []] H next λv H' n'=>v=.tup []/\n'=next/\H' id=some (.own 2 (L'.map itV) false)/\∀j,j≠id->H' j=H j:=
 qcG ⟨Tryz.f108,Tryz.func108,by kernel_rfl,by kernel_rfl⟩ (λhO blk off cap d w hc hH hb hs=>AnyQ.slices_SortFunc_eq Tryz.sortL 2 (λw=>Tryz.isAgg135 w) (λw=>Tryz.sizeOf135 w) itE (λx=>rfl) (λx v hv=>by simp only[itE,List.mem_cons,List.not_mem_nil,or_false]at hv;rcases hv with rfl|rfl<;>rfl) qjI hO 109 #[] blk off cap d w (enters_of Tryz.func109 (by kernel_rfl) rfl) hc hH hb hs)
  (λa1 a2 b1 b2 W=>qlf a1 a2 b1 b2 W) hH hn hz
end Go.Proofs

namespace Go.Proofs
open Go.E Go.Sort Go.Lib Go.RowKit
theorem qbw{P:Program}[Glob P]{f:FuncId}(hE:E.Enters P f)(ty:TypeId)
(hc:∀(b off n c:Nat) (zs:List Int) (w:World),n<=zs.length->n *8<=140737488355328->(∀j,j<zs.length->w.cell? ⟨b,off+j,none⟩=some (.int .i64 (zs.getD j 0)))->
  Calls P f #[.slice (some ⟨b,off,none⟩) n c] w λe w'=>∃v',e=.returned v'/\w'.ownsRow w.heap.size ty 1 v' n ((zs.take n).map (Value.int .i64))/\v'≠ .slice none 0 0/\RowKit.Below w.heap.size w w')
{H:Nat->Option MObj}{next id off len:Nat}{zs:List Int}{ro:Bool}(hH:H id=some (.own 1 (zs.map (V.int .i64)) ro))(hn:0<len)(hle:off+len<=zs.length)(hz:len<=17592186044416):
 zh P f [.msl id 1 off len] H next λv H' n'=>v=.msl next 1 0 len/\n'=next+1/\H' next=some (.own 1 (((zs.drop off).take len).map (V.int .i64)) false)/\∀j,j≠next->H' j=H j:=by
 refine⟨.msl next 1 0 len,ze H next (some (.own 1 (((zs.drop off).take len).map (V.int .i64)) false)),next+1,⟨rfl,rfl,qi _ _ _,λj hj=>qo _ _ hj⟩,⟨⟨hE,_,_,_,rfl,rfl,rfl⟩,λw β lim base ra hg hR hra=>?_⟩⟩;obtain ⟨hsz,hrs⟩:=hra;obtain ⟨r,rfl⟩:∃r,ra= #[r]:=by
  rcases ra with ⟨l⟩
  match l,hsz with
  |[r],_=>exact⟨r,rfl⟩
 obtain ⟨l,cap,hβ,hls,rfl⟩:=R.msl_inv (hrs 0 _ r rfl rfl) rfl hn;rcases hR.obj id _ hH with ⟨h1,_⟩|⟨l',cur,et,h1,h2,h3,h4,h5,h6,h7⟩
 . rw[h1]at hβ;cases hβ
 . rw [hβ] at h1;cases h1;have cell:∀j,j<(zs.drop off).length->w.cell? ⟨l.b,l.o+off *1+j,none⟩=some (.int .i64 ((zs.drop off).getD j 0)):=λj hj=>by
    have hj':off+j<zs.length:=(by simp at hj;omega);obtain ⟨r,hr,hRr⟩:=h7 (off+j) 0 (.int .i64 zs[off+j]) (.int .i64 zs[off+j]) (by rw[List.getElem?_map,ge_ hj'];rfl) rfl;rw[Nat.mul_one,Nat.add_zero,R.int_inv hRr rfl]at hr;simp only[World.cell?,h3];rw[Nat.mul_one,Nat.add_assoc];simp[hr,hj',List.getD,List.getElem?_drop]
   refine(hc l.b _ len cap (zs.drop off) w (by simp;omega) o_ cell).mono ?_;rintro e w' ⟨v',rfl,⟨ho1,ho2⟩,hne,hbel⟩;rcases ho2 with ⟨rfl,_⟩|⟨g,cap',cur',rfl,hg1,hg2,hg3,hg4,hg5,hg6⟩
   . exact absurd rfl hne
   . rw [Nat.mul_one]at hg5 hg6;have hgs:g<w'.heap.size:=(Array.getElem?_eq_some_iff.1 hg2).1;have hf:=hR.fresh next (Nat.le_refl _)
     have hgr:Grows β (ze β next (some ⟨g,0,1⟩)) lim (ze lim g (some 0)) base w w':=⟨λj l2 h=>by
      by_cases hj:j=next
      . subst hj;rw[hf.1]at h;cases h
      . rw[qo _ _ hj];exact h,
      ⟨hbel.size,λb c e fz hb=>⟨c,e,fz,(hbel.block b (Array.getElem?_eq_some_iff.1 hb).1).trans hb,rfl,λ_ _=>rfl⟩,λb es c _ hb=>(hbel.block b (Array.getElem?_eq_some_iff.1 hb).1).trans hb⟩,
      λb i hb hs=>by unfold yP at *;rw[qo _ _ o_];exact hs,
      hbel.mono hR.base_le,λb hb=>qo _ _ (by have:=hR.base_le;omega)⟩
     have hlen:((zs.drop off).take len).length=len:=(by simp;omega);refine⟨_,.msl next 1 0 len,_,next+1,ze β next (some ⟨g,0,1⟩),ze lim g (some 0),rfl,⟨rfl,rfl,rfl⟩,?_,?_,hgr.β,hgr.ext,hgr.limLe,hgr.below,o_,λj hj=>qo _ _ o_,λj hj h=>by rw[qo _ _ o_];exact h,hgr.old⟩
     . refine hR.step hgr o_ (id:=next) (tb:=g) o_ (λb hb hne=>⟨hbel.block b hb,qo _ _ hne⟩) (λj hj=>qo _ _ hj) (λj o hj h=>by rwa [qo _ _ hj]at h) (λj o l2 hj h hβ2=>?_) (λo h=>?_) (λl2 h=>?_) (λo l2 h h2=>?_)
       . have:=(hR.own j l2 hβ2).2;omega
       . rw [qi]at h;cases h;refine .inr ⟨⟨g,0,1⟩,cur',ty,qi _ _ _,rfl,hg2,by simp;omega,qi _ _ _,λe he=>?_,λi j e c he hcj=>?_⟩
         . obtain ⟨x,hx,rfl⟩:=List.mem_map.1 he;exact⟨rfl,λc hc=>by simp[V.cells]at hc;subst hc;rfl⟩
         . rw[List.getElem?_map,Option.map_eq_some_iff]at he;obtain ⟨x,hx1,rfl⟩:=he;have hj0:j=0/\c=.int .i64 x:=by
            cases j with
            |zero=>exact⟨rfl,by simpa[V.cells]using hcj.symm⟩
            |succ j=>simp[V.cells]at hcj
           obtain ⟨rfl,rfl⟩:=hj0;refine⟨.int .i64 x,?_,.int _ _⟩;have hi:=(List.getElem?_eq_some_iff.1 hx1).1;have e1:(cur'.toList.take len)[i]?=some (Value.int .i64 x):=(by rw[hg6,List.getElem?_map,hx1];rfl);rw[List.getElem?_take_of_lt o_]at e1;simpa using e1
       . rw[qi]at h;cases h;exact⟨Nat.le_trans hR.base_le hg1,hgs⟩
       . rw[qi]at h2;cases h2;rfl
     . have:=R.msl (β:=ze β next (some ⟨g,0,1⟩)) (w:=w') (lim:=ze lim g (some 0)) next 0 len ⟨g,0,1⟩ cap' (qi _ _ _) hg3 hg4 (by
        show 0+(0+cap') *1<=zQ w' g;simp only[E.zQ,hg2];omega)
       simpa using this
end Go.Proofs

namespace Go.Proofs
open Go.Shelf
def Tryz.laysNm215_ren:Go.Shelf.Ren:=⟨λ|15=>163|n=>n,λ|22=>27|3=>3|4=>4|n=>n,λ|n=>n⟩
theorem Tryz.laysNm215:Go.Proofs.Lays2.n15 Tryz.prog Tryz.laysNm215_ren:={
 mixed:=by kernel_rfl
 f15:=Tryz.func163.trans (congrArg some (by kernel_rfl))
 t3:=Tryz.underlying3
 a3:=Tryz.isAgg3
 z3:=Tryz.sizeOf3
 v3:=Tryz.zeroValue3
 t4:=Tryz.underlying4
 a4:=Tryz.isAgg4
 z4:=Tryz.sizeOf4
 v4:=Tryz.zeroValue4
 t22:=Tryz.underlying27
 a22:=Tryz.isAgg27
 z22:=Tryz.sizeOf27
 v22:=Tryz.zeroValue27
 i3:=by kernel_rfl}
end Go.Proofs

namespace Go.Proofs
open Go.E Go.Sort Go.Lib Go.RowKit Go.Shelf
theorem slices_Clone{H:Nat->Option MObj}{next id off len:Nat}{zs:List Int}{ro:Bool}(hH:H id=some (.own 1 (zs.map (V.int .i64)) ro))(hn:0<len)(hle:off+len<=zs.length)(hz:len<=17592186044416):
 zh Tryz.prog 163 [.msl id 1 off len] H next λv H' n'=>v=.msl next 1 0 len/\n'=next+1/\H' next=some (.own 1 (((zs.drop off).take len).map (V.int .i64)) false)/\∀j,j≠next->H' j=H j:=
 qbw ⟨Tryz.f163,Tryz.func163,by kernel_rfl,by kernel_rfl⟩ _ (λb off n c zs w h1 h2 h3=>Any.slices_Clone_int Tryz.laysNm215 b off n c zs w h1 h2 h3) hH hn hle hz
end Go.Proofs
