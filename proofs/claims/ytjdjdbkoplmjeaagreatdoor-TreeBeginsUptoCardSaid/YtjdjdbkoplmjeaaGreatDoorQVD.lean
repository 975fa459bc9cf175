/- Part of a proof that a law of the given program answers true. -/
import Derived.Test.YtjdjdbkoplmjeaaGreatDoorQVA
import Derived.Test.YtjdjdbkoplmjeaaGreatDoorQWA
import Derived.Test.YtjdjdbkoplmjeaaGreatDoorQVC
import Derived.Test.YtjdjdbkoplmjeaaGreatDoorQVB
import Derived.Test.YtjdjdbkoplmjeaaGreatDoorQCA
set_option maxRecDepth 20000
set_option linter.unusedSimpArgs false
set_option linter.unusedVariables false
set_option maxHeartbeats 4000000
namespace Go.Proofs
open Go.E
theorem KP (P:List GPr) (E:Nat→Bool) (p:GPr) (k:Nat):relE (P++[p]) E k=relE P E k++(if p.left=(k:Int)∧qR false E p.right=true then p.right.map fun s=>s - 1000 else[]):=by
 unfold relE
 rw[List.filter_append,List.flatMap_append]
 congr 1
 by_cases h:p.left=(k:Int)∧qR false E p.right=true
 · rw[if_pos h,List.filter_cons,if_pos (by simp[h.1,h.2])];simp
 · rw[if_neg h,List.filter_cons,if_neg (by simpa using h)];simp
structure CyI (rel:Nat→List Int) (n:Nat) (D:Nat→Int→Prop) (C:Nat→Bool):Prop where
 snd: ∀k,C k=true→k<n∧ ∃j,Edge rel n k j∧Rch rel n j k
 cpl: ∀(k:Nat) j,D k j→(1<(Zq rel n k).length∨j=(k:Int))→C k=true
theorem CyI.start (rel:Nat→List Int) (n:Nat):CyI rel n (fun _ _=>False) (fun _=>false):=⟨fun k h=>(by cases h),fun k j h=>h.elim⟩
theorem CyI.weak {rel:Nat→List Int} {n:Nat} {D D':Nat→Int→Prop} {C:Nat→Bool} (h:CyI rel n D C) (hd: ∀k j,D' k j→D k j):CyI rel n D' C:=⟨h.snd,fun k j h1 h2=>h.cpl k j (hd k j h1) h2⟩
theorem qdU {rel:Nat→List Int} {n k x:Nat} (h:Rch rel n k x) (hne:x≠k): ∃j,Edge rel n k j∧Rch rel n j x:=by
 induction h with
 |refl=>exact absurd rfl hne
 | @step a b hr e ih=>
   by_cases ha:a=k
   · subst ha;exact⟨b,e,.refl b⟩
   · obtain ⟨j,h1,h2⟩:=ih ha
     exact⟨j,h1,.step h2 e⟩
theorem qnz {l:List Nat} (h:1<l.length) (hn:l.Pairwise (· < ·)) (k:Nat): ∃x∈l,x≠k:=by
 match l,h with
 | a ::b::r,_=>
   by_cases e:a=k
   · refine⟨b,by simp,fun e2=>?_⟩
     have:=(List.pairwise_cons.1 hn).1 b (by simp)
     omega
   · exact⟨a,by simp,e⟩
theorem CyI.mark {rel:Nat→List Int} {n k:Nat} {j:Int} {D:Nat→Int→Prop} {C:Nat→Bool} (h:CyI rel n D C) (hk:k<n) (hj:j∈rel k) (hc:1<(Zq rel n k).length∨j=(k:Int)) {C':Nat→Bool} (hC: ∀y,C' y=true↔C y=true∨y=k):
 CyI rel n (fun a b=>D a b∨a=k∧b=j) C':=by
 refine⟨fun y hy=>?_,fun a b hd hab=>(hC a).2 ?_⟩
 · rcases (hC y).1 hy with hy|rfl
   · exact h.snd y hy
   · refine⟨hk,?_⟩
     rcases hc with hc|hc
     · obtain ⟨x,hx,hne⟩:=qnz hc (Kk rel n y) y
       obtain ⟨_,h1,h2⟩:=xZ.1 hx
       obtain ⟨z,h3,h4⟩:=qdU h1 hne
       exact⟨z,h3,h4.trans h2⟩
     · subst hc;exact⟨y,⟨hk,hk,hj⟩,.refl y⟩
 · rcases hd with hd|⟨rfl,rfl⟩
   · exact Or.inl (h.cpl a b hd hab)
   · exact Or.inr rfl
theorem CyI.skip {rel:Nat→List Int} {n k:Nat} {j:Int} {D:Nat→Int→Prop} {C:Nat→Bool} (h:CyI rel n D C) (hc: ¬ (1<(Zq rel n k).length∨j=(k:Int))):CyI rel n (fun a b=>D a b∨a=k∧b=j) C:=
 ⟨h.snd,fun a b hd hab=>by
  rcases hd with hd|⟨rfl,rfl⟩
  · exact h.cpl a b hd hab
  · exact absurd hab hc⟩
theorem CyI.all {P:List GPr} {n:Nat} {E C:Nat→Bool} {D:Nat→Int→Prop} (h:CyI (relE P E) n D C) (hD: ∀k,k<n→ ∀j∈relE P E k,D k j):Jg P n E C:=by
 intro k hk
 constructor
 · exact fun hc=>(h.snd k hc).2
 · rintro ⟨j,e,hr⟩
   refine h.cpl k j (hD k hk j e.2.2) ?_
   by_cases hjk:j=k
   · exact Or.inr o_
   · left
     have h1:j∈Zq (relE P E) n k:=xZ.2 ⟨e.2.1,.one e,hr⟩
     have h2:k∈Zq (relE P E) n k:=xZ.2 ⟨hk,.refl k,.refl k⟩
     match hl:Zq (relE P E) n k with
     |[]=>rw[hl]at h1;cases h1
     |[a]=>rw[hl,List.mem_singleton]at h1 h2;exact absurd (h1.trans h2.symm) hjk
     |a::b::r=>simp
theorem VQ {P:List GPr} {n:Nat} {E c d:Nat→Bool} (hn: ∀p∈P,∀s∈p.right,s<1000∨ ∃k:Nat,s=1000+(k:Int)∧k<n) (h: ∀k,k<n→c k=d k): ∀f k,k<n→szF P E c f k=szF P E d f k
 |0,_,_=>rfl
 | f + 1,k,hk=>by
   unfold szF ezF
   rw[h k hk]
   by_cases e1:E k=false
   · rw[if_pos e1,if_pos e1]
   · rw[if_neg e1,if_neg e1]
     by_cases e2:d k=true
     · rw[if_pos e2,if_pos e2]
     · rw[if_neg e2,if_neg e2]
       refine JR _ fun p hp hl hf s hs=>?_
       obtain ⟨j,rfl,hj,_,_⟩:=JW hn hk hp hl hf hs
       rw[show (1000+(j:Int) - 1000).toNat=j by omega]
       exact VQ hn h f j hj
theorem Jg.uniq {P:List GPr} {n:Nat} {E c d:Nat→Bool} (hc:Jg P n E c) (hd:Jg P n E d) {k:Nat} (hk:k<n):c k=d k:=by
 rw[Bool.eq_iff_iff,hc k hk,hd k hk]

set_option maxHeartbeats 8000000
theorem qBg (n:Nat):List.replicate n (V.int .i64 0)=ivs (xW n (fun _=>0)):=by
 refine List.ext_getElem? fun i=>?_
 by_cases h:i<n
 · simp[ivs,xW,h]
 · rw[List.getElem?_eq_none (by simp;omega),List.getElem?_eq_none (by simp[ivs,xW];omega)]
def qbF (f:Nat→List Int) (k:Nat) (l:List Int):Nat→List Int:=fun i=>f i++(if i=k then l.map (fun s=>s - 1000)else[])
theorem qfG (f:Nat→List Int) (k:Nat):qbF f k []=f:=by funext i;unfold qbF;split<;>simp
theorem qdF (f:Nat→List Int) (k:Nat) (l:List Int) (s:Int):qbF f k (l++[s])=qoc (qbF f k l) k (s - 1000):=by
 funext i;unfold qbF qoc
 by_cases e:i=k
 · subst e;simp
 · simp[e]
theorem qqV (P:List GPr) (E:Nat→Bool) (p:GPr) {k:Nat} (hl:p.left=(k:Int)) (hf:qR false E p.right=true):relE (P++[p]) E=qbF (relE P E) k p.right:=by
 funext i
 rw[KP];unfold qbF
 by_cases e:i=k
 · subst e;rw[if_pos ⟨hl,hf⟩,if_pos rfl]
 · rw[if_neg (fun h=>e (by have:=h.1;omega)),if_neg e]
theorem qrn (P:List GPr) (E:Nat→Bool) (p:GPr) (hf: ¬ qR false E p.right=true):relE (P++[p]) E=relE P E:=by
 funext i
 rw[KP,if_neg (fun h=>hf h.2),List.append_nil]
theorem YE: ∀(P:List GPr),(∀p∈P,p.right.length≤8)→ ∀(E:Nat→Bool) (k:Nat),(relE P E k).length≤8 *P.length
 |[],_,E,k=>by simp[relE]
 | p::P,h,E,k=>by
   have e:relE (p::P) E k=(if p.left=(k:Int)∧qR false E p.right=true then p.right.map (fun s=>s - 1000)else[])++relE P E k:=by
    unfold relE
    by_cases c:p.left=(k:Int)∧qR false E p.right=true
    · rw[if_pos c,List.filter_cons,if_pos (by simp[c.1,c.2]),List.flatMap_cons]
    · rw[if_neg c,List.filter_cons,if_neg (by simpa using c)];simp
   rw[e,List.length_append,List.length_cons]
   have ih:=YE P (fun r hr=>h r (List.mem_cons_of_mem _ hr)) E k
   have:=h p (by simp)
   split
   · rw[List.length_map];omega
   · simp;omega
theorem qfZ {k y:Nat} (hk:k<1024):Xz [(k:Int)] y=true↔y=k:=by
 simp only[Xz,Bool.and_eq_true,decide_eq_true_eq,List.mem_singleton]
 omega
theorem qg6 {b c:Bool} {H:Nat→Option MObj} (l:List Int):Er b H (.sl 1 c (l.map (V.int .i64))) (ints l):=VD
theorem qq4 (h:Nat→Bool): ∀n,cf h n≤n
 |0=>Nat.le_refl _
 |n+1=>by have:=qq4 h n;unfold cf;split<;>omega
theorem qcJ {rel rel':Nat→List Int} {n i:Nat} (h: ∀i,i<n→rel i=rel' i):Zq rel n i=Zq rel' n i:=by
 unfold Zq
 refine List.filter_congr fun x _=>?_
 rw[Bool.eq_iff_iff,@decide_eq_true_eq _ (Classical.propDecidable _),@decide_eq_true_eq _ (Classical.propDecidable _)]
 exact⟨fun q=>⟨Zl h q.1,Zl h q.2⟩,fun q=>⟨Zl (fun i hi=>(h i hi).symm) q.1,Zl (fun i hi=>(h i hi).symm) q.2⟩⟩
theorem qaZ {rel rel':Nat→List Int} {n:Nat} (h: ∀i,i<n→rel i=rel' i):Zt rel n=Zt rel' n:=by
 unfold Zt
 congr 1
 funext i
 rw[qcJ h]
theorem KE {rel:Nat→List Int} {n i j:Nat} (h:j∈Zq rel n i):Zq rel n i=Zq rel n j:=by
 obtain ⟨_,h1,h2⟩:=xZ.1 h
 unfold Zq
 refine List.filter_congr fun x _=>?_
 rw[Bool.eq_iff_iff,@decide_eq_true_eq _ (Classical.propDecidable _),@decide_eq_true_eq _ (Classical.propDecidable _)]
 exact⟨fun q=>⟨h2.trans q.1,q.2.trans h1⟩,fun q=>⟨h1.trans q.1,q.2.trans h2⟩⟩
theorem qiu {rel:Nat→List Int} {n k:Nat} (hk:k<n): ∃L∈Zt rel n,k∈L:=by
 have hm:k∈Zq rel n k:=xZ.2 ⟨hk,.refl _,.refl _⟩
 cases hc:Zq rel n k with
 |nil=>rw[hc]at hm;cases hm
 | cons y L=>
   have hy:y∈Zq rel n k:=by rw[hc];simp
   have e:=KE hy
   refine⟨Zq rel n k,Js.2 ⟨y,(xZ.1 hy).1,?_,e⟩,hm⟩
   rw[← e,hc];rfl
theorem OAt.mono3 {H H':Nat→Option MObj} {next next' ei zi oi:Nat} {g:Grammar} {n:Nat} {h cy:Nat→Bool} {sz:Nat→Int} {op:Nat→Bool} (w:OAt H next ei zi oi g n h cy sz op) (hn:next≤next') (h1:H' ei=H ei) (h2:H' zi=H zi) (h3:H' oi=H oi):OAt H' next' ei zi oi g n h cy sz op:=
 ⟨h1.trans w.e,h2.trans w.z,h3.trans w.o,Nat.lt_of_lt_of_le w.l1 hn,Nat.lt_of_lt_of_le w.l2 hn,Nat.lt_of_lt_of_le w.l3 hn⟩
theorem em0 (g:Grammar) (n:Nat) (h:Nat→Bool) (Sv Ov:V):emC g n h Sv Ov (fun _=>false)=[.sl 6 false (g.toks.map Tok.V),.sl 2 false (g.nons.map Non.V),.sl 6 false (g.prods.map GPr.V),.str g.pro,.str g.tail,.sl 1 false (yB n h),Sv,Ov,.int .u64 0,.int .u64 0,.int .u64 0,.int .u64 0,.int .u64 0,.int .u64 0,.int .u64 0,.int .u64 0,.int .u64 0,.int .u64 0,.int .u64 0,.int .u64 0,.int .u64 0,.int .u64 0,.int .u64 0,.int .u64 0]:=by
 unfold emC
 rw[vI]
theorem qKA {K:St→Prop} {s:St} {g:Grammar} {n id:Nat} {h cy C:Nat→Bool} {Sv Ov:V} {o:Option MObj} (ho:o=some (.own 24 [.agg (emC g n h Sv Ov cy)] false)) (hk:K (s.setO id (some (.own 24 [.agg (emC g n h Sv Ov C)] false)))):onS (stQ s o 16 id 0 8 (.agg (zl C))) K:=by
 subst ho
 have hl:=qK cy
 have hl2:=qK C
 have e:stQ s (some (.own 24 [.agg (emC g n h Sv Ov cy)] false)) 16 id 0 8 (.agg (zl C))=some (s.setO id (some (.own 24 [.agg (emC g n h Sv Ov C)] false))):=by
  have hd:(zl cy).drop 16=[]:=List.drop_eq_nil_of_le o_
  simp[stQ,V.cells,V.okCell,zV,V.isAgg,emC,hl,hl2,hd]
 rw[e];exact hk
theorem qcp {g:Grammar} {E cy:Nat→Bool} (hg:GOk g) (hp:Pure Tryz.prog 37 [g.V,.bool false] (.sl 1 false (yB g.nons.length E))) (hcy:Jg g.prods g.nons.length E cy):Pure Tryz.prog 17 [g.V] (.sl 1 false ((xW g.nons.length (szE g.prods g.nons.length E cy)).map (V.int .i64))):=by
 refine pure_intro Tryz.func17 nm_ qvO (by show 1≤124;decide) ?_
 show ewp _ qdw _ _
 have hnl:=hg.nn2;have hpl:=hg.pl2;have htl:=hg.tk2
 have hn0:=hg.nn
 have hrt0:=fun p hp=>hg.rt (p:=p) hp
 have hem:=Z7 hp
 obtain ⟨n,hn⟩: ∃n,n=g.nons.length:=⟨_,rfl⟩
 have hn':=hn.symm
 rw[← hn]at hnl hn0 hem hrt0 hcy
 rw[← hn]
 have hb0:=qex n
 have hr0:=qBg n
 have hcE:=KM n E
 have hem0:=em0 g n E (.msl 10 1 0 n) (.msl 14 1 0 n)
 have hs16:=qne
 repeat' with_reducible first
  |refine s_ ?_
  |simp -implicitDefEqProofs only[wZZ,seval,hn']
  |(refine And.intro ?_ ?_;(focus(first|with_unfolding_all rfl|exact congrArg some (qeW (by first|omega|(simp only[List.length_set];omega))))))
  |refine cq1 hem qg ?_
  |refine t_ ?_
  |apply qat;exact wf_;exact wf_;(focus(unfold maxLen;first|omega|(simp only[wZ]<;>omega)))
 refine qb ?nx1 (fun(i:Nat) s=>s.f 1=?v1_1∧s.f 4=?v1_4∧s.f 5=?v1_5∧s.f 6=?v1_6∧s.f 37=?v1_37∧s.f 38=?v1_38∧s.H 0=some (MObj.own 5 [g.V] false)∧s.f 39=vi i∧(i≤g.prods.length)∧(23≤s.next)∧(OAt s.H s.next 16 10 14 g n E (fun _=>false) (fun _=>0) (fun _=>false))∧(s.H 18=some (.own 16 [kJ (fun _=>false)] false))∧((∃es,s.H 22=some (.own 1 es false)∧GT s.H s.next (tbl n (relE (g.prods.take i) E)) es))) (fun i=>g.prods.length - i) (0) wj_ (by refine⟨?_,?_,?_,?_,?_,?_,?_,?_,wo_,wg_,(by(exact⟨by rw[hem0];((try simp only[wM]);(repeat first|rw[if_pos trivial]|rw[if_pos rfl]|rw[if_neg o_])),by rw[← hr0];((try simp only[wM]);(repeat first|rw[if_pos trivial]|rw[if_pos rfl]|rw[if_neg o_])),by rw[← hb0];((try simp only[wM]);(repeat first|rw[if_pos trivial]|rw[if_pos rfl]|rw[if_neg o_])),wg_,wg_,wg_⟩)),(by(rw[← hs16];((try simp only[wM]);(repeat first|rw[if_pos trivial]|rw[if_pos rfl]|rw[if_neg o_])))),(by(exact⟨_,hh_,by rw[show relE (g.prods.take 0) E=fun _=>[] from rfl,← qeJ];exact GT.new _ _ n⟩))⟩<;>first|(simp -implicitDefEqProofs only[wL,wM,wN,wX,seval,Option.some.injEq]<;>exact wt_)|rfl|exact⟨_,rfl⟩) ?_
 intro i s hnx ⟨g1,g4,g5,g6,g37,g38,o0,g39,k1_0,k1_1,k1_2,k1_3,k1_4⟩
 obtain ⟨es,o22,hT⟩:=k1_4
 have hO:=k1_2
 have o18:=k1_3
 have hz:=w1_ i
 by_cases hi:i<g.prods.length
 · have hmem:=List.getElem_mem hi
   obtain ⟨lf,hl1,hl2⟩:=hg.left _ hmem
   rw[← hn]at hl2
   have hrtp:=hrt0 _ hmem
   have hrl:=hg.rlen _ hmem
   have htk:g.prods.take (i+1)=g.prods.take i++[g.prods[i]]:=by rw[List.take_add_one,ge_ hi];rfl
   have hfl: ∀k,(relE (g.prods.take i) E k).length≤480:=fun k=>by
    have h1:=YE (g.prods.take i) (fun p hp=>hg.rlen p (List.mem_of_mem_take hp)) E k
    have h2:(g.prods.take i).length≤60:=by rw[List.length_take];omega
    omega
   generalize hp':g.prods[i]=p at *
   have hgp:g.prods[i]?=some p:=by rw[ge_ hi,hp']
   clear hp'
   obtain ⟨pl,pr,pc,pco,pa,pat⟩:=p
   dsimp only at hl1 hrtp hrl
   subst hl1
   have hfit:=yN (cs:=emC g n E (.sl 1 false (ivs (xW n (fun _=>0)))) (.sl 1 false (yB n (fun _=>false))) (fun _=>false)) (p:={left:=lf,right:=pr,prec:=pc,code:=pco,args:=pa,at_:=pat}) (h:=E) (n:=n) rfl hrtp (by dsimp only;omega) o_
   dsimp only at hfit
   by_cases hft:qR false E pr=true
   · rw [hft]at hfit
     have hrun:relE (g.prods.take (i+1)) E=qbF (relE (g.prods.take i) E) lf pr:=by rw[htk];exact qqV _ E _ rfl hft
     generalize relE (g.prods.take i) E=f0 at *
     repeat' with_reducible first
      |refine s_ ?_
      |simp -implicitDefEqProofs only[wZZ,seval,g1,g4,g5,g6,g37,g38,g39,o0]
      |apply qa<;>intro h h_<;>(try simp only[wD,reduceCtorEq]at h_)<;>(try exact wb_)<;>(try simp only[h])
      |refine t_ ?_
      |apply qW (hp:=hfit);exact(hO.mono (Nat.le_refl _) (fun j hj=>hh_)).er;exact qg;exact wu_;exact Flat.bool _
     obtain ⟨D,hD⟩: ∃D,D=s.next+1+2:=⟨_,rfl⟩
     rw[← hD]
     refine qb ?nx2 (fun(j:Nat) s=>s.f 1=?v2_1∧s.f 4=?v2_4∧s.f 5=?v2_5∧s.f 6=?v2_6∧s.f 8=?v2_8∧s.f 37=?v2_37∧s.f 38=?v2_38∧s.f 39=?v2_39∧s.f 47=?v2_47∧s.f 48=?v2_48∧s.f 49=vi j∧(j≤pr.length)∧(D<s.next)∧(s.H 0=some (MObj.own 5 [g.V] false))∧(s.H D=some (.own 6 [.agg [vi lf,.sl 1 false (pr.map (V.int .i64)),vi pc,.str pco,.sl 1 false (pa.map (V.int .i64)),vi pat]] false))∧(OAt s.H s.next 16 10 14 g n E (fun _=>false) (fun _=>0) (fun _=>false))∧(s.H 18=some (.own 16 [kJ (fun _=>false)] false))∧((∃es,s.H 22=some (.own 1 es false)∧GT s.H s.next (tbl n (qbF f0 lf (pr.take j))) es))) (fun j=>pr.length - j) (0) wj_ (by refine⟨?_,?_,?_,?_,?_,?_,?_,?_,?_,?_,?_,wo_,wg_,(by(((try simp only[wM]);(repeat first|rw[if_pos trivial]|rw[if_pos rfl]|rw[if_neg o_]));exact o0)),hh_,(by(exact hO.mono wg_ (fun j hj=>hh_))),(by(((try simp only[wM]);(repeat first|rw[if_pos trivial]|rw[if_pos rfl]|rw[if_neg o_]));exact o18)),(by(exact⟨es,by((try simp only[wM]);(repeat first|rw[if_pos trivial]|rw[if_pos rfl]|rw[if_neg o_]));exact o22,by rw[show pr.take 0=[] from rfl,qfG];exact hT.mono wg_ (fun x h1 _=>hh_)⟩))⟩<;>first|(simp -implicitDefEqProofs only[wL,wM,wN,wX,seval,Option.some.injEq,g1,g4,g5,g6,g37,g38,g39,o0]<;>exact wt_)|rfl|exact⟨_,rfl⟩) ?_
     intro j s hnx ⟨g1,g4,g5,g6,g8,g37,g38,g39,g47,g48,g49,k2_0,k2_1,k2_2,k2_3,k2_4,k2_5,k2_6⟩
     obtain ⟨es2,p22,hT2⟩:=k2_6
     have hO2:=k2_4
     have p18:=k2_5
     have oD:=k2_3
     have p0:=k2_2
     have hzj:=w1_ j
     by_cases hj:j<pr.length
     · have hg1:pr[j]?=some pr[j]:=ge_ hj
       have hst:qbF f0 lf (pr.take (j+1))=qoc (qbF f0 lf (pr.take j)) lf (pr[j] - 1000):=by rw[List.take_add_one,hg1,Option.toList_some,qdF]
       have hxr:=hrtp _ (List.getElem_mem hj)
       have hxf:=(V7 hft (List.getElem_mem hj)).1
       have hql:(qbF f0 lf (pr.take j) lf).length≤488:=by
        unfold qbF;rw[if_pos rfl,List.length_append,List.length_map,List.length_take]
        have:=hfl lf
        omega
       generalize pr[j]=x at *
       generalize qbF f0 lf (pr.take j)=q at *
       have hla:=hT2.lab false
       obtain ⟨va,hva,hGa⟩:=hT2.get (Zu (f:=q) hl2)
       have hn22:=hT2.ne p22 hva
       have hd22: ¬ 22=D:=o_
       have hsetA:=qjh (f:=q) (x:=x - 1000) hl2
       have hzx:IntKind.i64.wrap (x - 1000)=x - 1000:=by
        rcases hxr with e|⟨k,e,_⟩
        · omega
        · exact wrap64 o_ o_
       have hn0':=hT2.ne p0 hva
       have hnD:=hT2.ne oD hva
       have hn18:=hT2.ne p18 hva
       have hn16:=hT2.ne hO2.e hva
       have hn10:=hT2.ne hO2.z hva
       have hn14:=hT2.ne hO2.o hva
       repeat' with_reducible first
        |refine s_ ?_
        |simp -implicitDefEqProofs only[wZZ,seval,g1,g4,g5,g6,g8,g37,g38,g39,g47,g48,g49,hzj,hzx,p0,oD,p22,qd hn22]
        |apply qa<;>intro h h_<;>(try simp only[wD,reduceCtorEq]at h_)<;>(try exact wb_)<;>(try simp only[h])
        |(refine And.intro ?_ ?_;(focus(first|with_unfolding_all rfl|exact congrArg some (qeW (by first|omega|(simp only[List.length_set];omega))))))
        |(refine And.intro (congrArg some hla) ?_)
        |refine t_ ?_
        |apply zm;omega;omega
        |(refine qB5 rfl rfl o_ hva (Go.Proofs.Gr.fl3 hGa) ?_)
        |apply jg rfl (hGa.mono (Nat.le_refl _) (fun id h1 h2=>by(try simp only[wM]);(repeat rw[if_neg o_])));(focus(first|exact jk.sl|exact jk.asl));(focus(simp only[wZ]<;>omega));(focus(unfold maxLen;simp only[wZ]<;>omega))
        |(refine qE7 rfl o_ hva (Go.Proofs.Gr.fl3 hGa) rfl rfl rfl ?_)
        |simp -implicitDefEqProofs (disch:=omega) only[w64,if_neg]
       refine⟨wg_,j+1,o_,?_⟩;(repeat refine⟨True.intro,?_⟩)
       refine⟨rfl,o_,wg_,(qd hn0').trans p0,(qd hnD).trans oD,hO2.mono3 wg_ (by((try simp only[wM]);(repeat first|rw[if_pos trivial]|rw[if_pos rfl]|rw[if_neg o_]));exact qd hn16) (by((try simp only[wM]);(repeat first|rw[if_pos trivial]|rw[if_pos rfl]|rw[if_neg o_]));exact qd hn10) (by((try simp only[wM]);(repeat first|rw[if_pos trivial]|rw[if_pos rfl]|rw[if_neg o_]));exact qd hn14),(qd hn18).trans p18,_,rfl,?_⟩
       rw[hst,← hsetA]
       exact hT2.put hva wg_ (fun y h1 h2 ⟨fin,hf⟩=>by
        have:y≠22:=fun e=>by rw[e,p22]at hf;cases hf
        ((try simp only[wM]);(repeat first|rw[if_pos trivial]|rw[if_pos rfl]|rw[if_neg o_]));rw[qd h2]) (Gr.tok hh_ wg_) (fun y hy=>by cases hy;omega)
     · have ej:pr.take j=pr:=List.take_of_length_le o_
       rw[ej,← hrun]at hT2
       repeat' with_reducible first
        |refine s_ ?_
        |simp -implicitDefEqProofs only[wZZ,seval,g1,g4,g5,g6,g8,g37,g38,g39,g47,g48,g49]
        |apply qa<;>intro h h_<;>(try simp only[wD,reduceCtorEq]at h_)<;>(try exact wb_)<;>(try simp only[h])
        |simp -implicitDefEqProofs (disch:=omega) only[w64,if_neg]
       refine⟨wg_,i+1,o_,?_⟩;(repeat refine⟨True.intro,?_⟩)
       exact⟨p0,rfl,o_,wg_,hO2.mono wg_ (fun j hj=>hh_),p18,es2,p22,hT2.mono wg_ (fun x h1 _=>hh_)⟩
   · skip
     have hft':qR false E pr=false:=by simpa using hft
     rw[hft']at hfit
     have hrun:relE (g.prods.take (i+1)) E=relE (g.prods.take i) E:=by rw[htk];exact qrn _ E _ hft
     rw[← hrun]at hT
     repeat' with_reducible first
      |refine s_ ?_
      |simp -implicitDefEqProofs only[wZZ,seval,g1,g4,g5,g6,g37,g38,g39,o0]
      |apply qa<;>intro h h_<;>(try simp only[wD,reduceCtorEq]at h_)<;>(try exact wb_)<;>(try simp only[h])
      |refine t_ ?_
      |apply qW (hp:=hfit);exact(hO.mono (Nat.le_refl _) (fun j hj=>hh_)).er;exact qg;exact wu_;exact Flat.bool _
      |simp -implicitDefEqProofs (disch:=omega) only[w64,if_neg]
     refine⟨wg_,i+1,o_,?_⟩;(repeat refine⟨True.intro,?_⟩)
     exact⟨rfl,o_,wg_,hO.mono wg_ (fun j hj=>hh_),o18,es,o22,hT.mono wg_ (fun x h1 _=>hh_)⟩
 · have ei : g.prods.take i=g.prods:=List.take_of_length_le o_
   rw[ei]at hT
   obtain ⟨rel,hrel⟩: ∃rel,rel=relE g.prods E:=⟨_,rfl⟩
   have hrl: ∀k,(rel k).length≤480:=fun k=>by
    have:=YE g.prods hg.rlen E k
    rw[hrel];omega
   rw[← hrel]at hT
   have hcm:=qa8 (rl:=tbl n rel) (by rw[Qy];omega) (fun l hl=>by obtain ⟨k,_,rfl⟩:=List.mem_map.1 hl;have:=hrl k;omega)
   rw[Qy,if_neg o_,qaZ (fun k hk=>qgs hk)]at hcm
   have hE1: ∀HH:Nat→Option MObj,HH 22=s.H 22→Ers true (rsH (fun j=>j == 22) HH) [.msl 22 1 0 n] [.sl 1 false ((tbl n rel).map Xm)]:=fun HH h1=>by
    have e1:=qmJ (S:=fun j=>j == 22) (ro:=false) rfl (h1.trans o22) hT
    rw[Qy]at e1
    exact jf e1 Qc
   have hCl:(Zt rel n).length≤n:=Nat.le_trans (List.length_filterMap_le _ _) (by simp)
   have hCm: ∀L∈Zt rel n,∀k∈L,k<n∧L=Zq rel n k:=fun L hL k hk=>by
    obtain ⟨q,_,_,rfl⟩:=Js.1 hL
    exact⟨(xZ.1 hk).1,KE hk⟩
   have hCi:=fun k (hk:k<n)=>qiu (rel:=rel) hk
   generalize Zt rel n=Cs at *
   have hCsl:(Cs.map yx).length=Cs.length:=List.length_map _
   repeat' with_reducible first
    |refine s_ ?_
    |simp -implicitDefEqProofs only[wZZ,seval,g1,g4,g5,g6,g37,g38,g39,o0,hCsl]
    |apply qa<;>intro h h_<;>(try simp only[wD,reduceCtorEq]at h_)<;>(try exact wb_)<;>(try simp only[h])
    |(refine qI rfl rfl rfl ((qcl (fun j=>j == 22) (hE1 _ hh_) hcm).mono ?_);rintro v1 H1 n1 ⟨rfl,rfl,rfl⟩)
   have hfr: ∀j,j≠22→frH (fun j=>j == 22) s.H j=s.H j:=fun j hj=>by unfold frH;rw[if_neg (by simpa using hj)]
   have hfr22:frH (fun j=>j == 22) s.H 22=some (.own 1 es true):=by unfold frH;rw[if_pos (by rfl),o22];rfl
   have hfrt: ∀j,(∃fin,s.H j=some (.tok fin))→frH (fun j=>j == 22) s.H j=s.H j:=fun j ⟨fin,hf⟩=>hfr j (fun e=>by rw[e,o22]at hf;cases hf)
   skip
   refine qb ?nx3 (fun(a:Nat) s=>s.f 1=?v3_1∧s.f 4=?v3_4∧s.f 5=?v3_5∧s.f 6=?v3_6∧s.f 69=?v3_69∧s.f 70=?v3_70∧s.f 71=vi a∧(a≤Cs.length)∧(23≤s.next)∧(s.H 0=some (MObj.own 5 [g.V] false))∧(OAt s.H s.next 16 10 14 g n E (fun _=>false) (fun _=>0) (fun _=>false))∧(s.H 22=some (.own 1 es true))∧(GT s.H s.next (tbl n rel) es)∧((∃C,s.H 18=some (.own 16 [kJ C] false)∧CyI rel n (fun k j=>(∃L∈Cs.take a,k∈L)∧j∈rel k) C))) (fun a=>Cs.length - a) (0) wj_ (by refine⟨?_,?_,?_,?_,?_,?_,?_,wo_,wg_,(by(((try simp only[wM]);(repeat first|rw[if_pos trivial]|rw[if_pos rfl]|rw[if_neg o_]));exact(hfr _ (by decide)).trans o0)),(by(exact hO.mono3 wg_ (by((try simp only[wM]);(repeat first|rw[if_pos trivial]|rw[if_pos rfl]|rw[if_neg o_]));exact hfr _ (by decide)) (by((try simp only[wM]);(repeat first|rw[if_pos trivial]|rw[if_pos rfl]|rw[if_neg o_]));exact hfr _ (by decide)) (by((try simp only[wM]);(repeat first|rw[if_pos trivial]|rw[if_pos rfl]|rw[if_neg o_]));exact hfr _ (by decide)))),(by(((try simp only[wM]);(repeat first|rw[if_pos trivial]|rw[if_pos rfl]|rw[if_neg o_]));exact hfr22)),(by(exact hT.mono wg_ (fun x h1 h2=>by((try simp only[wM]);(repeat first|rw[if_pos trivial]|rw[if_pos rfl]|rw[if_neg o_]));exact hfrt x h2))),(by(exact⟨fun _=>false,by((try simp only[wM]);(repeat first|rw[if_pos trivial]|rw[if_pos rfl]|rw[if_neg o_]));exact(hfr _ (by decide)).trans o18,(CyI.start rel n).weak (fun k j h=>by simp at h)⟩))⟩<;>first|(simp -implicitDefEqProofs only[wL,wM,wN,wX,seval,Option.some.injEq,g1,g4,g5,g6,g37,g38,g39,o0]<;>exact wt_)|rfl|exact⟨_,rfl⟩) ?_
   intro a s hnx ⟨g1,g4,g5,g6,g69,g70,g71,k3_0,k3_1,k3_2,k3_3,k3_4,k3_5,k3_6⟩
   obtain ⟨C,o18',hCy⟩:=k3_6
   have hza:=w1_ a
   by_cases ha:a<Cs.length
   · obtain ⟨L,hL⟩: ∃L,Cs[a]?=some L:=⟨_,ge_ ha⟩
     have hgL:(Cs.map yx)[a]?=some (yx L):=by rw[List.getElem?_map,hL];rfl
     have hLm:=List.mem_of_getElem? hL
     have hLt:Cs.take (a+1)=Cs.take a++[L]:=by rw[List.take_add_one,hL];rfl
     have hLl:(yx L).length=L.length:=jd L
     have hLn:L.length≤n:=by
      cases hc:L with
      |nil=>simp
      | cons x r=>
        have:=(hCm L hLm x (by rw[hc];simp)).2
        rw[← hc,this]
        exact Nat.le_trans (List.length_filter_le _ _) (by simp)
     repeat' with_reducible first
      |refine s_ ?_
      |simp -implicitDefEqProofs only[wZZ,seval,g1,g4,g5,g6,g69,g70,g71,hLl]
      |apply qa<;>intro h h_<;>(try simp only[wD,reduceCtorEq]at h_)<;>(try exact wb_)<;>(try simp only[h])
      |refine t_ ?_
     refine qb ?nx4 (fun(b:Nat) s=>s.f 1=?v4_1∧s.f 4=?v4_4∧s.f 5=?v4_5∧s.f 6=?v4_6∧s.f 12=?v4_12∧s.f 69=?v4_69∧s.f 70=?v4_70∧s.f 71=?v4_71∧s.f 75=?v4_75∧s.f 76=?v4_76∧s.f 77=vi b∧(b≤L.length)∧(23≤s.next)∧(s.H 0=some (MObj.own 5 [g.V] false))∧(OAt s.H s.next 16 10 14 g n E (fun _=>false) (fun _=>0) (fun _=>false))∧(s.H 22=some (.own 1 es true))∧(GT s.H s.next (tbl n rel) es)∧((∃C,s.H 18=some (.own 16 [kJ C] false)∧CyI rel n (fun k j=>((∃L∈Cs.take a,k∈L)∨k∈L.take b)∧j∈rel k) C))) (fun b=>L.length - b) (0) wj_ (by refine⟨?_,?_,?_,?_,?_,?_,?_,?_,?_,?_,?_,wo_,wg_,(by(((try simp only[wM]);(repeat first|rw[if_pos trivial]|rw[if_pos rfl]|rw[if_neg o_]));exact k3_2)),(by(exact k3_3.mono wg_ (fun j hj=>hh_))),(by(((try simp only[wM]);(repeat first|rw[if_pos trivial]|rw[if_pos rfl]|rw[if_neg o_]));exact k3_4)),(by(exact k3_5.mono wg_ (fun x h1 h2=>hh_))),(by(exact⟨C,by((try simp only[wM]);(repeat first|rw[if_pos trivial]|rw[if_pos rfl]|rw[if_neg o_]));exact o18',hCy.weak (fun k j h=>⟨h.1.elim (fun h=>h) (fun h=>by simp at h),h.2⟩)⟩))⟩<;>first|(simp -implicitDefEqProofs only[wL,wM,wN,wX,seval,Option.some.injEq,g1,g4,g5,g6,g69,g70,g71]<;>exact wt_)|rfl|exact⟨_,rfl⟩) ?_
     intro b s hnx ⟨g1,g4,g5,g6,g12,g69,g70,g71,g75,g76,g77,k4_0,k4_1,k4_2,k4_3,k4_4,k4_5,k4_6⟩
     obtain ⟨C2,p18,hCy2⟩:=k4_6
     have hzb:=w1_ b
     by_cases hb:b<L.length
     · obtain ⟨k,hk⟩: ∃k,L[b]?=some k:=⟨_,ge_ hb⟩
       have hgk:(yx L)[b]?=some (k:Int):=Yv hk
       obtain ⟨hkn,hkL⟩:=hCm L hLm k (List.mem_of_getElem? hk)
       have hkt:L.take (b+1)=L.take b++[k]:=by rw[List.take_add_one,hk];rfl
       obtain ⟨vk,hvk,hGk⟩:=k4_5.get (Zu (f:=rel) hkn)
       have hvl:Jj vk=some (vi ((rel k).length:Int)):=by rw[hGk.len,List.length_map]
       have hrk:=hrl k
       have hLc:L.length=(Zq rel n k).length:=by rw[← hkL]
       have hof:=qa5 (l:=[(k:Int)]) (by simp)
       repeat' with_reducible first
        |refine s_ ?_
        |simp -implicitDefEqProofs only[wZZ,seval,g1,g4,g5,g6,g12,g69,g70,g71,g75,g76,g77,hLl,k4_4,hvl]
        |apply qa<;>intro h h_<;>(try simp only[wD,reduceCtorEq]at h_)<;>(try exact wb_)<;>(try simp only[h])
        |refine t_ ?_
        |apply zm;omega;omega
        |(refine qB5 rfl rfl o_ hvk (Go.Proofs.Gr.fl3 hGk) ?_)
       refine qb ?nx5 (fun(r:Nat) s=>s.f 1=?v5_1∧s.f 4=?v5_4∧s.f 5=?v5_5∧s.f 6=?v5_6∧s.f 12=?v5_12∧s.f 14=?v5_14∧s.f 69=?v5_69∧s.f 70=?v5_70∧s.f 71=?v5_71∧s.f 75=?v5_75∧s.f 76=?v5_76∧s.f 77=?v5_77∧s.f 84=?v5_84∧s.f 85=?v5_85∧s.f 86=vi r∧(r≤(rel k).length)∧(23≤s.next)∧(s.H 0=some (MObj.own 5 [g.V] false))∧(OAt s.H s.next 16 10 14 g n E (fun _=>false) (fun _=>0) (fun _=>false))∧(s.H 22=some (.own 1 es true))∧(GT s.H s.next (tbl n rel) es)∧((∃C,s.H 18=some (.own 16 [kJ C] false)∧CyI rel n (fun k' j=>(((∃L∈Cs.take a,k'∈L)∨k'∈L.take b)∧j∈rel k')∨(k'=k∧j∈(rel k).take r)) C))) (fun r=>(rel k).length - r) (0) wj_ (by refine⟨?_,?_,?_,?_,?_,?_,?_,?_,?_,?_,?_,?_,?_,?_,?_,wo_,wg_,(by(((try simp only[wM]);(repeat first|rw[if_pos trivial]|rw[if_pos rfl]|rw[if_neg o_]));exact k4_2)),(by(exact k4_3.mono wg_ (fun j hj=>hh_))),(by(((try simp only[wM]);(repeat first|rw[if_pos trivial]|rw[if_pos rfl]|rw[if_neg o_]));exact k4_4)),(by(exact k4_5.mono wg_ (fun x h1 h2=>hh_))),(by(exact⟨C2,by((try simp only[wM]);(repeat first|rw[if_pos trivial]|rw[if_pos rfl]|rw[if_neg o_]));exact p18,hCy2.weak (fun k' j h=>h.elim (fun h=>h) (fun h=>by have:=h.2;simp at this))⟩))⟩<;>first|(simp -implicitDefEqProofs only[wL,wM,wN,wX,seval,Option.some.injEq,g1,g4,g5,g6,g12,g69,g70,g71,g75,g76,g77]<;>exact wt_)|rfl|exact⟨_,rfl⟩) ?_
       intro r s hnx ⟨g1,g4,g5,g6,g12,g14,g69,g70,g71,g75,g76,g77,g84,g85,g86,k5_0,k5_1,k5_2,k5_3,k5_4,k5_5,k5_6⟩
       obtain ⟨C3,q18,hCy3⟩:=k5_6
       have hzr:=w1_ r
       by_cases hr:r<(rel k).length
       · obtain ⟨x,hx⟩: ∃x,(rel k)[r]?=some x:=⟨_,ge_ hr⟩
         have hxt:(rel k).take (r+1)=(rel k).take r++[x]:=by rw[List.take_add_one,hx];rfl
         have hwk: ∀(C':Nat→Bool),CyI rel n (fun a' b'=>((((∃L∈Cs.take a,a'∈L)∨a'∈L.take b)∧b'∈rel a')∨(a'=k∧b'∈(rel k).take r))∨a'=k∧b'=x) C'→CyI rel n (fun k' j=>(((∃L∈Cs.take a,k'∈L)∨k'∈L.take b)∧j∈rel k')∨(k'=k∧j∈(rel k).take (r+1))) C':=fun C' h=>h.weak (fun k' j hh=>by
          rcases hh with hh|⟨hh,hj⟩
          · exact Or.inl (Or.inl hh)
          · rw[hxt]at hj
            rcases List.mem_append.1 hj with hj|hj
            · exact Or.inl (Or.inr ⟨hh,hj⟩)
            · exact Or.inr ⟨hh,List.mem_singleton.1 hj⟩)
         by_cases hc:1<(Zq rel n k).length∨x=(k:Int)
         · have hor:=Yz (a:=C3) (b:=Xz [(k:Int)])
           have hCm3:=hwk _ (hCy3.mark hkn (List.mem_of_getElem? hx) hc (C':=fun y=>C3 y || Xz [(k:Int)] y) (fun y=>by rw[Bool.or_eq_true,qfZ o_]))
           rw[← hLc]at hc
           by_cases hc1:1<L.length
           · repeat' with_reducible first
              |refine s_ ?_
              |simp -implicitDefEqProofs only[wZZ,seval,g1,g4,g5,g6,g12,g14,g69,g70,g71,g75,g76,g77,g84,g85,g86,hzr,hLl,q18]
              |(first|apply qa|apply qj|apply qx)<;>intro h h_<;>(try simp only[wD,reduceCtorEq]at h_)<;>(try exact wb_)<;>(try simp only[h])
              |apply Gr.iaQ hGk;omega;with_unfolding_all exact hx
              |apply kz (hp:=hof);with_unfolding_all exact qg6 [(k:Int)]
              |refine cq2 hor qg qg ?_
              |refine t_ ?_
             refine⟨wg_,r+1,o_,?_⟩;(repeat refine⟨True.intro,?_⟩)
             exact⟨rfl,o_,wg_,k5_2,k5_3.mono3 wg_ hh_ hh_ hh_,k5_4,k5_5.mono wg_ (fun y h1 ⟨fin,hf⟩=>by
              have:y≠18:=fun e=>by rw[e,q18]at hf;cases hf
              ((try simp only[wM]);(repeat first|rw[if_pos trivial]|rw[if_pos rfl]|rw[if_neg o_]))),_,rfl,hCm3⟩
           · have hxk:x=(k:Int):=hc.elim (fun h=>absurd h hc1) (fun h=>h)
             subst hxk
             repeat' with_reducible first
              |refine s_ ?_
              |simp -implicitDefEqProofs only[wZZ,seval,g1,g4,g5,g6,g12,g14,g69,g70,g71,g75,g76,g77,g84,g85,g86,hzr,hLl,q18]
              |(first|apply qa|apply qj|apply qx)<;>intro h h_<;>(try simp only[wD,reduceCtorEq]at h_)<;>(try exact wb_)<;>(try simp only[h])
              |apply Gr.iaQ hGk;omega;with_unfolding_all exact hx
              |apply kz (hp:=hof);with_unfolding_all exact qg6 [(k:Int)]
              |refine cq2 hor qg qg ?_
              |refine t_ ?_
             refine⟨wg_,r+1,o_,?_⟩;(repeat refine⟨True.intro,?_⟩)
             exact⟨rfl,o_,wg_,k5_2,k5_3.mono3 wg_ hh_ hh_ hh_,k5_4,k5_5.mono wg_ (fun y h1 ⟨fin,hf⟩=>by
              have:y≠18:=fun e=>by rw[e,q18]at hf;cases hf
              ((try simp only[wM]);(repeat first|rw[if_pos trivial]|rw[if_pos rfl]|rw[if_neg o_]))),_,rfl,hCm3⟩
         · have hCs:=hwk _ (hCy3.skip hc)
           rw[← hLc]at hc
           have hc1: ¬ 1<L.length:=fun h=>hc (Or.inl h)
           have hxk: ¬ x=(k:Int):=fun h=>hc (Or.inr h)
           repeat' with_reducible first
            |refine s_ ?_
            |simp -implicitDefEqProofs only[wZZ,seval,g1,g4,g5,g6,g12,g14,g69,g70,g71,g75,g76,g77,g84,g85,g86,hzr,hLl]
            |(first|apply qa|apply qj|apply qx)<;>intro h h_<;>(try simp only[wD,reduceCtorEq]at h_)<;>(try exact wb_)<;>(try simp only[h])
            |apply Gr.iaQ hGk;omega;with_unfolding_all exact hx
           refine⟨wg_,r+1,o_,?_⟩;(repeat refine⟨True.intro,?_⟩)
           exact⟨rfl,o_,wg_,k5_2,k5_3.mono wg_ (fun j hj=>hh_),k5_4,k5_5.mono wg_ (fun y h1 h2=>hh_),C3,q18,hCs⟩
       · have er:(rel k).take r=rel k:=List.take_of_length_le o_
         rw[er]at hCy3
         have hCs:=hCy3.weak (D':=fun k' j=>((∃L∈Cs.take a,k'∈L)∨k'∈L.take (b+1))∧j∈rel k') (fun k' j hh=>by
          obtain ⟨h1|h1,h2⟩:=hh
          · exact Or.inl ⟨Or.inl h1,h2⟩
          · rw[hkt]at h1
            rcases List.mem_append.1 h1 with h1|h1
            · exact Or.inl ⟨Or.inr h1,h2⟩
            · have:=List.mem_singleton.1 h1
              subst this;exact Or.inr ⟨rfl,h2⟩)
         repeat' with_reducible first
          |refine s_ ?_
          |simp -implicitDefEqProofs only[wZZ,seval,g1,g4,g5,g6,g12,g14,g69,g70,g71,g75,g76,g77,g84,g85,g86,hzb]
          |apply qa<;>intro h h_<;>(try simp only[wD,reduceCtorEq]at h_)<;>(try exact wb_)<;>(try simp only[h])
         refine⟨wg_,b+1,o_,?_⟩;(repeat refine⟨True.intro,?_⟩)
         exact⟨rfl,o_,wg_,k5_2,k5_3.mono wg_ (fun j hj=>hh_),k5_4,k5_5.mono wg_ (fun y h1 h2=>hh_),C3,q18,hCs⟩
     · skip
       have eb:L.take b=L:=List.take_of_length_le o_
       rw[eb]at hCy2
       have hCs:=hCy2.weak (D':=fun k' j=>(∃L∈Cs.take (a+1),k'∈L)∧j∈rel k') (fun k' j hh=>by
        obtain ⟨⟨M,h1,h3⟩,h2⟩:=hh
        rw[hLt]at h1
        rcases List.mem_append.1 h1 with h1|h1
        · exact⟨Or.inl ⟨M,h1,h3⟩,h2⟩
        · have:=List.mem_singleton.1 h1
          subst this;exact⟨Or.inr h3,h2⟩)
       repeat' with_reducible first
        |refine s_ ?_
        |simp -implicitDefEqProofs only[wZZ,seval,g1,g4,g5,g6,g12,g69,g70,g71,g75,g76,g77,hza,hLl]
        |apply qa<;>intro h h_<;>(try simp only[wD,reduceCtorEq]at h_)<;>(try exact wb_)<;>(try simp only[h])
       refine⟨wg_,a+1,o_,?_⟩;(repeat refine⟨True.intro,?_⟩)
       exact⟨rfl,o_,wg_,k4_2,k4_3.mono wg_ (fun j hj=>hh_),k4_4,k4_5.mono wg_ (fun y h1 h2=>hh_),C2,p18,hCs⟩
   · skip
     have ea:Cs.take a=Cs:=List.take_of_length_le o_
     rw[ea,hrel]at hCy
     have hIC:=hCy.all (fun k hk j hj=>by
      obtain ⟨L,h1,h2⟩:=hCi k hk
      exact⟨⟨L,h1,h2⟩,hj⟩)
     have hO4:=k3_3
     have q0:=k3_2
     repeat' with_reducible first
      |refine s_ ?_
      |simp -implicitDefEqProofs only[wZZ,seval,g1,g4,g5,g6,g69,g70,g71,q0,o18',hO4.e,hn']
      |apply qa<;>intro h h_<;>(try simp only[wD,reduceCtorEq]at h_)<;>(try exact wb_)<;>(try simp only[h])
      |(refine qKA rfl ?_)
      |refine t_ ?_
     have hZe:=fun(x:Nat) (hx:x<n)=>qhE hrt0 hIC hx
     have hof:=qEf hg hn hIC hZe (fun x=>qd0 x) (ei:=16) (zi:=10) (oi:=14) ⟨by decide,by decide,by decide⟩ n
     have hZc: ∀x,x<n→szE g.prods n E C x=szE g.prods n E cy x:=fun x hx=>VQ hrt0 (fun k hk=>hIC.uniq hcy hk) n x hx
     generalize szE g.prods n E C=Z at *
     skip
     refine qb ?nx6 (fun(k:Nat) s=>s.f 4=?v6_4∧s.f 112=?v6_112∧s.f 113=vi k∧(k≤n)∧(23≤s.next)∧((∃sz op,OAt s.H s.next 16 10 14 g n E C sz op∧EJ n Z (fun _=>False) sz op∧ ∀x,x<k→E x=true→op x=true))) (fun k=>n - k) (0) wj_ (by refine⟨?_,?_,?_,wo_,wg_,(by(exact⟨_,_,⟨hh_,by((try simp only[wM]);(repeat first|rw[if_pos trivial]|rw[if_pos rfl]|rw[if_neg o_]));exact hO4.z,by((try simp only[wM]);(repeat first|rw[if_pos trivial]|rw[if_pos rfl]|rw[if_neg o_]));exact hO4.o,wg_,wg_,wg_⟩,⟨fun k h=>h.elim,fun k _ h=>(by cases h),fun k _ _=>rfl⟩,fun x hx=>absurd hx o_⟩))⟩<;>first|(simp -implicitDefEqProofs only[wL,wM,wN,wX,seval,Option.some.injEq,g1,g4,g5,g6,g69,g70,g71]<;>exact wt_)|rfl|exact⟨_,rfl⟩) ?_
     intro k s hnx ⟨g4,g112,g113,k6_0,k6_1,k6_2⟩
     obtain ⟨sz,op,hO6,hJ6,hE6⟩:=k6_2
     have hzk:=w1_ k
     by_cases hk:k<n
     · have hrec:=fun H next W=>hof H next k (fun _=>False) sz op hk (qq4 _ _) W hJ6 (fun q hq=>hq.elim)
       repeat' with_reducible first
        |refine s_ ?_
        |simp -implicitDefEqProofs only[wZZ,seval,g4,g112,g113,hzk]
        |apply qa<;>intro h h_<;>(try simp only[wD,reduceCtorEq]at h_)<;>(try exact wb_)<;>(try simp only[h])
        |(refine qI rfl rfl rfl ((hrec _ _ (hO6.mono wg_ (fun j hj=>hh_))).mono ?_);rintro v1 H1 n1 ⟨rfl,q1,⟨sz3,op3,hO7,hJ7,q2,q3⟩,q4⟩;(try simp only[wN]at q1))
       refine⟨wg_,k+1,o_,?_⟩;(repeat refine⟨True.intro,?_⟩)
       exact⟨rfl,o_,wg_,sz3,op3,hO7.mono wg_ (fun j hj=>hh_),hJ7,fun x hx he=>by
        by_cases e:x=k
        · subst e;exact q3 he
        · exact q2 x (hE6 x o_ he)⟩
     · have hfin:xW n sz=xW n (szE g.prods n E cy):=XW fun x hx=>by
        rw[← hZc x hx]
        by_cases ho:op x=true
        · exact hJ6.dn x hx ho (fun h=>h)
        · have hEx:E x=false:=by
           by_cases e:E x=true
           · exact absurd (hE6 x o_ e) ho
           · simpa using e
          rw[hJ6.un x hx (by simpa using ho),hZe x hx]
          unfold ezF;rw[if_pos hEx]
       repeat' with_reducible first
        |refine s_ ?_
        |simp -implicitDefEqProofs only[wZZ,seval,g4,g112,g113,hO6.e]
        |apply qa<;>intro h h_<;>(try simp only[wD,reduceCtorEq]at h_)<;>(try exact wb_)<;>(try simp only[h])
        |refine t_ ?_
       refine qD (t:=2) rfl (Or.inr rfl) ?_
       (simp -implicitDefEqProofs only[wL,seval])
       rw[← hfin]
       exact zX (ro:=false) (by((try simp only[wM]);(repeat first|rw[if_pos trivial]|rw[if_pos rfl]|rw[if_neg o_]));exact hO6.z) (by simp[ivs,xW]) (by rw[List.drop_zero];exact List.take_of_length_le (by simp[ivs,xW]))


set_option maxHeartbeats 4000000
end Go.Proofs
