/- Part of a proof that a law of the given program answers true. -/
import Derived.Test.YtjdjdbkoplmjeaaGreatDoorUPA
import Derived.Test.YtjdjdbkoplmjeaaGreatDoorUVA
import Derived.Test.YtjdjdbkoplmjeaaGreatDoorUTA
import Derived.Test.YtjdjdbkoplmjeaaGreatDoorUWA
import Derived.Test.YtjdjdbkoplmjeaaGreatDoorUWB
import Derived.Test.YtjdjdbkoplmjeaaGreatDoorUCA
set_option maxRecDepth 20000
set_option linter.unusedSimpArgs false
set_option linter.unusedVariables false
set_option maxHeartbeats 4000000
namespace Go.Proofs
open Go.E
theorem YL {l:List Int} {x:Int} (hl:l.length≤1099511627776):Pure Tryz.prog 40 [ints l,vi x] (ints (X5 l x)):=by
 refine pure_intro Tryz.func40 qCw qs8 (by show 2≤47;decide) ?_
 show ewp _ qij _ _
 repeat' with_reducible first
  |refine s_ ?_
  |simp -implicitDefEqProofs only[wZZ,seval]
 refine qf ?nx1 (fun(k:Nat) s=>s.f 0=?v1_0∧s.f 1=?v1_1∧s.f 5=vi k∧(k≤l.length)∧(Jv l x k=Jv l x l.length)) (fun k=>k) (l.length) wj_ (by refine⟨?_,?_,?_,wo_,wo_⟩<;>first|(simp -implicitDefEqProofs only[wL,wM,wN,wX,seval,Option.some.injEq]<;>exact wt_)|rfl|exact⟨_,rfl⟩) ?_
 intro k s hnx ⟨g0,g1,g5,k1_0,k1_1⟩
 by_cases hk:k=0
 · subst hk
   have hc:Jv l x l.length=0:=k1_1.symm
   have hp:X5 l x=[]++[x]++l:=by unfold X5;rw[hc];simp
   rw[hp]
   repeat' with_reducible first
    |refine s_ ?_
    |simp -implicitDefEqProofs only[wZZ,seval,g0,g1,g5]
    |apply qcf;(focus(first|exact qZ.sl|exact qZ.asl|exact qZ.str));exact wf_;(focus(unfold maxLen;first|omega|(simp only[wZ]<;>omega)))
    |(refine qe2 ?_;simp -implicitDefEqProofs only[wM,wN,seval,g0,g1,g5];apply qg3;(focus(first|exact qZ.sl|exact qZ.asl|exact qZ.str));(exact wf_);(focus(unfold maxLen;first|omega|(simp only[wZ]<;>omega))))
    |apply qep;omega;exact wf_
    |apply qbr;omega;exact wf_
   refine qA rfl (Or.inr rfl) ?_
   simp -implicitDefEqProofs only[wL,seval,g0,g1,g5]
   refine er_ ?_
   try(with_reducible rfl)
   simp
 · obtain ⟨m,rfl⟩: ∃m,k=m+1:=⟨k - 1,o_⟩
   have hm:m<l.length:=o_
   rw[Xq,getD_eq hm]at k1_1
   by_cases hgt:x<l[m]
   · rw[if_pos hgt]at k1_1
     repeat' with_reducible first
      |refine s_ ?_
      |simp -implicitDefEqProofs only[wZZ,seval,g0,g1,g5]
      |(first|apply qc|apply qi|apply qj)<;>intro h h_<;>(try simp only[wD,reduceCtorEq]at h_)<;>(try exact wb_)<;>(try simp only[h])
      |refine t_ ?_
      |simp -implicitDefEqProofs (disch:=omega) only[w64,if_neg]
     refine⟨wk_,m,o_,?_⟩
     refine⟨?_,?_,?_,?_,?_⟩
     iterate 3 (focus(first|(simp -implicitDefEqProofs only[wL,wM,wN,wX,seval,Option.some.injEq,g0,g1,g5]<;>exact wt_)|rfl|exact⟨_,rfl⟩))
     all_goals try omega
   · rw [if_neg hgt]at k1_1
     have hp:X5 l x=if l[m]=x then l else l.take (m+1)++[x]++l.drop (m+1):=by
      unfold X5;rw[← k1_1];simp[ge_ hm]
     by_cases hx:l[m]=x
     · rw[hp,if_pos hx]
       repeat' with_reducible first
        |refine s_ ?_
        |simp -implicitDefEqProofs only[wZZ,seval,g0,g1,g5]
        |(first|apply qc|apply qi|apply qj)<;>intro h h_<;>(try simp only[wD,reduceCtorEq]at h_)<;>(try exact wb_)<;>(try simp only[h])
        |refine t_ ?_
        |simp -implicitDefEqProofs (disch:=omega) only[w64,if_neg]
       refine qA rfl (Or.inr rfl) ?_
       simp -implicitDefEqProofs only[wL,seval,g0,g1,g5]
       refine er_ ?_
       try(with_reducible rfl)
     · rw[hp,if_neg hx]
       repeat' with_reducible first
        |refine s_ ?_
        |simp -implicitDefEqProofs only[wZZ,seval,g0,g1,g5]
        |(first|apply qc|apply qi|apply qj)<;>intro h h_<;>(try simp only[wD,reduceCtorEq]at h_)<;>(try exact wb_)<;>(try simp only[h])
        |refine t_ ?_
        |apply qcf;(focus(first|exact qZ.sl|exact qZ.asl|exact qZ.str));exact wf_;(focus(unfold maxLen;first|omega|(simp only[wZ]<;>omega)))
        |(refine qe2 ?_;simp -implicitDefEqProofs only[wM,wN,seval,g0,g1,g5];apply qg3;(focus(first|exact qZ.sl|exact qZ.asl|exact qZ.str));(exact wf_);(focus(unfold maxLen;first|omega|(simp only[wZ]<;>omega))))
        |apply qep;omega;exact wf_
        |apply qbr;omega;exact wf_
        |simp -implicitDefEqProofs (disch:=omega) only[w64,if_neg]
       refine qA rfl (Or.inr rfl) ?_
       simp -implicitDefEqProofs only[wL,seval,g0,g1,g5]
       refine er_ ?_
       try(with_reducible rfl)

def qcu (x:Int):Int:=min x 1073741824
def rdR (Z:Nat→Int):List Int→Int→Int
 |[],a=>a
 |s::r,a=>if Z (s - 1000).toNat=0 then 0 else rdR Z r (qcu (a+Z (s - 1000).toNat))
def rdS (has:Nat→Bool) (Z:Nat→Int) (k:Nat) (m:Int) (p:GPr):Int:=if p.left=(k:Int)∧qW false has p.right=true then max m (rdR Z p.right 1)else m
def rdF (P:List GPr) (has:Nat→Bool) (Z:Nat→Int) (k:Nat):Int:=P.foldl (rdS has Z k) 0
def rdN (P:List GPr) (has:Nat→Bool):Nat→Nat→Int
 |0,_=>0
 |m+1,k=>rdF P has (rdN P has m) k
def Rd (z o:Int):Prop:=0<o∧((z= -1∧3000<o)∨(0≤z∧z≤3000∧o=z))
theorem qif {O:Nat→Int}: ∀(r:List Int) (a:Int),a≤1073741824→rdR O r a≤1073741824
 |[],a,h=>h
 | s::r,a,h=>by
   unfold rdR
   split
   · omega
   · exact qif r _ (by unfold qcu;omega)
theorem qek {O:Nat→Int}: ∀(r:List Int) (a:Int),3000<a→(∀s∈r,0<O (s - 1000).toNat)→3000<rdR O r a
 |[],a,h,_=>h
 | s::r,a,h,hs=>by
   have h0:=hs s (by simp)
   unfold rdR
   rw[if_neg o_]
   exact qek r _ (by unfold qcu;omega) fun x hx=>hs x (List.mem_cons_of_mem _ hx)
theorem Qe {Z:Nat→Int}: ∀(r:List Int),r.foldl (fun n s=>if Z (s - 1000).toNat<0 then -1 else if 0<n then n+Z (s - 1000).toNat else n) (-1)= -1
 |[]=>rfl
 | s::r=>by
   rw[List.foldl_cons]
   split
   · exact Qe r
   · rw[if_neg o_];exact Qe r
theorem qhK {Z O:Nat→Int}: ∀(r:List Int) (a:Int),0<a→a+3000 *r.length≤1073741824→(∀s∈r,Rd (Z (s - 1000).toNat) (O (s - 1000).toNat))→
 0<rdR O r a∧((r.foldl (fun n s=>if Z (s - 1000).toNat<0 then -1 else if 0<n then n+Z (s - 1000).toNat else n) a= -1∧3000<rdR O r a)∨(rdR O r a=r.foldl (fun n s=>if Z (s - 1000).toNat<0 then -1 else if 0<n then n+Z (s - 1000).toNat else n) a))
 |[],a,h,_,_=>⟨h,Or.inr rfl⟩
 | s ::r,a,h,hb,hs=>by
   obtain ⟨h0,h1⟩:=hs s (by simp)
   have hr:=fun x hx=>hs x (List.mem_cons_of_mem s hx)
   rw[List.foldl_cons]
   unfold rdR
   rw[if_neg o_]
   rw[List.length_cons]at hb
   rcases h1 with ⟨h1,h2⟩|⟨h1,h2,h3⟩
   · rw[if_pos o_,Qe]
     have:=qek (O:=O) r (qcu (a+O (s - 1000).toNat)) (by unfold qcu;omega) fun x hx=>(hr x hx).1
     exact⟨o_,Or.inl ⟨rfl,this⟩⟩
   · rw[if_neg o_,if_pos h,h3]
     have e:qcu (a+Z (s - 1000).toNat)=a+Z (s - 1000).toNat:=by unfold qcu;omega
     rw[e]
     exact qhK r _ o_ o_ hr
theorem qbs {has:Nat→Bool} {Z O:Nat→Int} {k:Nat}: ∀(P:List GPr) (m a:Int),((m= -1∧3000<a)∨(0≤m∧m≤3000∧a=m))→(∀p∈P,p.right.length≤8)→
 (∀p∈P,p.left=(k:Int)→qW false has p.right=true→ ∀s∈p.right,Rd (Z (s - 1000).toNat) (O (s - 1000).toNat))→
 (((P.foldl (ezS has Z k) m= -1∧3000<P.foldl (rdS has O k) a)∨(0≤P.foldl (ezS has Z k) m∧P.foldl (ezS has Z k) m≤3000∧P.foldl (rdS has O k) a=P.foldl (ezS has Z k) m)))∧a≤P.foldl (rdS has O k) a∧((∃p∈P,p.left=(k:Int)∧qW false has p.right=true)→0<P.foldl (rdS has O k) a)
 |[],m,a,h,_,_=>⟨h,Int.le_refl _,fun⟨p,hp,_⟩=>by cases hp⟩
 | p :: P,m,a,h,hl,hs=>by
   rw[List.foldl_cons,List.foldl_cons]
   by_cases c:p.left=(k:Int)∧qW false has p.right=true
   · have hp8:=hl p (by simp)
     obtain ⟨r1,r2⟩:=qhK (Z:=Z) (O:=O) p.right 1 o_ o_ (hs p (by simp) c.1 c.2)
     have e1:rdS has O k a p=max a (rdR O p.right 1):=by unfold rdS;rw[if_pos c]
     have hst:(ezS has Z k m p= -1∧3000<rdS has O k a p)∨(0≤ezS has Z k m p∧ezS has Z k m p≤3000∧rdS has O k a p=ezS has Z k m p):=by
      rw[e1]
      unfold ezS
      show (_∨_)
      by_cases hm:0≤m
      · rw[if_pos ⟨c.1,c.2,hm⟩]
        unfold ezP
        rcases r2 with ⟨x1,x2⟩|x1
        · rw[x1,if_pos o_];left;exact⟨rfl,o_⟩
        · rw[← x1]
          split
          · left;exact⟨rfl,o_⟩
          · right;omega
      · rw[if_neg (fun e=>hm e.2.2)];left;omega
     obtain ⟨i1,i2,i3⟩:=qbs P _ _ hst (fun q hq=>hl q (List.mem_cons_of_mem _ hq)) (fun q hq=>hs q (List.mem_cons_of_mem _ hq))
     exact⟨i1,o_,fun _=>by omega⟩
   · have e1:rdS has O k a p=a:=by unfold rdS;rw[if_neg c]
     have e2:ezS has Z k m p=m:=by unfold ezS;rw[if_neg (fun e=>c ⟨e.1,e.2.1⟩)]
     rw[e1,e2]
     obtain ⟨i1,i2,i3⟩:=qbs P _ _ h (fun q hq=>hl q (List.mem_cons_of_mem _ hq)) (fun q hq=>hs q (List.mem_cons_of_mem _ hq))
     refine⟨i1,i2,fun⟨q,hq,hc⟩=>i3 ?_⟩
     rcases List.mem_cons.1 hq with rfl|hq
     · exact absurd hc c
     · exact⟨q,hq,hc⟩
def qjp (P:List GPr) (n:Nat) (has cyc:Nat→Bool) (k:Nat):Prop:= ∃r,Rch (relE P has) n k r∧cyc r=true
theorem qco {g:Grammar} {has cyc:Nat→Bool} (hg:GOk g) (hE:IsGrow g false has) (hc:vw g.prods g.nons.length has cyc):
 ∀(m k:Nat),k<g.nons.length→ ¬ qjp g.prods g.nons.length has cyc k→has k=true→muE (relE g.prods has) g.nons.length k≤m→Rd (szE g.prods g.nons.length has cyc k) (rdN g.prods has m k)
 |0,k,hk,_,_,hm=>absurd (qaM (rel:=relE g.prods has) hk) o_
 | m+1,k,hk,hb,hh,hm=>by
   have hn: ∀p∈g.prods,∀s∈p.right,s<1000∨ ∃k:Nat,s=1000+(k:Int)∧k<g.nons.length:=fun p hp=>hg.rt hp
   rw[YG hn hc hk]
   have hcf:cyc k=false:=by
    cases e:cyc k with
    |false=>rfl
    |true=>exact absurd ⟨k,.refl k,e⟩ hb
   have e1:ezF g.prods has cyc (szE g.prods g.nons.length has cyc) k=g.prods.foldl (ezS has (szE g.prods g.nons.length has cyc) k) 0:=by
    unfold ezF;rw[if_neg (by rw[hh];decide),if_neg (by rw[hcf];decide)]
   rw[e1]
   show Rd _ (g.prods.foldl (rdS has (rdN g.prods has m) k) 0)
   obtain ⟨i1,i2,i3⟩:=qbs (has:=has) (Z:=szE g.prods g.nons.length has cyc) (O:=rdN g.prods has m) (k:=k) g.prods 0 0 (Or.inr ⟨o_,o_,rfl⟩) (fun p hp=>hg.rlen p hp) (fun p hp hl hf s hs=>by
    obtain ⟨j,rfl,hj,hjh,he⟩:=Qb hn hk hp hl hf hs
    have e:(1000+(j:Int) - 1000).toNat=j:=o_
    rw[e]
    have hnb: ¬ qjp g.prods g.nons.length has cyc j:=fun⟨r,h1,h2⟩=>hb ⟨r,(Rch.one he).trans h1,h2⟩
    have hlt:=qfe he (fun h=>by have:=(hc k hk).2 ⟨j,he,h⟩;rw[hcf]at this;cases this)
    exact qco hg hE hc m j hj hnb hjh o_)
   obtain ⟨p,hp,h1,h2⟩:=(hE.rules k).1 hh
   obtain ⟨l,hl1,hl2⟩:=hg.left p hp
   have hpos:=i3 ⟨p,hp,o_,h2⟩
   exact⟨hpos,i1⟩
theorem X9 {Z:Nat→Int}: ∀(r:List Int) (a:Int) {s:Int},s∈r→Z (s - 1000).toNat<0→r.foldl (fun n s=>if Z (s - 1000).toNat<0 then -1 else if 0<n then n+Z (s - 1000).toNat else n) a= -1
 | x ::r,a,s,hm,hs=>by
   rw[List.foldl_cons]
   by_cases hx:Z (x - 1000).toNat<0
   · rw[if_pos hx];exact Qe r
   · rcases List.mem_cons.1 hm with rfl|hm
     · exact absurd hs hx
     · exact X9 r _ hm hs
theorem qes {has:Nat→Bool} {Z:Nat→Int} {k:Nat}: ∀(P:List GPr),P.foldl (ezS has Z k) (-1)= -1
 |[]=>rfl
 | p::P=>by
   rw[List.foldl_cons]
   have e:ezS has Z k (-1) p= -1:=by unfold ezS;rw[if_neg (fun e=>absurd e.2.2 o_)]
   rw[e];exact qes P
theorem qdL {has:Nat→Bool} {Z:Nat→Int} {k:Nat}: ∀(P:List GPr) (m:Int) {p:GPr},-1≤m→p∈P→p.left=(k:Int)→qW false has p.right=true→ezP Z p.right<0→P.foldl (ezS has Z k) m= -1
 | q ::P,m,p,hm,hp,h1,h2,h3=>by
   rw[List.foldl_cons]
   have hr: -1≤ezS has Z k m q:=by
    unfold ezS
    split
    · split<;>omega
    · exact hm
   rcases List.mem_cons.1 hp with rfl|hp
   · have e:ezS has Z k m p= -1:=by
      unfold ezS
      by_cases h:0≤m
      · rw[if_pos ⟨h1,h2,h⟩,if_pos (Or.inl h3)]
      · rw[if_neg (fun e=>h e.2.2)];omega
     rw[e];exact qes P
   · exact qdL P _ hr hp h1 h2 h3
theorem Vw {P:List GPr} {has:Nat→Bool} {k:Nat} {x:Int} (h:x∈relE P has k): ∃p∈P,p.left=(k:Int)∧qW false has p.right=true∧ ∃s∈p.right,x=s - 1000:=by
 unfold relE at h
 obtain ⟨p,hp,hx⟩:=List.mem_flatMap.1 h
 obtain ⟨h1,h2⟩:=List.mem_filter.1 hp
 simp at h2
 obtain ⟨s,hs,rfl⟩:=List.mem_map.1 hx
 exact⟨p,h1,h2.1,h2.2,s,hs,rfl⟩
theorem qcd {g:Grammar} {has:Nat→Bool} (hE:IsGrow g false has) {k j:Nat} (h:Edge (relE g.prods has) g.nons.length k j):has k=true:=by
 obtain ⟨p,hp,h1,h2,_⟩:=Vw h.2.2
 have:=hE.closed p hp h2
 rwa [h1]at this
theorem qfS {g:Grammar} {has cyc:Nat→Bool} (hg:GOk g) (hE:IsGrow g false has) (hc:vw g.prods g.nons.length has cyc) {k j:Nat} (h:Edge (relE g.prods has) g.nons.length k j) (hj:szE g.prods g.nons.length has cyc j= -1):szE g.prods g.nons.length has cyc k= -1:=by
 rw[YG (fun p hp=>hg.rt hp) hc h.1]
 unfold ezF
 rw[if_neg (by rw[qcd hE h];decide)]
 split
 · rfl
 · obtain ⟨p,hp,h1,h2,s,hs,e⟩:=Vw h.2.2
   refine qdL g.prods 0 o_ hp h1 h2 ?_
   unfold ezP
   rw[X9 p.right 1 hs (by rw[← e,Int.toNat_natCast,hj];omega)]
   omega
theorem qlz {g:Grammar} {has cyc:Nat→Bool} (hg:GOk g) (hE:IsGrow g false has) (hc:vw g.prods g.nons.length has cyc) {k:Nat} (hk:k<g.nons.length) (h:qjp g.prods g.nons.length has cyc k):szE g.prods g.nons.length has cyc k= -1:=by
 obtain ⟨r,h1,h2⟩:=h
 have hr:r<g.nons.length:=by
  cases h1 with
  |refl=>exact hk
  |step _ e=>exact e.2.1
 have h0:szE g.prods g.nons.length has cyc r= -1:=by
  obtain ⟨j,hj,_⟩:=(hc r hr).1 h2
  rw[YG (fun p hp=>hg.rt hp) hc hr]
  unfold ezF
  rw[if_neg (by rw[qcd hE hj];decide),if_pos h2]
 clear hr h2
 induction h1 with
 |refl=>exact h0
 |step _ e ih=>exact ih (qfS hg hE hc e h0)
theorem qbZ {has:Nat→Bool} {Z:Nat→Int} {k:Nat}: ∀(P:List GPr) (a:Int),(∀p∈P,¬ (p.left=(k:Int)∧qW false has p.right=true))→P.foldl (rdS has Z k) a=a
 |[],a,_=>rfl
 | p::P,a,h=>by
   rw[List.foldl_cons]
   have e:rdS has Z k a p=a:=by unfold rdS;rw[if_neg (h p (by simp))]
   rw[e];exact qbZ P a fun q hq=>h q (List.mem_cons_of_mem _ hq)
theorem qgk {g:Grammar} {has cyc:Nat→Bool} (hg:GOk g) (hE:IsGrow g false has) (hc:vw g.prods g.nons.length has cyc) {k:Nat} (hk:k<g.nons.length) {b:Bool} (hb:b=true↔qjp g.prods g.nons.length has cyc k):
 (if b=true∨3000<rdN g.prods has (g.nons.length+1) k then -1 else rdN g.prods has (g.nons.length+1) k)=szE g.prods g.nons.length has cyc k:=by
 by_cases h:qjp g.prods g.nons.length has cyc k
 · rw[if_pos (Or.inl (hb.2 h)),qlz hg hE hc hk h]
 · have hb': ¬ b=true:=fun e=>h (hb.1 e)
   cases hh:has k with
   | false=>
     have e:rdN g.prods has (g.nons.length+1) k=0:=qbZ g.prods 0 fun p hp hc2=>by
      have:=hE.closed p hp hc2.2
      rw[hc2.1,Int.toNat_natCast,hh]at this;cases this
     have hn: ¬ (b=true∨(3000:Int)<0):=fun e=>by
      rcases e with e|e
      · exact hb' e
      · omega
     rw[e,if_neg hn,YG (fun p hp=>hg.rt hp) hc hk]
     unfold ezF
     rw[if_pos hh]
   | true=>
     obtain ⟨h1,h2⟩:=qco hg hE hc (g.nons.length+1) k hk h hh (Nat.le_trans (qhF _ _ _) o_)
     rcases h2 with ⟨h2,h3⟩|⟨h2,h3,h4⟩
     · rw[if_pos (Or.inr h3),h2]
     · have hn: ¬ (b=true∨3000<rdN g.prods has (g.nons.length+1) k):=fun e=>by
        rcases e with e|e
        · exact hb' e
        · omega
       rw[if_neg hn,h4]
def qEK (rel:Nat→List Int) (n i:Nat):Bool:=(Qy rel n i).any fun r=>(rel r.toNat).any fun j=>decide (r∈Qy rel n j.toNat)
theorem qgA {P:List GPr} {n:Nat} {has cyc:Nat→Bool} (hc:vw P n has cyc) (hr: ∀k,k<n→ ∀j∈relE P has k,∃m:Nat,j=m∧m<n) {i:Nat} (hi:i<n):qEK (relE P has) n i=true↔qjp P n has cyc i:=by
 unfold qEK qjp
 simp only[List.any_eq_true,decide_eq_true_eq]
 constructor
 · rintro ⟨r,h1,j,h2,h3⟩
   obtain ⟨k,rfl,hk,hik⟩:=((xE hi).2 _).1 h1
   rw[Int.toNat_natCast]at h2
   obtain ⟨m,rfl,hm⟩:=hr k hk j h2
   rw[Int.toNat_natCast]at h3
   obtain ⟨k',e,_,h4⟩:=((xE hm).2 _).1 h3
   obtain rfl:k=k':=o_
   exact⟨k,hik,(hc k hk).2 ⟨m,⟨hk,hm,h2⟩,h4⟩⟩
 · rintro ⟨r,h1,h2⟩
   have hrn:r<n:=by
    cases h1 with
    |refl=>exact hi
    |step _ e=>exact e.2.1
   obtain ⟨j,h3,h4⟩:=(hc r hrn).1 h2
   refine⟨r,((xE hi).2 _).2 ⟨r,rfl,hrn,h1⟩,j,by rw[Int.toNat_natCast];exact h3.2.2,?_⟩
   rw[Int.toNat_natCast]
   exact((xE h3.2.1).2 _).2 ⟨r,rfl,hrn,h4⟩

theorem Gr.slcQ {α:Type} {f:α→V} {H:Nat→Option MObj} {next z:Nat} {l:List α} {v:V} (hg:Gr H next z (l.map f) v) {k:IntKind} {i:Int} {K:V→Prop} (h0:0≤i) (h:i.toNat≤l.length) (hk: ∀v',Gr H next z ((l.drop i.toNat).map f) v'→K v'):onS (jh z v (some (.int k i)) none none) K:=by
 rcases hg with rfl|⟨id,fin,rfl,h1,h2⟩
 · exact qbr h0 h (hk _ (Or.inl rfl))
 · exact qbo h0 h (hk _ (Or.inr ⟨id,fin,rfl,h1,h2⟩))
structure RchA (rel:Nat→List Int) (n i:Nat) (out todo:List Int):Prop where
 rise:Jw out
 mem: ∀x∈out,∃k:Nat,x=k∧k<n∧Rch rel n i k
 sub: ∀x∈todo,x∈out
theorem RchA.len {rel:Nat→List Int} {n i:Nat} {out todo:List Int} (h:RchA rel n i out todo):out.length≤n:=
 yN h.rise (fun x hx=>by obtain ⟨k,rfl,hk,_⟩:=h.mem x hx;omega)
theorem RchA.step {rel:Nat→List Int} {n i k:Nat} {out todo l:List Int} (h:RchA rel n i out ((k:Int)::todo)) (hl: ∀j∈l,j∈rel k):
 RchA rel n i (l.foldl (V9 n) (out,todo)).1 (l.foldl (V9 n) (out,todo)).2∧(l.foldl (V9 n) (out,todo)).2.length+out.length=todo.length+(l.foldl (V9 n) (out,todo)).1.length:=by
 obtain ⟨k',e,hk,hr⟩:=h.mem k (h.sub k (by simp))
 obtain rfl:k=k':=o_
 obtain ⟨a1,a2,a3,a4,a5,a6,a7,a8⟩:=Ka hk hr l out todo hl h.rise h.mem (fun y hy=>h.sub y (List.mem_cons_of_mem _ hy))
 exact⟨⟨a1,a2,a3⟩,a8⟩
theorem JF {rl:List (List Int)} {i:Nat} (hl:rl.length≤1000000) (hrk: ∀l∈rl,l.length≤1000000) (hi:i<rl.length):Pure Tryz.prog 48 [.sl 1 false (rl.map jl),vi (i:Int)] (ints (Qy (qR rl) rl.length i)):=by
 refine pure_intro Tryz.func48 qsp qtd (by show 2≤60;decide) ?_
 show ewp _ qhS _ _
 obtain ⟨R,hR⟩: ∃R,R=Qy (qR rl) rl.length i:=⟨_,rfl⟩
 rw[← hR]
 repeat' with_reducible first
  |refine s_ ?_
  |simp -implicitDefEqProofs only[wZZ,seval]
 refine qf ?nx1 (fun(q:Nat×List Int×List Int) s=>s.f 0=?v1_0∧(∃c,s.f 5=.sl 1 c (q.2.1.map (V.int .i64)))∧(∃v,s.f 6=v∧Gr s.H s.next 1 (q.2.2.map (V.int .i64)) v)∧(RchA (qR rl) rl.length i q.2.1 q.2.2)∧(qmx (qR rl) rl.length q.1 q.2.1 q.2.2=R)∧(q.2.2.length+rl.length<q.1+q.2.1.length)∧(q.1≤rl.length+1)) (fun q=>q.1) ((rl.length+1,[(i:Int)],[(i:Int)])) wj_ (by refine⟨?_,?_,?_,(by exact⟨List.pairwise_singleton _ _,fun x hx=>⟨i,List.mem_singleton.1 hx,hi,.refl _⟩,fun x hx=>hx⟩),(by exact hR.symm),(by(dsimp only[List.length_cons,List.length_nil];omega)),(by exact Nat.le_refl _)⟩<;>first|(simp -implicitDefEqProofs only[wL,wM,wN,wX,seval,Option.some.injEq]<;>exact wt_)|rfl|exact⟨_,rfl⟩) ?_
 intro q s hnx ⟨g0,⟨c5,g5⟩,⟨v6,g6,G6⟩,k1_0,k1_1,k1_2,k1_3⟩
 obtain ⟨f,out,todo⟩:=q
 dsimp only at *
 have hol:=k1_0.len
 cases todo with
 | nil=>
   have e:out=R:=by
    rw[← k1_1];cases f<;>rfl
   rw[e]at g5
   repeat' with_reducible first
    |refine s_ ?_
    |simp -implicitDefEqProofs only[wZZ,seval,g0,g5,g6,G6.len]
   refine qA rfl (Or.inr rfl) ?_
   simp -implicitDefEqProofs only[wL,seval,g0,g5,g6]
   first|refine er_ ?_ |refine G6.er ?_
   try(with_reducible rfl)
 | cons x todo=>
   obtain ⟨k,rfl,hk,hr⟩:=k1_0.mem x (k1_0.sub x (by simp))
   obtain ⟨f,rfl⟩: ∃f',f=f'+1:=⟨f - 1,by simp at k1_2;omega⟩
   have hgr:rl[k]?=some (qR rl k):=by unfold qR;rw[List.getD_eq_getElem?_getD,ge_ hk];rfl
   have hrk2:=hrk _ (List.mem_of_getElem? hgr)
   rw[qmx,Int.toNat_natCast]at k1_1
   have hs:=fun r=>k1_0.step (l:=(qR rl k).take r) (fun j hj=>List.mem_of_mem_take hj)
   have hx:(((k:Int))::todo)[(0:Int).toNat]?=some ((k:Int)):=rfl
   rw[List.length_cons]at k1_2
   repeat' with_reducible first
    |refine s_ ?_
    |simp -implicitDefEqProofs only[wZZ,seval,g0,g5,g6,G6.len]
    |apply qc<;>intro h h_<;>(try simp only[wD,reduceCtorEq]at h_)<;>(try exact wb_)<;>(try simp only[h])
    |apply Gr.iaQ G6;omega;exact hx
    |(refine Gr.slcQ G6 o_ (by simp) (fun v6 G6=>?_))
   refine qf ?nx2 (fun(r:Nat) s=>s.f 0=?v2_0∧s.f 7=?v2_7∧(∃c,s.f 5=.sl 1 c ((((qR rl k).take r).foldl (V9 rl.length) (out,todo)).1.map (V.int .i64)))∧(∃v,s.f 6=v∧Gr s.H s.next 1 ((((qR rl k).take r).foldl (V9 rl.length) (out,todo)).2.map (V.int .i64)) v)∧s.f 8=vi r∧(r≤(qR rl k).length)) (fun r=>(qR rl k).length - r) (0) wj_ (by refine⟨?_,?_,?_,?_,?_,wo_⟩<;>first|(simp -implicitDefEqProofs only[wL,wM,wN,wX,seval,Option.some.injEq,g0,g5,g6]<;>first|rfl|exact⟨_,rfl⟩|exact⟨_,rfl,by first|assumption|exact Gr.nil|exact Gr.tok rfl o_|exact Gr.tok (by simp -implicitDefEqProofs only[wM,seval]<;>rfl) o_|exact Gr.clip|exact G6.to (by first|rfl|(simp[*];done)) o_ rfl⟩)|rfl|exact⟨_,rfl⟩|exact⟨_,rfl,by first|assumption|exact G6.to (by first|rfl|(simp[*];done)) o_ rfl⟩) ?_
   intro r s hnx ⟨g0,g7,⟨c5,g5⟩,⟨v6,g6,G6⟩,g8,k2_0⟩
   obtain ⟨hA,hle⟩:=hs r
   have hal:=hA.len
   by_cases hr:r<(qR rl k).length
   · have hg:(qR rl k)[r]?=some (qR rl k)[r]:=ge_ hr
     have ht:(qR rl k).take (r+1)=(qR rl k).take r++[(qR rl k)[r]]:=by rw[List.take_add_one,hg];rfl
     generalize (qR rl k)[r]=j at *
     have hst:((qR rl k).take (r+1)).foldl (V9 rl.length) (out,todo)=V9 rl.length (((qR rl k).take r).foldl (V9 rl.length) (out,todo)) j:=by rw[ht,List.foldl_append];rfl
     generalize ((qR rl k).take r).foldl (V9 rl.length) (out,todo)=q at *
     obtain ⟨o,td⟩:=q
     dsimp only at *
     have hhas:=Q7 (a:=o) (x:=j) o_
     have hput:=YL (l:=o) (x:=j) o_
     have hz:=w1_ r
     by_cases hc:0≤j∧j<(rl.length:Int)∧j ∉ o
     · have e:V9 rl.length (o,td) j=(X5 o j,td++[j]):=if_pos hc
       rw[e]at hst
       obtain ⟨c1,c2,c3⟩:=hc
       rw[decide_eq_false c3]at hhas
       repeat' with_reducible first
        |refine s_ ?_
        |simp -implicitDefEqProofs only[wZZ,seval,g0,g7,g5,g6,g8,hz,G6.len]
        |(first|apply qc|apply qi|apply qj)<;>intro h h_<;>(try simp only[wD,reduceCtorEq]at h_)<;>(try exact wb_)<;>(try simp only[h])
        |refine t_ ?_
        |apply zN (hp:=hhas);(focus first|exact Ji|exact qm);exact qm
        |apply zN (hp:=hput);(focus first|exact Ji|exact qm);exact qm
        |apply za rfl (G6.mono (Nat.le_refl _) (fun id h1 h2=>by(try simp only[wM]);(repeat rw[if_neg o_])));(focus(first|exact qZ.sl|exact qZ.asl));(focus(simp only[wZ]<;>omega));(focus(unfold maxLen;simp only[wZ]<;>omega))
       refine⟨wk_,r+1,o_,?_⟩
       refine⟨?_,?_,?_,?_,?_,?_⟩
       iterate 5 (focus(first|(simp -implicitDefEqProofs only[wL,wM,wN,wX,seval,Option.some.injEq,g0,g7,g5,g6,g8,hst]<;>first|rfl|exact⟨_,rfl⟩|exact⟨_,rfl,by first|assumption|exact Gr.nil|exact Gr.tok rfl o_|exact Gr.tok (by simp -implicitDefEqProofs only[wM,seval]<;>rfl) o_|exact Gr.clip|exact G6.to (by first|rfl|(simp[*];done)) o_ rfl⟩)|rfl|exact⟨_,rfl⟩|exact⟨_,rfl,by first|assumption|exact G6.to (by first|rfl|(simp[*];done)) o_ rfl⟩))
       all_goals try omega
     · have e:V9 rl.length (o,td) j=(o,td):=if_neg hc
       rw[e]at hst
       by_cases c1:0≤j
       · by_cases c2:j<(rl.length:Int)
         · have c3:j∈o:=Classical.byContradiction fun h=>hc ⟨c1,c2,h⟩
           rw[decide_eq_true c3]at hhas
           repeat' with_reducible first
            |refine s_ ?_
            |simp -implicitDefEqProofs only[wZZ,seval,g0,g7,g5,g6,g8,hz,G6.len]
            |(first|apply qc|apply qi|apply qj)<;>intro h h_<;>(try simp only[wD,reduceCtorEq]at h_)<;>(try exact wb_)<;>(try simp only[h])
            |refine t_ ?_
            |apply zN (hp:=hhas);(focus first|exact Ji|exact qm);exact qm
           refine⟨wk_,r+1,o_,?_⟩
           refine⟨?_,?_,?_,?_,?_,?_⟩
           iterate 5 (focus(first|(simp -implicitDefEqProofs only[wL,wM,wN,wX,seval,Option.some.injEq,g0,g7,g5,g6,g8,hst]<;>first|rfl|exact⟨_,rfl⟩|exact⟨_,rfl,by first|assumption|exact Gr.nil|exact Gr.tok rfl o_|exact Gr.tok (by simp -implicitDefEqProofs only[wM,seval]<;>rfl) o_|exact Gr.clip|exact G6.to (by first|rfl|(simp[*];done)) o_ rfl⟩)|rfl|exact⟨_,rfl⟩|exact⟨_,rfl,by first|assumption|exact G6.to (by first|rfl|(simp[*];done)) o_ rfl⟩))
           all_goals try omega
         · repeat' with_reducible first
            |refine s_ ?_
            |simp -implicitDefEqProofs only[wZZ,seval,g0,g7,g5,g6,g8,hz,G6.len]
            |(first|apply qc|apply qi|apply qj)<;>intro h h_<;>(try simp only[wD,reduceCtorEq]at h_)<;>(try exact wb_)<;>(try simp only[h])
            |refine t_ ?_
           refine⟨wk_,r+1,o_,?_⟩
           refine⟨?_,?_,?_,?_,?_,?_⟩
           iterate 5 (focus(first|(simp -implicitDefEqProofs only[wL,wM,wN,wX,seval,Option.some.injEq,g0,g7,g5,g6,g8,hst]<;>first|rfl|exact⟨_,rfl⟩|exact⟨_,rfl,by first|assumption|exact Gr.nil|exact Gr.tok rfl o_|exact Gr.tok (by simp -implicitDefEqProofs only[wM,seval]<;>rfl) o_|exact Gr.clip|exact G6.to (by first|rfl|(simp[*];done)) o_ rfl⟩)|rfl|exact⟨_,rfl⟩|exact⟨_,rfl,by first|assumption|exact G6.to (by first|rfl|(simp[*];done)) o_ rfl⟩))
           all_goals try omega
       · repeat' with_reducible first
          |refine s_ ?_
          |simp -implicitDefEqProofs only[wZZ,seval,g0,g7,g5,g6,g8,hz,G6.len]
          |(first|apply qc|apply qi|apply qj)<;>intro h h_<;>(try simp only[wD,reduceCtorEq]at h_)<;>(try exact wb_)<;>(try simp only[h])
          |refine t_ ?_
         refine⟨wk_,r+1,o_,?_⟩
         refine⟨?_,?_,?_,?_,?_,?_⟩
         iterate 5 (focus(first|(simp -implicitDefEqProofs only[wL,wM,wN,wX,seval,Option.some.injEq,g0,g7,g5,g6,g8,hst]<;>first|rfl|exact⟨_,rfl⟩|exact⟨_,rfl,by first|assumption|exact Gr.nil|exact Gr.tok rfl o_|exact Gr.tok (by simp -implicitDefEqProofs only[wM,seval]<;>rfl) o_|exact Gr.clip|exact G6.to (by first|rfl|(simp[*];done)) o_ rfl⟩)|rfl|exact⟨_,rfl⟩|exact⟨_,rfl,by first|assumption|exact G6.to (by first|rfl|(simp[*];done)) o_ rfl⟩))
         all_goals try omega
   · have htk:(qR rl k).take r=qR rl k:=List.take_of_length_le o_
     rw[htk]at g5 G6 hA hle
     repeat' with_reducible first
      |refine s_ ?_
      |simp -implicitDefEqProofs only[wZZ,seval,g0,g7,g5,g6,g8,G6.len]
      |apply qc<;>intro h h_<;>(try simp only[wD,reduceCtorEq]at h_)<;>(try exact wb_)<;>(try simp only[h])
      |refine t_ ?_
     refine⟨wk_,(f,((qR rl k).foldl (V9 rl.length) (out,todo)).1,((qR rl k).foldl (V9 rl.length) (out,todo)).2),o_,?_⟩
     refine⟨?_,?_,?_,?_,?_,?_,?_⟩
     iterate 3 (focus(first|(simp -implicitDefEqProofs only[wL,wM,wN,wX,seval,Option.some.injEq,g0,g7,g5,g6,g8]<;>first|rfl|exact⟨_,rfl⟩|exact⟨_,rfl,by first|assumption|exact Gr.nil|exact Gr.tok rfl o_|exact Gr.tok (by simp -implicitDefEqProofs only[wM,seval]<;>rfl) o_|exact Gr.clip|exact G6.to (by first|rfl|(simp[*];done)) o_ rfl⟩)|rfl|exact⟨_,rfl⟩|exact⟨_,rfl,by first|assumption|exact G6.to (by first|rfl|(simp[*];done)) o_ rfl⟩))
     all_goals try omega
     all_goals first|exact hA|exact k1_1|(dsimp only;omega)
end Go.Proofs
