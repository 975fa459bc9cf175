/- Part of a proof that a law of the given program answers true. -/
import Derived.Test.YtjdjdbkoplmjeaaGreatDoorQKA
import Derived.Test.YtjdjdbkoplmjeaaGreatDoorQEC
import Derived.Test.YtjdjdbkoplmjeaaGreatDoorQTA
import Derived.Test.YtjdjdbkoplmjeaaGreatDoorQPA
set_option linter.unusedSimpArgs false
set_option linter.unusedVariables false
set_option maxHeartbeats 4000000
set_option maxRecDepth 20000
namespace Go.Proofs
open Go.E
theorem Z7 {g:Grammar} {E:Nat→Bool} (hp:Pure Tryz.prog 37 [g.V,.bool false] (.sl 1 false (yB g.nons.length E))):Pure Tryz.prog 41 [g.V] (.sl 1 false (yB g.nons.length E)):=by
 refine pure_intro Tryz.func41 nm_ qul (by show 1≤5;decide) ?_
 show ewp _ qsB _ _
 have h1:=KM g.nons.length E
 repeat' with_reducible first
  |refine s_ ?_
  |simp -implicitDefEqProofs only[wZZ,seval]
  |refine cq2 hp qg qg ?_
  |refine t_ ?_
 refine qD rfl (Or.inr rfl) ?_
 (simp -implicitDefEqProofs only[wL,seval])
 exact qg
theorem IsGrow.rules {g:Grammar} {token:Bool} {E:Nat→Bool} (h:IsGrow g token E) (k:Nat):E k=true↔ ∃p∈g.prods,p.left.toNat=k∧qR token E p.right=true:=by
 constructor
 · intro hk
   let F:Nat→Bool:=fun k=>g.prods.any fun p=>decide (p.left.toNat=k) && qR token E p.right
   have hFS: ∀k,F k=true→E k=true:=fun k hf=>by
    obtain ⟨p,hp,h2⟩:=List.any_eq_true.1 hf
    rw[Bool.and_eq_true,decide_eq_true_eq]at h2
    rw[← h2.1];exact h.closed p hp h2.2
   have hF:jy g token F:=fun p hp hy=>List.any_eq_true.2 ⟨p,hp,by
    rw[Bool.and_eq_true,decide_eq_true_eq]
    exact⟨rfl,ZH hFS hy⟩⟩
   obtain ⟨p,hp,h2⟩:=List.any_eq_true.1 (h.least F hF k hk)
   rw[Bool.and_eq_true,decide_eq_true_eq]at h2
   exact⟨p,hp,h2.1,h2.2⟩
 · rintro ⟨p,hp,rfl,h2⟩
   exact h.closed p hp h2

structure GT (H:Nat→Option MObj) (next:Nat) (L:List (List Int)) (es:List V):Prop where
 len:es.length=L.length
 gr: ∀(k:Nat) l v,L[k]?=some l→es[k]?=some v→Gr H next 1 (l.map (V.int .i64)) v
 sep: ∀(i j:Nat) v w,i≠j→es[i]?=some v→es[j]?=some w→Sep v w
theorem GT.get {H:Nat→Option MObj} {next:Nat} {L:List (List Int)} {es:List V} (h:GT H next L es) {k:Nat} {l:List Int} (hl:L[k]?=some l): ∃v,es[k]?=some v∧Gr H next 1 (l.map (V.int .i64)) v:=by
 have hk:k<es.length:=by rw[h.len];exact(List.getElem?_eq_some_iff.1 hl).1
 exact⟨_,ge_ hk,h.gr k l _ hl (ge_ hk)⟩
theorem Gr.tokAt {H:Nat→Option MObj} {next z:Nat} {es:List V} {v:V} (h:Gr H next z es v) {j:Nat} (e:gid v=some j): ∃fin,H j=some (.tok fin):=by
 rcases h with rfl|⟨id,fin,rfl,h1,_⟩
 · cases e
 · cases e;exact⟨fin,h1⟩
theorem Gr.fl3 {H:Nat→Option MObj} {next z:Nat} {es:List V} {v:V} (h:Gr H next z es v):v.isAgg=false:=by rcases h with rfl|⟨id,fin,rfl,_⟩<;>rfl
theorem GT.mono {H H':Nat→Option MObj} {next next':Nat} {L:List (List Int)} {es:List V} (h:GT H next L es) (hn:next≤next') (hH: ∀j,j<next→(∃fin,H j=some (.tok fin))→H' j=H j):GT H' next' L es:=
 ⟨h.len,fun k l v h1 h2=>(h.gr k l v h1 h2).mono hn fun j hj hl=>hH j hl (Gr.tokAt (h.gr k l v h1 h2) hj),h.sep⟩
theorem GT.new (H:Nat→Option MObj) (next n:Nat):GT H next (List.replicate n []) (List.replicate n (.sl 1 true [])):=by
 refine⟨by simp,fun k l v h1 h2=>?_,fun i j v w _ h1 h2=>?_⟩
 · have e1:=List.mem_replicate.1 (List.mem_of_getElem? h1)
   have e2:=List.mem_replicate.1 (List.mem_of_getElem? h2)
   rw[e1.2,e2.2];exact Gr.nil
 · have e1:=List.mem_replicate.1 (List.mem_of_getElem? h1)
   rw[e1.2];exact Sep.slL
theorem GT.put {H H':Nat→Option MObj} {next next':Nat} {L:List (List Int)} {es:List V} {k:Nat} {v w:V} {l':List Int} (h:GT H next L es) (hk:es[k]?=some v) (hn:next≤next')
 (hH: ∀j,j<next→gid v≠some j→(∃fin,H j=some (.tok fin))→H' j=H j) (hw:Gr H' next' 1 (l'.map (V.int .i64)) w) (hid: ∀j,gid w=some j→next≤j):GT H' next' (L.set k l') (es.set k w):=by
 have hkl:k<es.length:=(List.getElem?_eq_some_iff.1 hk).1
 have hkL:k<L.length:=by rw[← h.len];exact hkl
 have lt: ∀(i:Nat) u j,es[i]?=some u→gid u=some j→j<next:=fun i u j hu hj=>by
  have hi:i<L.length:=by rw[← h.len];exact(List.getElem?_eq_some_iff.1 hu).1
  exact(h.gr i _ u (ge_ hi) hu).lt hj
 refine⟨by simp[h.len],fun i l u h1 h2=>?_,fun i j u u' hij h1 h2=>?_⟩
 · rw[List.getElem?_set]at h1 h2
   by_cases e:k=i
   · rw[if_pos e]at h1 h2
     subst e
     rw[if_pos hkL]at h1;rw[if_pos hkl]at h2
     cases h1;cases h2;exact hw
   · rw[if_neg e]at h1 h2
     refine(h.gr i l u h1 h2).mono hn fun j hj hjn=>hH j hjn (fun hv=>?_) (Gr.tokAt (h.gr i l u h1 h2) hj)
     exact h.sep k i v u e hk h2 j hv hj
 · rw [List.getElem?_set]at h1 h2
   by_cases e:k=i
   · rw[if_pos e,if_pos hkl]at h1
     cases h1
     rw[if_neg o_]at h2
     intro x hx hy
     have a:=hid x hx
     have b:=lt j u' x h2 hy
     omega
   · rw[if_neg e]at h1
     by_cases e2:k=j
     · rw[if_pos e2,if_pos hkl]at h2
       cases h2
       intro x hx hy
       have a:=hid x hy
       have b:=lt i u x h1 hx
       omega
     · rw[if_neg e2]at h2
       exact h.sep i j u u' hij h1 h2
theorem GT.erL {H:Nat→Option MObj} {b:Bool} {H2:Nat→Option MObj} {next:Nat}: ∀{L:List (List Int)} {es:List V},GT H next L es→ErL b H2 es (L.map fun l=>.sl 1 false (l.map (V.int .i64)))
 | [],es,h=>by
   have:es=[]:=List.eq_nil_of_length_eq_zero (by rw[h.len];rfl)
   subst this;exact .nil
 |l::L,[],h=>absurd h.len (by simp)
 |l::L,e::es,h=>.cons ((h.gr 0 l e rfl rfl).er rfl) (GT.erL ⟨by have:=h.len;simpa using this,fun k l v h1 h2=>h.gr (k+1) l v h1 h2,fun i j v w hij h1 h2=>h.sep (i+1) (j+1) v w o_ h1 h2⟩)
theorem GT.ne {H:Nat→Option MObj} {next id z:Nat} {L:List (List Int)} {es xs:List V} {ro:Bool} (h:GT H next L es) (ho:H id=some (.own z xs ro)) {k:Nat} {v:V} (hk:es[k]?=some v):gid v≠some id:=by
 have hi:k<L.length:=by rw[← h.len];exact(List.getElem?_eq_some_iff.1 hk).1
 have g:=h.gr k _ v (ge_ hi) hk
 intro e
 rcases g with rfl|⟨i,f,rfl,h1,_⟩
 · cases e
 · cases e;rw[ho]at h1;cases h1
theorem GT.lit (H:Nat→Option MObj) (next:Nat) (L:List (List Int)):GT H next L (L.map fun l=>.sl 1 true (l.map (V.int .i64))):=by
 refine⟨by simp,fun k l v h1 h2=>?_,fun i j v w _ h1 h2=>?_⟩
 · rw[List.getElem?_map,h1]at h2
   cases h2;exact Gr.clip
 · rw[List.getElem?_map]at h1
   obtain ⟨l,_,rfl⟩:=Option.map_eq_some_iff.1 h1
   exact Sep.slL
theorem GT.lab {H:Nat→Option MObj} {next:Nat} {L:List (List Int)} {es:List V} (h:GT H next L es) (ro:Bool):lab (.own 1 es ro)=2:=by
 cases es with
 |nil=>rfl
 | cons v es=>
   cases L with
   |nil=>exact absurd h.len (by simp)
   | cons l L=>
     have:=h.gr 0 l v rfl rfl
     rcases this with rfl|⟨id,fin,rfl,_⟩<;>rfl
theorem qB5 {K:V→Prop} {k k' z:Nat} {es:List V} {v:V} {ro:Bool} {o:Option MObj} (ho:o=some (.own z es ro)) (hz:z=1) (e:k=k') (hv:es[k']?=some v) (ha:v.isAgg=false) (hk:K v):onS (ldQ o false 1 k 0) K:=by
 subst ho e hz
 have e:ldQ (some (.own 1 es ro)) false 1 k 0=some v:=by simp[ldQ,hv,jv,ha]
 rw[e];exact hk
theorem qE7 {K:St→Prop} {s:St} {k k' id:Nat} {es:List V} {e v:V} {o:Option MObj} (ho:o=some (.own 1 es false)) (ek:k=k') (he:es[k']?=some e) (hea:e.isAgg=false) (h1:v.cells.length=1) (h2:v.okCell=true) (h3:v.isAgg=false)
 (hk:K (s.setO id (some (.own 1 (es.set k' v) false)))):onS (stQ s o 1 id k 0 v) K:=by
 subst ho ek
 have e:stQ s (some (.own 1 es false)) 1 id k 0 v=some (s.setO id (some (.own 1 (es.set k v) false))):=by
  simp[stQ,he,h1,h2,zV,hea,h3]
 rw[e];exact hk
structure GT2 (H:Nat→Option MObj) (next:Nat) (L M:List (List Int)) (es ss:List V):Prop where
 a:GT H next L es
 b:GT H next M ss
 sp: ∀(i j:Nat) v w,es[i]?=some v→ss[j]?=some w→Sep v w
theorem GT2.mono {H H':Nat→Option MObj} {next next':Nat} {L M:List (List Int)} {es ss:List V} (h:GT2 H next L M es ss) (hn:next≤next') (hH: ∀j,j<next→(∃fin,H j=some (.tok fin))→H' j=H j):GT2 H' next' L M es ss:=
 ⟨h.a.mono hn hH,h.b.mono hn hH,h.sp⟩
theorem Sep.symm {v w:V} (h:Sep v w):Sep w v:=fun i a b=>h i b a
theorem GT2.swap {H:Nat→Option MObj} {next:Nat} {L M:List (List Int)} {es ss:List V} (h:GT2 H next L M es ss):GT2 H next M L ss es:=⟨h.b,h.a,fun i j v w h1 h2=>Sep.symm (h.sp j i w v h2 h1)⟩

def ezP (Z:Nat→Int) (r:List Int):Int:=r.foldl (fun n s=>if Z (s - 1000).toNat<0 then -1 else if 0<n then n+Z (s - 1000).toNat else n) 1
def ezS (has:Nat→Bool) (Z:Nat→Int) (k:Nat) (m:Int) (p:GPr):Int:=
 if p.left=(k:Int)∧qR false has p.right=true∧0≤m then(if ezP Z p.right<0∨3000<ezP Z p.right then -1 else max m (ezP Z p.right))else m
def ezF (P:List GPr) (has cyc:Nat→Bool) (Z:Nat→Int) (k:Nat):Int:=if has k=false then 0 else if cyc k=true then -1 else P.foldl (ezS has Z k) 0
def szF (P:List GPr) (has cyc:Nat→Bool):Nat→Nat→Int
 |0,_=>0
 |f+1,k=>ezF P has cyc (szF P has cyc f) k
def relE (P:List GPr) (has:Nat→Bool) (k:Nat):List Int:=(P.filter fun p=>decide (p.left=(k:Int)) && qR false has p.right).flatMap fun p=>p.right.map fun s=>s - 1000
theorem qgf {P:List GPr} {has:Nat→Bool} {k:Nat} {p:GPr} {s:Int} (hp:p∈P) (hl:p.left=(k:Int)) (hf:qR false has p.right=true) (hs:s∈p.right):s - 1000∈relE P has k:=by
 unfold relE
 rw[List.mem_flatMap]
 exact⟨p,List.mem_filter.2 ⟨hp,by simp[hl,hf]⟩,List.mem_map.2 ⟨s,hs,rfl⟩⟩
theorem V7 {has:Nat→Bool} {r:List Int} (h:qR false has r=true) {s:Int} (hs:s∈r):1000≤s∧has (s - 1000).toNat=true:=by
 have:=List.all_eq_true.1 h s hs
 split at this
 · cases this
 · exact⟨o_,this⟩
def Jg (P:List GPr) (n:Nat) (has cyc:Nat→Bool):Prop:= ∀k,k<n→(cyc k=true↔ ∃j,Edge (relE P has) n k j∧Rch (relE P has) n j k)
noncomputable def muE (rel:Nat→List Int) (n k:Nat):Nat:=(List.range n).countP fun x=> @decide (Rch rel n k x) (Classical.propDecidable _)
theorem qnK {rel:Nat→List Int} {n k:Nat} (hk:k<n):0<muE rel n k:=by
 unfold muE
 rw[List.countP_pos_iff]
 exact⟨k,List.mem_range.2 hk,by rw[@decide_eq_true_eq _ (Classical.propDecidable _)];exact .refl k⟩
theorem qEg (rel:Nat→List Int) (n k:Nat):muE rel n k≤n:=Nat.le_trans List.countP_le_length (by simp)
theorem qug {rel:Nat→List Int} {n k j:Nat} (e:Edge rel n k j) (h: ¬ Rch rel n j k):muE rel n j<muE rel n k:=by
 unfold muE
 refine Qw (fun x _ hx=>?_) (i:=k) (List.mem_range.2 e.1) ?_ ?_
 · rw[@decide_eq_true_eq _ (Classical.propDecidable _)]at hx ⊢
   exact(Rch.one e).trans hx
 · exact @decide_eq_false _ (Classical.propDecidable _) h
 · rw[@decide_eq_true_eq _ (Classical.propDecidable _)];exact .refl k
theorem qeu {Z Y:Nat→Int} {r:List Int} (h: ∀s∈r,Z (s - 1000).toNat=Y (s - 1000).toNat):ezP Z r=ezP Y r:=by
 have key: ∀(l:List Int) (a:Int),(∀s∈l,Z (s - 1000).toNat=Y (s - 1000).toNat)→l.foldl (fun n s=>if Z (s - 1000).toNat<0 then -1 else if 0<n then n+Z (s - 1000).toNat else n) a=l.foldl (fun n s=>if Y (s - 1000).toNat<0 then -1 else if 0<n then n+Y (s - 1000).toNat else n) a:=by
  intro l
  induction l with
  |nil=>intro a _;rfl
  | cons s r ih=>
    intro a h
    rw[List.foldl_cons,List.foldl_cons,h s (by simp)]
    exact ih _ (fun x hx=>h x (List.mem_cons_of_mem _ hx))
 exact key r 1 h
theorem JR {has:Nat→Bool} {Z Y:Nat→Int} {k:Nat}: ∀{P:List GPr} (m:Int),(∀p∈P,p.left=(k:Int)→qR false has p.right=true→ ∀s∈p.right,Z (s - 1000).toNat=Y (s - 1000).toNat)→P.foldl (ezS has Z k) m=P.foldl (ezS has Y k) m
 |[],m,_=>rfl
 | p::P,m,h=>by
   rw[List.foldl_cons,List.foldl_cons]
   have e:ezS has Z k m p=ezS has Y k m p:=by
    unfold ezS
    by_cases c:p.left=(k:Int)∧qR false has p.right=true∧0≤m
    · rw[if_pos c,if_pos c,qeu (h p (by simp) c.1 c.2.1)]
    · rw[if_neg c,if_neg c]
   rw[e]
   exact JR _ fun q hq=>h q (List.mem_cons_of_mem _ hq)
theorem JW {P:List GPr} {n:Nat} {has:Nat→Bool} (hn: ∀p∈P,∀s∈p.right,s<1000∨ ∃k:Nat,s=1000+(k:Int)∧k<n) {k:Nat} (hk:k<n) {p:GPr} {s:Int} (hp:p∈P) (hl:p.left=(k:Int)) (hf:qR false has p.right=true) (hs:s∈p.right):
 ∃j:Nat,s=1000+(j:Int)∧j<n∧has j=true∧Edge (relE P has) n k j:=by
 obtain ⟨h1,h2⟩:=V7 hf hs
 rcases hn p hp s hs with h|⟨j,rfl,hj⟩
 · omega
 · have e:(1000+(j:Int) - 1000).toNat=j:=o_
   rw[e]at h2
   have hm:=qgf hp hl hf hs
   rw[show 1000+(j:Int) - 1000=(j:Int) by omega]at hm
   exact⟨j,rfl,hj,h2,hk,hj,hm⟩
theorem qbU {P:List GPr} {n:Nat} {has cyc:Nat→Bool} (hn: ∀p∈P,∀s∈p.right,s<1000∨ ∃k:Nat,s=1000+(k:Int)∧k<n) (hc:Jg P n has cyc): ∀(m k:Nat),k<n→muE (relE P has) n k≤m→ ∀f f',m≤f→m≤f'→szF P has cyc f k=szF P has cyc f' k
 |0,k,hk,hm,_,_,_,_=>absurd (qnK (rel:=relE P has) hk) o_
 |m+1,k,hk,hm,0,_,h,_=>absurd h o_
 |m+1,k,hk,hm,_,0,_,h=>absurd h o_
 | m + 1,k,hk,hm,f+1,f'+1,h1,h2=>by
   unfold szF ezF
   by_cases e1:has k=false
   · rw[if_pos e1,if_pos e1]
   · rw[if_neg e1,if_neg e1]
     by_cases e2:cyc k=true
     · rw[if_pos e2,if_pos e2]
     · rw[if_neg e2,if_neg e2]
       refine JR _ fun p hp hl hf s hs=>?_
       obtain ⟨j,rfl,hj,_,he⟩:=JW hn hk hp hl hf hs
       have e:(1000+(j:Int) - 1000).toNat=j:=o_
       rw[e]
       have hlt:=qug he (fun h=>e2 ((hc k hk).2 ⟨j,he,h⟩))
       exact qbU hn hc m j hj o_ f f' o_ o_
def szE (P:List GPr) (n:Nat) (has cyc:Nat→Bool):Nat→Int:=szF P has cyc n
theorem qhE {P:List GPr} {n:Nat} {has cyc:Nat→Bool} (hn: ∀p∈P,∀s∈p.right,s<1000∨ ∃k:Nat,s=1000+(k:Int)∧k<n) (hc:Jg P n has cyc) {k:Nat} (hk:k<n):szE P n has cyc k=ezF P has cyc (szE P n has cyc) k:=
 qbU hn hc n k hk (qEg _ _ _) n (n+1) (Nat.le_refl _) o_
theorem qaI {has:Nat→Bool} {Z:Nat→Int} {k:Nat}: ∀{P:List GPr} {m:Int},-1≤m→m≤3000→ -1≤P.foldl (ezS has Z k) m∧P.foldl (ezS has Z k) m≤3000
 |[],m,h1,h2=>⟨h1,h2⟩
 | p ::P,m,h1,h2=>by
   rw[List.foldl_cons]
   have: -1≤ezS has Z k m p∧ezS has Z k m p≤3000:=by
    unfold ezS
    split
    · split
      · omega
      · omega
    · exact⟨h1,h2⟩
   exact qaI this.1 this.2
theorem qki (P:List GPr) (has cyc:Nat→Bool) (Z:Nat→Int) (k:Nat): -1≤ezF P has cyc Z k∧ezF P has cyc Z k≤3000:=by
 unfold ezF
 split
 · omega
 · split
   · omega
   · exact qaI o_ o_
theorem qd0 {P:List GPr} {n:Nat} {has cyc:Nat→Bool} (k:Nat): -1≤szE P n has cyc k∧szE P n has cyc k≤3000:=by
 unfold szE
 cases n with
 |zero=>simp[szF]
 |succ n=>exact qki P has cyc _ k
structure EI (n:Nat) (Z:Nat→Int) (D Q:Nat→Prop) (sz:Nat→Int) (op:Nat→Bool):Prop where
 op: ∀k,k<n→(op k=true↔D k∨Q k)
 dn: ∀k,D k→sz k=Z k
 un: ∀k,¬ D k→sz k=0

def qoc (f:Nat→List Int) (k:Nat) (x:Int):Nat→List Int:=fun i=>if i=k then f i++[x]else f i
def qEQ (t:Nat):(Nat→List Int)×(Nat→List Int):=(fun _=>[],fun k=>[((t+k:Nat):Int)])
inductive Rchd (P:List GPr):Int→Prop
 |start:Rchd P 1000
 |step {p:GPr} {s:Int} (h:Rchd P (1000+p.left)) (hp:p∈P) (hs:s∈p.right):Rchd P s
structure PrOk (t n:Nat) (P:List GPr):Prop where
 left: ∀p∈P,∃l:Nat,p.left=l∧l<n
 right: ∀p∈P,∀s∈p.right,(∃k:Nat,s=k∧k<t)∨ ∃k:Nat,s=1000+(k:Int)∧k<n

theorem ZT {m:Nat→Bool} {x:Int}:Pure Tryz.prog 76 [kJ m,vi x] (.bool (decide (0≤x) && decide (x<1024) && m x.toNat)):=by
 refine pure_intro Tryz.func76 nm_ qxn (by show 2≤19;decide) ?_
 show ewp _ qvp _ _
 repeat' with_reducible first
  |refine qZ ?_
  |simp -implicitDefEqProofs only[ZY,Z5,ZN,ZV,YM,QV,Q8,Zg,yY,Zf,Zk,vM,vF,Vj,Q5,ve,vg,xC,Zo,Kt,qev,zo,zn,jV,Kh,xE,qfy,Zi,QR,vG,jE,List.length_cons,List.length_nil,Nat.reduceAdd,Nat.zero_add,Nat.add_zero,Vx,Vp,Vb,Vl,Yu,YU,YG,Yt,YW,YF,YX,Yy,Vo,QZ,vW,vQ,List.length_map,ze,Bool.false_eq_true,Int.reduceEq,zo,zn,zR,zY,zU,z8,zW,zZ,zb,jO,seval,qsD]
 refine⟨qK m,rfl,?_⟩
 repeat' with_reducible first
  |refine qZ ?_
  |simp -implicitDefEqProofs only[ZY,Z5,ZN,ZV,YM,QV,Q8,Zg,yY,Zf,Zk,vM,vF,Vj,Q5,ve,vg,xC,Zo,Kt,qev,zo,zn,jV,Kh,xE,qfy,Zi,QR,vG,jE,List.length_cons,List.length_nil,Nat.reduceAdd,Nat.zero_add,Nat.add_zero,Vx,Vp,Vb,Vl,Yu,YU,YG,Yt,YW,YF,YX,Yy,Vo,QZ,vW,vQ,List.length_map,ze,Bool.false_eq_true,Int.reduceEq,zo,zn,zR,zY,zU,z8,zW,zZ,zb,jO,seval]
 refine Vt (by simp only[jO,Kt,Nat.reduceEqDiff,↓reduceIte]<;>rfl) (qbC rfl) (Xc) ?_
 by_cases hx:0≤x∧x<1024
 · obtain ⟨n,rfl⟩: ∃n:Nat,x=n:=⟨x.toNat,o_⟩
   have hn:n<1024:=o_
   have e1:(decide (0≤(n:Int)) && decide ((n:Int)<1024))=true:=by simp;omega
   have hd:n / 64<16:=o_
   have hm:n % 64<64:=o_
   simp only[e1]
   have hv:word m (n / 64) / 2 ^ (n % 64)<18446744073709551616:=Nat.lt_of_le_of_lt (Nat.div_le_self _ _) (word_lt m _)
   repeat' with_reducible first
    |refine yu ?_
    |(refine qvN (by simp -implicitDefEqProofs only[zo,zn,zR,zY,zU,z8,zW,zZ,zb,jO,seval,Vk,QS,Q6,yV hd,V9 n hn,qac n,jh,Nat.mul_one,qge hm,qcR (y:=1) hv o_]<;>rfl) (fun h=>?_) (fun h=>?_)<;>(try simp only[Bool.not_false,Bool.not_true,Bool.not_eq_true',Bool.not_eq_false',Bool.true_eq_false,Bool.false_eq_true,reduceCtorEq]at h)<;>(try(exfalso;simp only[decide_eq_true_eq,decide_eq_false_iff_not]at h;omega))<;>(try simp only[h]))
    |refine ji (qdo (by simp -implicitDefEqProofs only[Kh,xE,jV,jE,zo,zn,zR,zY,zU,z8,zW,zZ,zb,jO,seval,Vk,QS,Q6,yV hd,V9 n hn,qac n,jh,Nat.mul_one,qge hm,qcR (y:=1) hv o_]<;>rfl) (Or.inr trivial) (zN m hd)) ?_
    |refine ji (qcR (y:=1) hv o_) ?_
    |simp -implicitDefEqProofs only[ZY,Z5,ZN,ZV,YM,QV,Q8,Zg,yY,Zf,Zk,vM,vF,Vj,Q5,ve,vg,xC,Zo,Kt,qev,zo,zn,jV,Kh,xE,qfy,Zi,QR,vG,jE,List.length_cons,List.length_nil,Nat.reduceAdd,Nat.zero_add,Nat.add_zero,Vx,Vp,Vb,Vl,Yu,YU,YG,Yt,YW,YF,YX,Yy,Vo,QZ,vW,vQ,List.length_map,ze,Bool.false_eq_true,Int.reduceEq,zo,zn,zR,zY,zU,z8,zW,zZ,zb,jO,seval,Vk,QS,Q6,yV hd,V9 n hn,qac n,jh,Nat.mul_one,qge hm,qcR (y:=1) hv o_]
   refine qD rfl (Or.inr rfl) ?_
   simp -implicitDefEqProofs only[zo,zn,zR,zY,zU,z8,zW,zZ,zb,jO,seval]
   refine ZC ?_
   try simp only[Bool.true_and,Int.toNat_natCast]
   have e2:=jq m (n / 64) (n % 64) hm
   rw[show 64 *(n / 64)+n % 64=n by omega]at e2
   rw[← e2,Nat.testBit_eq_decide_div_mod_eq,Nat.and_one_is_mod]
   rw[decide_eq_decide];omega
 · have e1:(decide (0≤x) && decide (x<1024))=false:=by simp;omega
   simp only[e1]
   repeat' with_reducible first
    |refine yu ?_
    |(refine qvN (by simp -implicitDefEqProofs only[zo,zn,zR,zY,zU,z8,zW,zZ,zb,jO,seval]<;>rfl) (fun h=>?_) (fun h=>?_)<;>(try simp only[Bool.not_false,Bool.not_true,Bool.not_eq_true',Bool.not_eq_false',Bool.true_eq_false,Bool.false_eq_true,reduceCtorEq]at h)<;>(try(exfalso;simp only[decide_eq_true_eq,decide_eq_false_iff_not]at h;omega))<;>(try simp only[h]))
    |simp -implicitDefEqProofs only[ZY,Z5,ZN,ZV,YM,QV,Q8,Zg,yY,Zf,Zk,vM,vF,Vj,Q5,ve,vg,xC,Zo,Kt,qev,zo,zn,jV,Kh,xE,qfy,Zi,QR,vG,jE,List.length_cons,List.length_nil,Nat.reduceAdd,Nat.zero_add,Nat.add_zero,Vx,Vp,Vb,Vl,Yu,YU,YG,Yt,YW,YF,YX,Yy,Vo,QZ,vW,vQ,List.length_map,ze,Bool.false_eq_true,Int.reduceEq,zo,zn,zR,zY,zU,z8,zW,zZ,zb,jO,seval]
   refine qD rfl (Or.inr rfl) ?_
   simp -implicitDefEqProofs only[zo,zn,zR,zY,zU,z8,zW,zZ,zb,jO,seval]
   refine ZC ?_
   simp
end Go.Proofs
