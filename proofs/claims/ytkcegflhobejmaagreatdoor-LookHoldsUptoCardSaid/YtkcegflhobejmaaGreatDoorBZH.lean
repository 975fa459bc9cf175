import Derived.Test.YtkcegflhobejmaaGreatDoorBZK
set_option maxRecDepth 20000
set_option linter.all false
set_option maxHeartbeats 4000000
namespace Go.Proofs
open Go.E
abbrev qzX:List Int->Int×Int->List Int:=λl p=>if p.1<1000 then xw l p.1 else l
def qxI(m:List Sta)(t:Int×Int):List Int:=(jB m (goS m t.1 t.2)).foldl qzX (if (1:Int)∈za m (goS m t.1 t.2).toNat then[0]else[])

set_option maxHeartbeats 8000000

set_option maxHeartbeats 4000000
variable {g:Grammar}
theorem JX{m:List Sta}(h:MOk g m)(hg:GOk g):yG (zU m):=by
 intro l hl;have hdef:zU m=(qh m).map (qxI m):=rfl;rw[hdef,List.mem_map]at hl;obtain ⟨t,ht,rfl⟩:=hl;obtain ⟨r,hr,hrm⟩:=h.trans_go (q:=t.1) (s:=t.2) ht;unfold qxI;rw[hr];refine jk yK _ _ _ ?_ λb p hp hb=>?_
 . split
   . exact⟨List.pairwise_singleton _ _,λx hx=>by rw[List.mem_singleton]at hx;omega⟩
   . exact QO
 . unfold qzX;split
   . rename_i h1;obtain ⟨q,hq,hpm⟩:=h.movAt_mem hp;have hs:=(h.mv q (List.mem_of_getElem? hq) p hpm).1;have htk:=hg.tk2;refine⟨jU hb.1,λx hx=>(zL.1 hx).elim (hb.2 x) λe=>?_⟩;subst e;rcases hs with ⟨t,e,ht⟩|⟨k,e,hk⟩<;>omega
   . exact hb
theorem Zc(m:List Sta):(zU m).length=(qh m).length:=by have hdef:zU m=(qh m).map (qxI m):=rfl;rw[hdef,List.length_map]
theorem qku{m:List Sta}{E:Nat->Bool}(h:MOk g m):qko (qh m).length (jA E m):=by
 have hdef:jA E m=(qh m).map (qzW E (qh m) m):=rfl;refine⟨by rw[hdef,List.length_map],λl hl=>?_⟩;rw[hdef,List.mem_map]at hl;obtain ⟨t,ht,rfl⟩:=hl;obtain ⟨r,hr,hrm⟩:=h.trans_go (q:=t.1) (s:=t.2) ht;unfold qzW;rw[hr];constructor
 . have h1:=qkU E (qh m) r (jB m r) [];have h2:(jB m r).length<=64:=by
    unfold jB;rw[show ((r:Int)).toNat=r from rfl];cases hm:m[r]? with
    |none=>simp
    |some q=>exact h.mvl q (List.mem_of_getElem? hm)
   rw[List.length_nil]at h1;omega
 . refine jk (λb=>∀x∈b,∃k:Nat,x=(k:Int)/\k<(qh m).length) _ _ _ (λx hx=>by cases hx) λb p hp hb=>?_;unfold qqV;split
   . rename_i h1;obtain ⟨q,hq,hpm⟩:=h.movAt_mem hp;intro x hx;rcases zL.1 hx with hx|e
     . exact hb x hx
     . rw[e];exact kW (JL hq h1.1 (t:=p.2) hpm)
   . exact hb
theorem qk1{E:Nat->Bool}{m:List Sta}{i k:Nat}{q:Int}{r:List Int}{out:List (List Int)}(hi:i<(qh m).length)(h:JB (qh m).length out):JB (qh m).length (V4 E m i q r out k):=by
 unfold V4;dsimp only;split
 . rename_i hc;cases hg:out[(XW (qh m) (zT m q (r.take k)) (r.getD k 0)).toNat]? with
   | none=>
     rw[List.modify_eq_self (by rw[List.getElem?_eq_none_iff]at hg;exact hg)];exact h
   | some l=>
     rw[Xu _ hg];exact h.set (JB.put (h.2 l (List.mem_of_getElem? hg)) hi) _
 . exact h
theorem qo9{m:List Sta}{E:Nat->Bool}:JB (qh m).length (zo g E m):=by
 unfold zo;refine jk (JB (qh m).length) _ _ _ (qh4 _) λb i hi hb=>?_;refine jk (JB (qh m).length) _ _ _ hb λb p _ hb=>?_;unfold VX;split
 . exact jk (JB (qh m).length) _ _ _ hb λb k _ hb=>qk1 (List.mem_range.1 hi) hb
 . exact hb
theorem qk9{m:List Sta}{E:Nat->Bool}(h:MOk g m):qko (qh m).length (zo g E m):=by have h1:=qo9 (g:=g) (m:=m) (E:=E);refine⟨h1.1,λl hl=>⟨?_,(h1.2 l hl).2⟩⟩;have:=JB.len (h1.2 l hl);have:=h.trans_len;omega
theorem Yy{m:List Sta}{E:Nat->Bool}(h:MOk g m)(hg:GOk g):yG (zJ g E m)/\(zJ g E m).length=(qh m).length:=by unfold zJ;have h1:=Qd (rel:=jA E m) 400000 (JX h hg);have h2:=Qd (rel:=zo g E m) 400000 h1.1;exact⟨h2.1,by rw[h2.2,h1.2,Zc]⟩

set_option maxHeartbeats 8000000

abbrev qqu(f:List (List Int)):List Int->Int->List Int:=λl b=>joinL l (f.getD b.toNat [])
abbrev ql2(g:Grammar)(m:List Sta)(f:List (List Int))(q:Nat)(p:Int):Lk:={st:=q,pr:=p,tk:=(QL g m q p).foldl (qqu f) []}
def qen(g:Grammar)(m:List Sta)(f:List (List Int))(n:Nat):List Lk:=(List.range n).flatMap λ(q:Nat)=>(X6 g (za m q)).map (ql2 g m f q)
theorem qbW(g:Grammar)(m:List Sta)(f:List (List Int))(n:Nat):qen g m f (n+1)=qen g m f n++(X6 g (za m n)).map (ql2 g m f n):=by unfold qen;rw[List.range_succ,List.flatMap_append];simp
theorem qaz{f:List (List Int)}(hf:yG f):∀(b l:List Int),yK l->yK (b.foldl (qqu f) l)
 |[],l,h=>h
 |a::b,l,h=>qaz hf b _ (h.join (hf.getD _))
theorem qjp(hg:GOk g){k:List Int}(hx:∀x∈k,Qx g x)(hr:jq k):∀p∈X6 g k,∃n:Nat,p=n/\1<=n/\n<g.prods.length:=by
 intro p hp;unfold X6 at hp;obtain ⟨_,hok,_⟩:=zK hg hx hr;rw[List.mem_filterMap]at hp;obtain ⟨x,h1,h2⟩:=hp;obtain ⟨a,d,pr,ha,hd,hpr,hdl,hn⟩:=(hok x h1).nat;split at h2
 . rename_i h3;have hap:=(List.getElem?_eq_some_iff.1 hpr).1;cases h2;exact⟨a,ha,o_,hap⟩
 . cases h2
theorem qbD(hg:GOk g){k:List Int}(hx:∀x∈k,Qx g x)(hr:jq k):(X6 g k).length<=960:=by obtain ⟨_,hok,hcb⟩:=zK hg hx hr;unfold X6;exact Nat.le_trans (List.length_filterMap_le _ _) hcb
theorem qhU{m:List Sta}{q p:Int}:∀x∈QL g m q p,∃n:Nat,x=n/\n<(qh m).length:=by intro x hx;unfold QL at hx;rw[List.mem_map]at hx;obtain ⟨n,hn,rfl⟩:=hx;exact⟨n,rfl,List.mem_range.1 (List.mem_filter.1 hn).1⟩
end Go.Proofs
