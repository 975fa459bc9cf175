import Derived.Test.YtkcegflhobejmaaGreatDoorBZK
set_option maxRecDepth 20000
set_option linter.all false
set_option maxHeartbeats 4000000
namespace Go.Proofs
open Go.E
abbrev qyv:List Int->Int×Int->List Int:=λl p=>if p.1<1000 then jT l p.1 else l
def qwJ(m:List Sta)(t:Int×Int):List Int:=(jB m (goS m t.1 t.2)).foldl qyv (if (1:Int)∈qR m (goS m t.1 t.2).toNat then[0]else[])

set_option maxHeartbeats 8000000

set_option maxHeartbeats 4000000
theorem Xi{g:Grammar}{m:List Sta}(h:MOk g m)(hg:GOk g):yG (zI m):=by
 intro l hl;have hdef:zI m=(qh m).map (qwJ m):=rfl;rw[hdef,List.mem_map]at hl;obtain ⟨t,ht,rfl⟩:=hl;obtain ⟨r,hr,hrm⟩:=h.trans_go (q:=t.1) (s:=t.2) ht;unfold qwJ;rw[hr];refine je yQ _ _ _ ?_ λb p hp hb=>?_
 . split
   . exact⟨List.pairwise_singleton _ _,λx hx=>by rw[List.mem_singleton]at hx;omega⟩
   . exact Zg
 . unfold qyv;split
   . rename_i h1;obtain ⟨q,hq,hpm⟩:=h.movAt_mem hp;have hs:=(h.mv q (List.mem_of_getElem? hq) p hpm).1;have htk:=hg.tk2;refine⟨j6 hb.1,λx hx=>(zL.1 hx).elim (hb.2 x) λe=>?_⟩;subst e;rcases hs with ⟨t,e,ht⟩|⟨k,e,hk⟩<;>omega
   . exact hb
theorem kz(m:List Sta):(zI m).length=(qh m).length:=by have hdef:zI m=(qh m).map (qwJ m):=rfl;rw[hdef,List.length_map]
theorem qkw{g:Grammar}{m:List Sta}{E:Nat->Bool}(h:MOk g m):qjT (qh m).length (jc E m):=by
 have hdef:jc E m=(qh m).map (qym E (qh m) m):=rfl;refine⟨by rw[hdef,List.length_map],λl hl=>?_⟩;rw[hdef,List.mem_map]at hl;obtain ⟨t,ht,rfl⟩:=hl;obtain ⟨r,hr,hrm⟩:=h.trans_go (q:=t.1) (s:=t.2) ht;unfold qym;rw[hr];constructor
 . have h1:=qkY E (qh m) r (jB m r) [];have h2:(jB m r).length<=64:=by
    unfold jB;rw[show ((r:Int)).toNat=r from rfl];cases hm:m[r]? with
    |none=>simp
    |some q=>exact h.mvl q (List.mem_of_getElem? hm)
   rw[List.length_nil]at h1;omega
 . refine je (λb=>∀x∈b,∃k:Nat,x=(k:Int)/\k<(qh m).length) _ _ _ (λx hx=>by cases hx) λb p hp hb=>?_;unfold qqt;split
   . rename_i h1;obtain ⟨q,hq,hpm⟩:=h.movAt_mem hp;intro x hx;rcases zL.1 hx with hx|e
     . exact hb x hx
     . rw[e];exact ZR (JU hq h1.1 (t:=p.2) hpm)
   . exact hb
theorem qj0{E:Nat->Bool}{m:List Sta}{i k:Nat}{q:Int}{r:List Int}{out:List (List Int)}(hi:i<(qh m).length)(h:Xc (qh m).length out):Xc (qh m).length (Kg E m i q r out k):=by
 unfold Kg;dsimp only;split
 . rename_i hc;cases hg:out[(Yl (qh m) (jw m q (r.take k)) (r.getD k 0)).toNat]? with
   | none=>
     rw[List.modify_eq_self (by rw[List.getElem?_eq_none_iff]at hg;exact hg)];exact h
   | some l=>
     rw[XL _ hg];exact h.set (Xc.put (h.2 l (List.mem_of_getElem? hg)) hi) _
 . exact h
theorem ql9{g:Grammar}{m:List Sta}{E:Nat->Bool}:Xc (qh m).length (qX g E m):=by
 unfold qX;refine je (Xc (qh m).length) _ _ _ (qh9 _) λb i hi hb=>?_;refine je (Xc (qh m).length) _ _ _ hb λb p _ hb=>?_;unfold Kh;split
 . exact je (Xc (qh m).length) _ _ _ hb λb k _ hb=>qj0 (List.mem_range.1 hi) hb
 . exact hb
theorem qkH{g:Grammar}{m:List Sta}{E:Nat->Bool}(h:MOk g m):qjT (qh m).length (qX g E m):=by have h1:=ql9 (g:=g) (m:=m) (E:=E);refine⟨h1.1,λl hl=>⟨?_,(h1.2 l hl).2⟩⟩;have:=Xc.len (h1.2 l hl);have:=h.trans_len;omega
theorem Vp{g:Grammar}{m:List Sta}{E:Nat->Bool}(h:MOk g m)(hg:GOk g):yG (zy g E m)/\(zy g E m).length=(qh m).length:=by unfold zy;have h1:=Qn (rel:=jc E m) 400000 (Xi h hg);have h2:=Qn (rel:=qX g E m) 400000 h1.1;exact⟨h2.1,by rw[h2.2,h1.2,kz]⟩

set_option maxHeartbeats 8000000

abbrev qjs(f:List (List Int)):List Int->Int->List Int:=λl b=>joinL l (f.getD b.toNat [])
abbrev qli(g:Grammar)(m:List Sta)(f:List (List Int))(q:Nat)(p:Int):Lk:={st:=q,pr:=p,tk:=(kJ g m q p).foldl (qjs f) []}
def qc0(g:Grammar)(m:List Sta)(f:List (List Int))(n:Nat):List Lk:=(List.range n).flatMap λ(q:Nat)=>(Yi g (qR m q)).map (qli g m f q)
theorem qcC(g:Grammar)(m:List Sta)(f:List (List Int))(n:Nat):qc0 g m f (n+1)=qc0 g m f n++(Yi g (qR m n)).map (qli g m f n):=by unfold qc0;rw[List.range_succ,List.flatMap_append];simp
theorem qaw{f:List (List Int)}(hf:yG f):∀(b l:List Int),yQ l->yQ (b.foldl (qjs f) l)
 |[],l,h=>h
 |a::b,l,h=>qaw hf b _ (h.join (hf.getD _))
theorem qck{g:Grammar}(hg:GOk g){k:List Int}(hx:∀x∈k,QI g x)(hr:jl k):∀p∈Yi g k,∃n:Nat,p=n/\1<=n/\n<g.prods.length:=by
 intro p hp;unfold Yi at hp;obtain ⟨_,hok,_⟩:=zm hg hx hr;rw[List.mem_filterMap]at hp;obtain ⟨x,h1,h2⟩:=hp;obtain ⟨a,d,pr,ha,hd,hpr,hdl,hn⟩:=(hok x h1).nat;split at h2
 . rename_i h3;have hap:=(List.getElem?_eq_some_iff.1 hpr).1;cases h2;exact⟨a,ha,o_,hap⟩
 . cases h2
theorem qbQ{g:Grammar}(hg:GOk g){k:List Int}(hx:∀x∈k,QI g x)(hr:jl k):(Yi g k).length<=960:=by obtain ⟨_,hok,hcb⟩:=zm hg hx hr;unfold Yi;exact Nat.le_trans (List.length_filterMap_le _ _) hcb
theorem qhg{g:Grammar}{m:List Sta}{q p:Int}:∀x∈kJ g m q p,∃n:Nat,x=n/\n<(qh m).length:=by intro x hx;unfold kJ at hx;rw[List.mem_map]at hx;obtain ⟨n,hn,rfl⟩:=hx;exact⟨n,rfl,List.mem_range.1 (List.mem_filter.1 hn).1⟩
end Go.Proofs
