import Derived.Test.YtkcegflhobejmaaGreatDoorBZK
set_option maxRecDepth 20000
set_option linter.all false
set_option maxHeartbeats 4000000
namespace Go.Proofs
open Go.E
abbrev qw2:List Int->Int×Int->List Int:=λl p=>if p.1<1000 then xA l p.1 else l
def qwL(m:List Sta)(t:Int×Int):List Int:=(yE m (goS m t.1 t.2)).foldl qw2 (if (1:Int)∈qY m (goS m t.1 t.2).toNat then[0]else[])

set_option maxHeartbeats 8000000

set_option maxHeartbeats 4000000
theorem Vi{g:Grammar}{m:List Sta}(h:MOk g m)(hg:GOk g):yJ (zS m):=by
 intro l hl;have hdef:zS m=(qh m).map (qwL m):=rfl;rw[hdef,List.mem_map]at hl;obtain ⟨t,ht,rfl⟩:=hl;obtain ⟨r,hr,hrm⟩:=h.trans_go (q:=t.1) (s:=t.2) ht;unfold qwL;rw[hr];refine yo vH _ _ _ ?_ λb p hp hb=>?_
 . split
   . exact⟨List.pairwise_singleton _ _,λx hx=>by rw[List.mem_singleton]at hx;omega⟩
   . exact kC
 . unfold qw2;split
   . rename_i h1;obtain ⟨q,hq,hpm⟩:=h.movAt_mem hp;have hs:=(h.mv q (List.mem_of_getElem? hq) p hpm).1;have htk:=hg.tk2;refine⟨jS hb.1,λx hx=>(zL.1 hx).elim (hb.2 x) λe=>?_⟩;subst e;rcases hs with ⟨t,e,ht⟩|⟨k,e,hk⟩<;>omega
   . exact hb
theorem Xd(m:List Sta):(zS m).length=(qh m).length:=by have hdef:zS m=(qh m).map (qwL m):=rfl;rw[hdef,List.length_map]
theorem qd4{g:Grammar}{m:List Sta}{E:Nat->Bool}(h:MOk g m):qjl (qh m).length (jK E m):=by
 have hdef:jK E m=(qh m).map (qxc E (qh m) m):=rfl;refine⟨by rw[hdef,List.length_map],λl hl=>?_⟩;rw[hdef,List.mem_map]at hl;obtain ⟨t,ht,rfl⟩:=hl;obtain ⟨r,hr,hrm⟩:=h.trans_go (q:=t.1) (s:=t.2) ht;unfold qxc;rw[hr];constructor
 . have h1:=qjc E (qh m) r (yE m r) [];have h2:(yE m r).length<=64:=by
    unfold yE;rw[show ((r:Int)).toNat=r from rfl];cases hm:m[r]? with
    |none=>simp
    |some q=>exact h.mvl q (List.mem_of_getElem? hm)
   rw[List.length_nil]at h1;omega
 . refine yo (λb=>∀x∈b,∃k:Nat,x=(k:Int)/\k<(qh m).length) _ _ _ (λx hx=>by cases hx) λb p hp hb=>?_;unfold qpz;split
   . rename_i h1;obtain ⟨q,hq,hpm⟩:=h.movAt_mem hp;intro x hx;rcases zL.1 hx with hx|e
     . exact hb x hx
     . rw[e];exact Yb (Vy hq h1.1 (t:=p.2) hpm)
   . exact hb
theorem qjz{E:Nat->Bool}{m:List Sta}{i k:Nat}{q:Int}{r:List Int}{out:List (List Int)}(hi:i<(qh m).length)(h:JY (qh m).length out):JY (qh m).length (qhj E m i q r out k):=by
 unfold qhj;dsimp only;split
 . rename_i hc;cases hg:out[(K7 (qh m) (jG m q (r.take k)) (r.getD k 0)).toNat]? with
   | none=>
     rw[List.modify_eq_self (by rw[List.getElem?_eq_none_iff]at hg;exact hg)];exact h
   | some l=>
     rw[Xi _ hg];exact h.set (JY.put (h.2 l (List.mem_of_getElem? hg)) hi) _
 . exact h
theorem qn0{g:Grammar}{m:List Sta}{E:Nat->Bool}:JY (qh m).length (zl g E m):=by
 unfold zl;refine yo (JY (qh m).length) _ _ _ (qhR _) λb i hi hb=>?_;refine yo (JY (qh m).length) _ _ _ hb λb p _ hb=>?_;unfold qgi;split
 . exact yo (JY (qh m).length) _ _ _ hb λb k _ hb=>qjz (List.mem_range.1 hi) hb
 . exact hb
theorem qej{g:Grammar}{m:List Sta}{E:Nat->Bool}(h:MOk g m):qjl (qh m).length (zl g E m):=by have h1:=qn0 (g:=g) (m:=m) (E:=E);refine⟨h1.1,λl hl=>⟨?_,(h1.2 l hl).2⟩⟩;have:=JY.len (h1.2 l hl);have:=h.trans_len;omega
theorem YU{g:Grammar}{m:List Sta}{E:Nat->Bool}(h:MOk g m)(hg:GOk g):yJ (zW g E m)/\(zW g E m).length=(qh m).length:=by unfold zW;have h1:=Zp (rel:=jK E m) 400000 (Vi h hg);have h2:=Zp (rel:=zl g E m) 400000 h1.1;exact⟨h2.1,by rw[h2.2,h1.2,Xd]⟩

set_option maxHeartbeats 8000000

abbrev qei(f:List (List Int)):List Int->Int->List Int:=λl b=>joinL l (f.getD b.toNat [])
abbrev qi2(g:Grammar)(m:List Sta)(f:List (List Int))(q:Nat)(p:Int):Lk:={st:=q,pr:=p,tk:=(kN g m q p).foldl (qei f) []}
def qf0(g:Grammar)(m:List Sta)(f:List (List Int))(n:Nat):List Lk:=(List.range n).flatMap λ(q:Nat)=>(V7 g (qY m q)).map (qi2 g m f q)
theorem qbC(g:Grammar)(m:List Sta)(f:List (List Int))(n:Nat):qf0 g m f (n+1)=qf0 g m f n++(V7 g (qY m n)).map (qi2 g m f n):=by unfold qf0;rw[List.range_succ,List.flatMap_append];simp
theorem Y1{f:List (List Int)}(hf:yJ f):∀(b l:List Int),vH l->vH (b.foldl (qei f) l)
 |[],l,h=>h
 |a::b,l,h=>Y1 hf b _ (h.join (hf.getD _))
theorem qbl{g:Grammar}(hg:GOk g){k:List Int}(hx:∀x∈k,QC g x)(hr:jf k):∀p∈V7 g k,∃n:Nat,p=n/\1<=n/\n<g.prods.length:=by
 intro p hp;unfold V7 at hp;obtain ⟨_,hok,_⟩:=zU hg hx hr;rw[List.mem_filterMap]at hp;obtain ⟨x,h1,h2⟩:=hp;obtain ⟨a,d,pr,ha,hd,hpr,hdl,hn⟩:=(hok x h1).nat;split at h2
 . rename_i h3;have hap:=(List.getElem?_eq_some_iff.1 hpr).1;cases h2;exact⟨a,ha,o_,hap⟩
 . cases h2
theorem qbx{g:Grammar}(hg:GOk g){k:List Int}(hx:∀x∈k,QC g x)(hr:jf k):(V7 g k).length<=960:=by obtain ⟨_,hok,hcb⟩:=zU hg hx hr;unfold V7;exact Nat.le_trans (List.length_filterMap_le _ _) hcb
theorem qbe{g:Grammar}{m:List Sta}{q p:Int}:∀x∈kN g m q p,∃n:Nat,x=n/\n<(qh m).length:=by intro x hx;unfold kN at hx;rw[List.mem_map]at hx;obtain ⟨n,hn,rfl⟩:=hx;exact⟨n,rfl,List.mem_range.1 (List.mem_filter.1 hn).1⟩
end Go.Proofs
