import Derived.Test.YtkcegflhobejmaaGreatDoorBPS
set_option maxRecDepth 20000
set_option linter.all false
set_option maxHeartbeats 4000000
namespace Go.Proofs
open Go.E
structure TS where
 num:Nat->Int
 low:Nat->Int
 of:Nat->Int
 stack:List Nat
 groups:List (List Nat)
 next:Nat
def Yq(l:Nat->Int)(k:Nat)(x:Int):Nat->Int:=λi=>if i=k then x else l i
theorem jm(l:Nat->Int)(k:Nat)(x:Int):Yq l k x k=x:=if_pos rfl
variable {j:Nat}
theorem vC{l:Nat->Int}{k:Nat}{x:Int}(h:j≠k):Yq l k x j=l j:=if_neg h
def jW(x:Nat):List Nat->List Nat
 |[]=>[x]
 |y::r=>if x<=y then x::y::r else y::jW x r
def ZY(l:List Nat):List Nat:=l.foldr jW []
def markT(o:Nat->Int)(g:Int):List Nat->Nat->Int
 |[],i=>o i
 |j::r,i=>if i=j then g else markT o g r i
def qgc(i:Nat)(s:TS):TS:=
 {s with stack:=s.stack.takeWhile (λx=> !decide (x=i)),of:=markT s.of s.groups.length (s.stack.dropWhile λx=> !decide (x=i)),groups:=s.groups++[ZY (s.stack.dropWhile λx=> !decide (x=i))]}
def qag(i:Nat)(s:TS):TS:={s with next:=s.next+1,num:=Yq s.num i (s.next+1:Nat),low:=Yq s.low i (s.next+1:Nat),stack:=s.stack++[i]}
def qjH(n i:Nat)(visit:Nat->TS->TS)(s:TS)(j:Int):TS:=
 if j<0\/(n:Int)<=j then s
 else if s.num j.toNat=0 then
  let s':=visit j.toNat s
  {s' with low:=Yq s'.low i (min (s'.low i) (s'.low j.toNat))}
 else if s.of j.toNat<0 then {s with low:=Yq s.low i (min (s.low i) (s.num j.toNat))}
 else s
def qlF(i:Nat)(s:TS):TS:=if s.low i=s.num i then qgc i s else s
def JY(rel:Nat->List Int)(n:Nat):Nat->Nat->TS->TS
 |0,_,s=>s
 |f+1,i,s=>qlF i ((rel i).foldl (qjH n i (JY rel n f)) (qag i s))
def qgo(rel:Nat->List Int)(n:Nat):TS:=
 (List.range n).foldl (λs i=>if s.num i=0 then JY rel n n i s else s) {num:=λ_=>0,low:=λ_=>0,of:=λ_=> -1,stack:=[],groups:=[],next:=0}
def Edge(rel:Nat->List Int)(n:Nat)(i j:Nat):Prop:=i<n/\j<n/\(j:Int)∈rel i
inductive Rch(rel:Nat->List Int)(n:Nat):Nat->Nat->Prop
 |refl (i:Nat):Rch rel n i i
 |step {i j k:Nat} (h:Rch rel n i j) (e:Edge rel n j k):Rch rel n i k
variable {rel:Nat->List Int} {n i:Nat}
theorem Rch.trans{k:Nat}(h:Rch rel n i j)(h2:Rch rel n j k):Rch rel n i k:=by
 induction h2 with
 |refl=>exact h
 |step _ e ih=>exact .step ih e
theorem Rch.one(e:Edge rel n i j):Rch rel n i j:= .step (.refl i) e
theorem Rch.stay{S:Nat->Prop}(h:∀i j,S i->Edge rel n i j->S j)(hr:Rch rel n i j)(hi:S i):S j:=by
 induction hr with
 |refl=>exact hi
 |step _ e ih=>exact h _ _ ih e
theorem qcJ{o:Nat->Int}{g:Int}:∀{l:List Nat} {i:Nat},i∈l->markT o g l i=g
 | j ::r,i,h=>by
   rw[markT];split
   . rfl
   . rename_i hne;exact qcJ ((List.mem_cons.1 h).resolve_left hne)
theorem qbO{o:Nat->Int}{g:Int}:∀{l:List Nat} {i:Nat},i ∉ l->markT o g l i=o i
 |[],i,h=>rfl
 | j::r,i,h=>by rw[markT,if_neg (λe=>h (by rw[e];simp))];exact qbO λhr=>h (List.mem_cons_of_mem _ hr)
structure TInv(rel:Nat->List Int)(n:Nat)(G:Nat->Prop)(s:TS):Prop where
 num0:∀x,0<=s.num x/\s.num x<=s.next
 lt:∀x,s.num x≠0->x<n
 inj:∀x y,s.num x≠0->s.num x=s.num y->x=y
 white:∀x,s.num x=0->s.of x= -1
 ofb:∀x,-1<=s.of x/\s.of x<s.groups.length
 stk:∀x,x∈s.stack↔s.num x≠0/\s.of x<0
 rise:s.stack.Pairwise λx y=>s.num x<s.num y
 grey:∀x,G x->x∈s.stack
 black:∀x y,s.num x≠0-> ¬ G x->Edge rel n x y->s.num y≠0
 done:∀x y,0<=s.of x->Edge rel n x y->0<=s.of y/\s.of y<=s.of x
 up:∀x y,x∈s.stack->y∈s.stack->s.num x<=s.num y->Rch rel n x y
 down:∀y,y∈s.stack->∃x,G x/\s.num x<=s.num y/\Rch rel n y x
 scc:∀x,0<=s.of x->∀y,(Rch rel n x y/\Rch rel n y x)↔s.of y=s.of x
 grp:∀(k:Nat) (l:List Nat),s.groups[k]?=some l->l≠[]/\l.Pairwise (· < ·)/\∀x,x∈l↔s.of x=(k:Int)
structure TExt(s s':TS):Prop where
 next:s.next<=s'.next
 num:∀x,s.num x≠0->s'.num x=s.num x
 new:∀x,s.num x=0->s'.num x=0\/(s.next:Int)<s'.num x
 of:∀x,0<=s.of x->s'.of x=s.of x
 stk:∃seg,s'.stack=s.stack++seg
 low:∀x,x∈s.stack->s'.low x=s.low x
theorem TExt.rfl'(s:TS):TExt s s:=⟨Nat.le_refl _,λ_ _=>rfl,λ_ h=>Or.inl h,λ_ _=>rfl,⟨[],by simp⟩,λ_ _=>rfl⟩
theorem TExt.trans{a b c:TS}(h:TExt a b)(k:TExt b c):TExt a c:=by
 refine⟨Nat.le_trans h.next k.next,λx hx=>?_,λx hx=>?_,λx hx=>?_,?_,λx hx=>?_⟩
 . have e:=h.num x hx;rw[k.num x (by rw[e];exact hx),e]
 . have h1:=h.next;rcases h.new x hx with e|e
   . rcases k.new x e with e2|e2
     . exact Or.inl e2
     . exact Or.inr o_
   . right;rw[k.num x o_];exact e
 . have e:=h.of x hx;rw[k.of x (by rw[e];exact hx),e]
 . obtain ⟨u,hu⟩:=h.stk;obtain ⟨v,hv⟩:=k.stk;exact⟨u++v,by rw[hv,hu,List.append_assoc]⟩
 . obtain ⟨u,hu⟩:=h.stk;rw[k.low x (by rw[hu];exact List.mem_append_left _ hx),h.low x hx]
structure TVis(rel:Nat->List Int)(n i:Nat)(s s':TS):Prop where
 ext:TExt s s'
 seen:s'.num i=(s.next+1:Nat)
 le:s'.low i<=s'.num i
 out:i ∉ s'.stack->s'.low i=s'.num i/\s'.stack=s.stack
 on:i∈s'.stack->∃y,y∈s.stack/\s'.low i=s'.num y/\Rch rel n i y
 cross:∀x y,x∈s'.stack->x ∉ s.stack->Edge rel n x y->y∈s.stack->s'.low i<=s'.num y
end Go.Proofs

namespace Go.Proofs
open Go.E
variable {rel:Nat->List Int}
theorem qnF{n i:Nat}{G:Nat->Prop}{s:TS}(h:TInv rel n G s)(h0:s.num i=0)(hi:i<n)(hG:∀g,G g->Rch rel n g i):TInv rel n (λx=>G x\/x=i) (qag i s):=by
 have nm:∀x,(qag i s).num x=Yq s.num i (s.next+1:Nat) x:=λ_=>rfl;have nme:(qag i s).num i=(s.next+1:Nat):=jm _ _ _;have nmo:∀x,x≠i->(qag i s).num x=s.num x:=λx hx=>vC hx;have ns:i ∉ s.stack:=λhs=>((h.stk i).1 hs).1 h0;have hn:(qag i s).next=s.next+1:=rfl;have hst:(qag i s).stack=s.stack++[i]:=rfl;have mem:∀x,x∈(qag i s).stack↔x∈s.stack\/x=i:=λx=>by rw[hst];simp
 refine⟨λx=>?_,λx hx=>?_,λx y hx hxy=>?_,λx hx=>?_,h.ofb,λx=>?_,?_,λx hx=>?_,λx y hx hg e=>?_,h.done,λx y hx hy hxy=>?_,λy hy=>?_,h.scc,h.grp⟩
 . rw[hn];by_cases e:x=i
   . subst e;rw[nme];omega
   . rw[nmo x e];have:=h.num0 x;omega
 . by_cases e:x=i
   . rw[e];exact hi
   . rw[nmo x e]at hx;exact h.lt x hx
 . by_cases e:x=i
   . by_cases e2:y=i
     . rw[e,e2]
     . subst e;rw[nme,nmo y e2]at hxy;have:=h.num0 y;omega
   . by_cases e2:y=i
     . subst e2;rw[nme,nmo x e]at hxy;have:=h.num0 x;omega
     . rw[nmo x e]at hx hxy;rw[nmo y e2]at hxy;exact h.inj x y hx hxy
 . by_cases e:x=i
   . subst e;rw[nme]at hx;omega
   . rw[nmo x e]at hx;exact h.white x hx
 . rw[mem];by_cases e:x=i
   . subst e;rw[nme]
     have:(qag x s).of x= -1:=h.white x h0
     rw[this];exact⟨λ_=>⟨o_,o_⟩,λ_=>Or.inr rfl⟩
   . rw[nmo x e];exact⟨λhx=>(h.stk x).1 (hx.resolve_right e),λhx=>Or.inl ((h.stk x).2 hx)⟩
 . rw[hst,List.pairwise_append];refine⟨?_,List.pairwise_singleton _ _,λx hx y hy=>?_⟩
   . refine h.rise.imp_of_mem λ{a b} ha hb hab=>?_;rw[nmo a λe=>ns (e ▸ ha),nmo b λe=>ns (e ▸ hb)];exact hab
   . rw[List.mem_singleton]at hy;subst hy;rw[nme,nmo x λe=>ns (e ▸ hx)];have:=h.num0 x;omega
 . rw[mem];exact hx.imp (h.grey x) id
 . by_cases e2:y=i
   . subst e2;rw[nme];omega
   . have hxi:x≠i:=λe3=>hg (Or.inr e3);rw[nmo x hxi]at hx;rw[nmo y e2];exact h.black x y hx (λhg'=>hg (Or.inl hg')) e
 . rw [mem]at hx hy;by_cases e:x=i
   . by_cases e2:y=i
     . rw[e,e2];exact .refl _
     . subst e;rw[nme,nmo y e2]at hxy;have:=h.num0 y;omega
   . have hx':=hx.resolve_right e;by_cases e2:y=i
     . subst e2;obtain ⟨g,hg,_,hr⟩:=h.down x hx';exact hr.trans (hG g hg)
     . rw[nmo x e,nmo y e2]at hxy;exact h.up x y hx' (hy.resolve_right e2) hxy
 . rw[mem]at hy;by_cases e:y=i
   . subst e;exact⟨y,Or.inr rfl,Int.le_refl _,.refl _⟩
   . obtain ⟨g,hg,hgy,hr⟩:=h.down y (hy.resolve_right e);refine⟨g,Or.inl hg,?_,hr⟩;rw[nmo y e,nmo g λe3=>ns (e3 ▸ h.grey g hg)];exact hgy
theorem ZU{i:Nat}:∀{a b:List Nat},i ∉ a->(a++i::b).takeWhile (λx=> !decide (x=i))=a/\(a++i::b).dropWhile (λx=> !decide (x=i))=i::b
 |[],b,_=>by simp[List.takeWhile,List.dropWhile]
 | x::a,b,h=>by have hx:x≠i:=λe=>h (by rw[e];simp);have:=ZU (a:=a) (b:=b) λhh=>h (List.mem_cons_of_mem _ hh);rw[List.cons_append,List.takeWhile_cons,List.dropWhile_cons];simp[hx,this.1,this.2]
theorem Qb{x y:Nat}:∀{l:List Nat},y∈jW x l↔y=x\/y∈l
 |[]=>by simp[jW]
 | z ::r=>by
   rw[jW];split
   . simp
   . rw[List.mem_cons,Qb,List.mem_cons];constructor
     . rintro (h|h|h)
       . exact Or.inr (Or.inl h)
       . exact Or.inl h
       . exact Or.inr (Or.inr h)
     . rintro (h|h|h)
       . exact Or.inr (Or.inl h)
       . exact Or.inl h
       . exact Or.inr (Or.inr h)
theorem kQ{y:Nat}:∀{l:List Nat},y∈ZY l↔y∈l
 |[]=>by simp[ZY]
 | z::r=>by show y∈jW z (ZY r)↔_;rw[Qb,kQ,List.mem_cons]
theorem Zv{x:Nat}:∀{l:List Nat},l.Pairwise (· < ·)->x ∉ l->(jW x l).Pairwise (· < ·)
 |[],_,_=>by simp[jW]
 | z ::r,h,hx=>by
   rw[List.pairwise_cons]at h;rw[jW];split
   . rename_i hle;have hlt:x<z:=by
      have:x≠z:=λe=>hx (by rw[e];simp)
      omega
     rw[List.pairwise_cons,List.pairwise_cons];refine⟨λy hy=>?_,h⟩;rcases List.mem_cons.1 hy with rfl|hy
     . exact hlt
     . have:=h.1 y hy;omega
   . rename_i hle;rw[List.pairwise_cons];refine⟨λy hy=>?_,Zv h.2 λhh=>hx (List.mem_cons_of_mem _ hh)⟩;rcases Qb.1 hy with rfl|hy
     . omega
     . exact h.1 y hy
theorem Zg:∀{l:List Nat},l.Nodup->(ZY l).Pairwise (· < ·)
 |[],_=>by simp[ZY]
 | z::r,h=>by rw[List.nodup_cons]at h;exact Zv (Zg h.2) λhh=>h.1 (kQ.1 hh)
theorem vY{f:Nat->Int}{l:List Nat}(h:l.Pairwise λx y=>f x<f y):l.Nodup:=
 h.imp λhab e=>by rw[e]at hab;omega
theorem qmT{n i:Nat}{G:Nat->Prop}{t:TS}{pre seg:List Nat}(h:TInv rel n (λx=>G x\/x=i) t)(hst:t.stack=pre++i::seg)(hGp:∀g,G g->g∈pre)(hlow:t.low i=t.num i)
(hvis:∀y,Edge rel n i y->t.num y≠0)(hcr:∀x y,x∈i::seg->Edge rel n x y->y∈pre->t.low i<=t.num y):
 TInv rel n G (qgc i t)/\(qgc i t).stack=pre/\(∀x,(qgc i t).of x=if x∈i::seg then(t.groups.length:Int)else t.of x):=by
 have hnd:t.stack.Nodup:=vY h.rise;rw[hst]at hnd;have hrise:=h.rise;rw[hst,List.pairwise_append]at hrise;have hni:i ∉ pre:=λhh=>by have:=hrise.2.2 i hh i (by simp);omega
 obtain ⟨e1,e2⟩:=ZU (i:=i) (a:=pre) (b:=seg) hni;have hst':(qgc i t).stack=pre:=by show t.stack.takeWhile _=pre;rw[hst,e1]
 have hL:(t.stack.dropWhile λx=> !decide (x=i))=i::seg:=by rw[hst,e2]
 have hof:∀x,(qgc i t).of x=if x∈i::seg then(t.groups.length:Int)else t.of x:=λx=>by
  show markT t.of t.groups.length (t.stack.dropWhile λx=> !decide (x=i)) x=_;rw[hL];split
  . rename_i hx;exact qcJ hx
  . rename_i hx;exact qbO hx
 have hgr:(qgc i t).groups=t.groups++[ZY (i::seg)]:=by show t.groups++[ZY (t.stack.dropWhile _)]=_;rw[hL]
 have hLs:∀x,x∈i::seg->x∈t.stack:=λx hx=>by rw[hst];exact List.mem_append_right _ hx
 have hLn:∀x,x∈i::seg->x ∉ pre:=λx hx hp=>by have:=hrise.2.2 x hp x hx;omega
 have hLi:∀x,x∈i::seg->t.num i<=t.num x:=λx hx=>by
  rcases List.mem_cons.1 hx with rfl|hx
  . exact Int.le_refl _
  . exact Int.le_of_lt ((List.pairwise_cons.1 hrise.2.1).1 x hx)
 have hsplit:∀x,x∈t.stack->x∈pre\/x∈i::seg:=λx hx=>by rw[hst]at hx;exact List.mem_append.1 hx
 have hpi:∀x,x∈pre->t.num x<t.num i:=λx hx=>hrise.2.2 x hx i (by simp);have his:i∈t.stack:=hLs i (by simp);have both:∀x,x∈i::seg->Rch rel n i x/\Rch rel n x i:=λx hx=>by
  refine⟨h.up i x his (hLs x hx) (hLi x hx),?_⟩;obtain ⟨g,hg,_,hr⟩:=h.down x (hLs x hx);rcases hg with hg|rfl
  . exact hr.trans (h.up g i (h.grey g (Or.inl hg)) his (Int.le_of_lt (hpi g (hGp g hg))))
  . exact hr
 have vis:∀x y,x∈i::seg->Edge rel n x y->t.num y≠0:=λx y hx e=>by
  by_cases hxi:x=i
  . subst hxi;exact hvis y e
  . refine h.black x y ((h.stk x).1 (hLs x hx)).1 (λhg=>?_) e;rcases hg with hg|hg
    . exact hLn x hx (hGp x hg)
    . exact hxi hg
 have clo:∀x y,x∈i::seg->Edge rel n x y->y∈i::seg\/0<=t.of y:=λx y hx e=>by
  by_cases ho:0<=t.of y
  . exact Or.inr ho
  . rcases hsplit y ((h.stk y).2 ⟨vis x y hx e,o_⟩)with hp|hl
    . have h1:=hcr x y hx e hp;have h2:=hpi y hp;omega
    . exact Or.inl hl
 have lof:∀x,x∈i::seg->t.of x<0:=λx hx=>((h.stk x).1 (hLs x hx)).2;have dn:∀x y,0<=t.of x->Rch rel n x y->0<=t.of y:=λx y hx hr=>hr.stay (S:=λz=>0<=t.of z) (λa b ha e=>(h.done a b ha e).1) hx;have fwd:∀x y,x∈i::seg->Rch rel n x y->y∈i::seg\/0<=t.of y:=λx y hx hr=>hr.stay (S:=λz=>z∈i::seg\/0<=t.of z) (λa b ha e=>by
  rcases ha with ha|ha
  . exact clo a b ha e
  . exact Or.inr (h.done a b ha e).1) (Or.inl hx)
 refine⟨⟨h.num0,h.lt,h.inj,λx hx=>?_,λx=>?_,λx=>?_,?_,λx hx=>?_,λx y hx hg e=>?_,λx y hx e=>?_,λx y hx hy hxy=>?_,λy hy=>?_,λx hx y=>?_,λk l hk=>?_⟩,hst',hof⟩
 . rw[hof,if_neg λhl=>((h.stk x).1 (hLs x hl)).1 hx];exact h.white x hx
 . rw[hof,hgr,List.length_append,List.length_singleton];have:=h.ofb x;split<;>omega
 . rw [hst',hof];constructor
   . intro hx;have:=(h.stk x).1 (by rw[hst];exact List.mem_append_left _ hx);rw[if_neg λhl=>hLn x hl hx];exact this
   . rintro ⟨h1,h2⟩;split at h2
     . omega
     . rename_i hl;exact(hsplit x ((h.stk x).2 ⟨h1,h2⟩)).resolve_right hl
 . rw[hst'];exact hrise.1
 . rw[hst'];exact hGp x hx
 . by_cases hxl:x∈i::seg
   . exact vis x y hxl e
   . refine h.black x y hx (λhg'=>?_) e;rcases hg' with hg'|rfl
     . exact hg hg'
     . exact hxl (by simp)
 . rw [hof]at hx;rw[hof,hof];by_cases hxl:x∈i::seg
   . rw[if_pos hxl];rcases clo x y hxl e with hy|hy
     . rw[if_pos hy];omega
     . split
       . omega
       . have:=h.ofb y;omega
   . rw[if_neg hxl]at hx ⊢;obtain ⟨a,b⟩:=h.done x y hx e;rw[if_neg λhl=>by have:=lof y hl;omega];exact⟨a,b⟩
 . rw[hst']at hx hy;exact h.up x y (by rw[hst];exact List.mem_append_left _ hx) (by rw[hst];exact List.mem_append_left _ hy) hxy
 . rw[hst']at hy;obtain ⟨g,hg,hgy,hr⟩:=h.down y (by rw[hst];exact List.mem_append_left _ hy);rcases hg with hg|rfl
   . exact⟨g,hg,hgy,hr⟩
   . have:=hpi y hy;omega
 . rw [hof]at hx;rw[hof,hof];by_cases hxl:x∈i::seg
   . rw [if_pos hxl];constructor
     . rintro ⟨h1,h2⟩;rcases fwd x y hxl h1 with hy|hy
       . rw[if_pos hy]
       . have:=dn y x hy h2;have:=lof x hxl;omega
     . intro hy;split at hy
       . rename_i hyl;obtain ⟨a1,a2⟩:=both x hxl;obtain ⟨b1,b2⟩:=both y hyl;exact⟨a2.trans b1,b2.trans a1⟩
       . have:=h.ofb y;omega
   . rw[if_neg hxl]at hx ⊢;rw[h.scc x hx y];constructor
     . intro hy;rw[if_neg λhl=>by have:=lof y hl;omega];exact hy
     . intro hy;split at hy
       . have:=h.ofb x;omega
       . exact hy
 . rw [hgr]at hk;by_cases hkl:k<t.groups.length
   . rw[List.getElem?_append_left hkl]at hk;obtain ⟨a,b,c⟩:=h.grp k l hk;refine⟨a,b,λx=>?_⟩;rw[c x,hof];constructor
     . intro hx;rw[if_neg λhl=>by have:=lof x hl;omega];exact hx
     . intro hx;split at hx
       . omega
       . exact hx
   . rw [List.getElem?_append_right o_]at hk;have hk0:k=t.groups.length:=by
      rcases Nat.lt_or_ge (k - t.groups.length) 1 with h1|h1
      . omega
      . rw[List.getElem?_eq_none (by simpa using h1)]at hk;cases hk
     subst hk0;rw[Nat.sub_self]at hk;cases hk;refine⟨λe=>?_,Zg (List.nodup_append.1 hnd).2.1,λx=>?_⟩
     . have:i∈ZY (i::seg):=kQ.2 (by simp)
       rw[e]at this;cases this
     . rw[kQ,hof];constructor
       . intro hx;rw[if_pos hx]
       . intro hx;split at hx
         . assumption
         . have:=h.ofb x;omega
end Go.Proofs

namespace Go.Proofs
open Go.E
def VL(n:Nat)(s:TS):Nat:=(List.range n).countP λx=>decide (s.num x=0)
theorem Yv{p q:Nat->Bool}:∀{l:List Nat},(∀x∈l,p x=true->q x=true)->∀{i:Nat},i∈l->p i=false->q i=true->l.countP p<l.countP q
 | a ::l,h,i,hi,hp,hq=>by
   rw[List.countP_cons,List.countP_cons];have hm:=List.countP_mono_left (p:=p) (q:=q) (l:=l) λx hx=>h x (List.mem_cons_of_mem _ hx);have ha:=h a (by simp);rcases List.mem_cons.1 hi with e|hi
   . subst e;rw[hp,hq];simp;omega
   . have:=Yv (l:=l) (λx hx=>h x (List.mem_cons_of_mem _ hx)) hi hp hq;cases h1:p a<;>cases h2:q a<;>simp_all<;>omega
variable {n:Nat} {s s':TS}
theorem qtL(h:∀x,s.num x≠0->s'.num x≠0):VL n s'<=VL n s:=by refine List.countP_mono_left λx _ hx=>?_;rw[decide_eq_true_eq]at hx ⊢;exact Classical.byContradiction λhn=>h x hn hx
variable {i:Nat}
theorem qeN(h:∀x,s.num x≠0->s'.num x≠0)(hi:i<n)(h0:s.num i=0)(h1:s'.num i≠0):VL n s'<VL n s:=by refine Yv (λx _ hx=>?_) (List.mem_range.2 hi) (decide_eq_false h1) (decide_eq_true h0);rw[decide_eq_true_eq]at hx ⊢;exact Classical.byContradiction λhn=>h x hn hx
variable {rel:Nat->List Int} {G:Nat->Prop}
theorem TInv.low(h:TInv rel n G s)(l:Nat->Int):TInv rel n G {s with low:=l}:=
 ⟨h.num0,h.lt,h.inj,h.white,h.ofb,h.stk,h.rise,h.grey,h.black,h.done,h.up,h.down,h.scc,h.grp⟩
structure TLoop(rel:Nat->List Int)(n i:Nat)(G:Nat->Prop)(s t:TS)(P:List Int):Prop where
 inv:TInv rel n (λx=>G x\/x=i) t
 ext:TExt s t
 seen:t.num i=(s.next+1:Nat)
 stk:∃seg,t.stack=s.stack++i::seg
 le:t.low i<=t.num i
 on:∃y,y∈t.stack/\t.num y<=t.num i/\t.low i=t.num y/\Rch rel n i y
 cross:∀x y,x∈t.stack->x ∉ s.stack->x≠i->Edge rel n x y->y∈s.stack->t.low i<=t.num y
 crossi:∀y:Nat,(y:Int)∈P->y∈s.stack->t.low i<=t.num y
 vis:∀y:Nat,(y:Int)∈P->y<n->t.num y≠0
 unv:VL n t<VL n s
abbrev qvI(rel:Nat->List Int)(n f:Nat):Prop:= ∀(i:Nat) (s:TS) (G:Nat->Prop),s.num i=0->i<n->VL n s<=f->TInv rel n G s->(∀g,G g->Rch rel n g i)->TInv rel n G (JY rel n f i s)/\TVis rel n i s (JY rel n f i s)
theorem qlM{f:Nat}{t:TS}{P:List Int}{j:Int}(IH:qvI rel n f)(hI:TInv rel n G s)(h0:s.num i=0)(hi:i<n)(hu:VL n s<=f+1)(hG:∀g,G g->Rch rel n g i)(hj:j∈rel i)(L:TLoop rel n i G s t P):
 TLoop rel n i G s (qjH n i (JY rel n f) t j) (P++[j]):=by
 obtain ⟨seg,hst⟩:=L.stk;have his:i∈t.stack:=by rw[hst];simp
 have hni:i ∉ s.stack:=λhh=>((hI.stk i).1 hh).1 h0;have hsub:∀x,x∈s.stack->x∈t.stack:=λx hx=>by rw[hst];exact List.mem_append_left _ hx
 have hnz:∀x,x∈t.stack->t.num x≠0:=λx hx=>((L.inv.stk x).1 hx).1;unfold qjH;by_cases hr:j<0\/(n:Int)<=j
 . rw [if_pos hr];refine⟨L.inv,L.ext,L.seen,L.stk,L.le,L.on,L.cross,λy hy hys=>?_,λy hy hyn=>?_,L.unv⟩
   . rcases List.mem_append.1 hy with hy|hy
     . exact L.crossi y hy hys
     . rw[List.mem_singleton]at hy;have:=hI.lt y ((hI.stk y).1 hys).1;omega
   . rcases List.mem_append.1 hy with hy|hy
     . exact L.vis y hy hyn
     . rw[List.mem_singleton]at hy;omega
 . rw [if_neg hr];obtain ⟨k,rfl⟩:∃k:Nat,j=k:=⟨j.toNat,o_⟩;have hk:k<n:=o_;rw[Int.toNat_natCast];have hE:Edge rel n i k:=⟨hi,hk,hj⟩;by_cases hk0:t.num k=0
   . rw [if_pos hk0];obtain ⟨hI',V⟩:=IH k t _ hk0 hk (by have:=L.unv;omega) L.inv (λg hg=>by
      rcases hg with hg|rfl
      . exact(hG g hg).trans (.one hE)
      . exact .one hE)
     dsimp only;generalize JY rel n f k t=s' at *;have li:s'.low i=t.low i:=V.ext.low i his;have ni:s'.num i=t.num i:=V.ext.num i (hnz i his);have hti:=(L.inv.num0 i).2;have e1:=L.ext.trans V.ext;obtain ⟨seg2,hst2⟩:=V.ext.stk;have hsub2:∀x,x∈t.stack->x∈s'.stack:=λx hx=>by rw[hst2];exact List.mem_append_left _ hx
     have hle:=L.le;refine⟨hI'.low _,⟨e1.next,e1.num,e1.new,e1.of,e1.stk,λx hx=>?_⟩,ni.trans L.seen,⟨seg++seg2,by(try dsimp only);rw[hst2,hst,List.append_assoc];rfl⟩,?_,?_,λx y hx hxs hxi e hy=>?_,λy hy hys=>?_,λy hy hyn=>?_,?_⟩<;>(try dsimp only)
     . (try dsimp only);rw[vC (k:=i) (j:=x) (λe=>hni (e ▸ hx))];exact e1.low x hx
     . rw[jm,li,ni];omega
     . rw [jm,li,ni];obtain ⟨y0,hy0,hy1,hy2,hy3⟩:=L.on;by_cases hlt:s'.low k<t.low i
       . by_cases hks:k∈s'.stack
         . obtain ⟨y,a,b,c⟩:=V.on hks;refine⟨y,hsub2 y a,o_,o_,(Rch.one hE).trans c⟩
         . have a:=(V.out hks).1;have b:=V.seen;omega
       . refine⟨y0,hsub2 y0 hy0,?_,?_,hy3⟩
         . rw[V.ext.num y0 (hnz y0 hy0)];exact hy1
         . rw[V.ext.num y0 (hnz y0 hy0)];omega
     . rw[jm,li];have hyn:=V.ext.num y (hnz y (hsub y hy));by_cases hxt:x∈t.stack
       . have:=L.cross x y hxt hxs hxi e hy;omega
       . have:=V.cross x y hx hxt e (hsub y hy);omega
     . rw[jm,li];have hyn:=V.ext.num y (hnz y (hsub y hys));rcases List.mem_append.1 hy with hy|hy
       . have:=L.crossi y hy hys;omega
       . rw[List.mem_singleton]at hy
         have:y=k:=o_
         subst this;exact absurd hk0 (hnz y (hsub y hys))
     . rcases List.mem_append.1 hy with hy|hy
       . have:=L.vis y hy hyn;rw[V.ext.num y this];exact this
       . rw[List.mem_singleton]at hy
         have:y=k:=o_
         subst this;rw[V.seen];omega
     . have h1:VL n {s' with low:=Yq s'.low i (min (s'.low i) (s'.low k))}=VL n s':=rfl;rw[h1];have:=qtL (n:=n) (s:=t) (s':=s') λx hx=>by rw[V.ext.num x hx];exact hx
       have:=L.unv;omega
   . rw [if_neg hk0];by_cases hof:t.of k<0
     . rw [if_pos hof];have hks:k∈t.stack:=(L.inv.stk k).2 ⟨hk0,hof⟩;have hle:=L.le;refine⟨L.inv.low _,⟨L.ext.next,L.ext.num,L.ext.new,L.ext.of,L.ext.stk,λx hx=>?_⟩,L.seen,L.stk,?_,?_,λx y hx hxs hxi e hy=>?_,λy hy hys=>?_,λy hy hyn=>?_,L.unv⟩<;>(try dsimp only)
       . (try dsimp only);rw[vC (k:=i) (j:=x) (λe=>hni (e ▸ hx))];exact L.ext.low x hx
       . rw[jm];omega
       . rw[jm];obtain ⟨y0,hy0,hy1,hy2,hy3⟩:=L.on;by_cases hlt:t.num k<t.low i
         . exact⟨k,hks,o_,o_,.one hE⟩
         . exact⟨y0,hy0,hy1,o_,hy3⟩
       . rw[jm];have:=L.cross x y hx hxs hxi e hy;omega
       . rw[jm];rcases List.mem_append.1 hy with hy|hy
         . have:=L.crossi y hy hys;omega
         . rw[List.mem_singleton]at hy
           have:y=k:=o_
           subst this;omega
       . rcases List.mem_append.1 hy with hy|hy
         . exact L.vis y hy hyn
         . rw[List.mem_singleton]at hy
           have:y=k:=o_
           subst this;exact hk0
     . rw [if_neg hof];refine⟨L.inv,L.ext,L.seen,L.stk,L.le,L.on,L.cross,λy hy hys=>?_,λy hy hyn=>?_,L.unv⟩
       . rcases List.mem_append.1 hy with hy|hy
         . exact L.crossi y hy hys
         . rw[List.mem_singleton]at hy
           have:y=k:=o_
           subst this;exact absurd ((L.inv.stk y).1 (hsub y hys)).2 hof
       . rcases List.mem_append.1 hy with hy|hy
         . exact L.vis y hy hyn
         . rw[List.mem_singleton]at hy
           have:y=k:=o_
           subst this;exact hk0
theorem qea(hI:TInv rel n G s)(h0:s.num i=0)(hi:i<n)(hG:∀g,G g->Rch rel n g i):TLoop rel n i G s (qag i s) []:=by
 have hni:i ∉ s.stack:=λhh=>((hI.stk i).1 hh).1 h0;have hinv:=qnF hI h0 hi hG;have nme:(qag i s).num i=(s.next+1:Nat):=jm _ _ _;have nmo:∀x,x≠i->(qag i s).num x=s.num x:=λx hx=>vC hx;have lwe:(qag i s).low i=(s.next+1:Nat):=jm _ _ _;have hst:(qag i s).stack=s.stack++[i]:=rfl;have hx:∀x,s.num x≠0->(qag i s).num x=s.num x:=λx hx=>nmo x λe=>hx (e ▸ h0);refine⟨hinv,⟨Nat.le_succ _,hx,λx hx=>?_,λ_ _=>rfl,⟨[i],rfl⟩,λx hx=>vC λe=>hni (e ▸ hx)⟩,nme,⟨[],rfl⟩,by rw[lwe,nme];exact Int.le_refl _,⟨i,by rw[hst];simp,Int.le_refl _,by rw[lwe,nme],.refl _⟩,λx y hx hxs hxi=>?_,(λy hy=>by cases hy),(λy hy=>by cases hy),?_⟩
 . by_cases e:x=i
   . subst e;right;rw[nme];omega
   . left;rw[nmo x e];exact hx
 . rw[hst]at hx;rcases List.mem_append.1 hx with h|h
   . exact absurd h hxs
   . exact absurd (List.mem_singleton.1 h) hxi
 . exact qeN (λx h=>by rw[hx x h];exact h) hi h0 (by rw[nme];omega)
theorem qxn{t:TS}(hI:TInv rel n G s)(h0:s.num i=0)(hi:i<n)(L:TLoop rel n i G s t (rel i)):TInv rel n G (qlF i t)/\TVis rel n i s (qlF i t):=by
 obtain ⟨seg,hst⟩:=L.stk;have hnd:t.stack.Nodup:=vY L.inv.rise;rw[hst]at hnd;have hrise:=L.inv.rise;rw[hst,List.pairwise_append]at hrise;have hni:i ∉ s.stack:=λhh=>((hI.stk i).1 hh).1 h0;have hLs:∀x,x∈i::seg->x∈t.stack:=λx hx=>by rw[hst];exact List.mem_append_right _ hx
 have hLn:∀x,x∈i::seg->x ∉ s.stack:=λx hx hp=>by have:=hrise.2.2 x hp x hx;omega
 have hLi:∀x,x∈i::seg->t.num i<=t.num x:=λx hx=>by
  rcases List.mem_cons.1 hx with rfl|hx
  . exact Int.le_refl _
  . exact Int.le_of_lt ((List.pairwise_cons.1 hrise.2.1).1 x hx)
 have hcr:∀x y,x∈i::seg->Edge rel n x y->y∈s.stack->t.low i<=t.num y:=λx y hx e hy=>by
  by_cases hxi:x=i
  . subst hxi;exact L.crossi y e.2.2 hy
  . exact L.cross x y (hLs x hx) (hLn x hx) hxi e hy
 unfold qlF;by_cases hl:t.low i=t.num i
 . rw[if_pos hl];obtain ⟨a,b,c⟩:=qmT L.inv hst (λg hg=>hI.grey g hg) hl (λy e=>L.vis y e.2.2 e.2.1) hcr;have low':∀x,(qgc i t).low x=t.low x:=λ_=>rfl;have num':∀x,(qgc i t).num x=t.num x:=λ_=>rfl;refine⟨a,⟨L.ext.next,L.ext.num,L.ext.new,λx hx=>?_,⟨[],by rw[b];simp⟩,L.ext.low⟩,L.seen,L.le,λ_=>⟨hl,b⟩,λh=>?_,λx y hx hxs=>?_⟩
   . have h1:=L.ext.of x hx;rw[c,if_neg λhh=>by have:=((L.inv.stk x).1 (hLs x hh)).2;omega];exact h1
   . rw[b]at h;exact absurd h hni
   . rw[b]at hx;exact absurd hx hxs
 . rw [if_neg hl];have hle:=L.le;obtain ⟨z,hz,hz1,hz2,hz3⟩:=L.on;have hzs:z∈s.stack:=by
    rw[hst]at hz;rcases List.mem_append.1 hz with h|h
    . exact h
    . have:=hLi z h;omega
   refine⟨⟨L.inv.num0,L.inv.lt,L.inv.inj,L.inv.white,L.inv.ofb,L.inv.stk,L.inv.rise,λx hx=>L.inv.grey x (Or.inl hx),λx y hx hg e=>?_,L.inv.done,L.inv.up,λy hy=>?_,L.inv.scc,L.inv.grp⟩,⟨L.ext,L.seen,L.le,λh=>absurd (hLs i (by simp)) h,λ_=>⟨z,hzs,hz2,hz3⟩,λx y hx hxs e hy=>?_⟩⟩
   . by_cases hxi:x=i
     . subst hxi;exact L.vis y e.2.2 e.2.1
     . exact L.inv.black x y hx (λh=>h.elim hg hxi) e
   . obtain ⟨g,hg,hgy,hr⟩:=L.inv.down y hy;rcases hg with hg|rfl
     . exact⟨g,hg,hgy,hr⟩
     . obtain ⟨g2,hg2,hgz,hr2⟩:=L.inv.down z hz;rcases hg2 with hg2|rfl
       . exact⟨g2,hg2,o_,(hr.trans hz3).trans hr2⟩
       . omega
   . rw[hst]at hx;rcases List.mem_append.1 hx with h|h
     . exact absurd h hxs
     . exact hcr x y h e hy
theorem qa6(rel:Nat->List Int)(n:Nat):∀f,qvI rel n f
 | 0,i,s,G,h0,hi,hu,hI,hG=>by
   exfalso
   have:VL n {s with num:=λ_=>1}<VL n s:=qeN (λx _=>d_) hi h0 d_
   omega
 | f+1,i,s,G,h0,hi,hu,hI,hG=>by
   have key:∀(l P:List Int) (t:TS),P++l=rel i->TLoop rel n i G s t P->TLoop rel n i G s (l.foldl (qjH n i (JY rel n f)) t) (rel i):=by
    intro l
    induction l with
    |nil=>intro P t e L;rw[List.append_nil]at e;subst e;exact L
    | cons j l ih=>
      intro P t e L;rw[List.foldl_cons];refine ih (P++[j]) _ (by rw[List.append_assoc];exact e) ?_;exact qlM (qa6 rel n f) hI h0 hi hu hG (by rw[<- e];simp) L
   rw[JY];exact qxn hI h0 hi (key (rel i) [] _ rfl (qea hI h0 hi hG))
theorem qxz(rel:Nat->List Int)(n:Nat):TInv rel n (λ_=>False) (qgo rel n)/\(qgo rel n).stack=[]/\∀x,x<n->0<=(qgo rel n).of x:=by
 have key:∀(l:List Nat),(∀x∈l,x<n)->∀(s:TS),TInv rel n (λ_=>False) s->TInv rel n (λ_=>False) (l.foldl (λs i=>if s.num i=0 then JY rel n n i s else s) s)/\(∀x,s.num x≠0->(l.foldl (λs i=>if s.num i=0 then JY rel n n i s else s) s).num x≠0)/\∀x∈l,(l.foldl (λs i=>if s.num i=0 then JY rel n n i s else s) s).num x≠0:=by
  intro l
  induction l with
  |nil=>intro _ s h;exact⟨h,λ_ h=>h,λx hx=>by cases hx⟩
  | cons i l ih=>
    intro hl s h;rw[List.foldl_cons];have step:∃s1,(if s.num i=0 then JY rel n n i s else s)=s1/\TInv rel n (λ_=>False) s1/\(∀x,s.num x≠0->s1.num x≠0)/\s1.num i≠0:=by
     by_cases h0:s.num i=0
     . rw[if_pos h0];obtain ⟨a,b⟩:=qa6 rel n n i s (λ_=>False) h0 (hl i (by simp)) (by unfold VL;have:=List.countP_le_length (p:=λx=>decide (s.num x=0)) (l:=List.range n);rw[List.length_range]at this;exact this) h (λg hg=>hg.elim);exact⟨_,rfl,a,λx hx=>by rw[b.ext.num x hx];exact hx,by rw[b.seen];omega⟩
     . rw[if_neg h0];exact⟨s,rfl,h,λ_ h=>h,h0⟩
    obtain ⟨s1,e,h1,h2,h3⟩:=step;rw[e];obtain ⟨a,b,c⟩:=ih (λx hx=>hl x (List.mem_cons_of_mem _ hx)) s1 h1;refine⟨a,λx hx=>b x (h2 x hx),λx hx=>?_⟩;rcases List.mem_cons.1 hx with rfl|hx
    . exact b x h3
    . exact c x hx
 obtain ⟨a,_,c⟩:=key (List.range n) (λx hx=>List.mem_range.1 hx) _ (show TInv rel n (λ_=>False) {num:=λ_=>0,low:=λ_=>0,of:=λ_=> -1,stack:=[],groups:=[],next:=0} from
  ⟨λ_=>⟨d_,d_⟩,λx h=>absurd rfl h,λx _ h=>absurd rfl h,λ_ _=>rfl,λ_=>⟨d_,by simp⟩,λx=>by simp,List.Pairwise.nil,λx h=>h.elim,λx _ h=>absurd rfl h,λx _ h=>by dsimp only at h;omega,λx y h=>by simp at h,λy h=>by simp at h,λx h=>by dsimp only at h;omega,λk l h=>by simp at h⟩)
 have hst:(qgo rel n).stack=[]:=by
  cases hs:(qgo rel n).stack with
  |nil=>rfl
  | cons x r=>
    have hx:x∈(qgo rel n).stack:=(by rw[hs];simp);obtain ⟨g,hg,_⟩:=(show TInv rel n (λ_=>False) (qgo rel n) from a).down x hx;exact hg.elim
 refine⟨a,hst,λx hx=>?_⟩;have hv:=c x (List.mem_range.2 hx);refine Classical.byContradiction λhn=>?_
 have:x∈(qgo rel n).stack:=((show TInv rel n (λ_=>False) (qgo rel n) from a).stk x).2 ⟨hv,o_⟩
 rw[hst]at this;cases this
end Go.Proofs

namespace Go.Proofs
open Go.E
def qkJ(rel:Nat->List Int)(n:Nat)(S:Nat->Int->Prop)(of:Nat->Int)(k:Nat)(A:Int->Prop):Prop:= ∀v,A v↔ ∃i j,of i=(k:Int)/\Rch rel n i j/\S j v
variable {rel:Nat->List Int} {n x:Nat} {G:Nat->Prop} {s:TS}
theorem of_lt(h:TInv rel n G s)(hx:0<=s.of x):x<n:=by refine h.lt x λe=>?_;have:=h.white x e;omega
theorem qiO(h:TInv rel n G s){y:Nat}(hx:0<=s.of x)(e:s.of y=s.of x):Rch rel n x y/\Rch rel n y x:=(h.scc x hx y).2 e
theorem qgV(h:TInv rel n G s){y:Nat}(hx:0<=s.of x)(hr:Rch rel n x y):s.of y=s.of x\/ ∃a b,s.of a=s.of x/\Edge rel n a b/\s.of b<s.of x/\0<=s.of b/\Rch rel n b y:=by
 induction hr with
 |refl=>exact Or.inl rfl
 | step h1 e ih=>
   rename_i j k;rcases ih with h2|⟨a,b,h2,h3,h4,h5,h6⟩
   . have hj:0<=s.of j:=o_;have:=h.done j k hj e;by_cases hk:s.of k=s.of x
     . exact Or.inl hk
     . exact Or.inr ⟨j,k,h2,e,o_,this.1,.refl _⟩
   . exact Or.inr ⟨a,b,h2,h3,h4,h5,.step h6 e⟩
variable {k:Nat}
theorem qgY{S:Nat->Int->Prop}{A:Nat->Int->Prop}(h:TInv rel n G s)(hlt:∀k':Nat,k'<k->qkJ rel n S s.of k' (A k'))
(hs:∀v,A k v->∃i j,s.of i=(k:Int)/\Rch rel n i j/\S j v)(hc1:∀i,s.of i=(k:Int)->∀v,S i v->A k v)(hc2:∀i j (k':Nat),s.of i=(k:Int)->Edge rel n i j->s.of j=(k':Int)->k'<k->∀v,A k' v->A k v):qkJ rel n S s.of k (A k):=by
 intro v;refine⟨hs v,λ⟨i,j,hi,hr,hv⟩=>?_⟩;have hi0:0<=s.of i:=o_;rcases qgV h hi0 hr with e|⟨a,b,e1,e2,e3,e4,e5⟩
 . exact hc1 j o_ v hv
 . obtain ⟨k',hk'⟩:∃k':Nat,s.of b=k':=⟨(s.of b).toNat,o_⟩;exact hc2 a b k' o_ e2 hk' o_ v ((hlt k' o_ v).2 ⟨b,j,hk',e5,hv⟩)
variable {i:Nat}
theorem qj1{S:Nat->Int->Prop}{A:Int->Prop}(h:TInv rel n G s)(hf:qkJ rel n S s.of k A)(hi:s.of i=(k:Int))(v:Int):A v↔ ∃j,Rch rel n i j/\S j v:=by
 rw[hf v];constructor
 . rintro ⟨i',j,h1,h2,h3⟩;exact⟨j,((qiO h (x:=i) (y:=i') o_ o_).1).trans h2,h3⟩
 . rintro ⟨j,h2,h3⟩;exact⟨i,j,hi,h2,h3⟩

structure RchI(rel:Nat->List Int)(n i:Nat)(out todo:List Int):Prop where
 rise:jq out
 mem:∀x∈out,∃k:Nat,x=k/\k<n/\Rch rel n i k
 self:(i:Int)∈out
 sub:∀x∈todo,x∈out
 clo:∀x:Nat,(x:Int)∈out->(x:Int) ∉ todo->∀y,Edge rel n x y->(y:Int)∈out
theorem qfC:∀{l:List Int},jq l->(∀x∈l,0<=x/\x<(n:Int))->l.length<=n:=by
 intro l h hb
 have:∀(l:List Int) (a:Int),jq l->(∀x∈l,a<=x/\x<(n:Int))->a<=n->(l.length:Int)<=n - a:=by
  intro l
  induction l with
  |nil=>intro a _ _ h;simp;omega
  | cons x r ih=>
    intro a h hb ha;have hx:=hb x (by simp);have:=ih (x+1) (List.pairwise_cons.1 h).2 (λy hy=>⟨by have:=(List.pairwise_cons.1 h).1 y hy;omega,(hb y (List.mem_cons_of_mem _ hy)).2⟩) o_;rw[List.length_cons];omega
 have:=this l 0 h hb o_;omega

abbrev AP(m:Nat->Bool):Int->Prop:=λv=>∃y:Nat,v=y/\m y=true
def ql8(sl:Nat->List Int)(j:Nat):Int->Prop:=AP (JZ (sl j))
structure CloI(rel:Nat->List Int)(n:Nat)(of:Nat->Int)(sl:Nat->List Int)(A:Nat->Nat->Bool)(k:Nat)(D1:Nat->Prop)(D2:Nat->Nat->Prop):Prop where
 lt:∀k':Nat,k'<k->qkJ rel n (ql8 sl) of k' (AP (A k'))
 sd:∀v,AP (A k) v->∃i j,of i=(k:Int)/\Rch rel n i j/\ql8 sl j v
 d1:∀x,D1 x->∀v,ql8 sl x v->AP (A k) v
 d2:∀x j (k':Nat),D2 x j->of j=(k':Int)->k'<k->∀v,AP (A k') v->AP (A k) v
 hi:∀k',k<k'->A k'=λ_=>false
def qfG(A:Nat->Nat->Bool)(k:Nat)(m:Nat->Bool):Nat->Nat->Bool:=λi=>if i=k then m else A i
theorem qcQ(A:Nat->Nat->Bool)(k:Nat)(m:Nat->Bool):qfG A k m k=m:=if_pos rfl
variable {A:Nat->Nat->Bool}
theorem qdm{m:Nat->Bool}(h:i≠k):qfG A k m i=A i:=if_neg h
theorem CloI.start(rel:Nat->List Int)(n:Nat)(of:Nat->Int)(sl:Nat->List Int):CloI rel n of sl (λ_ _=>false) 0 (λ_=>False) (λ_ _=>False):=
 ⟨λk' h=>o_,λv ⟨y,_,h⟩=>(by cases h),λx h=>h.elim,λx j k' h=>h.elim,λ_ _=>rfl⟩
variable {of:Nat->Int} {D1 E1:Nat->Prop} {D2 E2:Nat->Nat->Prop}
theorem CloI.weak{sl:Nat->List Int}(h:CloI rel n of sl A k D1 D2)(h1:∀x,E1 x->D1 x)(h2:∀x j,E2 x j->D2 x j):CloI rel n of sl A k E1 E2:=
 ⟨h.lt,h.sd,λx hx=>h.d1 x (h1 x hx),λx j k' hx=>h.d2 x j k' (h2 x j hx),h.hi⟩
theorem CloI.join{sl:Nat->List Int}(h:CloI rel n of sl A k D1 D2){m:Nat->Bool}
(hm:∀v,AP m v->∃i j,of i=(k:Int)/\Rch rel n i j/\ql8 sl j v)(h1:∀x,E1 x->D1 x\/ ∀v,ql8 sl x v->AP m v)(h2:∀x j,E2 x j->D2 x j\/ ∀(k':Nat),of j=(k':Int)->k'<k->∀v,AP (A k') v->AP m v):
 CloI rel n of sl (qfG A k (λy=>A k y || m y)) k E1 E2:=by
 have up:∀v,AP (A k) v->AP (qfG A k (λy=>A k y || m y) k) v:=λv ⟨y,e,hy⟩=>⟨y,e,by rw[qcQ];simp[hy]⟩;have um:∀v,AP m v->AP (qfG A k (λy=>A k y || m y) k) v:=λv ⟨y,e,hy⟩=>⟨y,e,by rw[qcQ];simp[hy]⟩;refine⟨λk' hk=>by rw[qdm o_];exact h.lt k' hk,λv ⟨y,e,hy⟩=>?_,λx hx v hv=>?_,λx j k' hx ho hk v hv=>?_,λk' hk=>by rw[qdm o_];exact h.hi k' hk⟩
 . rw[qcQ,Bool.or_eq_true]at hy;rcases hy with hy|hy
   . exact h.sd v ⟨y,e,hy⟩
   . exact hm v ⟨y,e,hy⟩
 . rcases h1 x hx with a|a
   . exact up v (h.d1 x a v hv)
   . exact um v (a v hv)
 . rw[qdm o_]at hv;rcases h2 x j hx with a|a
   . exact up v (h.d2 x j k' a ho hk v hv)
   . exact um v (a k' ho hk v hv)
theorem CloI.edge{sl:Nat->List Int}{j:Nat}(hI:TInv rel n G s)(h:CloI rel n s.of sl A k D1 D2)(hx:s.of x=(k:Int))(hE:Edge rel n x j):∃k':Nat,s.of j=(k':Int)/\k'<=k/\∀v,AP (A k') v->∃i j,s.of i=(k:Int)/\Rch rel n i j/\ql8 sl j v:=by
 have hd:=hI.done x j o_ hE;obtain ⟨k',hk'⟩:∃k':Nat,s.of j=k':=⟨(s.of j).toNat,o_⟩;refine⟨k',hk',o_,λv hv=>?_⟩;rcases Nat.lt_or_ge k' k with hlt|hge
 . obtain ⟨i2,j2,a,b,c⟩:=(h.lt k' hlt v).1 hv;exact⟨x,j2,hx,(Rch.one hE).trans ((qiO hI (x:=j) (y:=i2) o_ o_).1.trans b),c⟩
 . have:k'=k:=o_
   subst this;exact h.sd v hv
theorem CloI.next{sl:Nat->List Int}(hI:TInv rel n G s)(h:CloI rel n s.of sl A k D1 D2)(h1:∀x,s.of x=(k:Int)->D1 x)(h2:∀x j,s.of x=(k:Int)->Edge rel n x j->D2 x j):
 CloI rel n s.of sl A (k+1) (λ_=>False) (λ_ _=>False):=by
 refine⟨λk' hk=>?_,λv ⟨y,_,hy⟩=>?_,λx h=>h.elim,λx j k' h=>h.elim,λk' hk=>h.hi k' o_⟩
 . rcases Nat.lt_or_ge k' k with e|e
   . exact h.lt k' e
   . have:k'=k:=o_
     subst this;exact qgY (A:=λk=>AP (A k)) hI h.lt h.sd (λi hi v hv=>h.d1 i (h1 i hi) v hv) (λi j k2 hi hE ho hk2 v hv=>h.d2 i j k2 (h2 i j hi hE) ho hk2 v hv)
 . rw[h.hi (k+1) o_]at hy;cases hy
noncomputable def qjL (rel:Nat->List Int) (n:Nat) (sl:Nat->List Int) (i:Nat):Nat->Bool:=λy=> @decide (∃j,Rch rel n i j/\JZ (sl j) y=true) (Classical.propDecidable _)
theorem CloI.out{sl:Nat->List Int}{g:Nat}(hI:TInv rel n G s)(h:CloI rel n s.of sl A k D1 D2)(hi:s.of i=(g:Int))(hg:g<k):A g=qjL rel n sl i:=by
 funext y;have:=qj1 hI (h.lt g hg) hi (y:Int);rw[Bool.eq_iff_iff];unfold qjL;rw[@decide_eq_true_eq _ (Classical.propDecidable _)];constructor
 . intro hy;obtain ⟨j,hr,z,e,hz⟩:=this.1 ⟨y,rfl,hy⟩
   have:y=z:=o_
   subst this;exact⟨j,hr,hz⟩
 . rintro ⟨j,hr,hy⟩;obtain ⟨z,e,hz⟩:=this.2 ⟨j,hr,y,rfl,hy⟩
   have:y=z:=o_
   subst this;exact hz
end Go.Proofs
