import Derived.Test.YtkcegflhobejmaaGreatDoorBJB
set_option linter.all false
set_option maxHeartbeats 4000000
set_option maxRecDepth 20000
namespace Go.Proofs
open Go.E

structure Sta where
 ker:List Int:=[]
 mov:List (Int×Int):=[]
 deriving DecidableEq,Inhabited
abbrev Sta.V(q:Sta):V:= .agg [.sl 2 false (q.ker.map itV),.sl 2 false (q.mov.map prV)]
def QW(g:Grammar)(k:List Int)(s:Int):List Int:=(qK g k).foldl (λo x=>if 0<=nxt g x/\nxt g x=s then xw o (x+1)else o) []
def zB(g:Grammar):List Int:=(List.range g.toks.length).map (λ(i:Nat)=>(i:Int))++(List.range g.nons.length).map λ(i:Nat)=>1000+(i:Int)
def yT(g:Grammar)(c:List Int):List Int:=c.foldl (λa x=>if 0<=nxt g x then xw a (nxt g x)else a) []
def QS(k:List Int):List Sta->Nat->Int
 |[],_=> -1
 |q::m,i=>if q.ker=k then(i:Int)else QS k m (i+1)
def yM(m:List Sta)(k:List Int):Int:=QS k m 0
def zC(m:List Sta)(i:Nat)(s t:Int):List Sta:=m.modify i λq=>{q with mov:=q.mov++[(s,t)]}
def za(m:List Sta)(i:Nat):List Int:=(m[i]?.map (·.ker)).getD []
def jl(g:Grammar)(i:Nat)(aft:List Int)(m:Option (List Sta))(s:Int):Option (List Sta):=m.bind λm=>
 if s∈aft then
  if yM m (QW g (za m i) s)<0 then(if m.length=150 then none else some (zC (m++[⟨QW g (za m i) s,[]⟩]) i s m.length))
  else some (zC m i s (yM m (QW g (za m i) s)))
 else some m
def Qu(g:Grammar):Nat->List Sta->Nat->Option (List Sta)
 |0,m,_=>some m
 |n+1,m,i=>if i<m.length then((zB g).foldl (jl g i (yT g (qK g (za m i)))) (some m)).bind λm'=>Qu g n m' (i+1)else some m
def Zr(g:Grammar):Option (List Sta):=Qu g 151 [⟨[0],[]⟩] 0
def goL(l:List (Int×Int))(s:Int):Int:=match l with
 |[]=> -1
 |p::r=>if p.1=s then p.2 else goL r s
def goS(m:List Sta)(q s:Int):Int:=if q<0 then -1 else match m[q.toNat]? with
 |some x=>goL x.mov s
 |none=> -1
def zT(m:List Sta):Int->List Int->Int
 |q,[]=>q
 |q,s::l=>if q<0 then q else zT m (goS m q s) l
def qh(m:List Sta):List (Int×Int):=(List.range m.length).flatMap λ(i:Nat)=>((m[i]?.map (·.mov)).getD []).filterMap λp=>if 1000<=p.1 then some ((i:Int),p.1)else none
def qjM(q s:Int):List (Int×Int)->Nat->Int
 |[],_=> -1
 |p::l,i=>if p.1=q/\p.2=s then(i:Int)else qjM q s l (i+1)
def XW(t:List (Int×Int))(q s:Int):Int:=qjM q s t 0
def jB(m:List Sta)(q:Int):List (Int×Int):=(m[q.toNat]?.map (·.mov)).getD []
def zU(m:List Sta):List (List Int):=(qh m).map λt=>
 (jB m (goS m t.1 t.2)).foldl (λl p=>if p.1<1000 then xw l p.1 else l) (if (1:Int)∈za m (goS m t.1 t.2).toNat then[0]else[])
def jA(E:Nat->Bool)(m:List Sta):List (List Int):=(qh m).map λt=>
 (jB m (goS m t.1 t.2)).foldl (λl p=>if 1000<=p.1/\E (p.1 - 1000).toNat=true then xw l (XW (qh m) (goS m t.1 t.2) p.1)else l) []
def V4(E:Nat->Bool)(m:List Sta)(i:Nat)(q:Int)(r:List Int)(out:List (List Int))(k:Nat):List (List Int):=
 let s:=r.getD k 0
 if 1000<=s/\zl false E (r.drop (k+1))=true/\0<=zT m q (r.take k)/\0<=XW (qh m) (zT m q (r.take k)) s then
  out.modify (XW (qh m) (zT m q (r.take k)) s).toNat λl=>xw l (i:Int)
 else out
def VX(E:Nat->Bool)(m:List Sta)(i:Nat)(t:Int×Int)(out:List (List Int))(p:GPr):List (List Int):=
 if 1000+p.left=t.2 then(List.range p.right.length).foldl (V4 E m i t.1 p.right) out else out
def zo(g:Grammar)(E:Nat->Bool)(m:List Sta):List (List Int):=
 (List.range (qh m).length).foldl (λout i=>g.prods.foldl (VX E m i ((qh m).getD i (0,0))) out) (List.replicate (qh m).length [])
def QL(g:Grammar)(m:List Sta)(q:Int)(p:Int):List Int:=
 ((List.range (qh m).length).filter λi=>match g.prods[p.toNat]? with
   |some x=>decide (((qh m).getD i (0,0)).2=1000+x.left/\zT m ((qh m).getD i (0,0)).1 x.right=q)
   |none=>false).map λ(i:Nat)=>(i:Int)
def joinL(a b:List Int):List Int:=b.foldl xw a
def qaM(out rel:List (List Int)):List (List Int):=(List.range out.length).foldl (λo i=>o.modify i λl=>(rel.getD i []).foldl (λl j=>joinL l (o.getD j.toNat [])) l) out
def jX:Nat->List (List Int)->List (List Int)->List (List Int)
 |0,out,_=>out
 |n+1,out,rel=>if qaM out rel=out then out else jX n (qaM out rel) rel
def zJ(g:Grammar)(E:Nat->Bool)(m:List Sta):List (List Int):=jX 400000 (jX 400000 (zU m) (jA E m)) (zo g E m)
def X6(g:Grammar)(k:List Int):List Int:=(qK g k).filterMap λx=>if 0<x / 16/\nxt g x= -1 then some (x / 16)else none
structure Lk where
 st:Int:=0
 pr:Int:=0
 tk:List Int:=[]
 deriving DecidableEq,Inhabited
abbrev Lk.V(x:Lk):V:= .agg [vi x.st,vi x.pr,.sl 1 false (x.tk.map (V.int .i64))]
def Vh(g:Grammar)(E:Nat->Bool)(m:List Sta):List Lk:=(List.range m.length).flatMap λ(q:Nat)=>(X6 g (za m q)).map λp=>
 {st:=q,pr:=p,tk:=(QL g m q p).foldl (λl b=>joinL l ((zJ g E m).getD b.toNat [])) []}

def YC(g:Grammar)(m:Nat):Int:=(g.prods[m]?.map (·.left)).getD (-1)
def JA(g:Grammar)(c:Int)(n:Nat):List Int:=((List.range n).filter λm=>decide (YC g m=c)).map λ(m:Nat)=>16 *(m:Int)
theorem qfL(g:Grammar)(c:Int)(n:Nat):JA g c (n+1)=JA g c n++(if YC g n=c then[16 *(n:Int)]else[]):=by unfold JA;rw[List.range_succ,List.filter_append,List.map_append];congr 1;by_cases h:YC g n=c<;>simp[h]
theorem qiS(g:Grammar)(c:Int)(n:Nat):(JA g c n).length<=n:=by unfold JA;rw[List.length_map];exact Nat.le_trans (List.length_filter_le _ _) (by simp)
variable {g:Grammar} {n:Nat} {x:Int}
theorem JD{c:Int}:x∈JA g c n↔ ∃m:Nat,m<n/\YC g m=c/\x=16 *(m:Int):=by
 unfold JA;simp only[List.mem_map,List.mem_filter,List.mem_range,decide_eq_true_eq];constructor
 . rintro ⟨m,⟨h1,h2⟩,rfl⟩;exact⟨m,h1,h2,rfl⟩
 . rintro ⟨m,h1,h2,rfl⟩;exact⟨m,⟨h1,h2⟩,rfl⟩
theorem qcY(g:Grammar)(c:Int)(n:Nat):(JA g c n).Nodup:=by unfold JA;rw[List.Nodup,List.pairwise_map];exact(List.nodup_range.filter _).imp λh e=>h o_
theorem YE{m:Nat}{p:GPr}(h:g.prods[m]?=some p):YC g m=p.left:=by unfold YC;rw[h];rfl
theorem YL{m:Nat}(h:m<g.prods.length):∃p,g.prods[m]?=some p/\YC g m=p.left:=⟨_,ge_ h,YE (ge_ h)⟩
structure ClI(g:Grammar)(l O:List Int)(k:Nat)(met:Nat->Bool):Prop where
 nd:O.Nodup
 sub:∀x∈l,x∈O
 lst:∀D,qwo g l D->∀x∈O,D x
 mt:∀(i:Nat) x,O[i]?=some x->i<k->1000<=nxt g x->∃c:Nat,nxt g x=1000+(c:Int)/\met c=true
 all:∀c:Nat,met c=true->∀(m:Nat) p,g.prods[m]?=some p->p.left=(c:Int)->16 *(m:Int)∈O
 new:∀x∈O,x∈l\/ ∃(m:Nat) (p:GPr) (c:Nat),x=16 *(m:Int)/\g.prods[m]?=some p/\p.left=(c:Int)/\met c=true
variable {l:List Int}
theorem ClI.new0(h:l.Nodup):ClI g l l 0 (λ_=>false):=
 ⟨h,λ_ h=>h,λD hD=>hD.1,λi x _ h=>absurd h (Nat.not_lt_zero _),λc h=>(by cases h),λx h=>Or.inl h⟩
variable {O:List Int} {k:Nat} {met:Nat->Bool}
theorem ClI.skip(h:ClI g l O k met)(hx:O[k]?=some x)(hc:nxt g x<1000\/ ∃c:Nat,nxt g x=1000+(c:Int)/\met c=true):ClI g l O (k+1) met:=
 ⟨h.nd,h.sub,h.lst,λi y hy hi h0=>by
  rcases Nat.lt_or_ge i k with e|e
  . exact h.mt i y hy e h0
  . have:i=k:=o_
    subst this;rw[hx]at hy;cases hy;exact hc.resolve_left o_,h.all,h.new⟩
theorem ClI.call{c:Nat}(h:ClI g l O k met)(hk:∀(m:Nat) p,g.prods[m]?=some p->16 *(m:Int)∈l->p.left=0)(hx:O[k]?=some x)(hn:nxt g x=1000+(c:Int))(h0:c≠0)(hm:met c=false):
 ClI g l (O++JA g c g.prods.length) (k+1) (λi=>if i=c then true else met i):=by
 have hxm:=List.mem_of_getElem? hx;have hkl:=(List.getElem?_eq_some_iff.1 hx).1;refine⟨?_,λy hy=>List.mem_append_left _ (h.sub y hy),λD hD y hy=>?_,λi y hy hi h1=>?_,λc' hc' m p hp hl=>?_,λy hy=>?_⟩
 . refine List.nodup_append.2 ⟨h.nd,qcY g c _,λa ha b hb e=>?_⟩;subst e;obtain ⟨m,hm1,hm2,rfl⟩:=JD.1 hb;obtain ⟨p,hp,hpl⟩:=YL hm1;rcases h.new _ ha with h2|⟨m',p',c',e,hp',hl',hmet⟩
   . have:=hk m p hp h2;omega
   . have em:m=m':=o_;subst em;rw[hp]at hp';cases hp'
     have:c'=c:=o_
     subst this;rw[hm]at hmet;cases hmet
 . rcases List.mem_append.1 hy with hy|hy
   . exact h.lst D hD y hy
   . obtain ⟨m,hm1,hm2,rfl⟩:=JD.1 hy;obtain ⟨p,hp,hpl⟩:=YL hm1;exact hD.2 x (h.lst D hD x hxm) m p hp o_ o_
 . rcases Nat.lt_or_ge i O.length with e|e
   . rw[List.getElem?_append_left e]at hy;rcases Nat.lt_or_ge i k with e2|e2
     . obtain ⟨c',h2,h3⟩:=h.mt i y hy e2 h1;exact⟨c',h2,by split<;>simp[h3]⟩
     . have:i=k:=o_
       subst this;rw[hx]at hy;cases hy;exact⟨c,hn,by simp⟩
   . omega
 . by_cases e:c'=c
   . subst e;exact List.mem_append_right _ (JD.2 ⟨m,(List.getElem?_eq_some_iff.1 hp).1,by rw[YE hp];exact hl,rfl⟩)
   . rw[if_neg e]at hc';exact List.mem_append_left _ (h.all c' hc' m p hp hl)
 . rcases List.mem_append.1 hy with hy|hy
   . rcases h.new y hy with h2|⟨m,p,c',e,h3,h4,h5⟩
     . exact Or.inl h2
     . exact Or.inr ⟨m,p,c',e,h3,h4,by split<;>simp[h5]⟩
   . obtain ⟨m,hm1,hm2,rfl⟩:=JD.1 hy;obtain ⟨p,hp,hpl⟩:=YL hm1;exact Or.inr ⟨m,p,c,rfl,hp,o_,by simp⟩
theorem ClI.done{L:List Int}(h:ClI g l O O.length met)(hp:L.Perm O)(hs:L.Pairwise (· <= ·)):IsCl g l L:=by have hnd:L.Nodup:=hp.nodup_iff.2 h.nd;refine⟨hs.imp₂ (λa b h1 h2=>o_) hnd,⟨λx hx=>hp.mem_iff.2 (h.sub x hx),λx hx m p hpm h1 h2=>?_⟩,λD hD x hx=>h.lst D hD x (hp.mem_iff.1 hx)⟩;obtain ⟨i,hi⟩:=List.getElem?_of_mem (hp.mem_iff.1 hx);obtain ⟨c,h3,h4⟩:=h.mt i x hi (List.getElem?_eq_some_iff.1 hi).1 h1;exact hp.mem_iff.2 (h.all c h4 m p hpm o_)
theorem ClI.len(h:ClI g l O k met)(hl:∀x∈l,0<=x/\x<960)(hg:g.prods.length<=60):O.length<=960:=by
 have hb:∀x∈O,0<=x/\x<960:=λx hx=>by
  rcases h.new x hx with h2|⟨m,p,c,e,h3,_⟩
  . exact hl x h2
  . have:=(List.getElem?_eq_some_iff.1 h3).1;omega
 have:=List.Nodup.length_le_of_subset (l₁:=O.map Int.toNat) (l₂:=List.range 960) (by
  rw[List.Nodup,List.pairwise_map];exact h.nd.imp_of_mem λha hb' hne e=>hne (by have:=hb _ ha;have:=hb _ hb';omega)) (λy hy=>by
  obtain ⟨x,hx,rfl⟩:=List.mem_map.1 hy;have:=hb x hx;exact List.mem_range.2 o_)
 simpa using this

abbrev qy3(v:V)(l:List Int):Prop:=J9 v=some (vi (l.length:Nat))/\(∀(k:IntKind) (i:Int) (x:Int),0<=i->l[i.toNat]?=some x->jc 1 v (.int k i)=some (.iptr 1 (.int .i64 x) 0))/\ErP v (.sl 1 false (l.map (V.int .i64)))/\v.cells=[v]/\v.okCell=true/\v.isAgg=false
def qfK(es:List V)(L:List (List Int)):Prop:=es.length=L.length/\∀(i:Nat) l,L[i]?=some l->∃v,es[i]?=some v/\qy3 v l
theorem qfK.nil:qfK [] []:=⟨rfl,λi l h=>by simp at h⟩
variable {es:List Go.E.V} {L:List (List Int)}
theorem qfK.snoc{v:V}(h:qfK es L)(hv:qy3 v l):qfK (es++[v]) (L++[l]):=by
 refine⟨by simp[h.1],λi l' hi=>?_⟩;by_cases e:i<L.length
 . rw[List.getElem?_append_left e]at hi;obtain ⟨w,h1,h2⟩:=h.2 i l' hi;exact⟨w,by rw[List.getElem?_append_left (by rw[h.1];exact e)];exact h1,h2⟩
 . by_cases e2:i=L.length
   . subst e2;rw[List.getElem?_append_right (Nat.le_refl _),Nat.sub_self]at hi;cases hi;exact⟨v,by rw[<- h.1,List.getElem?_append_right (Nat.le_refl _),Nat.sub_self];rfl,hv⟩
   . rw[List.getElem?_eq_none so_]at hi;cases hi
theorem qfK.set{v:V}(h:qfK es L)(hv:qy3 v l)(i:Nat):qfK (es.set i v) (L.set i l):=by
 refine⟨by simp[h.1],λk l' hk=>?_⟩;rw[List.getElem?_set]at hk ⊢;by_cases e:i=k
 . subst e;rw[if_pos rfl]at hk ⊢;rw[h.1];by_cases hl:i<L.length
   . rw[if_pos hl]at hk ⊢;cases hk;exact⟨v,rfl,hv⟩
   . rw[if_neg hl]at hk;cases hk
 . rw[if_neg e]at hk ⊢;exact h.2 k l' hk
theorem qfK.erL(h:qfK es L):J6 es (L.map zS):=by
 have :∀(es:List V) (L:List (List Int)),qfK es L->J6 es (L.map zS):=by
  intro es
  induction es with
  | nil=>intro L h;cases L with
    |nil=>exact .nil
    |cons a L=>have:=h.1;simp at this
  | cons v es ih=>intro L h;cases L with
    |nil=>have:=h.1;simp at this
    | cons a L=>
      obtain ⟨w,h1,h2⟩:=h.2 0 a rfl;cases h1;exact .cons h2.2.2.1 (ih L ⟨by have:=h.1;simpa using this,λi l hi=>h.2 (i+1) l (by simpa using hi)⟩)
 exact this es L h
theorem qfK.er{H:Nat->Option MObj}{id:Nat}{ro:Bool}(hH:H id=some (.own 1 es ro))(h:qfK es L)(hn:L.length=n):Er true H (.msl id 1 0 n) (.sl 1 false (L.map zS)):=by obtain ⟨h1,h2⟩:=(h.erL.up (b:=true) (H:=H)).get;refine .msl id 1 0 n es ro _ rfl hH (by rw[<- hn,h.1];omega) (by simp[hn]) λi c c' h3 h4=>?_;rw[Nat.zero_add]at h3;exact h2 i c c' h3 h4
structure MOk(g:Grammar)(m:List Sta):Prop where
 len:m.length<=150
 mvl:∀q∈m,q.mov.length<=64
 mv:∀q∈m,∀p∈q.mov,vW g.toks.length g.nons.length p.1/\∃t:Nat,p.2=t/\t<m.length
 kr:∀q∈m,jq q.ker
 ki:∀q∈m,∀x∈q.ker,Qx g x
theorem MOk.kl{m:List Sta}(h:MOk g m)(hpl:g.prods.length<=60):∀q∈m,q.ker.length<=960:=λq hq=>
 xY (a:=0) (h.kr q hq) λx hx=>by obtain ⟨h0,p,hp,_⟩:=h.ki q hq x hx;have:=(List.getElem?_eq_some_iff.1 hp).1;omega
variable {q s:Int}
theorem yB{m:List Sta}(h:(q,s)∈qh m):∃(n:Nat) (x:Sta),q=n/\m[n]?=some x/\1000<=s/\∃t,(s,t)∈x.mov:=by
 unfold qh at h;rw[List.mem_flatMap]at h;obtain ⟨n,hn,h⟩:=h;rw[List.mem_filterMap]at h;obtain ⟨p,hp,h⟩:=h;rw[List.mem_range]at hn;have hg:m[n]?=some m[n]:=ge_ hn;rw[hg]at hp;split at h
 . rename_i h1;cases h;exact⟨n,_,rfl,hg,h1,p.2,hp⟩
 . cases h
theorem JL{m:List Sta}{x:Sta}{t:Int}(h:m[n]?=some x)(h1:1000<=s)(h2:(s,t)∈x.mov):((n:Int),s)∈qh m:=by unfold qh;rw[List.mem_flatMap];refine⟨n,List.mem_range.2 (List.getElem?_eq_some_iff.1 h).1,?_⟩;rw[List.mem_filterMap,h];exact⟨(s,t),h2,by rw[if_pos h1]⟩
theorem qdE{l:List (Int×Int)}{t:Int}(h:(s,t)∈l):(s,goL l s)∈l:=by
 induction l with
 |nil=>cases h
 | cons a l ih=>
   unfold goL;split
   . rename_i e;rw[<- e];exact List.mem_cons_self
   . rename_i e;rcases List.mem_cons.1 h with h|h
     . exact absurd (by rw[<- h]) e
     . exact List.mem_cons_of_mem _ (ih h)
theorem qg1(l:List (Int×Int))(s:Int):goL l s= -1\/(s,goL l s)∈l:=by
 induction l with
 |nil=>exact Or.inl rfl
 | cons a l ih=>
   unfold goL;split
   . rename_i e;right;rw[<- e];exact List.mem_cons_self
   . exact ih.imp id (List.mem_cons_of_mem _)
theorem MOk.trans_go{m:List Sta}(h:MOk g m)(ht:(q,s)∈qh m):∃r:Nat,goS m q s=r/\r<m.length:=by obtain ⟨n,x,rfl,hx,h1,t,h2⟩:=yB ht;have:=(h.mv x (List.mem_of_getElem? hx) _ (qdE h2)).2;unfold goS;rw[if_neg o_,show ((n:Int)).toNat=n from rfl,hx];exact this
theorem qeE{q s:Int}:∀(T:List (Int×Int)) (n:Nat),(q,s)∈T->∃i:Nat,qjM q s T n=((n+i:Nat):Int)/\i<T.length
 |[],_,h=>by cases h
 | p ::T,n,h=>by
   unfold qjM;split
   . exact⟨0,by simp,by simp⟩
   . rename_i e;rcases List.mem_cons.1 h with h|h
     . subst h;exact absurd ⟨rfl,rfl⟩ e
     . obtain ⟨i,h1,h2⟩:=qeE T (n+1) h;exact⟨i+1,by rw[h1];omega,by simp;exact h2⟩
theorem kW{T:List (Int×Int)}(h:(q,s)∈T):∃i:Nat,XW T q s=i/\i<T.length:=by obtain ⟨i,h1,h2⟩:=qeE T 0 h;exact⟨i,by unfold XW;rw[h1];omega,h2⟩
theorem Kt{q s:Int}:∀(T:List (Int×Int)) (n:Nat),qjM q s T n= -1\/ ∃i:Nat,qjM q s T n=((n+i:Nat):Int)/\i<T.length
 |[],_=>Or.inl rfl
 | p ::T,n=>by
   unfold qjM;split
   . exact Or.inr ⟨0,by simp,by simp⟩
   . rcases Kt T (n+1)with h|⟨i,h1,h2⟩
     . exact Or.inl h
     . exact Or.inr ⟨i+1,by rw[h1];omega,by simp;exact h2⟩

abbrev yK(l:List Int):Prop:=jq l/\∀x∈l,0<=x/\x<40
abbrev yG(L:List (List Int)):Prop:= ∀l∈L,yK l
abbrev qko(n:Nat)(rel:List (List Int)):Prop:=rel.length=n/\∀l∈rel,l.length<=1000000/\∀x∈l,∃k:Nat,x=k/\k<n
theorem Yi{s:List Int}:∀{l:List Int} {x:Int},x∈s.foldl xw l↔x∈l\/x∈s:=by
 induction s with
 |nil=>intro l x;simp
 | cons a s ih=>
   intro l x;rw[List.foldl_cons,ih,zL,List.mem_cons];constructor
   . rintro ((h|h)|h)
     . exact Or.inl h
     . exact Or.inr (Or.inl h)
     . exact Or.inr (Or.inr h)
   . rintro (h|h|h)
     . exact Or.inl (Or.inl h)
     . exact Or.inl (Or.inr h)
     . exact Or.inr h
theorem qf3{s:List Int}:∀{l:List Int},jq l->jq (s.foldl xw l):=by
 induction s with
 |nil=>intro l h;exact h
 |cons a s ih=>intro l h;exact ih (jU h)
theorem yK.join{s:List Int}(h:yK l)(hs:yK s):yK (s.foldl xw l):=
 ⟨qf3 h.1,λx hx=>(Yi.1 hx).elim (h.2 x) (hs.2 x)⟩
theorem yK.take{s:List Int}(hs:yK s)(k:Nat):yK (s.take k):=
 ⟨hs.1.sublist (List.take_sublist _ _),λx hx=>hs.2 x (List.mem_of_mem_take hx)⟩
theorem yK.len(h:yK l):l.length<=40:=xY (a:=0) h.1 λx hx=>by have:=h.2 x hx;omega
theorem QO:yK []:=⟨List.Pairwise.nil,λx h=>by cases h⟩
theorem yG.getD(h:yG L)(i:Nat):yK (L.getD i []):=by
 unfold List.getD;cases hg:L[i]? with
 |none=>exact QO
 |some l=>exact h l (List.mem_of_getElem? hg)
def qf6(o:List (List Int))(r:List Int)(l:List Int):List Int:=r.foldl (λl j=>joinL l (o.getD j.toNat [])) l
theorem Xg{o:List (List Int)}(ho:yG o):∀{r l:List Int},yK l->yK (qf6 o r l)/\∀x∈l,x∈qf6 o r l
 |[],l,h=>⟨h,λ_ h=>h⟩
 | a::r,l,h=>by have h1:yK (joinL l (o.getD a.toNat [])):=h.join (ho.getD _);have:=Xg ho (r:=r) h1;exact⟨this.1,λx hx=>this.2 x (Yi.2 (Or.inl hx))⟩
def qbx(rel:List (List Int))(o:List (List Int))(i:Nat):List (List Int):=o.modify i λl=>qf6 o (rel.getD i []) l
def kg(rel out:List (List Int))(i:Nat):List (List Int):=(List.range i).foldl (qbx rel) out
theorem Zh(out rel:List (List Int)):qaM out rel=kg rel out out.length:=rfl
theorem xZ(rel out:List (List Int))(i:Nat):kg rel out (i+1)=qbx rel (kg rel out i) i:=by unfold kg;rw[List.range_succ,List.foldl_append];rfl
variable {o:List (List Int)}
theorem qcu{rel:List (List Int)}{i:Nat}(h:o[i]?=some l):qbx rel o i=o.set i (qf6 o (rel.getD i []) l):=by
 unfold qbx;refine List.ext_getElem? λj=>?_;rw[List.getElem?_modify,List.getElem?_set];have hi:=(List.getElem?_eq_some_iff.1 h).1;by_cases e:i=j
 . subst e;rw[if_pos rfl,if_pos hi,h];simp
 . rw[if_neg e];simp[e]
theorem kL(rel out:List (List Int)):∀i,(kg rel out i).length=out.length
 |0=>rfl
 |i+1=>by rw[xZ];unfold qbx;rw[List.length_modify];exact kL rel out i
theorem yG.set(h:yG L)(hl:yK l)(i:Nat):yG (L.set i l):=λx hx=>
 (List.mem_or_eq_of_mem_set hx).elim (h x) λe=>e ▸ hl
theorem X7{rel out:List (List Int)}(h:yG out):∀i,i<=out.length->yG (kg rel out i)
 |0,_=>h
 | i+1,hi=>by rw[xZ];have h1:=X7 (rel:=rel) h i o_;have hlt:i<(kg rel out i).length:=(by rw[kL];omega);have hg:(kg rel out i)[i]?=some (kg rel out i)[i]:=ge_ hlt;rw[qcu hg];exact h1.set (Xg h1 (h1 _ (List.getElem_mem _))).1 i
def szL(L:List (List Int)):Nat:=(L.map List.length).sum
theorem qrd(h:yG L):szL L<=40 *L.length:=by
 induction L with
 |nil=>exact Nat.le_refl _
 | cons a L ih=>
   have h1:=(h a List.mem_cons_self).len;have h2:=ih λl hl=>h l (List.mem_cons_of_mem _ hl);unfold szL at h2 ⊢;rw[List.map_cons,List.sum_cons,List.length_cons];omega
theorem qh0{l l0:List Int}:∀{L:List (List Int)} {i:Nat},L[i]?=some l0->szL (L.set i l)+l0.length=szL L+l.length
 |[],i,h=>by simp at h
 | a::L,0,h=>by simp at h;subst h;simp[szL];omega
 | a::L,i+1,h=>by have:=qh0 (l:=l) (L:=L) (i:=i) (by simpa using h);simp[szL]at this ⊢;omega
theorem qls{α:Type}{L:List α}{i:Nat}{l:α}(h:L[i]?=some l):L.set i l=L:=by
 refine List.ext_getElem? λj=>?_;rw[List.getElem?_set];have hi:=(List.getElem?_eq_some_iff.1 h).1;by_cases e:i=j
 . subst e;rw[if_pos rfl,if_pos hi,h]
 . rw[if_neg e]
theorem qkO(ho:yG o){r:List Int}(h:yK l)(hl:(qf6 o r l).length=l.length):qf6 o r l=l:=
 (JS h.1 (Xg ho h).1.1 (Xg ho h).2 o_).symm
theorem qqp(ho:yG o){r:List Int}(h:yK l):l.length<=(qf6 o r l).length:=by
 by_cases e:(qf6 o r l).length<=l.length
 . rw[<- JS h.1 (Xg ho h).1.1 (Xg ho h).2 e];exact Nat.le_refl _
 . omega
theorem Qd{rel:List (List Int)}:∀(n:Nat) {out:List (List Int)},yG out->yG (jX n out rel)/\(jX n out rel).length=out.length
 |0,out,h=>⟨h,rfl⟩
 | n +1,out,h=>by
   unfold jX;split
   . exact⟨h,rfl⟩
   . have:=Qd (rel:=rel) n (out:=qaM out rel) (by rw[Zh];exact X7 h _ (Nat.le_refl _));exact⟨this.1,by rw[this.2,Zh,kL]⟩

variable {y:Int}
theorem qyh:(decide (x / 16=y / 16) && (decide (x % 16=y % 16) && true))=decide (x=y):=by rw[Bool.eq_iff_iff];simp only[Bool.and_eq_true,decide_eq_true_eq,and_true];omega
theorem qjV{neg:Bool}{K:V->Prop}(hk:K (.bool (decide (x=y) != neg))):qca neg [1,1] (itV x) (itV y) K:=by refine qkT (t:=decide (x=y)) ?_ hk;rw[<- qyh];rfl
theorem Xq{a b:List Int}(ha:a.length<=4611686018427387903)(hb:b.length<=4611686018427387903):Pure Tryz.prog 119 [.sl 2 false (a.map itV),.sl 2 false (b.map itV)] (.bool (decide (a=b))):=by
 refine pure_intro Tryz.func119 nm_ qoA (by show 2<=26;decide) ?_
 show ewp _ qhn _ _;by_cases hl:a.length=b.length
 . repeat' with_reducible first|refine s_ ?_|simp -implicitDefEqProofs only[wZZ,seval]|apply qa<;>intro h h_<;>(try simp only[wD,reduceCtorEq]at h_)<;>(try exact wb_)<;>(try simp only[h])
   refine qb ?nx1 (λ(k:Nat) s=>s.f 0=?v1_0/\s.f 1=?v1_1/\s.f 5=vi k/\(k<=a.length)/\(∀i,i<k->a[i]?=b[i]?)) (λk=>a.length - k) (0) wj_ (by refine⟨?_,?_,?_,wo_,wo_⟩<;>first|(simp -implicitDefEqProofs only[wL,wM,wN,wX,seval,Option.some.injEq]<;>exact wt_)|rfl|exact⟨_,rfl⟩) ?_;intro k s hnx ⟨g0,g1,g5,k1_0,k1_1⟩;have hz:=w1_ k;by_cases hk:k<a.length
   . have hga:a[k]?=some a[k]:=ge_ hk;have hgb:b[k]?=some b[k]:=ge_ o_;by_cases he:a[k]=b[k]
     . have hn:∀i,i<k+1->a[i]?=b[i]?:=λi hi=>by
        by_cases e:i=k
        . subst e;rw[hga,hgb,he]
        . exact k1_1 i o_
       have hed:(decide (a[k]=b[k]) != true)=false:=(by rw[decide_eq_true he];rfl);repeat' with_reducible first|refine s_ ?_|simp -implicitDefEqProofs only[wZZ,seval,g0,g1,g5,hz,hed]|apply qa<;>intro h h_<;>(try simp only[wD,reduceCtorEq]at h_)<;>(try exact wb_)<;>(try simp only[h])|refine t_ ?_|(refine qjV ?_)
       refine⟨wk_,k+1,o_,?_⟩;refine⟨?_,?_,?_,?_,?_⟩;iterate 3 (focus(first|(simp -implicitDefEqProofs only[wL,wM,wN,wX,seval,Option.some.injEq,g0,g1,g5]<;>exact wt_)|rfl|exact⟨_,rfl⟩))
       all_goals try omega
     . have hne:a≠b:=λe=>he (by subst e;rfl);rw[decide_eq_false hne];have hed:(decide (a[k]=b[k]) != true)=true:=(by rw[decide_eq_false he];rfl);repeat' with_reducible first|refine s_ ?_|simp -implicitDefEqProofs only[wZZ,seval,g0,g1,g5,hz,hed]|apply qa<;>intro h h_<;>(try simp only[wD,reduceCtorEq]at h_)<;>(try exact wb_)<;>(try simp only[h])|refine t_ ?_|(refine qjV ?_)
       all_goals refine qz rfl (Or.inr rfl) ?_
       all_goals(try simp -implicitDefEqProofs only[wL,seval,g0,g1,g5])
       all_goals refine er_ ?_
       all_goals(try(with_reducible rfl))
   . have e:a=b:=List.ext_getElem? λi=>by
      by_cases hi:i<k
      . exact k1_1 i hi
      . rw[List.getElem?_eq_none o_,List.getElem?_eq_none o_]
     rw[decide_eq_true e];repeat' with_reducible first|refine s_ ?_|simp -implicitDefEqProofs only[wZZ,seval,g0,g1,g5]|apply qa<;>intro h h_<;>(try simp only[wD,reduceCtorEq]at h_)<;>(try exact wb_)<;>(try simp only[h])
     all_goals refine qz rfl (Or.inr rfl) ?_
     all_goals(try simp -implicitDefEqProofs only[wL,seval,g0,g1,g5])
     all_goals refine er_ ?_
     all_goals(try(with_reducible rfl))
 . have hne:a≠b:=λe=>hl (by rw[e]);rw[decide_eq_false hne]
   skip
   repeat' with_reducible first|refine s_ ?_|simp -implicitDefEqProofs only[wZZ,seval]|apply qa<;>intro h h_<;>(try simp only[wD,reduceCtorEq]at h_)<;>(try exact wb_)<;>(try simp only[h])
   all_goals refine qz rfl (Or.inr rfl) ?_
   all_goals(try simp -implicitDefEqProofs only[wL,seval])
   all_goals refine er_ ?_
   all_goals(try(with_reducible rfl))
theorem vG(hl:l.length<=1099511627776):Pure Tryz.prog 117 [.sl 2 false (l.map itV),itV x] (.sl 2 false ((xw l x).map itV)):=by
 refine pure_intro Tryz.func117 nm_ qmD (by show 2<=71;decide) ?_
 show ewp _ qhN _ _;repeat' with_reducible first|refine s_ ?_|simp -implicitDefEqProofs only[wZZ,seval]|refine t_ ?_
 refine qb ?nx1 (λ(k:Nat) s=>s.f 0=?v1_0/\s.f 3=?v1_3/\s.H 0=some (.own 2 [itV x] false)/\s.f 5=vi k/\(k<=l.length)/\(Vm l x k=Vm l x l.length)) (λk=>k) (l.length) wj_ (by refine⟨?_,?_,?_,?_,wo_,wo_⟩<;>first|(simp -implicitDefEqProofs only[wL,wM,wN,wX,seval,Option.some.injEq]<;>exact wt_)|rfl|exact⟨_,rfl⟩) ?_;intro k s hnx ⟨g0,g3,o0,g5,k1_0,k1_1⟩;by_cases hk:k=0
 . subst hk;have hc:Vm l x l.length=0:=k1_1.symm;have hp:xw l x=[]++[x]++l:=(by unfold xw;rw[hc];simp);rw[hp];repeat' with_reducible first|refine s_ ?_|simp -implicitDefEqProofs only[wZZ,seval,g0,g3,g5,o0]|apply KW;(focus(first|exact qY.sl|exact qY.asl|exact qY.str));exact wf_;(focus(unfold maxLen;first|omega|(simp only[wZ]<;>omega)))|(refine VE ?_;simp -implicitDefEqProofs only[wM,wN,seval,g0,g3,g5,o0];apply qcE;(focus(first|exact qY.sl|exact qY.asl|exact qY.str));(exact wf_);(focus(unfold maxLen;first|omega|(simp only[wZ]<;>omega))))|apply YF;omega;exact wf_|apply Jb;omega;exact wf_|refine t_ ?_
   refine qz rfl (Or.inr rfl) ?_;simp -implicitDefEqProofs only[wL,seval,g0,g3,g5];refine er_ ?_
   try(with_reducible rfl)
   simp
 . obtain ⟨m,rfl⟩:∃m,k=m+1:=⟨k - 1,o_⟩;have hm:m<l.length:=o_;have hgm:l[m]?=some l[m]:=ge_ hm;have hzm:IntKind.i64.wrap (((m+1:Nat):Int) - 1)=(m:Int):=(by rw[wrap64 o_ o_];omega);rw[JI,getD_eq hm]at k1_1;by_cases hgt:x<l[m]
   . rw[if_pos hgt]at k1_1;generalize l[m]=y at *;repeat' with_reducible first|refine s_ ?_|simp -implicitDefEqProofs only[wZZ,seval,g0,g3,g5,o0,hzm]|(first|apply qa|apply qA|apply qB)<;>intro h h_<;>(try simp only[wD,reduceCtorEq]at h_)<;>(try exact wb_)<;>(try simp only[h])|refine t_ ?_|simp -implicitDefEqProofs (disch:=omega) only[w64,if_neg]
     all_goals exact⟨wg_,m,o_,trivial,trivial,trivial,rfl,o_,k1_1⟩
   . rw [if_neg hgt]at k1_1;have hp:xw l x=if l[m]=x then l else l.take (m+1)++[x]++l.drop (m+1):=by
      unfold xw;rw[<- k1_1];simp[ge_ hm]
     by_cases hx:l[m]=x
     . rw[hp,if_pos hx];have hed:(decide (l[m]=x) != false)=true:=(by rw[decide_eq_true hx];rfl);generalize l[m]=y at *;repeat' with_reducible first|refine s_ ?_|simp -implicitDefEqProofs only[wZZ,seval,g0,g3,g5,o0,hzm,hed]|(first|apply qa|apply qA|apply qB)<;>intro h h_<;>(try simp only[wD,reduceCtorEq]at h_)<;>(try exact wb_)<;>(try simp only[h])|refine t_ ?_|(refine qjV ?_)|simp -implicitDefEqProofs (disch:=omega) only[w64,if_neg]
       all_goals refine qz rfl (Or.inr rfl) ?_
       all_goals(try simp -implicitDefEqProofs only[wL,seval,g0,g3,g5])
       all_goals refine er_ ?_
       all_goals(try(with_reducible rfl))
     . rw[hp,if_neg hx];have hed:(decide (l[m]=x) != false)=false:=(by rw[decide_eq_false hx];rfl);generalize l[m]=y at *;repeat' with_reducible first|refine s_ ?_|simp -implicitDefEqProofs only[wZZ,seval,g0,g3,g5,o0,hzm,hed]|(first|apply qa|apply qA|apply qB)<;>intro h h_<;>(try simp only[wD,reduceCtorEq]at h_)<;>(try exact wb_)<;>(try simp only[h])|refine t_ ?_|(refine qjV ?_)|apply KW;(focus(first|exact qY.sl|exact qY.asl|exact qY.str));exact wf_;(focus(unfold maxLen;first|omega|(simp only[wZ]<;>omega)))|(refine VE ?_;simp -implicitDefEqProofs only[wM,wN,seval,g0,g3,g5,o0,hzm,hed];apply qcE;(focus(first|exact qY.sl|exact qY.asl|exact qY.str));(exact wf_);(focus(unfold maxLen;first|omega|(simp only[wZ]<;>omega))))|apply YF;omega;exact wf_|apply Jb;omega;exact wf_|simp -implicitDefEqProofs (disch:=omega) only[w64,if_neg]
       all_goals refine qz rfl (Or.inr rfl) ?_
       all_goals(try simp -implicitDefEqProofs only[wL,seval,g0,g3,g5])
       all_goals refine er_ ?_
       all_goals(try(with_reducible rfl))

theorem qbE{a:List Int}(h:jq (a++[x])):xw a x=a++[x]:=by have ha:jq a:=h.sublist (List.sublist_append_left _ _);exact vw (jU ha) h λy=>by rw[zL,List.mem_append,List.mem_singleton]
theorem Qx.nat(h:Qx g x):∃(m d:Nat) (p:GPr),x / 16=(m:Int)/\x % 16=(d:Int)/\g.prods[m]?=some p/\d<=p.right.length/\nxt g x=(p.right[d]?).getD (-1):=by obtain ⟨h0,p,hp,hd⟩:=h;refine⟨(x / 16).toNat,(x % 16).toNat,p,o_,o_,hp,hd,?_⟩;unfold nxt;rw[hp];rfl
theorem QF(hx:Qx g x)(hpl:g.prods.length<=60)(hrl:∀p∈g.prods,p.right.length<=8):Pure Tryz.prog 118 [g.V,itV x] (.bool true):=by
 refine pure_intro Tryz.func118 nm_ qnS (by show 2<=34;decide) ?_
 show ewp _ qxc _ _;obtain ⟨m,d,p,hm,hd,hp,hl,hn⟩:=hx.nat;have hml:=(List.getElem?_eq_some_iff.1 hp).1;have hrl:=hrl p (List.mem_of_getElem? hp);have hV:itV x=.agg [vi m,vi d]:=by rw[<- hm,<- hd]
 rw[hV];obtain ⟨pl,pr,pc,pco,pa,pat⟩:=p;dsimp only at hl hrl;repeat' with_reducible first|refine s_ ?_|simp -implicitDefEqProofs only[wZZ,seval]|(first|apply qA|apply qB)<;>intro h h_<;>(try simp only[wD,reduceCtorEq]at h_)<;>(try exact wb_)<;>(try simp only[h])|refine t_ ?_
 all_goals refine qz rfl (Or.inr rfl) ?_
 all_goals(try simp -implicitDefEqProofs only[wL,seval])
 all_goals refine er_ ?_
 all_goals(try(with_reducible rfl))
 all_goals exact decide_eq_true o_
theorem yC(hx:Qx g x)(hpl:g.prods.length<=60)(hrl:∀p∈g.prods,p.right.length<=8):Pure Tryz.prog 85 [g.V,itV x] (vi (nxt g x)):=by
 refine pure_intro Tryz.func85 nm_ qsm (by show 2<=33;decide) ?_
 show ewp _ qyo _ _;have hit:=QF hx hpl hrl;obtain ⟨m,d,p,hm,hd,hp,hl,hn⟩:=hx.nat;have hml:=(List.getElem?_eq_some_iff.1 hp).1;have hrl:=hrl p (List.mem_of_getElem? hp);have hV:itV x=.agg [vi m,vi d]:=by rw[<- hm,<- hd]
 rw[hV]at hit;rw[hV,hn];obtain ⟨pl,pr,pc,pco,pa,pat⟩:=p;dsimp only at hl hrl ⊢;by_cases hdl:d<pr.length
 . have hgd:pr[d]?=some pr[d]:=ge_ hdl;rw[hgd,Option.getD_some];generalize pr[d]=sy at *;repeat' with_reducible first|refine s_ ?_|simp -implicitDefEqProofs only[wZZ,seval]|apply qa<;>intro h h_<;>(try simp only[wD,reduceCtorEq]at h_)<;>(try exact wb_)<;>(try simp only[h])|refine t_ ?_|refine cq2 hit qd qd ?_
   all_goals refine qz rfl (Or.inr rfl) ?_
   all_goals(try simp -implicitDefEqProofs only[wL,seval])
   all_goals refine er_ ?_
   all_goals(try(with_reducible rfl))
 . rw[List.getElem?_eq_none o_,Option.getD_none];repeat' with_reducible first|refine s_ ?_|simp -implicitDefEqProofs only[wZZ,seval]|apply qa<;>intro h h_<;>(try simp only[wD,reduceCtorEq]at h_)<;>(try exact wb_)<;>(try simp only[h])|refine t_ ?_|refine cq2 hit qd qd ?_
   all_goals refine qz rfl (Or.inr rfl) ?_
   all_goals(try simp -implicitDefEqProofs only[wL,seval])
   all_goals refine er_ ?_
   all_goals(try(with_reducible rfl))
theorem Xr(hx:∀x∈l,Qx g x)(hr:jq l)(hl:l.length<=1000000)(hpl:g.prods.length<=60)(hrl:∀p∈g.prods,p.right.length<=8):Pure Tryz.prog 116 [g.V,.sl 2 false (l.map itV)] (.sl 2 false (l.map itV)):=by
 refine pure_intro Tryz.func116 nm_ qpf (by show 2<=26;decide) ?_
 show ewp _ qmQ _ _;repeat' with_reducible first|refine s_ ?_|simp -implicitDefEqProofs only[wZZ,seval]|refine t_ ?_
 refine qb ?nx1 (λ(i:Nat) s=>s.f 1=?v1_1/\s.f 2=?v1_2/\s.H 0=some (.own 5 [g.V] false)/\(∃c,s.f 5=.sl 2 c ((l.take i).map itV))/\s.f 6=vi i/\(i<=l.length)) (λi=>l.length - i) (0) wj_ (by refine⟨?_,?_,?_,?_,?_,wo_⟩<;>first|(simp -implicitDefEqProofs only[wL,wM,wN,wX,seval,Option.some.injEq]<;>exact wt_)|rfl|exact⟨_,rfl⟩) ?_;intro i s hnx ⟨g1,g2,o0,⟨c5,g5⟩,g6,k1_0⟩;have hz:=w1_ i;by_cases hi:i<l.length
 . have hgi:l[i]?=some l[i]:=ge_ hi;have htk:l.take (i+1)=l.take i++[l[i]]:=(by rw[List.take_add_one,hgi];rfl);have hit:=QF (hx _ (List.getElem_mem hi)) hpl hrl;have hput:=vG (l:=l.take i) (x:=l[i]) (by rw[List.length_take];omega);rw[qbE (by rw[<- htk];exact hr.sublist (List.take_sublist _ _)),<- htk]at hput;generalize l[i]=x at *;repeat' with_reducible first|refine s_ ?_|simp -implicitDefEqProofs only[wZZ,seval,g1,g2,g5,g6,o0,hz]|apply qa<;>intro h h_<;>(try simp only[wD,reduceCtorEq]at h_)<;>(try exact wb_)<;>(try simp only[h])|refine t_ ?_|refine cq2 hit qd qd ?_|refine cq2 hput yN qd ?_
   refine⟨wk_,i+1,o_,?_⟩;refine⟨?_,?_,?_,?_,?_,?_⟩;iterate 5 (focus(first|(simp -implicitDefEqProofs only[wL,wM,wN,wX,seval,Option.some.injEq,g1,g2,g5,g6,o0]<;>exact wt_)|rfl|exact⟨_,rfl⟩))
   all_goals try omega
 . have e:l.take i=l:=List.take_of_length_le o_;rw[e]at g5;repeat' with_reducible first|refine s_ ?_|simp -implicitDefEqProofs only[wZZ,seval,g1,g2,g5,g6,o0,hz]|apply qa<;>intro h h_<;>(try simp only[wD,reduceCtorEq]at h_)<;>(try exact wb_)<;>(try simp only[h])
   all_goals refine qz rfl (Or.inr rfl) ?_
   all_goals(try simp -implicitDefEqProofs only[wL,seval,g1,g2,g5,g6])
   all_goals refine er_ ?_
   all_goals(try(with_reducible rfl))

structure ClM(g:Grammar)(l c:List Int):Prop where
 rise:jq c
 has:∀x∈l,x∈c
 least:∀D,qwo g l D->∀x∈c,D x
 ok:∀x∈c,Qx g x
variable {c:List Int}
theorem ClM.len(h:ClM g l c)(hpl:g.prods.length<=60):c.length<=960:=
 xY (a:=0) h.rise λx hx=>by obtain ⟨h0,p,hp,_⟩:=h.ok x hx;have:=(List.getElem?_eq_some_iff.1 hp).1;omega
theorem ClM.put(h:ClM g l c){m:Nat}{p:GPr}(hy:y∈c)(hp:g.prods[m]?=some p)(h1:1000<=nxt g y)(h2:p.left=nxt g y - 1000):ClM g l (xw c (16 *(m:Int))):=by
 refine⟨jU h.rise,λx hx=>zL.2 (Or.inl (h.has x hx)),λD hD x hx=>?_,λx hx=>?_⟩
 . rcases zL.1 hx with hx|rfl
   . exact h.least D hD x hx
   . exact hD.2 y (h.least D hD y hy) m p hp h1 h2
 . rcases zL.1 hx with hx|rfl
   . exact h.ok x hx
   . exact qd8 hp
def qsg(g:Grammar)(y:Int)(c:List Int):Prop:= ∀(m:Nat) p,g.prods[m]?=some p->1000<=nxt g y->p.left=nxt g y - 1000->16 *(m:Int)∈c
theorem ClM.done(h:ClM g l c)(hc:∀y∈c,qsg g y c):IsCl g l c:=
 ⟨h.rise,⟨h.has,λx hx m p hp h1 h2=>hc x hx m p hp h1 h2⟩,h.least⟩
theorem qhp(hg:GOk g)(hx:Qx g x): -1<=nxt g x/\nxt g x<2000:=by
 obtain ⟨m,d,p,_,_,hp,_,hn⟩:=hx.nat;rw[hn];cases h:p.right[d]? with
 |none=>simp
 | some s=>
   have h1:=hg.tk2;have h2:=hg.nn2;rcases hg.right p (List.mem_of_getElem? hp) s (List.mem_of_getElem? h)with ⟨t,rfl,ht⟩|⟨k,rfl,hk⟩<;>simp<;>omega
theorem Qt(hx:∀x∈l,Qx g x)(hr:jq l)(hl:l.length<=1000000)(hg:GOk g):Pure Tryz.prog 84 [g.V,.sl 2 false (l.map itV)] (.sl 2 false ((qK g l).map itV)):=by
 refine pure_intro Tryz.func84 nm_ qsE (by show 2<=59;decide) ?_
 show ewp _ qsa _ _;have hpl:=hg.pl2;have hrl:=hg.rlen;have hri:=Xr hx hr hl hpl hrl;repeat' with_reducible first|refine s_ ?_|simp -implicitDefEqProofs only[wZZ,seval]|refine cq2 hri qd qd ?_|refine t_ ?_
 refine qb ?nx1 (λ(q:List Int×Int) s=>s.f 2=?v1_2/\s.H 0=some (.own 5 [g.V] false)/\s.f 5=.sl 2 false (q.1.map itV)/\s.f 6=vi q.2/\(ClM g l q.1)/\((q.2=(q.1.length:Int)->∀y∈q.1,qsg g y q.1))) (λq=>2 *(961 - q.1.length)+(if q.2=(q.1.length:Int)then 0 else 1)) ((l,-1)) wj_ (by refine⟨?_,?_,?_,?_,(by exact⟨hr,λ_ h=>h,λD hD=>hD.1,hx⟩),(by intro e;omega)⟩<;>first|(simp -implicitDefEqProofs only[wL,wM,wN,wX,seval,Option.some.injEq]<;>exact wt_)|rfl|exact⟨_,rfl⟩) ?_;intro q s hnx ⟨g2,o0,g5,g6,k1_0,k1_1⟩;obtain ⟨c,n⟩:=q;dsimp only at *;have hcl:=k1_0.len hpl;by_cases hn:n=(c.length:Int)
 . have hd:=(k1_0.done (k1_1 hn)).uniq (qb2 hpl hrl hx hr);rw[<- hd];subst hn;repeat' with_reducible first|refine s_ ?_|simp -implicitDefEqProofs only[wZZ,seval,g2,g5,g6,o0]
   all_goals refine qz rfl (Or.inr rfl) ?_
   all_goals(try simp -implicitDefEqProofs only[wL,seval,g2,g5,g6])
   all_goals refine er_ ?_
   all_goals(try(with_reducible rfl))
 . repeat' with_reducible first|refine s_ ?_|simp -implicitDefEqProofs only[wZZ,seval,g2,g5,g6,o0]|apply qa<;>intro h h_<;>(try simp only[wD,reduceCtorEq]at h_)<;>(try exact wb_)<;>(try simp only[h])|simp -implicitDefEqProofs (disch:=omega) only[w64,if_neg]
   refine qb ?nx2 (λ(i:Nat) s=>s.f 2=?v2_2/\s.f 6=?v2_6/\s.H 0=some (.own 5 [g.V] false)/\s.f 7=vi i/\(i<=c.length)/\((∀y∈c.take i,qsg g y c))/\(s.f 5=.sl 2 false (c.map itV))) (λi=>c.length - i) (0) wj_ (by refine⟨?_,?_,?_,?_,wo_,(by intro y hy;simp at hy),(by(try simp -implicitDefEqProofs only[wL,wM,wN,seval,g2,g5,g6,o0]);first|done|rfl)⟩<;>first|(simp -implicitDefEqProofs only[wL,wM,wN,wX,seval,Option.some.injEq,g2,g5,g6,o0]<;>exact wt_)|rfl|exact⟨_,rfl⟩) ?_;intro i s hnx ⟨g2,g6,o0,g7,k2_0,k2_1,g5⟩;have hz:=w1_ i;by_cases hi:i<c.length
   . have hgi:c[i]?=some c[i]:=ge_ hi;have hyc:=List.getElem_mem hi;have htk:c.take (i+1)=c.take i++[c[i]]:=(by rw[List.take_add_one,hgi];rfl);have hok:=k1_0.ok _ hyc;have hnx:=yC hok hpl hrl;have hbd:=qhp hg hok;generalize c[i]=y at *;generalize hs:nxt g y=sy at *;repeat' with_reducible first|refine s_ ?_|simp -implicitDefEqProofs only[wZZ,seval,g2,g6,g7,g5,o0,hz]|apply qa<;>intro h h_<;>(try simp only[wD,reduceCtorEq]at h_)<;>(try exact wb_)<;>(try simp only[h])|refine t_ ?_|refine cq2 hnx qd qd ?_
     refine qb ?nx3 (λ(r:Nat×List Int) s=>s.f 2=?v3_2/\s.f 6=?v3_6/\s.f 7=?v3_7/\s.f 8=?v3_8/\s.H 0=some (.own 5 [g.V] false)/\s.f 9=vi r.1/\(r.1<=g.prods.length)/\(ClM g l r.2)/\((∀x∈c,x∈r.2))/\((∀(m:Nat) p,m<r.1->g.prods[m]?=some p->1000<=sy->p.left=sy - 1000->16 *(m:Int)∈r.2))/\(s.f 5=.sl 2 false (r.2.map itV))) (λr=>g.prods.length - r.1) ((0,c)) wj_ (by refine⟨?_,?_,?_,?_,?_,?_,wo_,(by exact k1_0),(by exact λ_ h=>h),(by intro m p h;exact absurd h (Nat.not_lt_zero m)),(by(try simp -implicitDefEqProofs only[wL,wM,wN,seval,g2,g6,g7,g5,o0]);first|done|rfl)⟩<;>first|(simp -implicitDefEqProofs only[wL,wM,wN,wX,seval,Option.some.injEq,g2,g6,g7,g5,o0]<;>exact wt_)|rfl|exact⟨_,rfl⟩) ?_;intro r s hnx ⟨g2,g6,g7,g8,o0,g9,k3_0,k3_1,k3_2,k3_3,g5⟩;obtain ⟨j,o⟩:=r;dsimp only at *;have hol:=k3_1.len hpl;have hzj:=w1_ j;have hzs:IntKind.i64.wrap (sy - 1000)=sy - 1000:=wrap64 o_ o_;by_cases hj:j<g.prods.length/\1000<=sy
     . obtain ⟨hj1,hj2⟩:=hj;have hgj:g.prods[j]?=some g.prods[j]:=ge_ hj1;obtain ⟨lf,hl1,hl2⟩:=hg.left _ (List.getElem_mem hj1);generalize g.prods[j]=p at *;have hput:=vG (l:=o) (x:=16 *(j:Int)) o_;have hkv:itV (16 *(j:Int))=.agg [vi j,vi 0]:=by
        show V.agg [vi (16 *(j:Int) / 16),vi (16 *(j:Int) % 16)]=_;rw[show 16 *(j:Int) / 16=(j:Int) by omega,show 16 *(j:Int) % 16=0 by omega]
       rw[hkv]at hput;obtain ⟨pl,pr,pc,pco,pa,pat⟩:=p;dsimp only at hl1;by_cases he:pl=sy - 1000
       . have hnew:=k3_1.put (y:=y) (k3_2 y hyc) hgj o_ (by rw[hs];exact he);subst hl1;repeat' with_reducible first|refine s_ ?_|simp -implicitDefEqProofs only[wZZ,seval,g2,g6,g7,g8,g9,g5,o0,hz,hzj,hzs]|(first|apply qa|apply qA|apply qB)<;>intro h h_<;>(try simp only[wD,reduceCtorEq]at h_)<;>(try exact wb_)<;>(try simp only[h])|refine t_ ?_|refine cq2 hput qd qd ?_
         refine⟨wg_,(j+1,xw o (16 *(j:Int))),d_,?_⟩;(repeat refine⟨True.intro,?_⟩);refine⟨rfl,d_,hnew,λx hx=>zL.2 (Or.inl (k3_2 x hx)),λm p hm hp h1 h2=>?_,rfl⟩;dsimp only at hm ⊢;by_cases e:m=j
         . subst e;exact zL.2 (Or.inr rfl)
         . exact zL.2 (Or.inl (k3_3 m p o_ hp h1 h2))
       . have hnn:∀(m:Nat) p,m<j+1->g.prods[m]?=some p->1000<=sy->p.left=sy - 1000->16 *(m:Int)∈o:=λm p hm hp h1 h2=>by
          by_cases e:m=j
          . subst e;rw[hgj]at hp;cases hp;exact absurd h2 he
          . exact k3_3 m p o_ hp h1 h2
         subst hl1;repeat' with_reducible first|refine s_ ?_|simp -implicitDefEqProofs only[wZZ,seval,g2,g6,g7,g8,g9,g5,o0,hz,hzj,hzs]|(first|apply qa|apply qA|apply qB)<;>intro h h_<;>(try simp only[wD,reduceCtorEq]at h_)<;>(try exact wb_)<;>(try simp only[h])|refine t_ ?_
         refine⟨wg_,(j+1,o),d_,?_⟩;(repeat refine⟨True.intro,?_⟩);exact⟨rfl,d_,k3_1,k3_2,hnn,rfl⟩
     . have hat:qsg g y o:=λm p hp h1 h2=>by
        rw[hs]at h1 h2;have:=(List.getElem?_eq_some_iff.1 hp).1;exact k3_3 m p o_ hp h1 h2
       by_cases hlen:o.length=c.length
       . have hoc:c=o:=JS k1_0.rise k3_1.rise k3_2 o_;subst hoc;have hnn:∀z∈c.take (i+1),qsg g z c:=λz hz=>by
          rw[htk]at hz;rcases List.mem_append.1 hz with hz|hz
          . exact k2_1 z hz
          . rw[List.mem_singleton]at hz;subst hz;exact hat
         repeat' with_reducible first|refine s_ ?_|simp -implicitDefEqProofs only[wZZ,seval,g2,g6,g7,g8,g9,g5,o0,hz]|(first|apply qa|apply qA|apply qB)<;>intro h h_<;>(try simp only[wD,reduceCtorEq]at h_)<;>(try exact wb_)<;>(try simp only[h])|refine t_ ?_
         all_goals refine⟨wg_,i+1,o_,?_⟩;(repeat refine⟨True.intro,?_⟩)
         all_goals exact⟨rfl,o_,hnn,trivial⟩
       . have hle:c.length<=o.length:=by
          have:∀(a b:List Int),jq a->(∀x∈a,x∈b)->jq b->a.length<=b.length:=λa b ha hb hr=>by
           by_cases h:b.length<=a.length
           . rw[JS ha hr hb h];exact Nat.le_refl _
           . omega
          exact this c o k1_0.rise k3_2 k3_1.rise
         repeat' with_reducible first|refine s_ ?_|simp -implicitDefEqProofs only[wZZ,seval,g2,g6,g7,g8,g9,g5,o0,hz]|(first|apply qa|apply qA|apply qB)<;>intro h h_<;>(try simp only[wD,reduceCtorEq]at h_)<;>(try exact wb_)<;>(try simp only[h])|refine t_ ?_
         all_goals refine⟨wg_,(o,(c.length:Int)),by dsimp only;rw[if_neg o_];omega,?_⟩;(repeat refine⟨True.intro,?_⟩)
         all_goals exact⟨rfl,rfl,k3_1,λe=>by dsimp only at e;omega⟩
   . have hcc:c.take i=c:=List.take_of_length_le o_;rw[hcc]at k2_1
     skip
     repeat' with_reducible first|refine s_ ?_|simp -implicitDefEqProofs only[wZZ,seval,g2,g6,g7,g5,o0,hz]|apply qa<;>intro h h_<;>(try simp only[wD,reduceCtorEq]at h_)<;>(try exact wb_)<;>(try simp only[h])
     refine⟨wg_,(c,(c.length:Int)),by dsimp only;rw[if_pos rfl];omega,?_⟩;(repeat refine⟨True.intro,?_⟩);exact⟨rfl,rfl,k1_0,λ_=>k2_1⟩

theorem qeh(hx:Qx g x)(hpl:g.prods.length<=60)(hrl:∀p∈g.prods,p.right.length<=8):Pure Tryz.prog 106 [g.V,itV x] (.bool true):=by
 refine pure_intro Tryz.func106 nm_ qmO (by show 2<=34;decide) ?_
 show ewp _ quh _ _;obtain ⟨m,d,p,hm,hd,hp,hl,hn⟩:=hx.nat;have hml:=(List.getElem?_eq_some_iff.1 hp).1;have hrl:=hrl p (List.mem_of_getElem? hp);have hV:itV x=.agg [vi m,vi d]:=by rw[<- hm,<- hd]
 rw[hV];obtain ⟨pl,pr,pc,pco,pa,pat⟩:=p;dsimp only at hl hrl;repeat' with_reducible first|refine s_ ?_|simp -implicitDefEqProofs only[wZZ,seval]|(first|apply qA|apply qB)<;>intro h h_<;>(try simp only[wD,reduceCtorEq]at h_)<;>(try exact wb_)<;>(try simp only[h])|refine t_ ?_
 all_goals refine qz rfl (Or.inr rfl) ?_
 all_goals(try simp -implicitDefEqProofs only[wL,seval])
 all_goals refine er_ ?_
 all_goals(try(with_reducible rfl))
 all_goals exact decide_eq_true o_
theorem KS(hx:Qx g x)(hpl:g.prods.length<=60)(hrl:∀p∈g.prods,p.right.length<=8):Pure Tryz.prog 107 [g.V,itV x] (vi (nxt g x)):=by
 refine pure_intro Tryz.func107 nm_ qob (by show 2<=33;decide) ?_
 show ewp _ qv0 _ _;have hit:=qeh hx hpl hrl;obtain ⟨m,d,p,hm,hd,hp,hl,hn⟩:=hx.nat;have hml:=(List.getElem?_eq_some_iff.1 hp).1;have hrl:=hrl p (List.mem_of_getElem? hp);have hV:itV x=.agg [vi m,vi d]:=by rw[<- hm,<- hd]
 rw[hV]at hit;rw[hV,hn];obtain ⟨pl,pr,pc,pco,pa,pat⟩:=p;dsimp only at hl hrl ⊢;by_cases hdl:d<pr.length
 . have hgd:pr[d]?=some pr[d]:=ge_ hdl;rw[hgd,Option.getD_some];generalize pr[d]=sy at *;repeat' with_reducible first|refine s_ ?_|simp -implicitDefEqProofs only[wZZ,seval]|apply qa<;>intro h h_<;>(try simp only[wD,reduceCtorEq]at h_)<;>(try exact wb_)<;>(try simp only[h])|refine t_ ?_|refine cq2 hit qd qd ?_
   all_goals refine qz rfl (Or.inr rfl) ?_
   all_goals(try simp -implicitDefEqProofs only[wL,seval])
   all_goals refine er_ ?_
   all_goals(try(with_reducible rfl))
 . rw[List.getElem?_eq_none o_,Option.getD_none];repeat' with_reducible first|refine s_ ?_|simp -implicitDefEqProofs only[wZZ,seval]|apply qa<;>intro h h_<;>(try simp only[wD,reduceCtorEq]at h_)<;>(try exact wb_)<;>(try simp only[h])|refine t_ ?_|refine cq2 hit qd qd ?_
   all_goals refine qz rfl (Or.inr rfl) ?_
   all_goals(try simp -implicitDefEqProofs only[wL,seval])
   all_goals refine er_ ?_
   all_goals(try(with_reducible rfl))
end Go.Proofs
