import Derived.Test.YtkcegflhobejmaaGreatDoorBJA
set_option maxRecDepth 20000
set_option linter.all false
set_option maxHeartbeats 4000000
namespace Go.Proofs
open Go.E
abbrev qz2:V:= .agg [.str [],.sl 4 true [],.sl 3 true [],.str []]
structure SrcAt(s:St)(x:GrI)(n xb rb sb hb rid:Nat)(dV:V)(vA:Nat->V)(als:Nat->List V)(q:(Nat->List Alt)×(Nat->Bool)):Prop where
 f1:s.f 1=.ptr xb 0 0
 f2:s.f 2=.ptr rb 0 0
 f3:s.f 3=vi n
 f4:s.f 4=.ptr sb 0 0
 f5:s.f 5=.msl hb 1 0 n
 hx:s.H xb=some (.own 5 [x.V] false)
 hr:s.H rb=some (.own 4 [qz2] false)
 hs:s.H sb=some (.own 4 [.agg [.str [],dV,.msl rid 3 0 n,.str []]] false)
 hh:s.H hb=some (.own 1 (QN n q.2) false)
 rw:RW s.H s.next rid n vA als q.1
 o1:xb<rb
 o2:rb<sb
 o3:sb<hb
 o4:hb<rid
theorem SrcAt.mono{s s':St}{x:GrI}{n xb rb sb hb rid:Nat}{dV:V}{vA:Nat->V}{als:Nat->List V}{q:(Nat->List Alt)×(Nat->Bool)}(h:SrcAt s x n xb rb sb hb rid dV vA als q)
(hf:∀t,1<=t->t<=5->s'.f t=s.f t)(hn:s.next<=s'.next)(hH:∀j,j<s.next->s'.H j=s.H j):SrcAt s' x n xb rb sb hb rid dV vA als q:=by
 have:=h.rw.lr;have o1:=h.o1;have o2:=h.o2;have o3:=h.o3;have o4:=h.o4;exact⟨by rw[hf 1 o_ o_];exact h.f1,by rw[hf 2 o_ o_];exact h.f2,by rw[hf 3 o_ o_];exact h.f3,by rw[hf 4 o_ o_];exact h.f4,by rw[hf 5 o_ o_];exact h.f5,
  by rw[hH _ o_];exact h.hx,by rw[hH _ o_];exact h.hr,by rw[hH _ o_];exact h.hs,by rw[hH _ o_];exact h.hh,h.rw.mono hn (hH _ o_) (λk _ j _ hj=>hH j hj),o1,o2,o3,o4⟩

theorem _root_.Go.E.ErL.map{α:Type}{b:Bool}{H:Nat->Option MObj}{f g:α->V}{l:List α}(h:∀x∈l,Er b H (f x) (g x)):ErL b H (l.map f) (l.map g):=by
 induction l with
 |nil=>exact .nil
 |cons a l ih=>exact .cons (h a (by simp)) (ih λx hx=>h x (List.mem_cons_of_mem _ hx))

instance grI_cl(x:GrI):Cl x.V:=⟨λb H=>ErL.agg (.cons (.int _ _) (.cons qd (.cons qd (.cons qd (.cons (.bool _) .nil)))))⟩

theorem Xn{x:Sym}:∀{l:List Tok} {i:Nat},(∀(n:Nat) t,l[n]?=some t-> ¬ (t.name=x.name/\t.lit=x.lit/\i+n≠2))->Qw x l i= -1
 |[],i,_=>rfl
 | t::r,i,h=>by unfold Qw;rw[if_neg (by have:=h 0 t rfl;simpa using this)];exact Xn λn u hu=>by have:=h (n+1) u (by simpa using hu);rwa [show i+1+n=i+(n+1) by omega]
theorem KE{x:Sym}:∀{l:List Tok} {i n:Nat} {t:Tok},l[n]?=some t->t.name=x.name->t.lit=x.lit->i+n≠2->0<=Qw x l i
 |[],i,n,t,h,_,_,_=>by simp at h
 | u ::r,i,n,t,h,h1,h2,h3=>by
   unfold Qw;split
   . omega
   . rename_i hne;cases n with
     |zero=>simp at h;subst h;exact absurd ⟨h1,h2,o_⟩ hne
     |succ n=>exact KE (l:=r) (i:=i+1) (n:=n) (t:=t) (by simpa using h) h1 h2 o_
theorem Kl{n:Int}:∀{l:List Tok} {i:Nat},(∀t∈l,t.num≠n)->qcn n l i= -1
 |[],i,_=>rfl
 | t::r,i,h=>by unfold qcn;rw[if_neg (h t (by simp))];exact Kl λu hu=>h u (List.mem_cons_of_mem _ hu)
abbrev core(t:Tok):List UInt8×Bool×Int:=(t.name,t.lit,t.num)
abbrev qzI(j:Nat):List UInt8×Bool×Int:=((qfW j).name,true,qf5 (qfW j))
abbrev qfM:List (List UInt8×Bool×Int):=[([36,101,110,100],false,0),(qzT,false,-1),([36,117,110,107],false,-1)]
structure LInv(m:Mk)(js:List Nat):Prop where
 e:m.e=0
 toks:m.toks.map core=qfM++js.map qzI
 nd:js.Nodup
 lt:∀j∈js,j<4
variable {j:Nat}
theorem JN(h:j<4):(qfW j).name=[UInt8.ofNat (112+j)]/\qf5 (qfW j)=112+j:=by
 rcases j with _ | _ | _ | _ |j
 . exact⟨rfl,rfl⟩
 . exact⟨rfl,rfl⟩
 . exact⟨rfl,rfl⟩
 . exact⟨rfl,rfl⟩
 . omega
theorem qpn{i:Nat}(hi:i<4)(hj:j<4)(h:(qfW i).name=(qfW j).name):i=j:=by have h1:=(JN hi).1;have h2:=(JN hj).1;rw[h1,h2]at h;simp only[List.cons.injEq,and_true]at h;have:=congrArg UInt8.toNat h;simp at this;omega
variable {js:List Nat}
theorem LInv.get{m:Mk}(h:LInv m js){n:Nat}{t:Tok}(ht:m.toks[n]?=some t):(qfM++js.map qzI)[n]?=some (core t):=by rw[<- h.toks,List.getElem?_map,ht];rfl
theorem LInv.len{m:Mk}(h:LInv m js):m.toks.length=3+js.length:=by have:=congrArg List.length h.toks;simp at this;omega
theorem LInv.tok_in{m:Mk}(h:LInv m js)(hj:j∈js):0<=VN m.toks (qfW j):=by
 obtain ⟨i,hi,he⟩:=List.getElem_of_mem hj;have hl:=h.len;have h3:m.toks[3+i]?=some (m.toks[3+i]' o_):=ge_ o_;have hg:=h.get h3;rw[List.getElem?_append_right (by simp),show 3+i - qfM.length=i by simp,List.getElem?_map,ge_ hi,he]at hg;simp only[Option.map_some,Option.some.injEq,Prod.mk.injEq]at hg;refine KE (n:=2+i) (t:=m.toks[3+i]' o_) ?_ hg.1.symm ?_ o_
 . rw[List.getElem?_drop,show 1+(2+i)=3+i by omega];exact h3
 . rw[<- hg.2.1]
theorem LInv.tok_out{m:Mk}(h:LInv m js)(hj:j ∉ js)(hj4:j<4):VN m.toks (qfW j)= -1:=by
 refine Xn λn t ht=>?_;rw[List.getElem?_drop]at ht;have hg:=h.get ht;rintro ⟨h1,h2,h3⟩
 match n,hg with
 |0,hg=>simp at hg;rw[hg.2.1]at h2;cases h2
 |1,hg=>exact absurd rfl h3
 | n +2,hg=>
   rw[List.getElem?_append_right so_,List.getElem?_map]at hg;cases hq:js[1+(n+2) - qfM.length]? with
   |none=>rw[hq]at hg;cases hg
   | some q=>
     rw[hq]at hg;simp only[Option.map_some,Option.some.injEq,Prod.mk.injEq]at hg;have hqm:=List.mem_of_getElem? hq;have:=qpn (h.lt q hqm) hj4 (hg.1.trans h1);subst this;exact hj hqm
theorem LInv.own{m:Mk}(h:LInv m js)(hj:j ∉ js)(hj4:j<4):qlO m.toks (qf5 (qfW j))= -1:=by
 refine Kl λt ht e=>?_;obtain ⟨n,hn⟩:=List.getElem?_of_mem ht;rw[List.getElem?_drop]at hn;have hg:=h.get hn;rw[List.getElem?_append_right (by simp),List.getElem?_map]at hg;cases hq:js[3+n - qfM.length]? with
 |none=>rw[hq]at hg;cases hg
 | some q=>
   rw[hq]at hg;simp only[Option.map_some,Option.some.injEq,Prod.mk.injEq]at hg;have hqm:=List.mem_of_getElem? hq;have h4:=h.lt q hqm;have:=(JN h4).2;have:=(JN hj4).2
   have:q=j:=o_
   subst this;exact hj hqm
theorem qkr(k:Int):qfW k=qfW ((k % 4).toNat:Nat):=by have h1:=Int.emod_nonneg k (show (4:Int)≠0 by omega);unfold qfW;rw[Int.toNat_of_nonneg h1,Int.emod_emod_of_dvd k (Int.dvd_refl 4)]
theorem LInv.put{m:Mk}(h:LInv m js)(k:Int):∃js',LInv (Jc m (qfW k)).1 js'/\(∀j∈js,j∈js')/\∀j∈js',j∈js\/j=(k % 4).toNat:=by
 have h1:=Int.emod_nonneg k (show (4:Int)≠0 by omega);have h2:=Int.emod_lt_of_pos k (show (0:Int)<4 by omega);rw[qkr k];obtain ⟨j,hj⟩:∃j:Nat,(k % 4).toNat=j:=⟨_,rfl⟩;have hj4:j<4:=o_;rw[hj];unfold Jc;by_cases hm:j∈js
 . rw[if_pos (h.tok_in hm)];exact⟨js,h,λ_ a=>a,λ_ a=>Or.inl a⟩
 . rw[if_neg (by rw[h.tok_out hm hj4];omega)];dsimp only;rw[if_neg (by rw[h.own hm hj4];rintro ⟨_,e⟩;omega)];refine⟨js++[j],⟨h.e,?_,?_,λq hq=>?_⟩,λq hq=>List.mem_append_left _ hq,λq hq=>?_⟩
   . dsimp only;rw[List.map_append,h.toks,List.map_append,List.append_assoc];rfl
   . rw[List.nodup_append];exact⟨h.nd,by simp,λa ha b hb e=>by rw[List.mem_singleton]at hb;subst hb;subst e;exact hm ha⟩
   . rcases List.mem_append.1 hq with hq|hq
     . exact h.lt q hq
     . rw[List.mem_singleton]at hq;subst hq;exact hj4
   . rcases List.mem_append.1 hq with hq|hq
     . exact Or.inl hq
     . rw[List.mem_singleton]at hq;exact Or.inr hq
theorem LInv.non{m:Mk}(h:LInv m js){k:Nat}(hk:k<4):VN m.toks {name:=qzu k}= -1:=by
 refine Xn λn t ht=>?_;rw[List.getElem?_drop]at ht;have hg:=h.get ht;rintro ⟨h1,h2,h3⟩
 match n,hg with
 | 0,hg=>
   simp at hg;rw[<- hg.1]at h1;have:=congrArg List.length h1;simp[qzT]at this
 |1,hg=>exact absurd rfl h3
 | n +2,hg=>
   rw[List.getElem?_append_right so_,List.getElem?_map]at hg;cases hq:js[1+(n+2) - qfM.length]? with
   |none=>rw[hq]at hg;cases hg
   | some q=>
     rw[hq]at hg;simp only[Option.map_some,Option.some.injEq,Prod.mk.injEq]at hg;rw[<- hg.2.1]at h2;cases h2
theorem LInv.level{m:Mk}(h:LInv m js)(n:Int):LInv {m with level:=n} js:=⟨h.e,h.toks,h.nd,h.lt⟩


end Go.Proofs
