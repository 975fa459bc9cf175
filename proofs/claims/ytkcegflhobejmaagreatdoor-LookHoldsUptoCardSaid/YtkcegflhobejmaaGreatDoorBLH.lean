import Derived.Test.YtkcegflhobejmaaGreatDoorBLS
import Derived.Test.YtkcegflhobejmaaGreatDoorBTR
set_option maxRecDepth 20000
set_option linter.all false
set_option maxHeartbeats 4000000
namespace Go.Proofs
open Go.E
def qqS(m:List Sta):Prop:= ∀t:Nat,0<t->t<m.length->∃j,j<t/\∃q s,m[j]?=some q/\(s,(t:Int))∈q.mov
variable {i j:Nat} {s t:Int}
theorem Xw{m:List Sta}{q:Sta}(h:m[j]?=some q):∃q',(zC m i s t)[j]?=some q'/\(∀p∈q.mov,p∈q'.mov)/\(i=j->(s,t)∈q'.mov):=by
 unfold zC;rw[List.getElem?_modify,h];by_cases e:i=j
 . exact⟨{q with mov:=q.mov++[(s,t)]},by simp[e],λp hp=>List.mem_append_left _ hp,λ_=>by simp⟩
 . exact⟨q,by simp[e],λp hp=>hp,λh=>absurd h e⟩
theorem KM{m:List Sta}:(zC m i s t).length=m.length:=by unfold zC;rw[List.length_modify]
theorem qqS.add{m:List Sta}(h:qqS m):qqS (zC m i s t):=λt' h0 h1=>by rw[KM]at h1;obtain ⟨j,hj,q,s',hq,hm⟩:=h t' h0 h1;obtain ⟨q',h2,h3,_⟩:=Xw (i:=i) (s:=s) (t:=t) hq;exact⟨j,hj,q',s',h2,h3 _ hm⟩
theorem qqS.new{m:List Sta}{o:List Int}(h:qqS m)(hi:i<m.length):qqS (zC (m++[⟨o,[]⟩]) i s m.length):=λt' h0 h1=>by
 rw[KM,List.length_append,List.length_singleton]at h1;by_cases e:t'=m.length
 . subst e;obtain ⟨q',h2,_,h4⟩:=Xw (i:=i) (s:=s) (t:=m.length) (m:=m++[⟨o,[]⟩]) (j:=i) (q:=m[i]) (by rw[List.getElem?_append_left hi];exact ge_ hi);exact⟨i,hi,q',s,h2,h4 rfl⟩
 . obtain ⟨j,hj,q,s',hq,hm⟩:=h t' h0 o_;obtain ⟨q',h2,h3,_⟩:=Xw (i:=i) (s:=s) (t:=m.length) (m:=m++[⟨o,[]⟩]) (j:=j) (q:=q) (by rw[List.getElem?_append_left o_];exact hq);exact⟨j,hj,q',s',h2,h3 _ hm⟩
inductive Drv(g:Grammar):List Int->Bool->Prop
 |nil:Drv g [] false
 |tok {t:Int} {l:List Int} {b:Bool}:t<1000->Drv g l b->Drv g (t::l) true
 |non {p:GPr} {l:List Int} {b c:Bool}:p∈g.prods->Drv g p.right b->Drv g l c->Drv g ((1000+p.left)::l) (b || c)
variable {g:Grammar} {l:List Int}
theorem Drv.empty{E:Nat->Bool}(hg:GOk g)(hE:IsGrow g false E){b:Bool}(h:Drv g l b):b=false->zl false E l=true:=by
 induction h with
 |nil=>intro _;rfl
 |tok _ _ _=>intro h;cases h
 | non hp h1 h2 ih1 ih2=>
   intro h;rw[Bool.or_eq_false_iff]at h;obtain ⟨k,hk,_⟩:=hg.left _ hp;have e1:=hE.closed _ hp (ih1 h.1);have e2:=ih2 h.2;unfold zl at e2 ⊢;rw[List.all_cons,Bool.and_eq_true];refine⟨?_,e2⟩;rw[if_neg o_,show ∀x:Int,1000+x - 1000=x from λx=>o_];exact e1
def qxU(g:Grammar):Prop:= ∀k:Nat,k<g.nons.length->∃p∈g.prods,p.left=(k:Int)/\∃b,Drv g p.right b
theorem qxU.all{g:Grammar}(hg:GOk g)(h:qxU g):∀l:List Int,(∀s∈l,vW g.toks.length g.nons.length s)->∃b,Drv g l b
 |[],_=>⟨false,.nil⟩
 | s ::l,hl=>by
   obtain ⟨b,hb⟩:=qxU.all hg h l λx hx=>hl x (List.mem_cons_of_mem _ hx);have htk:=hg.tk2;rcases hl s (by simp)with ⟨t,e,ht⟩|⟨k,e,hk⟩
   . exact⟨true,.tok o_ hb⟩
   . obtain ⟨p,hp,hl,c,hc⟩:=h k hk;rw[e,<- hl];exact⟨_,.non hp hc hb⟩
variable {n d:Nat} {p:GPr}
theorem qhy(hg:GOk g)(hp:g.prods[n]?=some p)(hd:d<=p.right.length):nxt g (16 *(n:Int)+(d:Int))=(p.right[d]?).getD (-1):=by have hr:=hg.rlen p (List.mem_of_getElem? hp);obtain ⟨e1,e2⟩:=qiN n d o_;unfold nxt;rw[e1,e2,Int.toNat_natCast,Int.toNat_natCast,hp,Option.bind_some]
theorem qrR(hg:GOk g)(hp:p∈g.prods)(hs:s∈p.right):0<=s:=qeX (hg.right p hp s hs)
theorem qan{m:List Sta}(hg:GOk g)(hM:MOk g m)(hG:MGo g m){q:Nat}(hq:q<m.length)(hp:g.prods[n]?=some p)(hd:p.right[d]?=some s)(hx:16 *(n:Int)+(d:Int)∈qK g (za m q)):
 ∃t:Nat,goS m q s=t/\t<m.length/\16 *(n:Int)+((d+1:Nat):Int)∈qK g (za m t)/\16 *(n:Int)+((d+1:Nat):Int)∈za m t/\(s,(t:Int))∈jB m q:=by
 have hdl:=(List.getElem?_eq_some_iff.1 hd).1;have hn:nxt g (16 *(n:Int)+(d:Int))=s:=by rw[qhy hg hp o_,hd];rfl
 have h0:0<=s:=qrR hg (List.mem_of_getElem? hp) (List.mem_of_getElem? hd);obtain ⟨t,h1,h2,h3⟩:=hG.go hg hM hq hx o_;have h4:=qgt hx o_;rw[<- h3,show 16 *(n:Int)+(d:Int)+1=16 *(n:Int)+((d+1:Nat):Int) by omega]at h4;have e:m[t]?=some m[t]:=ge_ h2;have hcl:=(zK hg (hM.ki _ (List.getElem_mem h2)) (hM.kr _ (List.getElem_mem h2))).1;refine⟨t,by rw[<- hn];exact h1,h2,?_,h4,?_⟩
 . rw[xA e]at h4 ⊢;exact hcl.clo.1 _ h4
 . have eq:m[q]?=some m[q]:=ge_ hq;rw[xA eq]at hx;obtain ⟨t',ht'⟩:=hG.com m[q] (List.getElem_mem hq) s (qei (by rw[<- hn];exact qgO hg o_)) (QK.2 ⟨_,hx,hn,h0⟩);have hgo:goS m q s=goL m[q].mov s:=by
    unfold goS;rw[if_neg o_,Int.toNat_natCast,eq]
   have h5:=qdE ht';unfold jB;rw[Int.toNat_natCast,eq]
   show (s,(t:Int))∈m[q].mov;rw[<- hn]at h5 hgo;rw[hgo]at h1;rw[h1]at h5;rw[<- hn];exact h5
variable {k:Nat}
theorem qo3{m:List Sta}(hg:GOk g)(hM:MOk g m){q:Nat}{p':GPr}(hq:q<m.length)(hp:g.prods[n]?=some p)(hd:p.right[d]?=some (1000+p'.left))(hp':g.prods[k]?=some p')(hx:16 *(n:Int)+(d:Int)∈qK g (za m q)):
 16 *(k:Int)+((0:Nat):Int)∈qK g (za m q):=by
 have hdl:=(List.getElem?_eq_some_iff.1 hd).1;have hn:nxt g (16 *(n:Int)+(d:Int))=1000+p'.left:=by rw[qhy hg hp o_,hd];rfl
 obtain ⟨l,hl,_⟩:=hg.left p' (List.mem_of_getElem? hp');have e:m[q]?=some m[q]:=ge_ hq;have hcl:=(zK hg (hM.ki _ (List.getElem_mem hq)) (hM.kr _ (List.getElem_mem hq))).1;rw[xA e]at hx ⊢;have:=hcl.clo.2 _ hx k p' hp' o_ o_;simpa using this
theorem qas{m:List Sta}{q:Nat}(h1:1000<=s)(h:(s,t)∈jB m q):((q:Int),s)∈qh m:=by
 unfold jB at h;rw[Int.toNat_natCast]at h;cases hq:m[q]? with
 |none=>rw[hq]at h;cases h
 |some x=>rw[hq]at h;exact JL hq h1 h

variable {q:Int}
theorem qwP{m:List Sta}(hi:(qh m)[i]?=some (q,s)):(zU m).getD i []=(jB m (goS m q s)).foldl (λl p=>if p.1<1000 then xw l p.1 else l) (if (1:Int)∈za m (goS m q s).toNat then[0]else[]):=by unfold zU;rw[List.getD_eq_getElem?_getD,List.getElem?_map,hi];rfl
variable {x:Int}
theorem KU{m:List Sta}(hi:(qh m)[i]?=some (q,s)):x∈(zU m).getD i []↔x∈(if (1:Int)∈za m (goS m q s).toNat then([0]:List Int)else[])\/ ∃p∈jB m (goS m q s),p.1<1000/\x=p.1:=by rw[qwP hi];have:=(qh5 (λp:Int×Int=>decide (p.1<1000)) (λp=>p.1) (jB m (goS m q s)) (if (1:Int)∈za m (goS m q s).toNat then[0]else[])).1 x;simp only[decide_eq_true_eq]at this;exact this
theorem qnt{E:Nat->Bool}{m:List Sta}{r:Nat}(hi:(qh m)[i]?=some (q,s))(hr:goS m q s=(r:Int)){u:Int}(hk:(1000+(k:Int),u)∈jB m r)(hE:E k=true):XW (qh m) r (1000+(k:Int))∈(jA E m).getD i []:=by
 have e:(jA E m).getD i []=(jB m (goS m q s)).foldl (λl p=>if 1000<=p.1/\E (p.1 - 1000).toNat=true then xw l (XW (qh m) (goS m q s) p.1)else l) []:=by unfold jA;rw[List.getD_eq_getElem?_getD,List.getElem?_map,hi];rfl
 rw[e,hr];have:=(qh5 (λp:Int×Int=>decide (1000<=p.1/\E (p.1 - 1000).toNat=true)) (λp=>XW (qh m) r p.1) (jB m r) []).1 (XW (qh m) r (1000+(k:Int)));simp only[decide_eq_true_eq]at this;refine this.2 (Or.inr ⟨_,hk,⟨d_,?_⟩,rfl⟩);rw[show (1000+(k:Int) - 1000).toNat=k by omega];exact hE
variable {a:Nat}
theorem qfa{N:Nat}{rel out:List (List Int)}(ho:yG out)(hl:out.length=N)(hN:N<=9600){j:Int}(ha:a<N)(hj:j∈rel.getD a [])(hx:x∈(jX 400000 out rel).getD j.toNat []):x∈(jX 400000 out rel).getD a []:=
 qgW (Vi 400000 ho o_) (by rw[(Qd 400000 ho).2];omega) hj hx
theorem Yf{α β:Type}{f:β->α->β}{I P:β->Prop}{a:α}(hI:∀b x,I b->I (f b x))(hP:∀b x,P b->P (f b x))(hh:∀b,I b->P (f b a)):∀(l:List α) (b:β),a∈l->I b->P (l.foldl f b)
 |[],b,h,_=>by cases h
 | x ::l,b,h,hb=>by
   rw[List.foldl_cons];rcases List.mem_cons.1 h with e|h
   . subst e;have key:∀(l:List α) (b:β),P b->P (l.foldl f b):=λl=>by
      induction l with
      |nil=>intro b h;exact h
      |cons x l ih=>intro b h;exact ih _ (hP _ _ h)
     exact key l _ (hh b hb)
   . exact Yf hI hP hh l _ h (hI b x hb)
variable {y:Int}
theorem qkV{out:List (List Int)}(h:y∈out.getD a []):y∈(out.modify j λl=>xw l x).getD a []:=by
 rw[List.getD_eq_getElem?_getD]at h ⊢;rw[List.getElem?_modify];cases ho:out[a]? with
 |none=>rw[ho]at h;cases h
 | some l=>
   rw[ho]at h;by_cases e:j=a
   . simp[e];exact zL.2 (Or.inl h)
   . simp[e];exact h
theorem qn5{out:List (List Int)}(h:j<out.length):x∈(out.modify j λl=>xw l x).getD j []:=by rw[List.getD_eq_getElem?_getD,List.getElem?_modify,ge_ h];simp;exact zL.2 (Or.inr rfl)
theorem KH{E:Nat->Bool}{m:List Sta}{r:List Int}{out:List (List Int)}(h:y∈out.getD a []):y∈(V4 E m i q r out k).getD a []:=by
 unfold V4;dsimp only;split
 . exact qkV h
 . exact h
theorem qb5{E:Nat->Bool}{m:List Sta}{r:List Int}{out:List (List Int)}:(V4 E m i q r out k).length=out.length:=by
 unfold V4;dsimp only;split
 . rw[List.length_modify]
 . rfl
theorem Kw{E:Nat->Bool}{m:List Sta}{t:Int×Int}{out:List (List Int)}(h:y∈out.getD a []):y∈(VX E m i t out p).getD a []:=by
 unfold VX;split
 . exact jk (λo:List (List Int)=>y∈o.getD a []) _ _ _ h λb k _ hb=>KH hb
 . exact h
theorem qcA{E:Nat->Bool}{m:List Sta}{t:Int×Int}{out:List (List Int)}:(VX E m i t out p).length=out.length:=by
 unfold VX;split
 . exact jk (λo:List (List Int)=>o.length=out.length) _ _ _ rfl λb k _ hb=>by rw[qb5];exact hb
 . rfl
theorem qmc{E:Nat->Bool}{m:List Sta}{r:Nat}{q0:Int}(hi:(qh m)[i]?=some (q0,1000+p.left))(hp:p∈g.prods)(hk:p.right[k]?=some s)(hs:1000<=s)(hE:zl false E (p.right.drop (k+1))=true)(hw:zT m q0 (p.right.take k)=(r:Int))(hj:XW (qh m) r s=(j:Int))(hjl:j<(qh m).length):(i:Int)∈(zo g E m).getD j []:=by
 unfold zo;refine Yf (I:=λo:List (List Int)=>o.length=(qh m).length) (P:=λo:List (List Int)=>(i:Int)∈o.getD j []) (a:=i) (λb x hb=>?_) (λb x hb=>?_) (λb hb=>?_) _ _ (List.mem_range.2 (List.getElem?_eq_some_iff.1 hi).1) (by simp)
 . exact jk (λo:List (List Int)=>o.length=(qh m).length) _ _ _ hb λb p _ hb=>by rw[qcA];exact hb
 . exact jk (λo:List (List Int)=>(i:Int)∈o.getD j []) _ _ _ hb λb p _ hb=>Kw hb
 . have hT:(qh m).getD i (0,0)=(q0,1000+p.left):=(by rw[List.getD_eq_getElem?_getD,hi];rfl);rw[hT];refine Yf (I:=λo:List (List Int)=>o.length=(qh m).length) (P:=λo:List (List Int)=>(i:Int)∈o.getD j []) (a:=p) (λb x hb=>by rw[qcA];exact hb) (λb x hb=>Kw hb) (λb hb=>?_) _ _ hp hb;unfold VX;rw[if_pos rfl];have hkl:=(List.getElem?_eq_some_iff.1 hk).1;refine Yf (I:=λo:List (List Int)=>o.length=(qh m).length) (P:=λo:List (List Int)=>(i:Int)∈o.getD j []) (a:=k) (λb x hb=>by rw[qb5];exact hb) (λb x hb=>KH hb) (λb hb=>?_) _ _ (List.mem_range.2 hkl) hb;unfold V4;have hsk:p.right.getD k 0=s:=(by rw[List.getD_eq_getElem?_getD,hk];rfl);dsimp only;rw[hsk,hw,hj,if_pos ⟨hs,hE,o_,o_⟩,Int.toNat_natCast];exact qn5 o_

inductive Drf(g:Grammar):List Int->Option Int->Prop
 |nil:Drf g [] none
 |tok {t:Int} {l:List Int}:t<1000->Drf g (t::l) (some t)
 |hd {p:GPr} {l:List Int} {t:Int}:p∈g.prods->Drf g p.right (some t)->Drf g ((1000+p.left)::l) (some t)
 |tl {p:GPr} {l:List Int} {o:Option Int}:p∈g.prods->Drf g p.right none->Drf g l o->Drf g ((1000+p.left)::l) o
variable {o:Option Int}
theorem Drf.empty{E:Nat->Bool}(hg:GOk g)(hE:IsGrow g false E)(h:Drf g l o):o=none->zl false E l=true:=by
 induction h with
 |nil=>intro _;rfl
 |tok _=>intro h;cases h
 |hd _ _ _=>intro h;cases h
 | tl hp h1 h2 ih1 ih2=>
   intro h;obtain ⟨k,hk,_⟩:=hg.left _ hp;have e1:=hE.closed _ hp (ih1 rfl);have e2:=ih2 h;unfold zl at e2 ⊢;rw[List.all_cons,Bool.and_eq_true];refine⟨?_,e2⟩;rw[if_neg o_,show ∀x:Int,1000+x - 1000=x from λx=>o_];exact e1
theorem qlo{m:List Sta}{E:Nat->Bool}(hg:GOk g)(hM:MOk g m)(hG:MGo g m)(hE:IsGrow g false E)(h:Drf g l o):∀x,o=some x->∀(i q r n d:Nat) (s:Int) (p:GPr),(qh m)[i]?=some ((q:Int),s)->goS m q s=(r:Int)->r<m.length->g.prods[n]?=some p->p.right.drop d=l->16 *(n:Int)+(d:Int)∈qK g (za m r)->
 x∈(jX 400000 (zU m) (jA E m)).getD i []:=by
 have hdo:=JX hM hg;have hdl:=Zc m;have htl:=hM.trans_len;have at0:∀{l:List Int} {d:Nat} {x:Int} {r:List Int},l.drop d=x::r->l[d]?=some x/\l.drop (d+1)=r:=λ{l d x r} h=>by
  have h0:d<l.length:=Classical.byContradiction λhn=>by rw[List.drop_of_length_le o_]at h;cases h
  rw[List.drop_eq_getElem_cons h0]at h;injection h with h1 h2;exact⟨by rw[ge_ h0,h1],h2⟩
 induction h with
 |nil=>intro x h;cases h
 | tok ht=>
   intro x hx i q r n d s p hi hr hrl hp hd hit;cases hx;obtain ⟨h1,_⟩:=at0 hd;obtain ⟨u,_,_,_,_,h5⟩:=qan hg hM hG hrl hp h1 hit;rw[<- hr]at h5;exact kJ 400000 ((KU hi).2 (Or.inr ⟨_,h5,ht,rfl⟩))
 | hd hp' h1 ih1=>
   rename_i p' l t;intro x hx i q r n d s p hi hr hrl hp hd hit;obtain ⟨hd1,_⟩:=at0 hd;obtain ⟨k,hk⟩:=List.getElem?_of_mem hp';exact ih1 x hx i q r k 0 s p' hi hr hrl hk rfl (qo3 hg hM hrl hp hd1 hk hit)
 | tl hp' h1 h2 ih1 ih2=>
   rename_i p' l o;intro x hx i q r n d s p hi hr hrl hp hd hit;obtain ⟨hd1,hd2⟩:=at0 hd;obtain ⟨t,h3,h4,h5,_,h7⟩:=qan hg hM hG hrl hp hd1 hit;obtain ⟨k,hk,_⟩:=hg.left _ hp';have hE1:=hE.closed _ hp' (h1.empty hg hE rfl);have hT:=qas o_ h7;obtain ⟨i',hi',hil⟩:=kW hT;have hig:=Qg hi';have hx2:=ih2 x hx i' r t n (d+1) _ p hig h3 h4 hp hd2 h5;rw[hk]at h7 hi';rw[hk,Int.toNat_natCast]at hE1;have hr2:=qnt hi hr h7 hE1;rw[hi']at hr2;exact qfa hdo hdl htl (j:=(i':Int)) (List.getElem?_eq_some_iff.1 hi).1 hr2 (by rw[Int.toNat_natCast];exact hx2)
theorem qa1{a b:List Int}:(a++b).head?=a.head?.or b.head?:=by cases a<;>rfl
theorem Drf.cat{o1 o2:Option Int}(h1:Drf g [s] o1)(h2:Drf g l o2):Drf g (s::l) (o1.or o2):=by
 cases h1 with
 |tok h=>exact .tok h
 |hd hp h=>exact .hd hp h
 |tl hp h h3=>cases h3;exact .tl hp h h2
theorem qe9{g:Grammar}{L:Nat->Int->Prop}:∀(d:Nat) {s:Int} {i j:Nat} {t:Nd},kK g L d s i j t->Drf g [s] t.yld.head?
 |0,_,_,_,_,h=>h.elim
 | d +1,s,i,j,t,h=>by
   have key:∀(l:List Int) (i b:Nat) (ks:List Nd),Fst (kK g L d) l i b ks->Drf g l (Nd.ylds ks).head?:=by
    intro l
    induction l with
    | nil=>
      rintro i b ks ⟨_,rfl⟩;exact .nil
    | cons x l ih=>
      rintro i b ks ⟨a,k,r,rfl,h1,h2⟩;rw[Nd.ylds,qa1];exact(qe9 d h1).cat (ih _ _ _ h2)
   rcases h with ⟨h1,_,_,rfl⟩|⟨m,p,ks,h1,h2,rfl,h4⟩
   . rw[Nd.yld,if_pos rfl];exact .tok h1
   . have hk:=key _ _ _ _ h4;rw[Nd.yld,if_neg o_,h2];generalize (Nd.ylds ks).head?=o at hk;cases o with
     |none=>exact .tl (List.mem_of_getElem? h1) hk .nil
     |some t=>exact .hd (List.mem_of_getElem? h1) hk
theorem qhf{g:Grammar}{L:Nat->Int->Prop}{d:Nat}:∀(l:List Int) {i b:Nat} {ks:List Nd},Fst (kK g L d) l i b ks->Drf g l (Nd.ylds ks).head?
 |[],i,b,ks,⟨_,e⟩=>by subst e;exact .nil
 | x::l,i,b,ks,⟨a,k,r,e,h1,h2⟩=>by subst e;rw[Nd.ylds,qa1];exact(qe9 d h1).cat (qhf l h2)
theorem ql1{R:Int->Nat->Nat->Nd->Prop}:∀{l:List Int} {i b:Nat} {ks:List Nd},Fst R l i b ks->ks.length=l.length/\∀(k:Nat) (t:Nd),ks[k]?=some t->∃s a c,l[k]?=some s/\R s a c t/\Fst R (l.drop (k+1)) c b (ks.drop (k+1))
 |[],i,b,ks,⟨_,e⟩=>by subst e;exact⟨rfl,λk t h=>by simp at h⟩
 | x ::l,i,b,ks,⟨a,k,r,e,h1,h2⟩=>by
   subst e;obtain ⟨h3,h4⟩:=ql1 h2;refine⟨by simp[h3],λj t h=>?_⟩;cases j with
   | zero=>
     have:k=t:=by simpa using h
     subst this;exact⟨x,i,a,rfl,h1,h2⟩
   | succ j=>
     obtain ⟨s,a',c,e1,e2,e3⟩:=h4 j t (by simpa using h);exact⟨s,a',c,by simpa using e1,e2,e3⟩
theorem Xa{m:List Sta}(h:q<0):∀l,zT m q l=q
 |[]=>rfl
 |s::l=>by show (if q<0 then q else _)=q;rw[if_pos h]
theorem YU{m:List Sta}:∀(a b:List Int) (q:Int),zT m q (a++b)=zT m (zT m q a) b
 |[],b,q=>rfl
 | s ::a,b,q=>by
   by_cases h:q<0
   . rw[Xa h,Xa h,Xa h]
   . show (if q<0 then q else zT m (goS m q s) (a++b))=zT m (if q<0 then q else zT m (goS m q s) a) b;rw[if_neg h,if_neg h];exact YU a b _
def qbZ(m:List Sta)(f:List (List Int))(s:Int)(ahead:List Int)(next:Int):Prop:= ∃q:Nat,zT m 0 ahead=(q:Int)/\q<m.length/\(s<1000\/ ∃i:Nat,(qh m)[i]?=some ((q:Int),s)/\next∈f.getD i [])
variable {ahead:List Int}
theorem qk3{m:List Sta}{E:Nat->Bool}(hg:GOk g)(hM:MOk g m)(hG:MGo g m)(hS:V9 g m)(hE:IsGrow g false E){next:Int}(hp:g.prods[n]?=some p)(h:qbZ m (zJ g E m) (1000+p.left) ahead next)(hk:p.right[k]?=some s)(ho:Drf g (p.right.drop (k+1)) o):qbZ m (zJ g E m) s (ahead++p.right.take k) (o.getD next):=by
 have hdo:=JX hM hg;have hdl:=Zc m;have htl:=hM.trans_len;have hgo:=Qd (rel:=jA E m) 400000 hdo;have hdef:zJ g E m=jX 400000 (jX 400000 (zU m) (jA E m)) (zo g E m):=rfl;rw[hdef]at h ⊢;obtain ⟨q,h1,h2,h3⟩:=h;obtain ⟨lf,hlf,_⟩:=hg.left p (List.mem_of_getElem? hp);obtain ⟨i,hi,hin⟩:=h3.resolve_left o_;have hkl:=(List.getElem?_eq_some_iff.1 hk).1;obtain ⟨r,hr,hrm,hrc⟩:=along hg hM hG hS hp (List.mem_of_getElem? hi) k o_;refine⟨r,by rw[YU,h1];exact hr,hrm,?_⟩;by_cases hs:s<1000
 . exact Or.inl hs
 . right;obtain ⟨t,hgt,htm,hc1,hk1,hmv⟩:=qan hg hM hG hrm hp hk hrc;have hT:=qas o_ hmv;obtain ⟨i',hi',hil⟩:=kW hT;have hig:=Qg hi';refine⟨i',hig,?_⟩;cases ho':o with
   |some x=>exact kJ 400000 (qlo hg hM hG hE ho x ho' i' r t n (k+1) s p hig hgt htm hp rfl hc1)
   | none=>
     have hfe:=ho.empty hg hE ho';have hinc:=qmc hi (List.mem_of_getElem? hp) hk o_ hfe hr hi' hil;exact qfa hgo.1 (hgo.2.trans hdl) htl (j:=(i:Int)) hil hinc (by rw[Int.toNat_natCast];exact hin)
def qbf(q p:Int):List Lk->Option (List Int)
 |[]=>none
 |k::l=>if k.st=q/\k.pr=p then some k.tk else qbf q p l
theorem KD{q p:Int}{T:List Int}:∀{l:List Lk},(∀k∈l,k.st=q->k.pr=p->k.tk=T)->(∃k∈l,k.st=q/\k.pr=p)->qbf q p l=some T
 |[],_,⟨k,h,_⟩=>by cases h
 | k ::l,h,⟨k',h1,h2,h3⟩=>by
   rw[qbf];by_cases e:k.st=q/\k.pr=p
   . rw[if_pos e,h k (by simp) e.1 e.2]
   . rw[if_neg e];refine KD (λx hx=>h x (List.mem_cons_of_mem _ hx)) ⟨k',?_,h2,h3⟩;rcases List.mem_cons.1 h1 with e2|h1
     . subst e2;exact absurd ⟨h2,h3⟩ e
     . exact h1
theorem qqD{m:List Sta}{E:Nat->Bool}(hg:GOk g)(hM:MOk g m)(hG:MGo g m)(hS:V9 g m)(h1000:∀x,nxt g x≠1000){next:Int}(hp:g.prods[n]?=some p)(h:qbZ m (zJ g E m) (1000+p.left) ahead next):
 ∃(q:Nat) (T:List Int),zT m 0 (ahead++p.right)=(q:Int)/\q<m.length/\qbf q n (Vh g E m)=some T/\next∈T/\yK T:=by
 obtain ⟨q,h1,h2,h3⟩:=h;obtain ⟨lf,hlf,_⟩:=hg.left p (List.mem_of_getElem? hp);obtain ⟨i,hi,hin⟩:=h3.resolve_left o_;obtain ⟨r,hr,hrm,hrc⟩:=along hg hM hG hS hp (List.mem_of_getElem? hi) p.right.length (Nat.le_refl _);rw[List.take_of_length_le (Nat.le_refl _)]at hr;have hrl:=hg.rlen p (List.mem_of_getElem? hp);have hn0:n≠0:=λe=>by subst e;obtain ⟨p0,r0,ep,hp0,_⟩:=hg.head;rw[ep]at hp;cases hp;obtain ⟨q',x,e1,hx,_,t,hm⟩:=yB (List.mem_of_getElem? hi);obtain ⟨y,_,hy,_⟩:=QK.1 (hS x (List.mem_of_getElem? hx) _ hm);exact h1000 y (by rw[hy];dsimp only;omega)
 have hpn:(n:Int)∈X6 g (za m r):=by unfold X6;refine List.mem_filterMap.2 ⟨_,hrc,?_⟩;obtain ⟨e1,e2⟩:=qiN n p.right.length o_;have hnx:=qhy (d:=p.right.length) hg hp (Nat.le_refl _);rw[List.getElem?_eq_none (Nat.le_refl _),Option.getD_none]at hnx;rw[e1,hnx,if_pos ⟨o_,rfl⟩]
 obtain ⟨hO,_⟩:=Yy (E:=E) hM hg;refine⟨r,(QL g m r n).foldl (qqu (zJ g E m)) [],by rw[YU,h1];exact hr,hrm,KD (λk hk e1 e2=>?_) ⟨ql2 g m (zJ g E m) r n,?_,rfl,rfl⟩,(Zf _ _).2 (Or.inr ⟨(i:Int),?_,by rw[Int.toNat_natCast];exact hin⟩),qaz hO _ [] QO⟩
 . have hdef:Vh g E m=qen g m (zJ g E m) m.length:=rfl;rw[hdef]at hk;unfold qen at hk;rw[List.mem_flatMap]at hk;obtain ⟨q',_,hk⟩:=hk;obtain ⟨p',_,rfl⟩:=List.mem_map.1 hk;have e3:q'=r:=(by have e1:(q':Int)=(r:Int):=e1;omega);have e4:p'=(n:Int):=e2;subst e3;rw[e4]
 . show _∈qen g m (zJ g E m) m.length;unfold qen;exact List.mem_flatMap.2 ⟨r,List.mem_range.2 hrm,List.mem_map.2 ⟨_,hpn,rfl⟩⟩
 . unfold QL;refine List.mem_map.2 ⟨i,List.mem_filter.2 ⟨List.mem_range.2 (List.getElem?_eq_some_iff.1 hi).1,?_⟩,rfl⟩;rw[Int.toNat_natCast,hp];have hT:(qh m).getD i (0,0)=((q:Int),1000+p.left):=(by rw[List.getD_eq_getElem?_getD,hi];rfl);dsimp only;rw[hT];exact decide_eq_true ⟨rfl,hr⟩
theorem qfp{m:List Sta}{E:Nat->Bool}(hg:GOk g)(hM:MOk g m)(hG:MGo g m)(hk:∃p r,g.prods=p::r/\p.right=[1000+(k:Int)]):qbZ m (zJ g E m) (1000+(k:Int)) [] 0:=by
 have h0:=hG.len;have e0:m[0]?=some m[0]:=ge_ h0;have hk0:m[0].ker=[0]:=by have:=hG.z;rw[e0]at this;simpa using this
 have hcl:=zK hg (hM.ki _ (List.getElem_mem h0)) (hM.kr _ (List.getElem_mem h0));have hx:(0:Int)∈qK g (za m 0):=by rw[xA e0];exact hcl.1.clo.1 0 (by rw[hk0];simp)
 obtain ⟨p,r,ep,hr0⟩:=hk;have hp0:g.prods[0]?=some p:=by rw[ep];rfl
 have hd0:p.right[0]?=some (1000+(k:Int)):=by rw[hr0];rfl
 obtain ⟨t,hgo,htl,_,hk1,hmv⟩:=qan (n:=0) (d:=0) hg hM hG h0 hp0 hd0 (by simpa using hx);have hT:=qas o_ hmv;obtain ⟨i,hi,hil⟩:=kW hT;have hig:=Qg hi;refine⟨0,rfl,h0,Or.inr ⟨i,hig,kJ 400000 (kJ 400000 ((KU hig).2 (Or.inl ?_)))⟩⟩;rw[hgo,Int.toNat_natCast,if_pos (by simpa using hk1)];simp
end Go.Proofs
