import Derived.Test.YtkcegflhobejmaaGreatDoorBLS
set_option maxRecDepth 20000
set_option linter.all false
set_option maxHeartbeats 4000000
namespace Go.Proofs
open Go.E
def qdd(m:List Sta):Prop:= ∀t:Nat,0<t->t<m.length->∃j,j<t/\∃q s,m[j]?=some q/\(s,(t:Int))∈q.mov
theorem Xz{m:List Sta}{i j:Nat}{s t:Int}{q:Sta}(h:m[j]?=some q):∃q',(zx m i s t)[j]?=some q'/\(∀p∈q.mov,p∈q'.mov)/\(i=j->(s,t)∈q'.mov):=by
 unfold zx;rw[List.getElem?_modify,h];by_cases e:i=j
 . exact⟨{q with mov:=q.mov++[(s,t)]},by simp[e],λp hp=>List.mem_append_left _ hp,λ_=>by simp⟩
 . exact⟨q,by simp[e],λp hp=>hp,λh=>absurd h e⟩
theorem Zw{m:List Sta}{i:Nat}{s t:Int}:(zx m i s t).length=m.length:=by unfold zx;rw[List.length_modify]
theorem qdd.add{m:List Sta}{i:Nat}{s t:Int}(h:qdd m):qdd (zx m i s t):=λt' h0 h1=>by rw[Zw]at h1;obtain ⟨j,hj,q,s',hq,hm⟩:=h t' h0 h1;obtain ⟨q',h2,h3,_⟩:=Xz (i:=i) (s:=s) (t:=t) hq;exact⟨j,hj,q',s',h2,h3 _ hm⟩
theorem qdd.new{m:List Sta}{i:Nat}{s:Int}{o:List Int}(h:qdd m)(hi:i<m.length):qdd (zx (m++[⟨o,[]⟩]) i s m.length):=λt' h0 h1=>by
 rw[Zw,List.length_append,List.length_singleton]at h1;by_cases e:t'=m.length
 . subst e;obtain ⟨q',h2,_,h4⟩:=Xz (i:=i) (s:=s) (t:=m.length) (m:=m++[⟨o,[]⟩]) (j:=i) (q:=m[i]) (by rw[List.getElem?_append_left hi];exact ge_ hi);exact⟨i,hi,q',s,h2,h4 rfl⟩
 . obtain ⟨j,hj,q,s',hq,hm⟩:=h t' h0 o_;obtain ⟨q',h2,h3,_⟩:=Xz (i:=i) (s:=s) (t:=m.length) (m:=m++[⟨o,[]⟩]) (j:=j) (q:=q) (by rw[List.getElem?_append_left o_];exact hq);exact⟨j,hj,q',s',h2,h3 _ hm⟩
theorem qiH{g:Grammar}{i:Nat}{A:List Int}{s:Int}{m m':List Sta}(h0:qdd m)(hi:i<m.length)(h:zU g i A (some m) s=some m'):qdd m'/\i<m'.length:=by
 unfold zU at h;simp only[Option.bind_some]at h;split at h
 . split at h
   . split at h
     . cases h
     . cases h;exact⟨h0.new hi,by rw[Zw,List.length_append];omega⟩
   . cases h;exact⟨h0.add,by rw[Zw];exact hi⟩
 . cases h;exact⟨h0,hi⟩
theorem qfl{g:Grammar}{i:Nat}{A:List Int}:∀(r:List Int) (m m':List Sta),qdd m->i<m.length->r.foldl (zU g i A) (some m)=some m'->qdd m'
 |[],m,m',h0,_,h=>by cases h;exact h0
 | s ::r,m,m',h0,hi,h=>by
   rw[List.foldl_cons]at h;cases h1:zU g i A (some m) s with
   |none=>rw[h1,xE]at h;cases h
   | some m1=>
     rw[h1]at h;obtain ⟨a,b⟩:=qiH h0 hi h1;exact qfl r m1 m' a b h
theorem qcn{g:Grammar}:∀(n:Nat) (m:List Sta) (i:Nat) (m':List Sta),qdd m->kX g n m i=some m'->qdd m'
 |0,m,i,m',h0,h=>by cases h;exact h0
 | n + 1,m,i,m',h0,h=>by
   unfold kX at h;by_cases hi:i<m.length
   . rw[if_pos hi]at h;cases h1:(zu g).foldl (zU g i (yA g (qC g (qR m i)))) (some m)with
     |none=>rw[h1]at h;cases h
     | some m1=>
       rw[h1]at h;exact qcn n m1 (i+1) m' (qfl _ m m1 h0 hi h1) h
   . rw[if_neg hi]at h;cases h;exact h0
theorem qk7{g:Grammar}{m:List Sta}(h:Zc g=some m):qdd m:=
 qcn 151 _ 0 m (λt h0 h1=>by simp at h1;omega) h
inductive Drv(g:Grammar):List Int->Bool->Prop
 |nil:Drv g [] false
 |tok {t:Int} {l:List Int} {b:Bool}:t<1000->Drv g l b->Drv g (t::l) true
 |non {p:GPr} {l:List Int} {b c:Bool}:p∈g.prods->Drv g p.right b->Drv g l c->Drv g ((1000+p.left)::l) (b || c)
theorem Drv.empty{g:Grammar}{E:Nat->Bool}(hg:GOk g)(hE:IsGrow g false E){l:List Int}{b:Bool}(h:Drv g l b):b=false->vJ false E l=true:=by
 induction h with
 |nil=>intro _;rfl
 |tok _ _ _=>intro h;cases h
 | non hp h1 h2 ih1 ih2=>
   intro h;rw[Bool.or_eq_false_iff]at h;obtain ⟨k,hk,_⟩:=hg.left _ hp;have e1:=hE.closed _ hp (ih1 h.1);have e2:=ih2 h.2;unfold vJ at e2 ⊢;rw[List.all_cons,Bool.and_eq_true];refine⟨?_,e2⟩;rw[if_neg o_,show ∀x:Int,1000+x - 1000=x from λx=>by omega];exact e1
def qqs(g:Grammar):Prop:= ∀k:Nat,k<g.nons.length->∃p∈g.prods,p.left=(k:Int)/\∃b,Drv g p.right b
theorem qqs.all{g:Grammar}(hg:GOk g)(h:qqs g):∀l:List Int,(∀s∈l,kR g.toks.length g.nons.length s)->∃b,Drv g l b
 |[],_=>⟨false,.nil⟩
 | s ::l,hl=>by
   obtain ⟨b,hb⟩:=qqs.all hg h l λx hx=>hl x (List.mem_cons_of_mem _ hx);have htk:=hg.tk2;rcases hl s (by simp)with ⟨t,e,ht⟩|⟨k,e,hk⟩
   . exact⟨true,.tok o_ hb⟩
   . obtain ⟨p,hp,hl,c,hc⟩:=h k hk;rw[e,<- hl];exact⟨_,.non hp hc hb⟩
theorem qlF{g:Grammar}(hg:GOk g){n d:Nat}{p:GPr}(hp:g.prods[n]?=some p)(hd:d<=p.right.length):nxt g (16 *(n:Int)+(d:Int))=(p.right[d]?).getD (-1):=by have hr:=hg.rlen p (List.mem_of_getElem? hp);obtain ⟨e1,e2⟩:=qle n d o_;unfold nxt;rw[e1,e2,Int.toNat_natCast,Int.toNat_natCast,hp,Option.bind_some]
theorem qlA{g:Grammar}(hg:GOk g){p:GPr}(hp:p∈g.prods){s:Int}(hs:s∈p.right):0<=s:=qek (hg.right p hp s hs)
theorem qc8{g:Grammar}{m:List Sta}(hg:GOk g)(hM:MOk g m)(hG:MGo g m){q n d:Nat}{p:GPr}{s:Int}(hq:q<m.length)(hp:g.prods[n]?=some p)(hd:p.right[d]?=some s)(hx:16 *(n:Int)+(d:Int)∈qC g (qR m q)):
 ∃t:Nat,goS m q s=t/\t<m.length/\16 *(n:Int)+((d+1:Nat):Int)∈qC g (qR m t)/\16 *(n:Int)+((d+1:Nat):Int)∈qR m t/\(s,(t:Int))∈jB m q:=by
 have hdl:=(List.getElem?_eq_some_iff.1 hd).1;have hn:nxt g (16 *(n:Int)+(d:Int))=s:=by rw[qlF hg hp o_,hd];rfl
 have h0:0<=s:=qlA hg (List.mem_of_getElem? hp) (List.mem_of_getElem? hd);obtain ⟨t,h1,h2,h3⟩:=hG.go hg hM hq hx o_;have h4:=qiG hx o_;rw[<- h3,show 16 *(n:Int)+(d:Int)+1=16 *(n:Int)+((d+1:Nat):Int) by omega]at h4;have e:m[t]?=some m[t]:=ge_ h2;have hcl:=(zm hg (hM.ki _ (List.getElem_mem h2)) (hM.kr _ (List.getElem_mem h2))).1;refine⟨t,by rw[<- hn];exact h1,h2,?_,h4,?_⟩
 . rw[jJ e]at h4 ⊢;exact hcl.clo.1 _ h4
 . have eq:m[q]?=some m[q]:=ge_ hq;rw[jJ eq]at hx;obtain ⟨t',ht'⟩:=hG.com m[q] (List.getElem_mem hq) s (qeT (by rw[<- hn];exact qgB hg o_)) (QR.2 ⟨_,hx,hn,h0⟩);have hgo:goS m q s=goL m[q].mov s:=by
    unfold goS;rw[if_neg o_,Int.toNat_natCast,eq]
   have h5:=qaR ht';unfold jB;rw[Int.toNat_natCast,eq]
   show (s,(t:Int))∈m[q].mov;rw[<- hn]at h5 hgo;rw[hgo]at h1;rw[h1]at h5;rw[<- hn];exact h5
theorem qmC{g:Grammar}{m:List Sta}(hg:GOk g)(hM:MOk g m){q n d k:Nat}{p p':GPr}(hq:q<m.length)(hp:g.prods[n]?=some p)(hd:p.right[d]?=some (1000+p'.left))(hp':g.prods[k]?=some p')(hx:16 *(n:Int)+(d:Int)∈qC g (qR m q)):
 16 *(k:Int)+((0:Nat):Int)∈qC g (qR m q):=by
 have hdl:=(List.getElem?_eq_some_iff.1 hd).1;have hn:nxt g (16 *(n:Int)+(d:Int))=1000+p'.left:=by rw[qlF hg hp o_,hd];rfl
 obtain ⟨l,hl,_⟩:=hg.left p' (List.mem_of_getElem? hp');have e:m[q]?=some m[q]:=ge_ hq;have hcl:=(zm hg (hM.ki _ (List.getElem_mem hq)) (hM.kr _ (List.getElem_mem hq))).1;rw[jJ e]at hx ⊢;have:=hcl.clo.2 _ hx k p' hp' o_ o_;simpa using this
theorem qfw{m:List Sta}{q:Nat}{s:Int}{t:Int}(h1:1000<=s)(h:(s,t)∈jB m q):((q:Int),s)∈qh m:=by
 unfold jB at h;rw[Int.toNat_natCast]at h;cases hq:m[q]? with
 |none=>rw[hq]at h;cases h
 |some x=>rw[hq]at h;exact JU hq h1 h

theorem qrG{m:List Sta}{i:Nat}{q s:Int}(hi:(qh m)[i]?=some (q,s)):(zI m).getD i []=(jB m (goS m q s)).foldl (λl p=>if p.1<1000 then jT l p.1 else l) (if (1:Int)∈qR m (goS m q s).toNat then[0]else[]):=by unfold zI;rw[List.getD_eq_getElem?_getD,List.getElem?_map,hi];rfl
theorem XK{m:List Sta}{i:Nat}{q s x:Int}(hi:(qh m)[i]?=some (q,s)):x∈(zI m).getD i []↔x∈(if (1:Int)∈qR m (goS m q s).toNat then([0]:List Int)else[])\/ ∃p∈jB m (goS m q s),p.1<1000/\x=p.1:=by rw[qrG hi];have:=(qgf (λp:Int×Int=>decide (p.1<1000)) (λp=>p.1) (jB m (goS m q s)) (if (1:Int)∈qR m (goS m q s).toNat then[0]else[])).1 x;simp only[decide_eq_true_eq]at this;exact this
theorem ql7{E:Nat->Bool}{m:List Sta}{i:Nat}{q s:Int}{r:Nat}(hi:(qh m)[i]?=some (q,s))(hr:goS m q s=(r:Int)){k:Nat}{u:Int}(hk:(1000+(k:Int),u)∈jB m r)(hE:E k=true):Yl (qh m) r (1000+(k:Int))∈(jc E m).getD i []:=by
 have e:(jc E m).getD i []=(jB m (goS m q s)).foldl (λl p=>if 1000<=p.1/\E (p.1 - 1000).toNat=true then jT l (Yl (qh m) (goS m q s) p.1)else l) []:=by unfold jc;rw[List.getD_eq_getElem?_getD,List.getElem?_map,hi];rfl
 rw[e,hr];have:=(qgf (λp:Int×Int=>decide (1000<=p.1/\E (p.1 - 1000).toNat=true)) (λp=>Yl (qh m) r p.1) (jB m r) []).1 (Yl (qh m) r (1000+(k:Int)));simp only[decide_eq_true_eq]at this;refine this.2 (Or.inr ⟨_,hk,⟨by dsimp only;omega,?_⟩,rfl⟩);rw[show (1000+(k:Int) - 1000).toNat=k by omega];exact hE
theorem qep{N:Nat}{rel out:List (List Int)}(ho:yG out)(hl:out.length=N)(hN:N<=9600){a:Nat}{j x:Int}(ha:a<N)(hj:j∈rel.getD a [])(hx:x∈(jA 400000 out rel).getD j.toNat []):x∈(jA 400000 out rel).getD a []:=
 qir (YW 400000 ho o_) (by rw[(Qn 400000 ho).2];omega) hj hx
theorem qnQ{g:Grammar}{m:List Sta}{E:Nat->Bool}(hg:GOk g)(hM:MOk g m)(hG:MGo g m)(hE:IsGrow g false E){l:List Int}{b:Bool}(h:Drv g l b):b=true->∀(i q r n d:Nat) (s:Int) (p:GPr),(qh m)[i]?=some ((q:Int),s)->goS m q s=(r:Int)->r<m.length->g.prods[n]?=some p->p.right.drop d=l->16 *(n:Int)+(d:Int)∈qC g (qR m r)->
 ∃x,x∈(jA 400000 (zI m) (jc E m)).getD i []:=by
 have hdo:=Xi hM hg;have hdl:=kz m;have htl:=hM.trans_len;have at0:∀{l:List Int} {d:Nat} {x:Int} {r:List Int},l.drop d=x::r->l[d]?=some x/\l.drop (d+1)=r:=λ{l d x r} h=>by
  have h0:d<l.length:=Classical.byContradiction λhn=>by rw[List.drop_of_length_le o_]at h;cases h
  rw[List.drop_eq_getElem_cons h0]at h;injection h with h1 h2;exact⟨by rw[ge_ h0,h1],h2⟩
 induction h with
 |nil=>intro h;cases h
 | tok ht _ _=>
   intro _ i q r n d s p hi hr hrl hp hd hx;obtain ⟨h1,_⟩:=at0 hd;obtain ⟨u,_,_,_,_,h5⟩:=qc8 hg hM hG hrl hp h1 hx;rw[<- hr]at h5;exact⟨_,kQ 400000 ((XK hi).2 (Or.inr ⟨_,h5,ht,rfl⟩))⟩
 | non hp' h1 h2 ih1 ih2=>
   rename_i p' l b c;intro hbc i q r n d s p hi hr hrl hp hd hx;obtain ⟨hd1,hd2⟩:=at0 hd;cases hb:b with
   | true=>
     obtain ⟨k,hk⟩:=List.getElem?_of_mem hp';exact ih1 hb i q r k 0 s p' hi hr hrl hk rfl (qmC hg hM hrl hp hd1 hk hx)
   | false=>
     rw[hb,Bool.false_or]at hbc;obtain ⟨t,h3,h4,h5,_,h7⟩:=qc8 hg hM hG hrl hp hd1 hx;obtain ⟨k,hk,_⟩:=hg.left _ hp';have hE1:=hE.closed _ hp' (h1.empty hg hE hb);have hT:=qfw o_ h7;obtain ⟨i',hi',hil⟩:=ZR hT;have hig:=Zv hi';obtain ⟨x,hx2⟩:=ih2 hbc i' r t n (d+1) _ p hig h3 h4 hp hd2 h5;rw[hk]at h7 hi';rw[hk,Int.toNat_natCast]at hE1;have hr2:=ql7 hi hr h7 hE1;rw[hi']at hr2;exact⟨x,qep hdo hdl htl (j:=(i':Int)) (List.getElem?_eq_some_iff.1 hi).1 hr2 (by rw[Int.toNat_natCast];exact hx2)⟩
theorem Yv{α β:Type}{f:β->α->β}{I P:β->Prop}{a:α}(hI:∀b x,I b->I (f b x))(hP:∀b x,P b->P (f b x))(hh:∀b,I b->P (f b a)):∀(l:List α) (b:β),a∈l->I b->P (l.foldl f b)
 |[],b,h,_=>by cases h
 | x ::l,b,h,hb=>by
   rw[List.foldl_cons];rcases List.mem_cons.1 h with e|h
   . subst e;have key:∀(l:List α) (b:β),P b->P (l.foldl f b):=λl=>by
      induction l with
      |nil=>intro b h;exact h
      |cons x l ih=>intro b h;exact ih _ (hP _ _ h)
     exact key l _ (hh b hb)
   . exact Yv hI hP hh l _ h (hI b x hb)
theorem qkk{out:List (List Int)}{j a:Nat}{x y:Int}(h:y∈out.getD a []):y∈(out.modify j λl=>jT l x).getD a []:=by
 rw[List.getD_eq_getElem?_getD]at h ⊢;rw[List.getElem?_modify];cases ho:out[a]? with
 |none=>rw[ho]at h;cases h
 | some l=>
   rw[ho]at h;by_cases e:j=a
   . simp[e];exact zL.2 (Or.inl h)
   . simp[e];exact h
theorem qmR{out:List (List Int)}{j:Nat}{x:Int}(h:j<out.length):x∈(out.modify j λl=>jT l x).getD j []:=by rw[List.getD_eq_getElem?_getD,List.getElem?_modify,ge_ h];simp;exact zL.2 (Or.inr rfl)
theorem qaf{E:Nat->Bool}{m:List Sta}{i k a:Nat}{q y:Int}{r:List Int}{out:List (List Int)}(h:y∈out.getD a []):y∈(Kg E m i q r out k).getD a []:=by
 unfold Kg;dsimp only;split
 . exact qkk h
 . exact h
theorem qcg{E:Nat->Bool}{m:List Sta}{i k:Nat}{q:Int}{r:List Int}{out:List (List Int)}:(Kg E m i q r out k).length=out.length:=by
 unfold Kg;dsimp only;split
 . rw[List.length_modify]
 . rfl
theorem qad{E:Nat->Bool}{m:List Sta}{i a:Nat}{t:Int×Int}{y:Int}{p:GPr}{out:List (List Int)}(h:y∈out.getD a []):y∈(Kh E m i t out p).getD a []:=by
 unfold Kh;split
 . exact je (λo:List (List Int)=>y∈o.getD a []) _ _ _ h λb k _ hb=>qaf hb
 . exact h
theorem qcG{E:Nat->Bool}{m:List Sta}{i:Nat}{t:Int×Int}{p:GPr}{out:List (List Int)}:(Kh E m i t out p).length=out.length:=by
 unfold Kh;split
 . exact je (λo:List (List Int)=>o.length=out.length) _ _ _ rfl λb k _ hb=>by rw[qcg];exact hb
 . rfl
theorem qlO{g:Grammar}{E:Nat->Bool}{m:List Sta}{i k r j:Nat}{q0 s:Int}{p:GPr}(hi:(qh m)[i]?=some (q0,1000+p.left))(hp:p∈g.prods)(hk:p.right[k]?=some s)(hs:1000<=s)(hE:vJ false E (p.right.drop (k+1))=true)(hw:jw m q0 (p.right.take k)=(r:Int))(hj:Yl (qh m) r s=(j:Int))(hjl:j<(qh m).length):(i:Int)∈(qX g E m).getD j []:=by
 unfold qX;refine Yv (I:=λo:List (List Int)=>o.length=(qh m).length) (P:=λo:List (List Int)=>(i:Int)∈o.getD j []) (a:=i) (λb x hb=>?_) (λb x hb=>?_) (λb hb=>?_) _ _ (List.mem_range.2 (List.getElem?_eq_some_iff.1 hi).1) (by simp)
 . exact je (λo:List (List Int)=>o.length=(qh m).length) _ _ _ hb λb p _ hb=>by rw[qcG];exact hb
 . exact je (λo:List (List Int)=>(i:Int)∈o.getD j []) _ _ _ hb λb p _ hb=>qad hb
 . have hT:(qh m).getD i (0,0)=(q0,1000+p.left):=(by rw[List.getD_eq_getElem?_getD,hi];rfl);rw[hT];refine Yv (I:=λo:List (List Int)=>o.length=(qh m).length) (P:=λo:List (List Int)=>(i:Int)∈o.getD j []) (a:=p) (λb x hb=>by rw[qcG];exact hb) (λb x hb=>qad hb) (λb hb=>?_) _ _ hp hb;unfold Kh;rw[if_pos rfl];have hkl:=(List.getElem?_eq_some_iff.1 hk).1;refine Yv (I:=λo:List (List Int)=>o.length=(qh m).length) (P:=λo:List (List Int)=>(i:Int)∈o.getD j []) (a:=k) (λb x hb=>by rw[qcg];exact hb) (λb x hb=>qaf hb) (λb hb=>?_) _ _ (List.mem_range.2 hkl) hb;unfold Kg;have hsk:p.right.getD k 0=s:=(by rw[List.getD_eq_getElem?_getD,hk];rfl);dsimp only;rw[hsk,hw,hj,if_pos ⟨hs,hE,o_,o_⟩,Int.toNat_natCast];exact qmR o_

theorem qkC{l:List (Int×Int)}{s t:Int}(h:(l.map (·.1)).Pairwise (· < ·))(hm:(s,t)∈l):goL l s=t:=by
 have h1:=qaR hm;have key:∀(l:List (Int×Int)) {s t u:Int},(l.map (·.1)).Pairwise (· < ·)->(s,t)∈l->(s,u)∈l->t=u:=by
  intro l
  induction l with
  |nil=>intro s t u _ h;cases h
  | cons a l ih=>
    intro s t u h h1 h2;rw[List.map_cons,List.pairwise_cons]at h;have hlt:∀v,(s,v)∈l->a.1<s:=λv hv=>h.1 s (List.mem_map.2 ⟨_,hv,rfl⟩);rcases List.mem_cons.1 h1 with e1|h1<;>rcases List.mem_cons.1 h2 with e2|h2
    . have:=e1.trans e2.symm;cases this;rfl
    . have:=hlt _ h2;rw[<- e1]at this;dsimp only at this;omega
    . have:=hlt _ h1;rw[<- e2]at this;dsimp only at this;omega
    . exact ih h.2 h1 h2
 exact key l h h1 hm
def ItF(g:Grammar)(m:List Sta)(f:List (List Int))(q:Nat)(x:Int):Prop:= ∀(n d:Nat) (p:GPr),x=16 *(n:Int)+(d:Int)->d<16->g.prods[n]?=some p->n=0\/ ∃i q0:Nat,(qh m)[i]?=some ((q0:Int),1000+p.left)/\jw m q0 (p.right.take d)=(q:Int)/\∃y,y∈f.getD i []
theorem qjL{g:Grammar}{m:List Sta}{E:Nat->Bool}(hg:GOk g)(hM:MOk g m)(hR:∀q∈m,RMv q)(hG:MGo g m)(hE:IsGrow g false E)(hP:qdd m)(hD:qqs g):∀q:Nat,q<m.length->∀x∈qC g (qR m q),ItF g m (zy g E m) q x:=by
 have hdo:=Xi hM hg;have hdl:=kz m;have htl:=hM.trans_len;have hgo:=Qn (rel:=jc E m) 400000 hdo;have hdef:zy g E m=jA 400000 (jA 400000 (zI m) (jc E m)) (qX g E m):=rfl;rw[hdef];intro q
 induction q using Nat.strongRecOn with
 | _ q IH=>
 intro hq;have eq:m[q]?=some m[q]:=ge_ hq;have hkq:=jJ eq;have hcl:=zm hg (hM.ki _ (List.getElem_mem hq)) (hM.kr _ (List.getElem_mem hq));rw[<- hkq]at hcl;have hle:=hcl.1.least (λx=>x∈qC g (qR m q)/\ItF g m (jA 400000 (jA 400000 (zI m) (jc E m)) (qX g E m)) q x) ⟨λx hx=>⟨hcl.1.clo.1 x hx,?_⟩,λy hy k p' hk hn hl=>⟨hcl.1.clo.2 y hy.1 k p' hk hn hl,?_⟩⟩
 . exact λx hx=>(hle x hx).2
 ·
  by_cases h0:q=0
  . subst h0;have hz:=hG.z;rw[eq]at hz;have hz:m[0].ker=[0]:=Option.some.inj hz;rw[hkq,hz,List.mem_singleton]at hx;intro n d p hxe _ _;left;omega
  . obtain ⟨j,hj,qq,s,hqq,hmv⟩:=hP q o_ hq;have hjm:=List.mem_of_getElem? hqq;have htg:=hG.tgt qq hjm _ hmv;dsimp only at htg;rw[Int.toNat_natCast]at htg;rw[htg]at hx;have hov:=(qgf (λy=>decide (0<=nxt g y/\nxt g y=s)) (λy=>y+1) (qC g qq.ker) []).1 x;simp only[decide_eq_true_eq]at hov;rcases hov.1 hx with h|⟨y,hy,⟨hy0,hys⟩,hxy⟩
    . cases h
    have hjl:=(List.getElem?_eq_some_iff.1 hqq).1;have hkj:=jJ hqq;rw[<- hkj]at hy;have hI:=IH j hj hjl y hy;have hd8:=qg8 hg hy0;have hcj:=zm hg (hM.ki _ hjm) (hM.kr _ hjm);rw[<- hkj]at hcj;have hy00:=(hcj.2.1 y hy).1;intro n d p hxe hd16 hp;have hd1:1<=d:=o_;have hyd:y=16 *(n:Int)+((d - 1:Nat):Int):=o_;rcases hI n (d - 1) p hyd o_ hp with h|⟨i,q0,h1,h2,h3⟩
    . exact Or.inl h
    . right;refine⟨i,q0,h1,?_,h3⟩;have hpd:p.right[d - 1]?=some s:=by
       obtain ⟨m',d',p'',e1,e2,e3,e4,e5⟩:=(hcj.2.1 y hy).nat
       have:m'=n:=o_
       subst this
       have:d'=d - 1:=o_
       subst this;rw[hp]at e3;cases e3;rw[e5]at hys hy0;cases hr:p.right[d - 1]? with
       |none=>rw[hr]at hy0;simp at hy0
       |some v=>rw[hr,Option.getD_some]at hys;rw[hys]
      have htk:p.right.take d=p.right.take (d - 1)++[s]:=by have:=List.take_add_one (l:=p.right) (i:=d - 1);rw[show d - 1+1=d by omega,hpd]at this;exact this
      rw[htk,Zu _ _ _ (by rw[h2];omega),h2];unfold goS;rw[if_neg o_,Int.toNat_natCast,hqq];exact qkC (hR _ hjm) hmv
 ·
  obtain ⟨hyc,hyF⟩:=hy;obtain ⟨n,d,p,e1,e2,hp,hdl',hnx⟩:=(hcl.2.1 y hyc).nat;have hy0:=(hcl.2.1 y hyc).1;have hye:y=16 *(n:Int)+(d:Int):=o_;have hs:p.right[d]?=some (1000+p'.left):=by
   rw[hnx]at hn hl;cases hr:p.right[d]? with
   |none=>rw[hr]at hn;simp at hn
   |some v=>rw[hr,Option.getD_some]at hl;rw[show v=1000+p'.left by omega]
  have hds:=(List.getElem?_eq_some_iff.1 hs).1;rw[hye]at hyc;obtain ⟨t,hgt,htm,hc1,hk1,hmv⟩:=qc8 hg hM hG hq hp hs hyc;obtain ⟨l',hl',_⟩:=hg.left p' (List.mem_of_getElem? hk);have hT:=qfw o_ hmv;obtain ⟨i,hi,hil⟩:=ZR hT;have hig:=Zv hi;intro n2 d2 p2 hxe hd2 hp2
  have:n2=k:=o_
  subst this
  have:d2=0:=o_
  subst this;rw[hk]at hp2;cases hp2;right;refine⟨i,q,hig,rfl,?_⟩;rcases hyF n d p hye o_ hp with h0|⟨i0,q0,h1,h2,y0,h3⟩
  ·
   subst h0;obtain ⟨p0,r0,ep,_,k0,hr0,_⟩:=hg.head;rw[ep]at hp;cases hp
   have:d=0:=by rw[hr0]at hds;simpa using hds
   subst this;refine⟨0,kQ 400000 (kQ 400000 ((XK hig).2 (Or.inl ?_)))⟩;rw[hgt,Int.toNat_natCast,if_pos (by simpa using hk1)];simp
  . obtain ⟨b,hb⟩:=hD.all hg (p.right.drop (d+1)) λs hs=>hg.right p (List.mem_of_getElem? hp) s (List.mem_of_mem_drop hs);cases hbb:b with
    | true=>
      obtain ⟨x,hx⟩:=qnQ hg hM hG hE hb hbb i q t n (d+1) _ p hig hgt htm hp rfl hc1;exact⟨x,kQ 400000 hx⟩
    | false=>
      have hfe:=hb.empty hg hE hbb;have hin:=qlO h1 (List.mem_of_getElem? hp) hs o_ hfe h2 hi hil;exact⟨y0,qep hgo.1 (hgo.2.trans hdl) htl (j:=(i0:Int)) hil hin (by rw[Int.toNat_natCast];exact h3)⟩
theorem qj4{g:Grammar}{k:List Int}{p:Int}(h:p∈Yi g k):∃x∈qC g k,0<x / 16/\nxt g x= -1/\p=x / 16:=by
 unfold Yi at h;rw[List.mem_filterMap]at h;obtain ⟨x,h1,h2⟩:=h;split at h2
 . rename_i h3;cases h2;exact⟨x,h1,h3.1,h3.2,rfl⟩
 . cases h2
theorem qeG{f:List (List Int)}{x:Int}:∀(b l:List Int),x∈b.foldl (qjs f) l↔x∈l\/ ∃j∈b,x∈f.getD j.toNat []:=λb l=>Zm (o:=f) b l
theorem qwi{g:Grammar}{m:List Sta}{E:Nat->Bool}(hg:GOk g)(hM:MOk g m)(hR:∀q∈m,RMv q)(hG:MGo g m)(hE:IsGrow g false E)(hP:qdd m)(hD:qqs g):∀l∈Xd g E m,l.tk≠[]:=by
 intro l hl;have hdef:Xd g E m=qc0 g m (zy g E m) m.length:=rfl;rw[hdef]at hl;unfold qc0 at hl;rw[List.mem_flatMap]at hl;obtain ⟨q,hq,hl⟩:=hl;have hq:=List.mem_range.1 hq;obtain ⟨pn,hpn,rfl⟩:=List.mem_map.1 hl;obtain ⟨x,hx,h0,h1,h2⟩:=qj4 hpn;have hkq:=jJ (ge_ hq);have hcl:=zm hg (hM.ki _ (List.getElem_mem hq)) (hM.kr _ (List.getElem_mem hq));rw[<- hkq]at hcl;obtain ⟨n,d,p,e1,e2,hp,hdl,hnx⟩:=(hcl.2.1 x hx).nat;have hx0:=(hcl.2.1 x hx).1;have hxe:x=16 *(n:Int)+(d:Int):=o_;have hd:d=p.right.length:=by
  rw[hnx]at h1;by_cases e:d<p.right.length
  . rw[ge_ e,Option.getD_some]at h1;have:=qlA hg (List.mem_of_getElem? hp) (List.getElem_mem e);omega
  . omega
 rcases qjL hg hM hR hG hE hP hD q hq x hx n d p hxe o_ hp with h|⟨i,q0,h3,h4,y,hy⟩
 . omega
 . rw[hd,List.take_of_length_le (Nat.le_refl _)]at h4;have hb:(i:Int)∈kJ g m q pn:=by
    unfold kJ;refine List.mem_map.2 ⟨i,List.mem_filter.2 ⟨List.mem_range.2 (List.getElem?_eq_some_iff.1 h3).1,?_⟩,rfl⟩;rw[show pn.toNat=n by omega,hp];have hT:(qh m).getD i (0,0)=((q0:Int),1000+p.left):=(by rw[List.getD_eq_getElem?_getD,h3];rfl);dsimp only;rw[hT];exact decide_eq_true ⟨rfl,h4⟩
   intro e;have hm:y∈(kJ g m q pn).foldl (qjs (zy g E m)) []:=(qeG _ _).2 (Or.inr ⟨_,hb,by rw[Int.toNat_natCast];exact hy⟩);have e2:(kJ g m q pn).foldl (qjs (zy g E m)) []=[]:=e;rw[e2]at hm;cases hm
theorem qnM{g:Grammar}{m:List Sta}{E:Nat->Bool}(hg:GOk g)(hM:MOk g m)(hS:qaQ g m):∀a x,x∈(zy g E m).getD a []->x=0\/ ∃p∈g.prods,x∈p.right:=by
 have hdef:zy g E m=jA 400000 (jA 400000 (zI m) (jc E m)) (qX g E m):=rfl;rw[hdef];refine JD (T:=λ_ x=>x=0\/ ∃p∈g.prods,x∈p.right) (λ_ _ _ _ h=>h) 400000 ?_;refine JD (T:=λ_ x=>x=0\/ ∃p∈g.prods,x∈p.right) (λ_ _ _ _ h=>h) 400000 ?_;intro a x hx;have hal:a<(qh m).length:=Classical.byContradiction λh=>by rw[List.getD_eq_getElem?_getD,List.getElem?_eq_none (by rw[kz];omega)]at hx;cases hx
 obtain ⟨q,s,ht⟩:∃q s,(qh m)[a]?=some (q,s):=⟨_,_,ge_ hal⟩;rcases (XK ht).1 hx with h|⟨p,hp,h1,rfl⟩
 . split at h
   . rw[List.mem_singleton]at h;exact Or.inl h
   . cases h
 . obtain ⟨r,hr,hrm⟩:=hM.trans_go (List.mem_of_getElem? ht);rw[hr]at hp;obtain ⟨qq,hqq,hpm⟩:=hM.movAt_mem hp;obtain ⟨y,hy,hn,h0⟩:=QR.1 (hS qq (List.mem_of_getElem? hqq) _ hpm);have hcl:=zm hg (hM.ki _ (List.mem_of_getElem? hqq)) (hM.kr _ (List.mem_of_getElem? hqq));obtain ⟨n,d,pp,e1,e2,hpp,hdl,hnx⟩:=(hcl.2.1 y hy).nat;rw[hnx]at hn;cases hv:pp.right[d]? with
   |none=>rw[hv]at hn;simp at hn;omega
   | some v=>
     rw[hv,Option.getD_some]at hn;exact Or.inr ⟨pp,List.mem_of_getElem? hpp,by rw[<- hn];exact List.mem_of_getElem? hv⟩
theorem qom{g:Grammar}{m:List Sta}{E:Nat->Bool}(hg:GOk g)(hM:MOk g m)(hS:qaQ g m):∀l∈Xd g E m,∀t∈l.tk,t=0\/ ∃p∈g.prods,t∈p.right:=by
 intro l hl t ht;have hdef:Xd g E m=qc0 g m (zy g E m) m.length:=rfl;rw[hdef]at hl;unfold qc0 at hl;rw[List.mem_flatMap]at hl;obtain ⟨q,hq,hl⟩:=hl;obtain ⟨pn,hpn,rfl⟩:=List.mem_map.1 hl;have hm:t∈(kJ g m q pn).foldl (qjs (zy g E m)) []:=ht;rcases (qeG _ _).1 hm with h|⟨j,_,h⟩
 . cases h
 . exact qnM hg hM hS _ _ h

def qnG(m:Mk)(s:Int):Prop:=(0<=s/\s<m.toks.length)\/ ∃k:Nat,s=1000+m.lefts.length+(k:Int)/\1<=k/\(k:Int)<=m.inner
structure PInv(m:Mk):Prop where
 tk:3<=m.toks.length
 inn:0<=m.inner
 emp:∀k:Nat,1<=k->(k:Int)<=m.inner->∃p∈m.prods,p.left=m.lefts.length+(k:Int)/\p.right=[]
structure MExt(m m':Mk):Prop where
 l:m'.lefts=m.lefts
 t:m.toks.length<=m'.toks.length
 i:m.inner<=m'.inner
 p:∀p∈m.prods,p∈m'.prods
theorem MExt.rf(m:Mk):MExt m m:=⟨rfl,Nat.le_refl _,Int.le_refl _,λ_ h=>h⟩
theorem MExt.tr{a b c:Mk}(h:MExt a b)(k:MExt b c):MExt a c:=⟨k.l.trans h.l,Nat.le_trans h.t k.t,Int.le_trans h.i k.i,λp hp=>k.p p (h.p p hp)⟩
theorem qnG.mono{m m':Mk}{s:Int}(h:qnG m s)(e:MExt m m'):qnG m' s:=by
 have h1:=e.t;have h2:=e.i;rcases h with ⟨a,b⟩|⟨k,a,b,c⟩
 . exact Or.inl ⟨a,o_⟩
 . exact Or.inr ⟨k,by rw[e.l];exact a,b,o_⟩
def qf9(m:Mk)(c:Int):Prop:= ∃p∈m.prods,p.left=c/\∀s∈p.right,qnG m s
theorem qf9.mono{m m':Mk}{c:Int}(h:qf9 m c)(e:MExt m m'):qf9 m' c:=by obtain ⟨p,h1,h2,h3⟩:=h;exact⟨p,e.p p h1,h2,λs hs=>(h3 s hs).mono e⟩
def PlP(l:List (List UInt8))(w:Part):Prop:=w.code≠[]\/w.sym.lit=true\/qp w.sym.name l 0<0
theorem qrA(m:Mk)(x:Sym):MExt m (xq m x).1:=by obtain ⟨y1,y2,y3,y4,y5,y6,y7,y8⟩:=x9 m x;exact⟨y2,y7,by rw[y6];omega,λp hp=>by rw[y3];exact hp⟩
theorem PInv.ext{m m':Mk}(h:PInv m)(e:MExt m m')(hi:m'.inner=m.inner):PInv m':=by have h1:=h.tk;have h2:=e.t;have h3:=h.inn;refine⟨o_,o_,λk a b=>?_⟩;obtain ⟨p,hp,q⟩:=h.emp k a o_;exact⟨p,e.p p hp,by rw[e.l];exact q⟩
theorem qd2:∀(l:List Part) (m:Mk) (p:GPr),PInv m->PInv (qZ l (m,p)).1/\MExt m (qZ l (m,p)).1/\((∀w∈l,PlP m.lefts w)->(∀s∈p.right,qnG m s)->∀s∈(qZ l (m,p)).2.right,qnG (qZ l (m,p)).1 s)
 |[],m,p,h=>by rw[kP];exact⟨h,.rf m,λ_ h=>h⟩
 | w :: r,m,p,h=>by
   rw[xB];have hx:=qrA m w.sym;obtain ⟨y1,y2,y3,y4,y5,y6,y7,y8⟩:=x9 m w.sym;have hs:=(qdX w.sym h.tk h.inn).2;split
   . rename_i hc;obtain ⟨k1,k2,k3⟩:=qd2 r (xq m w.sym).1 {p with right:=p.right++[(xq m w.sym).2]} (h.ext hx y6);refine⟨k1,hx.tr k2,λhw hp=>k3 (λu hu=>by rw[y2];exact hw u (List.mem_cons_of_mem _ hu)) λs hs2=>?_⟩;dsimp only at hs2;rcases List.mem_append.1 hs2 with hs2|hs2
     . exact(hp s hs2).mono hx
     . rw[List.mem_singleton]at hs2;subst hs2;exact Or.inl (hs ((hw w (by simp)).resolve_left λh=>h hc))
   . split
     . exact⟨h,.rf m,λ_ hp=>hp⟩
     . have hi:=h.inn;have he:MExt m {m with inner:=m.inner+1,prods:=m.prods++[{left:=m.lefts.length+(m.inner+1),prec:= -1,code:=w.code,args:=p.right,at_:=w.at_}]}:=⟨rfl,Nat.le_refl _,by dsimp only;omega,λp hp=>List.mem_append_left _ hp⟩;obtain ⟨k1,k2,k3⟩:=qd2 r {m with inner:=m.inner+1,prods:=m.prods++[{left:=m.lefts.length+(m.inner+1),prec:= -1,code:=w.code,args:=p.right,at_:=w.at_}]} {p with right:=p.right++[1000+m.lefts.length+(m.inner+1)]} ⟨h.tk,by dsimp only;omega,λk a b=>by
        dsimp only at b ⊢;by_cases e:(k:Int)=m.inner+1
        . exact⟨_,List.mem_append_right _ (List.mem_singleton.2 rfl),by dsimp only;omega,rfl⟩
        . obtain ⟨p,hp,q⟩:=h.emp k a o_;exact⟨p,List.mem_append_left _ hp,q⟩⟩
       refine⟨k1,he.tr k2,λhw hp=>k3 (λu hu=>hw u (List.mem_cons_of_mem _ hu)) λs hs2=>?_⟩;dsimp only at hs2;rcases List.mem_append.1 hs2 with hs2|hs2
       . exact(hp s hs2).mono he
       . rw[List.mem_singleton]at hs2;subst hs2;exact Or.inr ⟨(m.inner+1).toNat,by dsimp only;omega,o_,by dsimp only;omega⟩
theorem qtD{m:Mk}(n:List UInt8)(a:Alt)(h:PInv m):PInv (QD m n a)/\MExt m (QD m n a)/\((∀w∈a.parts,PlP m.lefts w)->qf9 (QD m n a) (1+qp n m.lefts 0)):=by
 obtain ⟨k1,k2,k3⟩:=qd2 a.parts m {left:=1+qp n m.lefts 0,prec:= -1,at_:=a.at_} h;have g5:=(Ji a.parts m {left:=1+qp n m.lefts 0,prec:= -1,at_:=a.at_}).2.2.2.2.1;have key:∃(m1:Mk) (x:GPr),QD m n a={m1 with prods:=(qZ a.parts (m,{left:=1+qp n m.lefts 0,prec:= -1,at_:=a.at_})).1.prods++[x]}/\x.left=(qZ a.parts (m,{left:=1+qp n m.lefts 0,prec:= -1,at_:=a.at_})).2.left/\x.right=(qZ a.parts (m,{left:=1+qp n m.lefts 0,prec:= -1,at_:=a.at_})).2.right/\m1.lefts=(qZ a.parts (m,{left:=1+qp n m.lefts 0,prec:= -1,at_:=a.at_})).1.lefts/\(qZ a.parts (m,{left:=1+qp n m.lefts 0,prec:= -1,at_:=a.at_})).1.toks.length<=m1.toks.length/\m1.inner=(qZ a.parts (m,{left:=1+qp n m.lefts 0,prec:= -1,at_:=a.at_})).1.inner:=by
  unfold QD;dsimp only;generalize qZ a.parts (m,{left:=1+qp n m.lefts 0,prec:= -1,at_:=a.at_})=q;obtain ⟨y1,y2,y3,y4,y5,y6,y7,y8⟩:=x9 q.1 a.prec;obtain ⟨ff1,ff2,ff3,ff4,ff5,ff6,ff7,ff8⟩:=zH q.1 a.prec.at_ a.prec.name;split
  . split
    . exact⟨(xq q.1 a.prec).1,{q.2 with prec:=(xq q.1 a.prec).2,args:=q.2.right},by rw[y3],rfl,rfl,y2,y7,y6⟩
    . exact⟨zf q.1 a.prec.at_ a.prec.name,{q.2 with prec:= -1,args:=q.2.right},rfl,rfl,rfl,ff3,by rw[ff1];exact Nat.le_refl _,ff8⟩
  . exact⟨q.1,{q.2 with prec:=yB q.2.right (-1),args:=q.2.right},rfl,rfl,rfl,rfl,Nat.le_refl _,rfl⟩
 obtain ⟨m1,x,e,e1,e2,e3,e4,e5⟩:=key;generalize qZ a.parts (m,{left:=1+qp n m.lefts 0,prec:= -1,at_:=a.at_})=q at *;have hx:MExt q.1 (QD m n a):=by rw[e];exact⟨e3,e4,by dsimp only;omega,λp hp=>List.mem_append_left _ hp⟩
 refine⟨k1.ext hx (by rw[e];exact e5),k2.tr hx,λhw=>⟨x,by rw[e];simp,by rw[e1,g5],λs hs=>?_⟩⟩;rw[e2]at hs;exact(k3 hw (λs hs=>by cases hs) s hs).mono hx
theorem qeF(n:List UInt8):∀(l:List Alt) (m:Mk),PInv m->PInv (zo n l m)/\MExt m (zo n l m)/\∀a∈l,(∀w∈a.parts,PlP m.lefts w)->qf9 (zo n l m) (1+qp n m.lefts 0)
 |[],m,h=>⟨h,.rf m,λa ha=>by cases ha⟩
 | a ::r,m,h=>by
   rw[jO];obtain ⟨h1,h2,h3⟩:=qtD n a h;obtain ⟨k1,k2,k3⟩:=qeF n r (QD m n a) h1;refine⟨k1,h2.tr k2,λb hb hw=>?_⟩;rcases List.mem_cons.1 hb with rfl|hb
   . exact(h3 hw).mono k2
   . have:=k3 b hb (by rw[h2.l];exact hw);rwa [h2.l]at this
theorem qjo:∀(l:List Rule) (m:Mk),PInv m->PInv (xg l m)/\MExt m (xg l m)/\∀r∈l,∀a∈r.alts,(∀w∈a.parts,PlP m.lefts w)->qf9 (xg l m) (1+qp r.left m.lefts 0)
 |[],m,h=>⟨h,.rf m,λa ha=>by cases ha⟩
 | r ::l,m,h=>by
   rw[xJ];obtain ⟨h1,h2,h3⟩:=qeF r.left r.alts m h;obtain ⟨k1,k2,k3⟩:=qjo l (zo r.left r.alts m) h1;refine⟨k1,h2.tr k2,λq hq a ha hw=>?_⟩;rcases List.mem_cons.1 hq with rfl|hq
   . exact(h3 a ha hw).mono k2
   . have:=k3 q hq a ha (by rw[h2.l];exact hw);rwa [h2.l]at this
theorem XD{n x:List UInt8}:∀(l:List (List UInt8)) (i:Nat),qp n (l++[x]) i=if qp n l i<0 then(if x=n then((i+l.length:Nat):Int)else -1)else qp n l i
 | [],i=>by
   show qp n [x] i=_;rw[qp,qp,qp];by_cases e:x=n
   . simp[e]
   . simp[e]
 | t::l,i=>by
   rw[List.cons_append,qp,qp];by_cases e:t=n
   . rw[if_pos e,if_pos e,if_neg o_]
   . rw[if_neg e,if_neg e,XD l (i+1),List.length_cons,show i+1+l.length=i+(l.length+1) by omega]
theorem qb0{S:List UInt8->Prop}:∀(l:List Rule) (m:Mk),(∀n∈m.lefts,S n)->(∀j:Nat,j<m.lefts.length->∃n,S n/\qp n m.lefts 0=(j:Int))->(∀r∈l,S r.left)->(∀n∈(jD l m).lefts,S n)/\∀j:Nat,j<(jD l m).lefts.length->∃n,S n/\qp n (jD l m).lefts 0=(j:Int)
 |[],m,h1,h2,_=>⟨h1,h2⟩
 | r ::l,m,h1,h2,h3=>by
   rw[kI];have d2:=(qbZ m r).2.1;have hr:=h3 r (by simp);refine qb0 l _ ?_ ?_ λq hq=>h3 q (List.mem_cons_of_mem _ hq)
   . unfold ZV;split
     . intro n hn;dsimp only at hn;rw[d2]at hn;rcases List.mem_append.1 hn with hn|hn
       . exact h1 n hn
       . rw[List.mem_singleton]at hn;subst hn;exact hr
     . rw[d2];exact h1
   . unfold ZV;split
     . rename_i hc;dsimp only;rw[d2]at hc ⊢;intro j hj;rw[List.length_append,List.length_singleton]at hj;by_cases e:j=m.lefts.length
       . refine⟨r.left,hr,?_⟩;rw[XD,if_pos hc,if_pos rfl,Nat.zero_add,e]
       . obtain ⟨n,hn,hl⟩:=h2 j o_;exact⟨n,hn,by rw[XD,if_neg o_,hl]⟩
     . rw[d2];exact h2
def PlA(a:Alt):Prop:= ∀w∈a.parts,w.code≠[]\/w.sym.lit=true\/w.sym.name=qjC
theorem qbI{l:List Int}{n:Nat}{mid:Bool}:∀j,JR l n j=true->∀w∈j5 l n mid j,w.code≠[]\/w.sym.lit=true\/w.sym.name=qjC
 |0,_,w,hw=>by cases hw
 | j +1,h,w,hw=>by
   rw[JR,Bool.and_eq_true,Bool.or_eq_true,decide_eq_true_eq]at h;rw[j5]at hw;rcases List.mem_append.1 hw with hw|hw
   . rcases List.mem_append.1 hw with hw|hw
     . exact qbI j h.1 w hw
     . rw[List.mem_singleton]at hw;subst hw;exact Or.inr h.2
   . split at hw
     . rw[List.mem_singleton]at hw;subst hw;exact Or.inl (by simp[QZ])
     . cases hw
theorem qoq{l inner:List Int}{n i:Nat}(h:KI l n=true):PlA (qbV l n inner i):=λw hw=>by
 unfold qbV at hw;dsimp only at hw;rcases List.mem_append.1 hw with hw|hw
 . exact qbI _ h w hw
 . split at hw
   . rw[List.mem_singleton]at hw;subst hw;exact Or.inl (by simp[XF])
   . cases hw
theorem JV(x:GrI)(n:Nat):∀(i k:Nat),(zb x n i).2 k=true->∃a∈(zb x n i).1 k,PlA a
 |0,k,h=>by cases h
 | i + 1,k,h=>by
   rw[zb,yK]at h ⊢;split
   . rename_i hc;rw[if_pos hc]at h;exact JV x n i k h
   . rename_i hc;rw[if_neg hc]at h;dsimp only at h ⊢;unfold qK at h ⊢;by_cases e:k=((x.rules.getD i []).getD 0 0 % (n:Int)).toNat
     . rw[if_pos e]at h ⊢;rw[Bool.or_eq_true]at h;rcases h with h|h
       . rw[<- e]at h ⊢;obtain ⟨a,ha,hp⟩:=JV x n i k h;exact⟨a,List.mem_append_left _ ha,hp⟩
       . exact⟨_,List.mem_append_right _ (List.mem_singleton.2 rfl),qoq h⟩
     . rw[if_neg e]at h ⊢;exact JV x n i k h
theorem qmg{x:GrI}{n i k:Nat}:∃a∈Z9 false (zb x n i) k,PlA a:=by
 have hlit:PlA {parts:=[{sym:=jU k}]}:=λw hw=>by rw[List.mem_singleton]at hw;subst hw;exact Or.inr (Or.inl rfl)
 unfold Z9;split
 . exact⟨_,List.mem_append_right _ (List.mem_singleton.2 rfl),hlit⟩
 . rename_i hc;refine JV x n i k ?_;cases hk:(zb x n i).2 k with
   |true=>rfl
   |false=>exact absurd (Or.inr ⟨hk,rfl⟩) hc
theorem qdR{x:GrI}(hb:x.bare=false):qqs (zR (qz x)):=by
 obtain ⟨hmay,he,_,e⟩:=qaq (Zj x);have hg:=gok (Zj x);have hrr:=KO (Zj x);obtain ⟨n1,n2,n3⟩:=YL (z8 (qz x));obtain ⟨p1,p2,p3⟩:=qfD (qz x);have hprods:(zR (qz x)).prods=(z8 (qz x)).prods:=by rw[e];exact n3
 have hnons:(zR (qz x)).nons.length=1+(z8 (qz x)).lefts.length+(z8 (qz x)).inner.toNat:=by rw[e];exact n2
 have htoks:(zR (qz x)).toks.length=(z8 (qz x)).toks.length:=by rw[e];exact n1
 have hpl:(XT (qz x)).lefts=(jD (qz x).rules (zZ (qz x).decls ({},[])).1).lefts:=(qa0 (qz x).decls _).2.2.1;have hl0:(zZ (qz x).decls ({},[])).1.lefts=[]:=(qaX (qz x).decls {} []).1.1;obtain ⟨f1,f2⟩:=qb0 (S:=λn=>∃r∈(qz x).rules,n=r.left) (qz x).rules (zZ (qz x).decls ({},[])).1 (by rw[hl0];intro n hn;cases hn) (by rw[hl0];intro j hj;exact absurd hj (Nat.not_lt_zero _)) λr hr=>⟨r,hr,rfl⟩;rw[<- hpl]at f1 f2;obtain ⟨g1,g2,g3⟩:=qjo (qz x).rules {XT (qz x)with prods:=[Jm (qz x)]} ⟨p1,by dsimp only;omega,λk a b=>by dsimp only at b;omega⟩;rw[<- Zp]at g1 g2 g3;have hll:(z8 (qz x)).lefts=(XT (qz x)).lefts:=g2.l;dsimp only at g3;have herr:qp qjC (XT (qz x)).lefts 0<0:=by refine Int.not_le.1 λh=>?_;obtain ⟨r,hr,e2⟩:=f1 _ (YK 0 h);obtain ⟨k,_,rfl⟩:=List.mem_map.1 hr;have:=congrArg List.length e2;simp[qjC]at this
 have htk:=hg.tk2;have drvS:∀l:List Int,(∀s∈l,qnG (z8 (qz x)) s)->∃b,Drv (zR (qz x)) l b:=λl=>by
  induction l with
  |nil=>intro _;exact⟨false,.nil⟩
  | cons s l ih=>
    intro hs;obtain ⟨b,hb⟩:=ih λy hy=>hs y (List.mem_cons_of_mem _ hy);rcases hs s (by simp)with ⟨_,h2⟩|⟨k,h1,h2,h3⟩
    . exact⟨true,.tok o_ hb⟩
    . obtain ⟨p,hp,hpl,hpr⟩:=g1.emp k h2 h3;rw[<- hprods]at hp;rw[show s=1000+p.left by omega];exact⟨_,.non (b:=false) hp (by rw[hpr];exact .nil) hb⟩
 have H1:∀k:Nat,1<=k->k<(zR (qz x)).nons.length->∃p∈(zR (qz x)).prods,p.left=(k:Int)/\∃b,Drv (zR (qz x)) p.right b:=λk hk hkn=>by
  rw[hnons]at hkn;by_cases hkl:k<=(z8 (qz x)).lefts.length
  . rw[hll]at hkl;obtain ⟨n,⟨r,hr,hn⟩,hlg⟩:=f2 (k - 1) o_;subst hn;have hra:∃a∈r.alts,PlA a:=by
     obtain ⟨c,_,rfl⟩:=List.mem_map.1 hr;dsimp only;rw[hb];exact qmg
    obtain ⟨a,ha,hpa⟩:=hra;obtain ⟨p,hp,hp1,hp2⟩:=g3 r hr a ha λw hw=>(hpa w hw).imp id λh=>h.imp id λh=>by rw[h];exact herr
    rw[<- hprods]at hp;exact⟨p,hp,o_,drvS _ hp2⟩
  . obtain ⟨p,hp,hp1,hp2⟩:=g1.emp (k - (z8 (qz x)).lefts.length) o_ (by have:=g1.inn;omega);rw[<- hprods]at hp;exact⟨p,hp,o_,false,by rw[hp2];exact .nil⟩
 intro k hk;by_cases h0:k=0
 . subst h0;obtain ⟨p,r,ep,hp0,k0,hr0,hk0⟩:=hg.head;have hpm:p∈(zR (qz x)).prods:=(by rw[ep];simp);have hne:=(hrr p hpm (1000+(k0:Int)) (by rw[hr0];simp)).2.2;obtain ⟨p',hp',hl',b,hb'⟩:=H1 k0 o_ hk0;refine⟨p,hpm,hp0,(b || false),?_⟩;rw[hr0,<- hl'];exact .non hp' hb' .nil
 . exact H1 k o_ hk
end Go.Proofs
