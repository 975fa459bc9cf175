import Derived.Test.YtkcegflhobejmaaGreatDoorBYA
import Derived.Test.YtkcegflhobejmaaGreatDoorBRB
set_option maxRecDepth 20000
set_option linter.all false
set_option maxHeartbeats 4000000
namespace Go.Proofs
open Go.E
variable {ef:EF} {n:Nat} {ag ro:Bool} {v:Go.E.V}
theorem qor{Q:V->(Nat->Option MObj)->Nat->Prop}{t id:Nat}{e:Exit}{s:St}(he:ef.res=[.inr (t,ag,n)])(hx:e=.normal\/e=.ret)(hp:s.f t=.ptr id 0 0)(hH:s.H id=some (.own n [v] ro))(ha:v.isAgg=ag)
(h:Q v s.H s.next):xW ef Q e s:=by
 have hv:zw s ag n (s.f t)=some v:=by rw[hp];simp only[zw,hH,List.getElem?_cons_zero,jD,ha,and_self,if_true]
 exact⟨hx,v,by rw[he];simp[qcM,qb4,hv,one],h⟩
abbrev grV(g:Grammar)(l:Nat->Int)(E:Nat->Bool)(P:List Int)(a c:Nat):V:= .agg [.sl 6 false (g.toks.map Tok.V),.sl 2 false (g.nons.map Non.V),.sl 6 false (g.prods.map GPr.V),.str g.pro,.str g.tail,.sl 1 false (Qz g.nons.length l),.sl 1 false ((Zm g.nons.length E).map (V.int .i64)),.sl 1 false (P.map (V.int .i64)),vi a,vi c]
def phi(c:Nat):Nat:=c+8 *(4001 - c)
variable {c:Nat}
theorem qvX(h:phi c<=32008):c<=32008:=by unfold phi at h;omega
variable {g:Grammar} {l:Nat->Int} {P:List Int}
theorem qsf{E:Nat->Bool}{a:Nat}{ob:MObj}(h:some ob=some (.own 10 [grV g l E P a c] false))(hl:lab ob=8):False:=by injection h with h;subst h;cases hl
abbrev qyc(v:V)(t:Nd):Prop:= ∃kv,v=.agg [vi t.sym,vi t.prod,vi t.at_,kv]/\kv.cells=[kv]/\kv.okCell=true/\kv.isAgg=false/\ErP kv (.sl 4 false (t.kids.map Nd.V))
theorem qdG{t:Nd}(h:qyc v t){b:Bool}{H:Nat->Option MObj}:Er b H v t.V:=by obtain ⟨kv,rfl,_,_,_,h⟩:=h;obtain ⟨y,p,a,ks⟩:=t;rw[Nd.V_mk];exact ErL.agg (.cons (.int _ _) (.cons (.int _ _) (.cons (.int _ _) (.cons (ErP.er h) .nil))))
def qiC(g:Grammar)(E:Nat->Bool)(s:Int):Prop:=s<1000\/ ∃k:Nat,s=1000+(k:Int)/\k<g.nons.length/\E k=true
structure NodeIn(g:Grammar)(l:Nat->Int)(E:Nat->Bool)(H:Nat->Option MObj)(next wi:Nat)(P:List Int)(a c:Nat):Prop where
 hw:H wi=some (.own 10 [grV g l E P a c] false)
 lw:wi<next
 hp:P.length<=1099511627776
 ha:a<=c
 hc:phi c<=32008
abbrev qi3(g:Grammar)(l:Nat->Int)(E:Nat->Bool)(H:Nat->Option MObj)(next wi:Nat)(P:List Int)(a c:Nat)(s:Int)(v:V)(H':Nat->Option MObj)(n':Nat):Prop:=
 next<=n'/\(∃P' a' c',H' wi=some (.own 10 [grV g l E P' a' c'] false)/\c<c'/\phi c'<=phi c+1/\a'<=c'/\P'.length<=P.length/\∃t,qyc v t/\(c'<=4000->t.size<=c' - c/\∃d,kK g qoz d s a a' t))/\∀j,j<next->j≠wi->H' j=H j
theorem Fst.snoc{R:Int->Nat->Nat->Nd->Prop}:∀{l:List Int} {i a b:Nat} {ks:List Nd} {s:Int} {k:Nd},Fst R l i a ks->R s a b k->Fst R (l++[s]) i b (ks++[k])
 |[],i,a,b,ks,s,k,⟨e1,e2⟩,h=>by subst e1 e2;exact⟨b,k,[],rfl,h,rfl,rfl⟩
 |x::l,i,a,b,ks,s,k,⟨q,k0,r,e,h1,h2⟩,h=>by subst e;exact⟨q,k0,r++[k],rfl,h1,Fst.snoc h2 h⟩
theorem Fst.up{d d':Nat}{l:List Int}{i b:Nat}{ks:List Nd}(h:Fst (kK g qoz d) l i b ks)(hd:d<=d'):Fst (kK g qoz d') l i b ks:=h.mono λ_ _ _ _ h=>h.mono hd
structure KidS(s:St)(g:Grammar)(l:Nat->Int)(E:Nat->Bool)(wi db lo:Nat)(P0:List Int)(a0 c0:Nat)(right:List Int)(y:Int)(m i:Nat)(P:List Int)(a c:Nat)(ks:List Nd)(v:V)(es:List V):Prop where
 hw:s.H wi=some (.own 10 [grV g l E P a c] false)
 fg:Fg s db 4 lo 4 (λv=>.agg [vi y,vi m,vi (-1),v]) v es (ks.map Nd.V)
 hc:c0<=c
 ph:phi c<=phi c0+i
 ha:a<=c
 hP:P.length<=P0.length
 hl:ks.length=i
 hk:c<=4000->Nd.sizes ks<=c - c0/\∃d,Fst (kK g qoz d) (right.take i) a0 a ks
theorem qvr{s0:St}{g:Grammar}{l:Nat->Int}{E:Nat->Bool}{P:List Int}{a c wi k m r6:Nat}{deep:Int}{p:GPr}{Q:Exit->St->Prop}(hg:GOk g)
(IH:∀(H:Nat->Option MObj) (next:Nat) (P:List Int) (a c1:Nat) (s deep:Int),c<=c1->NodeIn g l E H next wi P a c1->qiC g E s-> -(c1:Int) - 1<=deep->deep<=1000->zh Tryz.prog 78 [.ptr wi 0 0,vi s,vi deep] H next (qi3 g l E H next wi P a c1 s))
(f0:s0.f 0=.ptr wi 0 0)(f1:s0.f 1=vi (1000+(k:Int)))(f2:s0.f 2=vi deep)(f6:s0.f 6=.ptr r6 0 0)(f7:s0.f 7=vi m)(hw:s0.H wi=some (.own 10 [grV g l E P a c] false))(h6:∃x1 x2 x3 x4,s0.H r6=some (.own 4 [.agg [x1,x2,x3,x4]] false))(n1:wi≠r6)(l1:wi<s0.next)(l6:r6<s0.next)
(hp:g.prods[m]?=some p)(hpl:p.left=(k:Int))(hfit:zl true E p.right=true)(hP:P.length<=1099511627776)(ha:a<=c)(hc:c<=4000)(hc1:1<=c)(hd: -(c:Int)<=deep)(hd2:deep<=1000)
(hQ:∀s' v P' a' c' t,s'.f 6=.ptr r6 0 0->s'.H r6=some (.own 4 [v] false)->qyc v t->s'.H wi=some (.own 10 [grV g l E P' a' c'] false)->c<=c'->phi c'<=phi c+8->a'<=c'->P'.length<=P.length->(c'<=4000->t.size<=c' - c+1/\∃d,kK g qoz d (1000+(k:Int)) a a' t)->(∀j,j<s0.next->j≠wi->j≠r6->s'.H j=s0.H j)->s0.next<=s'.next->Q .ret s'):ewp Tryz.prog qgQ Q s0:=by
 obtain ⟨x1,x2,x3,x4,h6⟩:=h6;have hmem:=List.mem_of_getElem? hp;have hrt:=qar hg hmem;have hrl:=hg.rlen _ hmem;obtain ⟨pl,pr,pc,pco,pa,pat⟩:=p;dsimp only at hrt hrl hpl hfit;have hphc:phi c=c+8 *(4001 - c):=rfl;repeat' with_reducible first|refine s_ ?_|simp -implicitDefEqProofs only[wZZ,seval,f0,f1,f2,f6,f7]|refine t_ ?_
 refine qb ?nx3 (λ(i:Nat) s=>s.f 0=?v3_0/\s.f 2=?v3_2/\s.f 6=?v3_6/\s.f 7=?v3_7/\s.f 12=?v3_12/\s.f 13=vi i/\(i<=pr.length)/\((∃P' a' c' ks v es,KidS s g l E wi (s0.next+3) s0.next P a c pr (1000+(k:Int)) m i P' a' c' ks v es))/\((∀j,j<s0.next->j≠wi->s.H j=s0.H j))) (λi=>pr.length - i) (0) wj_ (by refine⟨?_,?_,?_,?_,?_,?_,wo_,(by exact⟨P,a,c,[],_,[],⟨by(simp only[wM];(repeat first|rw[if_pos trivial]|rw[if_pos rfl]|rw[if_neg o_]));exact hw,⟨by(simp only[wM];(repeat first|rw[if_pos trivial]|rw[if_pos rfl]|rw[if_neg o_])),Gr.nil,(λj h=>(by cases h)),.nil⟩,Nat.le_refl _,Nat.le_refl _,ha,Nat.le_refl _,rfl,λ_=>⟨Nat.zero_le _,0,rfl,rfl⟩⟩⟩),(by intro j h1 h2;(simp only[wM];(repeat first|rw[if_pos trivial]|rw[if_pos rfl]|rw[if_neg o_])))⟩<;>first|(simp -implicitDefEqProofs only[wL,wM,wN,wX,seval,Option.some.injEq]<;>exact wt_)|rfl|exact⟨_,rfl⟩) ?_;intro i s hnx ⟨g0,g2,g6,g7,g12,g13,k3_0,k3_1,k3_2⟩;obtain ⟨P1,a1,c1,ks,v,es,kw,⟨ko,kG,klo,kE⟩,kc,kph,ka,kP,kl,kk⟩:=k3_1;have hel:es.length=i:=by have:=kE.len;rw[List.length_map]at this;omega
 have hz:=w1_ i;have hzd:IntKind.i64.wrap (deep - 1)=deep - 1:=wrap64 o_ o_;have hdb:gid v≠some (s0.next+3):=λe=>by
  rcases kG with rfl|⟨id,fin,rfl,h1,_⟩
  . cases e
  . cases e;rw[ko]at h1;cases h1
 have hwi:gid v≠some wi:=λe=>by have:=klo _ e;omega
 by_cases hi:i<pr.length
 . have hgi:pr[i]?=some pr[i]:=ge_ hi;have htk:pr.take (i+1)=pr.take i++[pr[i]]:=(by rw[List.take_add_one,hgi];rfl);have hNS:qiC g E pr[i]:=by
    have h1:=List.all_eq_true.1 hfit _ (List.getElem_mem hi);rcases hrt _ (List.getElem_mem hi)with h|⟨q,e,hq⟩
    . exact Or.inl h
    . rw[e,if_neg o_,show (1000+(q:Int) - 1000).toNat=q by omega]at h1;exact Or.inr ⟨q,e,hq,h1⟩
   generalize pr[i]=sy at *;repeat' with_reducible first|refine s_ ?_|simp -implicitDefEqProofs only[wZZ,seval,g0,g2,g6,g7,g12,g13,f0,f2,f6,f7,ko,kw,hz,hzd,qj hdb,qj hwi]|apply qa<;>intro h h_<;>(try simp only[wD,reduceCtorEq]at h_)<;>(try exact wb_)<;>(try simp only[h])|(refine And.intro ?_ ?_;(focus(first|with_unfolding_all rfl|exact congrArg some (qkp ls_))))|refine t_ ?_|(refine qlA rfl rfl ((IH _ _ P1 a1 c1 sy (deep - 1) kc ⟨by((try simp only[wM]);(repeat first|rw[if_pos trivial]|rw[if_pos rfl]|rw[if_neg o_]));exact kw,wg_,o_,ka,o_⟩ hNS o_ o_).mono ?_);rintro v1 H1 n1' ⟨q1,⟨P2,a2,c2,q2,q3,q4,q5,q6,t,⟨kv,rfl,k1,k2,k3,k4⟩,q8⟩,q9⟩;(try simp only[wN]at q1);refine⟨λid ob hid ho hl=>(q9 id hid (λe=>qsf (by rw[e]at ho;(try simp only[wM]at ho);exact ho.symm.trans kw) hl)).trans ho,?_⟩)
   have q9':∀j,j<s.next->j≠wi->H1 j=s.H j:=λj h1 h2=>(q9 j wg_ h2).trans hh_;have kG1:Gr H1 n1' 4 es v:=kG.mono o_ (λj h1 h2=>q9' j h2 (λe=>hwi (by rw[h1,e])));have ko1:H1 (s0.next+3)=some (.own 4 [.agg [vi (1000+(k:Int)),vi m,vi (-1),v]] false):=(q9' _ o_ o_).trans ko;repeat' with_reducible first|refine s_ ?_|simp -implicitDefEqProofs only[wZZ,seval,g0,g2,g6,g7,g12,g13,ko1,hz,qj hdb,qj hwi]|apply zq rfl (kG1.mono (Nat.le_refl _) (λid h1 h2=>by(try simp only[wM]);(repeat rw[if_neg o_])));(focus(first|exact qY.sl|exact qY.asl));(focus(simp only[wZ,hel];omega));(focus(unfold maxLen;simp only[wZ,hel];omega))|refine t_ ?_|simp -implicitDefEqProofs (disch:=omega) only[w64,if_neg]
   refine⟨wg_,i+1,o_,f0,f2,f6,f7,trivial,rfl,o_,⟨P2,a2,c2,ks++[t],_,es++[.agg [vi t.sym,vi t.prod,vi t.at_,kv]],⟨?_,⟨?_,Gr.tok (id:=s.next+12+19) (fin:=es.length+1) (es:=es++[.agg [vi t.sym,vi t.prod,vi t.at_,kv]]) ?_ wg_,(λj h=>(by cases h;omega)),?_⟩,o_,o_,q5,o_,so_,λhc2=>?_⟩⟩,λj h1 h2=>?_⟩
   . ((try simp only[wM]);(repeat first|rw[if_pos trivial]|rw[if_pos rfl]|rw[if_neg o_]));rw[qj hwi];exact q2
   . ((try simp only[wM]);(repeat first|rw[if_pos trivial]|rw[if_pos rfl]|rw[if_neg o_]))
   . ((try simp only[wM]);(repeat first|rw[if_pos trivial]|rw[if_pos rfl]|rw[if_neg o_]))
   . rw[List.map_append];exact kE.snoc (qdG ⟨kv,rfl,k1,k2,k3,k4⟩)
   . obtain ⟨e1,d1,e2⟩:=kk o_;obtain ⟨e3,d2,e4⟩:=q8 hc2;rw[Nd.sizes_snoc,htk];exact⟨o_,d1+d2,(e2.up o_).snoc (e4.mono o_)⟩
   . ((try simp only[wM]);(repeat first|rw[if_pos trivial]|rw[if_pos rfl]|rw[if_neg o_]));rw[qj (λe=>by have:=klo _ e;omega),q9' j o_ h2];exact k3_2 j h1 h2
 . have hr6:s.H r6=some (.own 4 [.agg [x1,x2,x3,x4]] false):=(k3_2 r6 l6 (Ne.symm n1)).trans h6;have et:pr.take i=pr:=List.take_of_length_le o_;rw[et]at kk;repeat' with_reducible first|refine s_ ?_|simp -implicitDefEqProofs only[wZZ,seval,g0,g2,g6,g7,g12,g13,f0,f2,f6,f7,ko,kw,hr6]|apply qa<;>intro h h_<;>(try simp only[wD,reduceCtorEq]at h_)<;>(try exact wb_)<;>(try simp only[h])|refine t_ ?_
   refine hQ _ (.agg [vi (1000+(k:Int)),vi m,vi (-1),v]) P1 a1 c1 (.mk (1000+(k:Int)) m (-1) ks) (by(simp -implicitDefEqProofs only[wL,seval,g6,f6])) hh_ ⟨v,rfl,(Gr.ok kG).1,(Gr.ok kG).2.1,(Gr.ok kG).2.2,Gr.erL kG kE⟩ (by((try simp only[wM]);(repeat first|rw[if_pos trivial]|rw[if_pos rfl]|rw[if_neg o_]));exact kw) kc o_ ka kP (λhc2=>?_) (λj h1 h2 h3=>by((try simp only[wM]);(repeat first|rw[if_pos trivial]|rw[if_pos rfl]|rw[if_neg o_]));exact k3_2 j h1 h2) wg_;obtain ⟨e1,d1,e2⟩:=kk hc2;refine⟨by rw[Nd.size];omega,d1+1,Or.inr ⟨m,_,ks,hp,by dsimp only;rw[hpl],rfl,e2⟩⟩

def qaS(E:Nat->Bool)(k:Nat)(p:GPr):Bool:=decide (p.left=(k:Int)) && zl true E p.right
def Ji(g:Grammar)(E:Nat->Bool)(k n:Nat):List Int:=((List.range n).filter λi=>(g.prods[i]?.map (qaS E k)).getD false).map λ(i:Nat)=>(i:Int)
variable {k:Nat}
theorem qfZ{E:Nat->Bool}{p:GPr}(hp:g.prods[n]?=some p):Ji g E k (n+1)=Ji g E k n++(if qaS E k p=true then[(n:Int)]else[]):=by unfold Ji;rw[List.range_succ,List.filter_append,List.map_append];cases h:qaS E k p<;>simp[hp,h]
theorem qiy(g:Grammar)(E:Nat->Bool)(k n:Nat):(Ji g E k n).length<=n:=by unfold Ji;rw[List.length_map];exact Nat.le_trans (List.length_filter_le _ _) (by rw[List.length_range];exact Nat.le_refl _)
theorem qhi{E:Nat->Bool}{x:Int}(h:x∈Ji g E k n):∃(m:Nat) (p:GPr),x=(m:Int)/\g.prods[m]?=some p/\p.left=(k:Int)/\zl true E p.right=true:=by
 unfold Ji at h;simp only[List.mem_map,List.mem_filter,List.mem_range]at h;obtain ⟨m,⟨_,h1⟩,rfl⟩:=h;cases hp:g.prods[m]? with
 |none=>rw[hp]at h1;cases h1
 | some p=>
   rw[hp]at h1;have h2:qaS E k p=true:=h1;unfold qaS at h2;rw[Bool.and_eq_true,decide_eq_true_eq]at h2;exact⟨m,p,rfl,hp,h2.1,h2.2⟩
theorem qkD{E:Nat->Bool}{m:Nat}{p:GPr}(hp:g.prods[m]?=some p)(hl:p.left=(k:Int))(hf:zl true E p.right=true):1<=(Ji g E k g.prods.length).length:=by
 have hm:(m:Int)∈Ji g E k g.prods.length:=by
  unfold Ji;simp only[List.mem_map,List.mem_filter,List.mem_range];refine⟨m,⟨(List.getElem?_eq_some_iff.1 hp).1,?_⟩,rfl⟩;rw[hp]
  show qaS E k p=true;unfold qaS;rw[Bool.and_eq_true,decide_eq_true_eq];exact⟨hl,hf⟩
 exact List.length_pos_of_mem hm
theorem qeA{E:Nat->Bool}{s:Int}(h:s<1000\/ ∃k:Nat,s=1000+(k:Int)/\k<n):decide (s∈Zm n E)= !(if s<1000 then true else E (s - 1000).toNat):=by
 rcases h with h|⟨k,rfl,hk⟩
 . rw[if_pos h];exact decide_eq_false (qjl h)
 . rw[if_neg o_,show (1000+(k:Int) - 1000).toNat=k by omega,Bool.eq_iff_iff,decide_eq_true_eq,qgF hk];cases E k<;>simp
theorem qr7{s0:St}{g:Grammar}{l:Nat->Int}{E:Nat->Bool}{P:List Int}{a c wi k:Nat}{Q:Exit->St->Prop}(hg:GOk g)
(f0:s0.f 0=.ptr wi 0 0)(f1:s0.f 1=vi (1000+(k:Int)))(hw:s0.H wi=some (.own 10 [grV g l E P a c] false))(l1:wi<s0.next)(hk:k<g.nons.length)(hex:∃(m:Nat) (p:GPr),g.prods[m]?=some p/\p.left=(k:Int)/\zl true E p.right=true)(hP0:0<P.length)(hP:P.length<=1099511627776)
(hQ:∀s' (m:Nat) (p:GPr),s'.f 7=vi m->g.prods[m]?=some p->p.left=(k:Int)->zl true E p.right=true->s'.H wi=some (.own 10 [grV g l E (P.drop 1) a c] false)->(∀j,j<s0.next->j≠wi->s'.H j=s0.H j)->s'.f 0=s0.f 0->s'.f 1=s0.f 1->s'.f 2=s0.f 2->s'.f 6=s0.f 6->s0.next<=s'.next->Q .normal s'):ewp Tryz.prog qjA Q s0:=by
 have hpl:=hg.pl2;have hnl:=hg.nn2;have hvl:=JW g.nons.length E;have hzs:IntKind.i64.wrap (1000+(k:Int) - 1000)=(k:Int):=by rw[wrap64 o_ o_];omega
 repeat' with_reducible first|refine s_ ?_|simp -implicitDefEqProofs only[wZZ,seval,f0,f1]
 refine qb ?nx1 (λ(i:Nat) s=>s.f 0=?v1_0/\s.f 1=?v1_1/\s.f 2=?v1_2/\s.f 6=?v1_6/\(∃v,s.f 8=v/\Gr s.H s.next 1 ((Ji g E k i).map (V.int .i64)) v)/\s.f 9=vi i/\(i<=g.prods.length)/\((s.H wi=some (MObj.own 10 [grV g l E P a c] false)))/\((∀j,j<s0.next->j≠wi->s.H j=s0.H j))/\((∀j,gid (s.f 8)=some j->s0.next<=j))) (λi=>g.prods.length - i) (0) wj_ (by refine⟨?_,?_,?_,?_,?_,?_,wo_,(by(simp only[wM];(repeat first|rw[if_pos trivial]|rw[if_pos rfl]|rw[if_neg o_]));exact hw),(by intro j h1 h2;(simp only[wM];(repeat first|rw[if_pos trivial]|rw[if_pos rfl]|rw[if_neg o_]))),(by intro j h;(simp only[wL]at h);cases h)⟩<;>first|(simp -implicitDefEqProofs only[wL,wM,wN,wX,seval,Option.some.injEq]<;>exact wt_)|rfl|exact⟨_,rfl⟩) ?_;intro i s hnx ⟨g0,g1,g2,g6,⟨v8,g8,G8⟩,g9,k1_0,k1_1,k1_2,k1_3⟩;have hz:=w1_ i;rw[g8]at k1_3;have hgw:gid v8≠some wi:=λe=>by have:=k1_3 _ e;omega
 have hel:=qiy g E k i;by_cases hi:i<g.prods.length
 . have hmem:=List.getElem_mem hi;obtain ⟨lf,hl1,hl2⟩:=hg.left _ hmem;have hrt:=qar hg hmem;have hrl:=hg.rlen _ hmem;generalize hp:g.prods[i]=p at *;have hgp:g.prods[i]?=some p:=(by rw[ge_ hi,hp]);clear hp;have hst:=qfZ (E:=E) (k:=k) hgp;have hpb:qaS E k p=(decide (p.left=(k:Int)) && zl true E p.right):=rfl;obtain ⟨pl,pr,pc,pco,pa,pat⟩:=p;dsimp only at hl1 hrt hrl hpb;subst hl1;repeat' with_reducible first|refine s_ ?_|simp -implicitDefEqProofs only[wZZ,seval,g0,g1,g2,g6,g8,g9,f0,f1,k1_1,hz,hzs,G8.len]|apply qa<;>intro h h_<;>(try simp only[wD,reduceCtorEq]at h_)<;>(try exact wb_)<;>(try simp only[h])|refine t_ ?_
   have hG8:=G8;refine qb ?nx2 (λ(j:Nat) s=>s.f 0=?v2_0/\s.f 1=?v2_1/\s.f 2=?v2_2/\s.f 6=?v2_6/\s.f 8=?v2_8/\s.f 9=?v2_9/\s.f 11=vi j/\(j<=pr.length)/\((s.H wi=some (MObj.own 10 [grV g l E P a c] false)))/\((∀j,j<s0.next->j≠wi->s.H j=s0.H j))/\((Gr s.H s.next 1 ((Ji g E k i).map (V.int .i64)) v8))/\(s.f 10=.bool (decide ((lf:Int)=(k:Int)) && zl true E (pr.take j)))) (λj=>pr.length - j) (0) wj_ (by refine⟨?_,?_,?_,?_,?_,?_,?_,wo_,(by(simp only[wM];(repeat first|rw[if_pos trivial]|rw[if_pos rfl]|rw[if_neg o_]));exact k1_1),(by intro j h1 h2;(simp only[wM];(repeat first|rw[if_pos trivial]|rw[if_pos rfl]|rw[if_neg o_]));exact k1_2 j h1 h2),(by exact G8.mono wg_ (λj h1 h2=>hh_)),(by(try simp -implicitDefEqProofs only[wL,wM,wN,seval,g0,g1,g2,g6,g8,g9]);simp[zl])⟩<;>first|(simp -implicitDefEqProofs only[wL,wM,wN,wX,seval,Option.some.injEq,g0,g1,g2,g6,g8,g9]<;>first|rfl|exact⟨_,rfl⟩|exact⟨_,rfl,by first|assumption|exact Gr.nil|exact Gr.tok rfl o_|exact Gr.tok (by simp -implicitDefEqProofs only[wM,seval]<;>rfl) o_|exact Gr.clip|exact G8.to fs_ o_ rfl⟩)|rfl|exact⟨_,rfl⟩) ?_;intro j s hnx ⟨g0,g1,g2,g6,g8,g9,g11,k2_0,k2_1,k2_2,k2_3,g10⟩;have hzj:=w1_ j;by_cases hj:j<pr.length
   . have hgj:pr[j]?=some pr[j]:=ge_ hj;have hst2:=Xy true E (pr.take j) pr[j];rw[show pr.take j++[pr[j]]=pr.take (j+1) by rw[List.take_add_one,hgj];rfl]at hst2;have hst2:=congrArg (λb=>decide ((lf:Int)=(k:Int)) && b) hst2;rw[<- Bool.and_assoc]at hst2;have hsr:=hrt _ (List.getElem_mem hj);have hhas:=xX (a:=Zm g.nons.length E) (x:=pr[j]) o_;rw[qeA hsr]at hhas;generalize (if pr[j]<1000 then true else E (pr[j] - 1000).toNat)=bb at *;generalize pr[j]=sy at *;generalize (decide ((lf:Int)=(k:Int)) && zl true E (pr.take j))=q at *;cases q with
     | false=>
       rw[Bool.false_and]at hst2;repeat' with_reducible first|refine s_ ?_|simp -implicitDefEqProofs only[wZZ,seval,g0,g1,g2,g6,g8,g9,g11,g10,f0,f1,k2_1,hzj]|apply qa<;>intro h h_<;>(try simp only[wD,reduceCtorEq]at h_)<;>(try exact wb_)<;>(try simp only[h])|refine t_ ?_
       refine⟨wk_,j+1,o_,?_⟩;refine⟨?_,?_,?_,?_,?_,?_,?_,?_,?_,?_,?_,?_⟩;iterate 7 (focus(first|(simp -implicitDefEqProofs only[wL,wM,wN,wX,seval,Option.some.injEq,g0,g1,g2,g6,g8,g9,g11,g10,hst2,k2_1]<;>exact wt_)|rfl|exact⟨_,rfl⟩))
       all_goals try omega
       all_goals try simp -implicitDefEqProofs only[wL,wM,wN,wX,seval,g0,g1,g2,g6,g8,g9,g11,g10,hst2,k2_1]
       exact k2_3.mono o_ (λ_ _ _=>rfl)
     | true=>
       cases bb with
       | false=>
         rw[Bool.and_false]at hst2;repeat' with_reducible first|refine s_ ?_|simp -implicitDefEqProofs only[wZZ,seval,g0,g1,g2,g6,g8,g9,g11,g10,f0,f1,k2_1,hzj]|apply qa<;>intro h h_<;>(try simp only[wD,reduceCtorEq]at h_)<;>(try exact wb_)<;>(try simp only[h])|refine t_ ?_|refine cq2 hhas qd qd ?_
         refine⟨wk_,j+1,o_,?_⟩;refine⟨?_,?_,?_,?_,?_,?_,?_,?_,?_,?_,?_,?_⟩;iterate 7 (focus(first|(simp -implicitDefEqProofs only[wL,wM,wN,wX,seval,Option.some.injEq,g0,g1,g2,g6,g8,g9,g11,g10,hst2,k2_1]<;>exact wt_)|rfl|exact⟨_,rfl⟩))
         all_goals try omega
         all_goals try simp -implicitDefEqProofs only[wL,wM,wN,wX,seval,g0,g1,g2,g6,g8,g9,g11,g10,hst2,k2_1]
         exact k2_3.mono o_ (λ_ _ _=>rfl)
       | true=>
         rw[Bool.and_true]at hst2;repeat' with_reducible first|refine s_ ?_|simp -implicitDefEqProofs only[wZZ,seval,g0,g1,g2,g6,g8,g9,g11,g10,f0,f1,k2_1,hzj]|apply qa<;>intro h h_<;>(try simp only[wD,reduceCtorEq]at h_)<;>(try exact wb_)<;>(try simp only[h])|refine t_ ?_|refine cq2 hhas qd qd ?_
         refine⟨wk_,j+1,o_,?_⟩;refine⟨?_,?_,?_,?_,?_,?_,?_,?_,?_,?_,?_,?_⟩;iterate 7 (focus(first|(simp -implicitDefEqProofs only[wL,wM,wN,wX,seval,Option.some.injEq,g0,g1,g2,g6,g8,g9,g11,g10,hst2,k2_1]<;>exact wt_)|rfl|exact⟨_,rfl⟩))
         all_goals try omega
         all_goals try simp -implicitDefEqProofs only[wL,wM,wN,wX,seval,g0,g1,g2,g6,g8,g9,g11,g10,hst2,k2_1]
         exact k2_3.mono o_ (λ_ _ _=>rfl)
   . rw [List.take_of_length_le o_]at g10;rw[<- hpb]at g10;cases hb:qaS E k {left:=(lf:Int),right:=pr,prec:=pc,code:=pco,args:=pa,at_:=pat} with
     | false=>
       rw[hb]at g10;rw[hb,if_neg (by simp),List.append_nil]at hst;repeat' with_reducible first|refine s_ ?_|simp -implicitDefEqProofs only[wZZ,seval,g0,g1,g2,g6,g8,g9,g11,g10,f0,f1,k2_1,hz]|apply qa<;>intro h h_<;>(try simp only[wD,reduceCtorEq]at h_)<;>(try exact wb_)<;>(try simp only[h])|refine t_ ?_
       exact⟨wg_,i+1,o_,trivial,trivial,trivial,trivial,⟨v8,rfl,by rw[hst];exact k2_3.mono wg_ (λ_ _ _=>rfl)⟩,rfl,o_,trivial,k2_2,λj h=>by exact k1_3 j h⟩
     | true=>
       rw[hb]at g10;rw[hb,if_pos rfl]at hst;repeat' with_reducible first|refine s_ ?_|simp -implicitDefEqProofs only[wZZ,seval,g0,g1,g2,g6,g8,g9,g11,g10,f0,f1,k2_1,hz]|apply qa<;>intro h h_<;>(try simp only[wD,reduceCtorEq]at h_)<;>(try exact wb_)<;>(try simp only[h])|refine t_ ?_|apply zq rfl (k2_3.mono (Nat.le_refl _) (λid h1 h2=>by(try simp only[wM]);(repeat rw[if_neg o_])));(focus(first|exact qY.sl|exact qY.asl));(focus(simp only[wZ,hel];omega));(focus(unfold maxLen;simp only[wZ,hel];omega))|simp -implicitDefEqProofs (disch:=omega) only[w64,if_neg]
       refine⟨wg_,i+1,o_,trivial,trivial,trivial,trivial,⟨_,rfl,by rw[hst];exact Gr.tok (id:=s.next+12+1+3) (fin:=(Ji g E k i).length+1) hh_ wg_⟩,rfl,o_,?_,λj h1 h2=>?_,λj h=>(by cases h;omega)⟩
       . ((try simp only[wM]);(repeat first|rw[if_pos trivial]|rw[if_pos rfl]|rw[if_neg o_]));rw[qj hgw];exact k2_1
       . ((try simp only[wM]);(repeat first|rw[if_pos trivial]|rw[if_pos rfl]|rw[if_neg o_]));rw[qj (λe=>by have:=k1_3 _ e;omega)];exact k2_2 j h1 h2
 . have e:i=g.prods.length:=o_;subst e;obtain ⟨m0,p0,hm0,hm1,hm2⟩:=hex;have hL1:=qkD (E:=E) hm0 hm1 hm2;have hmm:=λx=>qhi (g:=g) (E:=E) (k:=k) (n:=g.prods.length) (x:=x);generalize Ji g E k g.prods.length=L at *;have hg0:P[0]?=some P[0]:=ge_ hP0;generalize P[0]=x0 at *;obtain ⟨q,hq,hql⟩:∃q:Nat,x0 % (L.length:Int)=(q:Int)/\q<L.length:=by
    have h1:=Int.emod_nonneg x0 (show (L.length:Int)≠0 by omega);have h2:=Int.emod_lt_of_pos x0 (show (0:Int)<(L.length:Int) by omega);exact⟨(x0 % (L.length:Int)).toNat,o_,o_⟩
   have hw1:=XO (i:=x0) (n:=(L.length:Int)) o_ o_;rw[hq]at hw1;have hgq:L[q]?=some L[q]:=ge_ hql;obtain ⟨m,p,e1,e2,e3,e4⟩:=hmm _ (List.getElem_mem hql);rw[e1]at hgq
   skip
   repeat' with_reducible first|refine s_ ?_|simp -implicitDefEqProofs only[wZZ,seval,g0,g1,g2,g6,g8,g9,f0,f1,k1_1,G8.len]|refine t_ ?_|refine cq2 hw1 qd qd ?_|apply Gr.iaQ G8;omega;with_unfolding_all exact hgq|apply Jb;omega;exact wf_
   refine hQ _ m p (by(simp -implicitDefEqProofs only[wL,seval])) e2 e3 e4 hh_ (λj h1 h2=>by((try simp only[wM]);(repeat first|rw[if_pos trivial]|rw[if_pos rfl]|rw[if_neg o_]));exact k1_2 j h1 h2) (by(simp -implicitDefEqProofs only[wL,seval,g0])) (by(simp -implicitDefEqProofs only[wL,seval,g1])) (by(simp -implicitDefEqProofs only[wL,seval,g2])) (by(simp -implicitDefEqProofs only[wL,seval,g6])) wg_

theorem qg9{K:V->Prop}{k:IntKind}{i:Int}(h0:0<=i)(h:i.toNat<n)(hk:K (.iptr 1 (vi (l i.toNat)) 0)):onS (jc 1 (.sl 1 false (Qz n l)) (.int k i)) K:=
 qbT (f:=λk=>vi (l k)) (l:=List.range n) (x:=i.toNat) h0 (List.getElem?_range h) hk
theorem qq6(h:4000<=c):phi (c+1)<=phi c+1:=by unfold phi;omega
theorem qvd(h:c<4000):phi (c+1)+7=phi c:=by unfold phi;omega
theorem qcB{H:Nat->Option MObj}{next wi:Nat}{E:Nat->Bool}{a:Nat}{y deep:Int}(hg:GOk g)(hl:IsLow g l)(hE:IsGrow g true E)(IH:c<4000->∀(H:Nat->Option MObj) (next:Nat) (P:List Int) (a c1:Nat) (s deep:Int),c+1<=c1->NodeIn g l E H next wi P a c1->qiC g E s-> -(c1:Int) - 1<=deep->deep<=1000->zh Tryz.prog 78 [.ptr wi 0 0,vi s,vi deep] H next (qi3 g l E H next wi P a c1 s))(hI:NodeIn g l E H next wi P a c)(hS:qiC g E y)(hd: -(c:Int) - 1<=deep)(hd2:deep<=1000):zh Tryz.prog 78 [.ptr wi 0 0,vi y,vi deep] H next (qi3 g l E H next wi P a c y):=by
 refine zb Tryz.func78 nm_ qug (by show 3<=182;decide) ?_
 show ewp _ qvT _ _;obtain ⟨hw,hlw,hPb,hac,hphi⟩:=hI;have hcb:=qvX hphi;have hnl:=hg.nn2;have hzc:=w1_ c;have hza:=w1_ a;have hza2:IntKind.i64.wrap (((a+1:Nat):Int) - 1)=(a:Int):=by rw[wrap64 o_ o_];omega
 have W70:= @qvr;have W51:= @qr7
 show ewp _ (.seq (.reg qyj) (.seq (.reg qx4) (.seq qyb (.seq qsG (.seq (.reg qxt) (.seq (.seq (.reg qtd) (.cond (.t 60) qjA .skip)) qgQ)))))) _ _;generalize qgQ=E70 at W70 ⊢;generalize qjA=E51 at W51 ⊢;by_cases hc:4000<=c
 . have hph:=qq6 hc;repeat' with_reducible first|refine s_ ?_|simp -implicitDefEqProofs only[wZZ,seval,hw,hzc]|apply qa<;>intro h h_<;>(try simp only[wD,reduceCtorEq]at h_)<;>(try exact wb_)<;>(try simp only[h])|refine t_ ?_|simp -implicitDefEqProofs (disch:=omega) only[w64,if_neg]
   refine qor (t:=6) (id:=next) (ro:=false) rfl (Or.inr rfl) (by(simp -implicitDefEqProofs only[wL,seval])) hh_ rfl ⟨wg_,⟨P,a,c+1,hh_,o_,hph,o_,Nat.le_refl _,.mk 0 0 0 [],⟨.sl 4 true [],rfl,rfl,rfl,rfl,.sl 4 true [] [] rfl (by simp)⟩,λh=>o_⟩,λj h1 h2=>hh_⟩
 . have hph:=qvd (c:=c) o_;by_cases hs:y<1000
   . repeat' with_reducible first|refine s_ ?_|simp -implicitDefEqProofs only[wZZ,seval,hw,hzc,hza,hza2]|apply qa<;>intro h h_<;>(try simp only[wD,reduceCtorEq]at h_)<;>(try exact wb_)<;>(try simp only[h])|refine t_ ?_|simp -implicitDefEqProofs (disch:=omega) only[w64,if_neg]
     refine qor (t:=6) (id:=next) (ro:=false) rfl (Or.inr rfl) (by(simp -implicitDefEqProofs only[wL,seval])) hh_ rfl ⟨wg_,⟨P,a+1,c+1,hh_,o_,o_,o_,Nat.le_refl _,.mk y (-1) a [],⟨.sl 4 true [],rfl,rfl,rfl,rfl,.sl 4 true [] [] rfl (by simp)⟩,λ_=>⟨by rw[Nd.size,Nd.sizes];omega,1,Or.inl ⟨hs,rfl,trivial,rfl⟩⟩⟩,λj h1 h2=>hh_⟩
   . obtain ⟨k,rfl,hk,hEk⟩:∃k:Nat,y=1000+(k:Int)/\k<g.nons.length/\E k=true:=by
      rcases hS with h|h
      . exact absurd h hs
      . exact h
     obtain ⟨m0,p0,hm0,hm1,hm2,hm3⟩:=hl.get hE hg hk hEk;have hzk:IntKind.i64.wrap (1000+(k:Int) - 1000)=(k:Int):=(by rw[wrap64 o_ o_];omega);have fin:∀(s1:St) (m:Nat) (p:GPr) (P1:List Int) (Q:Exit->St->Prop),s1.f 0=.ptr wi 0 0->s1.f 1=vi (1000+(k:Int))->s1.f 2=vi deep->s1.f 6=.ptr next 0 0->s1.f 7=vi m->s1.H wi=some (.own 10 [grV g l E P1 a (c+1)] false)->(∃x1 x2 x3 x4,s1.H next=some (.own 4 [.agg [x1,x2,x3,x4]] false))->wi<s1.next->next<s1.next->g.prods[m]?=some p->p.left=(k:Int)->zl true E p.right=true->P1.length<=P.length->(∀j,j<next->j≠wi->s1.H j=H j)->next<=s1.next->
      (∀s',xW e78 (qi3 g l E H next wi P a c (1000+(k:Int))) .ret s'->Q .ret s')->ewp Tryz.prog E70 Q s1:=by
      intro s1 m p P1 Q q0 q1 q2 q6 q7 qw qn ql qm qp qpl qf qP qH qN qQ;refine W70 (p:=p) (P:=P1) (a:=a) (c:=c+1) (wi:=wi) (k:=k) (m:=m) (r6:=next) (l:=l) (E:=E) hg (IH o_) q0 q1 q2 q6 q7 qw qn o_ ql qm qp qpl qf o_ o_ o_ o_ o_ hd2 (λs' v P' a' c' t r1 r2 r3 r4 r5 r6 r7 r8 r9 r10 r11=>qQ s' ?_);refine qor (t:=6) (id:=next) (ro:=false) rfl (Or.inr rfl) r1 r2 (by obtain ⟨kv,rfl,_⟩:=r3;rfl) ⟨o_,⟨P',a',c',r4,o_,o_,r7,o_,t,r3,λhc'=>?_⟩,λj h1 h2=>(r10 j o_ h2 o_).trans (qH j h1 h2)⟩;obtain ⟨u1,u2⟩:=r9 hc';exact⟨o_,u2⟩
     by_cases hpk:0<P.length/\0<deep
     . repeat' with_reducible first|refine s_ ?_|simp -implicitDefEqProofs only[wZZ,seval,hw,hzc,hzk,hm0]|(first|apply qa|apply qA|apply qB)<;>intro h h_<;>(try simp only[wD,reduceCtorEq]at h_)<;>(try exact wb_)<;>(try simp only[h])|(refine qg9 o_ o_ ?_)|refine t_ ?_|simp -implicitDefEqProofs (disch:=omega) only[w64,if_neg]
       refine W51 (P:=P) (a:=a) (c:=c+1) (wi:=wi) (k:=k) (l:=l) (E:=E) hg (by(simp -implicitDefEqProofs only[wL,seval])) (by(simp -implicitDefEqProofs only[wL,seval])) hh_ wg_ hk ⟨m0,p0,hm1,hm2,hm3⟩ hpk.1 hPb (λs2 m p r7 u1 u2 u3 u4 u5 v0 v1 v2 v6 uN=>?_);(try simp only[wN]at u5 uN);repeat' with_reducible first|refine qjR ?_
       refine fin s2 m p (P.drop 1) _ (v0.trans (by(simp -implicitDefEqProofs only[wL,seval]))) (v1.trans (by(simp -implicitDefEqProofs only[wL,seval]))) (v2.trans (by(simp -implicitDefEqProofs only[wL,seval]))) (v6.trans (by(simp -implicitDefEqProofs only[wL,seval]))) r7 u4 ⟨_,_,_,_,(u5 next o_ o_).trans hh_⟩ o_ o_ u1 u2 u3 (by rw[List.length_drop];omega) (λj h1 h2=>(u5 j o_ h2).trans hh_) o_ (λs' h=>h)
     . repeat' with_reducible first|refine s_ ?_|simp -implicitDefEqProofs only[wZZ,seval,hw,hzc,hzk,hm0]|(first|apply qa|apply qA|apply qB)<;>intro h h_<;>(try simp only[wD,reduceCtorEq]at h_)<;>(try exact wb_)<;>(try simp only[h])|(refine qg9 o_ o_ ?_)|refine t_ ?_|simp -implicitDefEqProofs (disch:=omega) only[w64,if_neg]
       all_goals exact fin _ m0 p0 P _ (by(simp -implicitDefEqProofs only[wL,seval])) (by(simp -implicitDefEqProofs only[wL,seval])) (by(simp -implicitDefEqProofs only[wL,seval])) (by(simp -implicitDefEqProofs only[wL,seval])) (by(simp -implicitDefEqProofs only[wL,seval])) hh_ ⟨_,_,_,_,hh_⟩ wg_ wg_ hm1 hm2 hm3 (Nat.le_refl _) (λj h1 h2=>hh_) wg_ (λs' h=>h)
theorem qeD{g:Grammar}{l:Nat->Int}{E:Nat->Bool}(hg:GOk g)(hl:IsLow g l)(hE:IsGrow g true E)(wi:Nat):∀(F:Nat) (H:Nat->Option MObj) (next:Nat) (P:List Int) (a c:Nat) (s deep:Int),4000<=c+F->NodeIn g l E H next wi P a c->qiC g E s-> -(c:Int) - 1<=deep->deep<=1000->zh Tryz.prog 78 [.ptr wi 0 0,vi s,vi deep] H next (qi3 g l E H next wi P a c s)
 |0,H,next,P,a,c,s,deep,hF,hI,hS,h1,h2=>qcB hg hl hE (λh=>o_) hI hS h1 h2
 |F+1,H,next,P,a,c,s,deep,hF,hI,hS,h1,h2=>qcB hg hl hE (λ_ H next P a c1 s deep hc hI hS h1 h2=>qeD hg hl hE wi F H next P a c1 s deep o_ hI hS h1 h2) hI hS h1 h2

theorem qlR{t u id:Nat}{w res:V}{e:Exit}{s:St}(he:ef.res=[.inr (t,ag,n),.inl u])(hx:e=.normal\/e=.ret)(hp:s.f t=.ptr id 0 0)(hH:s.H id=some (.own n [v] ro))(ha:v.isAgg=ag)(hu:s.f u=w)
(h:Er true s.H (.tup [v,w]) res):z8 ef res e s:=by
 have hv:zw s ag n (s.f t)=some v:=by rw[hp];simp only[zw,hH,List.getElem?_cons_zero,jD,ha,and_self,if_true]
 exact⟨hx,_,by rw[he];simp[qcM,qb4,hv,one,hu],h⟩
def qyk(g:Grammar)(k:Nat)(v:V):Prop:= ∃(t:Nd) (ok:Bool),v=.tup [t.V,.bool ok]/\(ok=true->t.size<=4000/\∃d j,kK g qoz d (1000+(k:Int)) 0 j t)
theorem qqr(hg:GOk g)(hP:P.length<=1099511627776)(hk:∃p r,g.prods=p::r/\p.right=[1000+(k:Int)])(hkn:k<g.nons.length):∃v,qyk g k v/\Pure Tryz.prog 40 [g.V,.sl 1 false (P.map (V.int .i64))] v:=by
 refine qaY Tryz.func40 nm_ qsL (by show 2<=40;decide) ?_
 show ewp _ qsh _ _;obtain ⟨p,r,hpr,hpR⟩:=hk;obtain ⟨l,hl,plow⟩:=qfS hg;obtain ⟨E,hE,pvain⟩:=VP hg;have hvl:=JW g.nons.length E;have hnl:=hg.nn2;have hgp:g.prods[0]?=some p:=by rw[hpr];rfl
 obtain ⟨pl,pr,pc,pco,pa,pat⟩:=p;dsimp only at hpR;subst hpR;have hg0:[1000+(k:Int)][0]?=some (1000+(k:Int)):=rfl;have hhas:=xX (a:=Zm g.nons.length E) (x:=1000+(k:Int)) o_;rw[qeA (Or.inr ⟨k,rfl,hkn⟩),if_neg o_,show (1000+(k:Int) - 1000).toNat=k by omega]at hhas;have hvc:=JW g.nons.length E;have hic:=qew g.nons.length l;cases hEk:E k with
 | false=>
   rw[hEk]at hhas;repeat' with_reducible first|refine s_ ?_|simp -implicitDefEqProofs only[wZZ,seval]|refine cq1 plow qd ?_|refine cq1 pvain qd ?_|refine t_ ?_|(with_unfolding_all (refine qbT (f:=V.int .i64) (l:=[1000+(k:Int)]) (x:=1000+(k:Int)) o_ rfl ?_))|refine cq2 hhas qd qd ?_
   exact⟨_,⟨.mk 0 0 0 [],false,rfl,λh=>(by cases h)⟩,qlR (t:=4) (u:=5) (id:=1) (n:=4) (ro:=false) (ag:=true) (v:= .agg [.int .i64 0,.int .i64 0,.int .i64 0,.sl 4 true []]) (w:= .bool false) rfl (Or.inr rfl) (by(simp -implicitDefEqProofs only[wL,seval])) hh_ rfl (by(simp -implicitDefEqProofs only[wL,seval])) (ErL.tup (.cons (qdG (t:= .mk 0 0 0 []) ⟨.sl 4 true [],rfl,rfl,rfl,rfl,.sl 4 true [] [] rfl (by simp)⟩) (.cons (.bool _) .nil)))⟩
 | true=>
   rw[hEk]at hhas;have hno:=qeD hg hl hE 10 4000;repeat' with_reducible first|refine s_ ?_|simp -implicitDefEqProofs only[wZZ,seval]|refine cq1 plow qd ?_|refine cq1 pvain qd ?_|refine t_ ?_|(with_unfolding_all (refine qbT (f:=V.int .i64) (l:=[1000+(k:Int)]) (x:=1000+(k:Int)) o_ rfl ?_))|refine cq2 hhas qd qd ?_
   refine qR rfl rfl rfl ((hno _ _ P 0 0 (1000+(k:Int)) 20 o_ ⟨by((try simp only[wM]);(repeat first|rw[if_pos trivial]|rw[if_pos rfl]|rw[if_neg o_]));rfl,wg_,hP,o_,dc_⟩ (Or.inr ⟨k,rfl,hkn,hEk⟩) o_ o_).mono ?_);rintro v1 H1 n1' ⟨q1,⟨P2,a2,c2,q2,q3,q4,q5,q6,t,⟨kv,rfl,k1,k2,k3,k4⟩,q8⟩,q9⟩;(try simp only[wN]at q1);have q9':∀j,j<12->j≠10->j=1->H1 j=some (.own 4 [.agg [.int .i64 0,.int .i64 0,.int .i64 0,.sl 4 true []]] false):=λj h1 h2 h3=>by subst h3;rw[q9 1 wg_ o_];((try simp only[wM]);(repeat first|rw[if_pos trivial]|rw[if_pos rfl]|rw[if_neg o_]))
   have q91:=q9' 1 o_ o_ rfl;repeat' with_reducible first|refine s_ ?_|simp -implicitDefEqProofs only[wZZ,seval,q2,q91]|(refine And.intro ?_ ?_;(focus(first|with_unfolding_all rfl|exact congrArg some (qkp ls_))))|refine t_ ?_
   exact⟨_,⟨t,decide (c2<=4000),rfl,λh=>(by
    have h:=of_decide_eq_true h;obtain ⟨u1,d,u2⟩:=q8 h;exact⟨o_,d,a2,u2⟩)⟩,qlR (t:=4) (u:=5) (id:=1) (n:=4) (ro:=false) (ag:=true) (v:= .agg [vi t.sym,vi t.prod,vi t.at_,kv]) (w:= .bool (decide ((c2:Int)<=4000))) rfl (Or.inr rfl) (by(simp -implicitDefEqProofs only[wL,seval])) hh_ rfl (by(simp -implicitDefEqProofs only[wL,seval])) (ErL.tup (.cons (qdG ⟨kv,rfl,k1,k2,k3,k4⟩) (.cons (qdM (by rw[Bool.eq_iff_iff,decide_eq_true_eq,decide_eq_true_eq];omega)) .nil)))⟩
end Go.Proofs
