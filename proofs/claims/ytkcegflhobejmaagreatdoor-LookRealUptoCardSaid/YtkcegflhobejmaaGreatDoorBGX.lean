import Derived.Test.YtkcegflhobejmaaGreatDoorBSO
import Derived.Test.YtkcegflhobejmaaGreatDoorBTT
set_option maxRecDepth 20000
set_option linter.all false
set_option maxHeartbeats 4000000
namespace Go.Proofs
open Go.E
abbrev ivs(l:List Int):List V:=l.map (V.int .i64)
def Xk(n:Nat)(l:Nat->Int):List Int:=(List.range n).map l
theorem ZO(n:Nat)(l:Nat->Int):(Xk n l).length=n:=by simp[Xk]
theorem jo{n k:Nat}{l:Nat->Int}(h:k<n):(Xk n l)[k]?=some (l k):=by simp[Xk,h]
theorem qkl{n k:Nat}{l:Nat->Int}{x:Int}:(Xk n l).set k x=Xk n (Y8 l k x):=by
 refine List.ext_getElem? λj=>?_;rw[List.getElem?_set];by_cases hj:j<n
 . rw[jo (l:=Y8 l k x) hj,jo (l:=l) hj];by_cases e:k=j
   . subst e;rw[if_pos rfl,if_pos (by rw[ZO];exact hj),ji]
   . rw[if_neg e,vQ (λh=>e h.symm)]
 . have h1:(Xk n (Y8 l k x))[j]?=none:=List.getElem?_eq_none (by rw[ZO];omega);have h2:(Xk n l)[j]?=none:=List.getElem?_eq_none (by rw[ZO];omega);rw[h1,h2];split
   . rw[if_neg (by rw[ZO];omega)]
   . rfl
theorem qgg{n:Nat}{l m:Nat->Int}(h:∀k,k<n->l k=m k):Xk n l=Xk n m:=List.map_congr_left λk hk=>h k (List.mem_range.1 hk)
def QF(l:List Nat):List Int:=l.map λx:Nat=>(x:Int)
theorem xK(l:List Nat):(QF l).length=l.length:=by simp[QF]
theorem Yr{l:List Nat}{k x:Nat}(h:l[k]?=some x):(QF l)[k]?=some (x:Int):=by simp[QF,h]
theorem KU(o:Nat->Int)(g:Int)(x:Nat):∀l:List Nat,markT o g (l++[x])=Y8 (markT o g l) x g
 |[]=>by funext i;simp[markT,Y8]
 | y ::r=>by
   funext i;rw[List.cons_append,markT,KU o g x r];by_cases h1:i=y
   . subst h1;rw[if_pos rfl];by_cases h2:i=x
     . subst h2;rw[ji]
     . rw[vQ h2,markT,if_pos rfl]
   . rw[if_neg h1];by_cases h2:i=x
     . subst h2;rw[ji,ji]
     . rw[vQ h2,vQ h2,markT,if_neg h1]
theorem qjY{l:List Int}(h:l.Nodup):jl (qdV l)/\∀x,x∈qdV l↔x∈l:=by have hp:(qdV l).Perm l:=List.mergeSort_perm _ _;have hs:(qdV l).Pairwise (λa b=>decide (a<=b)=true):=List.pairwise_mergeSort (λa b c=>by simp;omega) (λa b=>by simp;omega) _;have hn:(qdV l).Nodup:=hp.nodup_iff.2 h;refine⟨?_,λx=>hp.mem_iff⟩;refine(List.Pairwise.and hs hn).imp λ{a b} h=>?_;have:=h.1;have h2:=h.2;rw[decide_eq_true_eq]at this;exact Int.lt_iff_le_and_ne.2 ⟨this,h2⟩
theorem YS{l:List Nat}(h:l.Nodup):qdV (QF l)=QF (Jf l):=by
 have hn:(QF l).Nodup:=by unfold QF;exact List.Pairwise.map (S:=(· ≠ ·)) _ (λa b hab=>by omega) h
 obtain ⟨a,b⟩:=qjY hn;refine yU a ?_ λx=>?_
 . unfold QF;exact List.Pairwise.map (S:=(· < ·)) _ (λa b hab=>by omega) (Zt h)
 . rw[b];simp[QF,vZ]
def mid:V->Option Nat
 |.msl id _ _ _=>some id
 | _=>none
def qoD(H:Nat->Option MObj)(base next:Nat)(st:List Nat)(v:V):Prop:=
 (st=[]/\v=.sl 1 true [])\/ ∃(id:Nat) (full:List Int),v=.msl id 1 0 st.length/\H id=some (.own 1 (ivs full) false)/\full.take st.length=QF st/\base<=id/\id<next
theorem qoD.mono{H H':Nat->Option MObj}{base next n':Nat}{st:List Nat}{v:V}(h:qoD H base next st v)(hn:next<=n')(hh:∀j,mid v=some j->base<=j->j<next->H' j=H j):qoD H' base n' st v:=by
 rcases h with h|⟨id,full,rfl,h2,h3,h4,h5⟩
 . exact Or.inl h
 . exact Or.inr ⟨id,full,rfl,(hh id rfl h4 h5).trans h2,h3,h4,o_⟩
theorem qoD.mid{H:Nat->Option MObj}{base next:Nat}{st:List Nat}{v:V}(h:qoD H base next st v):∀j,(j<base\/next<=j)->Go.Proofs.mid v≠some j:=λj hj e=>by
 rcases h with ⟨_,rfl⟩|⟨id,full,rfl,h2,h3,h4,h5⟩
 . cases e
 . cases e;omega
theorem GrM.mono{H H':Nat->Option MObj}{base next n' z:Nat}{es:List V}{v:V}(h:GrM H base next z es v)(hn:next<=n')(hh:∀j,Go.Proofs.mid v=some j->base<=j->j<next->H' j=H j):GrM H' base n' z es v:=by
 rcases h with h|⟨id,rfl,h2,h3,h4⟩
 . exact Or.inl h
 . exact Or.inr ⟨id,rfl,(hh id rfl h3 h4).trans h2,h3,o_⟩
theorem GrM.mid{H:Nat->Option MObj}{base next z:Nat}{es:List V}{v:V}(h:GrM H base next z es v):∀j,(j<base\/next<=j)->Go.Proofs.mid v≠some j:=λj hj e=>by
 rcases h with ⟨_,rfl⟩|⟨id,rfl,h2,h3,h4⟩
 . cases e
 . cases e;omega
theorem quh{cls:Cls}{id:Nat}{s:St}{K:V->St->Prop}{z bytes:Nat}{vx vy:V}{xs ys:List V}{H:Nat->Option MObj}{base next:Nat}(hcl:cls=.any)
(hg:GrM H base next z xs vx)(hH:s.H=H)(hs:za s.H z ys vy)(hb:(xs.length+ys.length) *bytes<=140737488355328)(hl:xs.length+ys.length<=maxLen)
(hk:∀H',H' id=some (.own z (xs++ys) false)->(∀j,j≠id->mid vx≠some j->H' j=s.H j)->K (.msl id z 0 (xs++ys).length) {s with H:=H'}):V7 cls id s K true z bytes vx vy:=by
 unfold V7;rw[hs.1 s rfl];refine⟨λe=>(by rw[hcl]at e;cases e),?_⟩;rcases hg with ⟨rfl,rfl⟩|⟨i,rfl,h1,h2,h3⟩
 . have e:qI id s true z (.sl z true []) ys=some (.msl id z 0 ys.length,s.setO id (some (.own z ys false)),ys.length):=(by simp[qI]);rw[e];refine⟨by simpa using hb,by simpa using hl,?_⟩;exact hk (λi=>if i=id then some (.own z ys false)else s.H i) (by simp) (λj hj _=>by simp[hj])
 . rw[<- hH]at h1;have e:qI id s true z (.msl i z 0 xs.length) ys=some (.msl id z 0 (xs.length+ys.length),(s.setO i none).setO id (some (.own z (xs++ys) false)),xs.length+ys.length):=(by simp[qI,h1]);rw[e];refine⟨hb,hl,?_⟩;have:=hk (λj=>if j=id then some (.own z (xs++ys) false)else if j=i then none else s.H j) (by simp) (λj hne hj=>by simp[hne,show j≠i from λe=>hj (by rw[e];rfl)]);rw[List.length_append]at this;exact this
theorem quX{cls:Cls}{id:Nat}{s:St}{K:V->St->Prop}{vx:V}{st:List Nat}{x:Nat}{H:Nat->Option MObj}{base next:Nat}(hcl:cls=.any)
(hg:qoD H base next st vx)(hH:s.H=H)(hl:st.length<=1000000000)
(hk:∀H',H' id=some (.own 1 (ivs (QF (st++[x]))) false)->(∀j,j≠id->mid vx≠some j->H' j=s.H j)->K (.msl id 1 0 (st++[x]).length) {s with H:=H'}){c:Bool}:V7 cls id s K true 1 8 vx (.sl 1 c [vi (x:Int)]):=by
 unfold V7;have e0:qdJ s 1 (.sl 1 c [vi (x:Int)])=some [vi (x:Int)]:=by simp[qdJ]
 rw[e0];refine⟨λe=>(by rw[hcl]at e;cases e),?_⟩;rcases hg with ⟨rfl,rfl⟩|⟨i,full,rfl,h1,h2,h3,h4⟩
 . have e:qI id s true 1 (.sl 1 true []) [vi (x:Int)]=some (.msl id 1 0 1,s.setO id (some (.own 1 [vi (x:Int)] false)),1):=(by simp[qI]);rw[e];refine⟨by decide,by decide,?_⟩;exact hk (λi=>if i=id then some (.own 1 [vi (x:Int)] false)else s.H i) (by simp[QF]) (λj hj _=>by simp[hj])
 . rw[<- hH]at h1;have hfl:st.length<=full.length:=by
    have:=congrArg List.length h2;rw[List.length_take,xK]at this;omega
   have e:qI id s true 1 (.msl i 1 0 st.length) [vi (x:Int)]=some (.msl id 1 0 (st.length+1),(s.setO i none).setO id (some (.own 1 (ivs (QF (st++[x]))) false)),st.length+1):=by
    simp only[qI,h1,if_true];rw[if_pos ⟨trivial,by simp;omega⟩]
    have:((ivs full).drop 0).take st.length++[vi (x:Int)]=ivs (QF (st++[x])):=by rw[List.drop_zero,<- List.map_take,h2];simp[QF]
    rw[this];rfl
   rw[e];refine⟨o_,by unfold maxLen;omega,?_⟩;have:=hk (λj=>if j=id then some (.own 1 (ivs (QF (st++[x]))) false)else if j=i then none else s.H j) (by simp) (λj hne hj=>by simp[hne,show j≠i from λe=>hj (by rw[e];rfl)]);rw[List.length_append]at this;exact this
theorem ldI{K:V->Prop}{k:Nat}(k':Nat){l:List Int}{x:Int}{ro:Bool}{o:Option MObj}(ho:o=some (.own 1 (ivs l) ro))(e:k=k')(hx:l[k']?=some x)(hk:K (vi x)):onS (ldQ o false 1 k 0) K:=by subst ho e;exact Vi hx rfl hk
theorem stI{K:St->Prop}{s:St}{k id n:Nat}(k':Nat){l:Nat->Int}{x:Int}{o:Option MObj}(ho:o=some (.own 1 (ivs (Xk n l)) false))(e:k=k')(h:k'<n)(hk:K (s.setO id (some (.own 1 (ivs (Xk n (Y8 l k' x))) false)))):onS (stQ s o 1 id k 0 (vi x)) K:=by subst ho e;have hh:=qiQ (K:=K) (s:=s) (id:=id) (f:=V.int .i64) (l:=Xk n l) (y:=x) (z:=1) (k:=k) (by rw[ZO];exact h) rfl rfl (λ_=>rfl);rw[qkl]at hh;exact hh hk
theorem qj1{l:List Int}{x:Int}{k:Nat}(hl:l.length<=1000000000)(hk:l[k]?=some x)(hn:x ∉ l.take k):Pure Tryz.prog 162 [ints l,vi x] (vi (k:Int)):=by
 refine pure_intro Tryz.func162 nm_ qoP (by show 2<=19;decide) ?_
 show ewp _ qpd _ _;have hkl:=(List.getElem?_eq_some_iff.1 hk).1;repeat' with_reducible first|refine s_ ?_|simp -implicitDefEqProofs only[wZZ,seval]
 refine qc ?nx1 (λ(i:Nat) s=>s.f 0=?v1_0/\s.f 1=?v1_1/\s.f 7=?v1_7/\s.f 8=vi i/\(i<=k)) (λi=>l.length - i) (0) wj_ (by refine⟨?_,?_,?_,?_,wo_⟩<;>first|(simp -implicitDefEqProofs only[wL,wM,wN,wX,seval,Option.some.injEq]<;>exact wt_)|rfl|exact⟨_,rfl⟩) ?_;intro i s hnx ⟨g0,g1,g7,g8,k1_0⟩;repeat' with_reducible first|refine s_ ?_|simp -implicitDefEqProofs only[wZZ,seval,g0,g1,g7,g8]|apply qa<;>intro h h_<;>(try simp only[wD,reduceCtorEq]at h_)<;>(try exact wb_)<;>(try simp only[h])|refine t_ ?_|simp -implicitDefEqProofs (disch:=omega) only[w64,if_neg]
 . refine qw rfl (Or.inr rfl) ?_;simp -implicitDefEqProofs only[wL,seval,g0,g1,g7,g8];refine er_ ?_
   try(with_reducible rfl)
   have: ¬ i<k:=λh=>hn (by rw[h_];exact List.mem_take_iff_getElem.2 ⟨i,o_,rfl⟩)
   have:i=k:=o_
   rw[this]
 . have:i≠k:=λe=>h_ (by subst e;exact(List.getElem?_eq_some_iff.1 hk).2.symm)
   refine⟨wk_,i+1,o_,?_⟩;refine⟨?_,?_,?_,?_,?_⟩;iterate 4 (focus(first|(simp -implicitDefEqProofs only[wL,wM,wN,wX,seval,Option.some.injEq,g0,g1,g7,g8]<;>exact wt_)|rfl|exact⟨_,rfl⟩))
   all_goals try omega

theorem qoo{K:V->Prop}{id z off len k:Nat}(k':Int)(e:k'=(k:Int))(h:k<=len)(hk:K (.msl id z (off+k) (len - k))):onS (xP z (.msl id z off len) (some (.int .i64 k')) none none) K:=by
 subst e
 have:xP z (.msl id z off len) (some (.int .i64 (k:Int))) none none=some (.msl id z (off+k) (len - k)):=by simp[xP,xD,idxOf,h]
 rw[this];exact hk
theorem qn0{K:V->Prop}{id z off len k:Nat}(k':Int)(e:k'=(k:Int))(h:k<=len)(hk:K (.msl id z off k)):onS (xP z (.msl id z off len) none (some (.int .i64 k')) none) K:=by
 subst e
 have:xP z (.msl id z off len) none (some (.int .i64 (k:Int))) none=some (.msl id z off k):=by simp[xP,xD,idxOf,h]
 rw[this];exact hk
abbrev wkV(rel:List (List Int))(ni li oi n:Nat)(sv gv:V)(nx:Nat):V:= .agg [.sl 1 false (rel.map zQ),.msl ni 1 0 n,.msl li 1 0 n,sv,.msl oi 1 0 n,gv,vi (nx:Int)]
structure WD(wi ni li oi lo:Nat):Prop where
 a:wi≠ni/\wi≠li/\wi≠oi/\ni≠li/\ni≠oi/\li≠oi
 b:wi<lo/\ni<lo/\li<lo/\oi<lo
structure GrpsAt(H:Nat->Option MObj)(lo next:Nat)(sv gv:V)(gr:List (List Nat))(gs:List V):Prop where
 ln:gs.length=gr.length
 pl:∀(k:Nat) (l:List Nat),gr[k]?=some l->∃id,gs[k]?=some (.msl id 1 0 l.length)/\H id=some (.own 1 (ivs (QF l)) false)/\lo<=id/\id<next/\mid sv≠some id/\mid gv≠some id
structure WIn(H:Nat->Option MObj)(next wi ni li oi lo n:Nat)(rel:List (List Int))(s:TS)(sv gv:V)(gs:List V):Prop where
 w:H wi=some (.own 7 [wkV rel ni li oi n sv gv s.next] false)
 nu:H ni=some (.own 1 (ivs (Xk n s.num)) false)
 lw:H li=some (.own 1 (ivs (Xk n s.low)) false)
 of:H oi=some (.own 1 (ivs (Xk n s.of)) false)
 st:qoD H lo next s.stack sv
 gr:GrM H lo next 1 gs gv
 ga:GrpsAt H lo next sv gv s.groups gs
 sg:∀j,mid sv=some j->mid gv≠some j
 nx:lo<=next
abbrev WAt(H:Nat->Option MObj)(next wi ni li oi lo n:Nat)(rel:List (List Int))(s:TS):Prop:= ∃sv gv gs,WIn H next wi ni li oi lo n rel s sv gv gs
abbrev WQ(H:Nat->Option MObj)(next wi ni li oi lo n:Nat)(rel:List (List Int))(s':TS):V->(Nat->Option MObj)->Nat->Prop:=λv H' n'=>
 v=.tup []/\next<=n'/\WAt H' n' wi ni li oi lo n rel s'/\∀j,j<lo->j≠wi->j≠ni->j≠li->j≠oi->H' j=H j
theorem GrpsAt.mono{H H':Nat->Option MObj}{lo next n':Nat}{sv gv sv' gv':V}{gr:List (List Nat)}{gs:List V}(h:GrpsAt H lo next sv gv gr gs)(hn:next<=n')
(hh:∀j,lo<=j->j<next->mid sv≠some j->mid gv≠some j->H' j=H j/\mid sv'≠some j/\mid gv'≠some j):GrpsAt H' lo n' sv' gv' gr gs:=
 ⟨h.ln,λk l hl=>by
  obtain ⟨id,h1,h2,h3,h4,h5,h6⟩:=h.pl k l hl;obtain ⟨a,b,c⟩:=hh id h3 h4 h5 h6;exact⟨id,h1,a.trans h2,h3,o_,b,c⟩⟩
theorem GrpsAt.snoc{H:Nat->Option MObj}{lo next:Nat}{sv gv:V}{gr:List (List Nat)}{gs:List V}(h:GrpsAt H lo next sv gv gr gs){l:List Nat}{id:Nat}(h1:H id=some (.own 1 (ivs (QF l)) false))(h2:lo<=id)(h3:id<next)(h4:mid sv≠some id)(h5:mid gv≠some id):
 GrpsAt H lo next sv gv (gr++[l]) (gs++[.msl id 1 0 l.length]):=⟨by simp[h.ln],λk l' hk=>by
 rcases Nat.lt_or_ge k gr.length with e|e
 . rw[List.getElem?_append_left e]at hk;obtain ⟨i,a,b⟩:=h.pl k l' hk;exact⟨i,by rw[List.getElem?_append_left (by rw[h.ln];exact e)];exact a,b⟩
 . rw[List.getElem?_append_right e]at hk
   have:k - gr.length=0:=by have:=(List.getElem?_eq_some_iff.1 hk).1;simp at this;omega
   rw[this]at hk;cases hk;exact⟨id,by rw[List.getElem?_append_right (by rw[h.ln];exact e),h.ln,this];rfl,h1,h2,h3,h4,h5⟩⟩
theorem qyV{H:Nat->Option MObj}{next id len:Nat}{zs:List Int}(e:zs.length=len)(hH:H id=some (.own 1 (ivs zs) false))(hn:0<len)(hz:len<=1000000000):
 ze Tryz.prog 89 [.msl id 1 0 len] H next λv H' n'=>v=.tup []/\n'=next/\H' id=some (.own 1 (ivs (qdV zs)) false)/\∀j,j≠id->H' j=H j:=by
 subst e;exact Vu hH hn o_
theorem qyN{H:Nat->Option MObj}{next id off len:Nat}{zs zs':List Int}{ro:Bool}(hH:H id=some (.own 1 (ivs zs) ro))(hn:0<len)(hle:off+len<=zs.length)(hz:len<=1000000000)(e:(zs.drop off).take len=zs'):
 ze Tryz.prog 163 [.msl id 1 off len] H next λv H' n'=>v=.msl next 1 0 len/\n'=next+1/\H' next=some (.own 1 (ivs zs') false)/\∀j,j≠next->H' j=H j:=by
 subst e;exact slices_Clone hH hn hle o_
theorem grp{H:Nat->Option MObj}{next wi ni li oi lo n i:Nat}{rel:List (List Int)}{s0:TS}{pre seg:List Nat}(hD:WD wi ni li oi lo)(hW:WAt H next wi ni li oi lo n rel s0)(hst:s0.stack=pre++i::seg)(hnd:s0.stack.Nodup)(hlt:∀x∈s0.stack,x<n)(hn:s0.stack.length<=1000000)(hg:s0.groups.length<=1000000):ze Tryz.prog 135 [.ptr wi 0 0,vi (i:Int)] H next (WQ H next wi ni li oi lo n rel (qga i s0)):=by
 refine qY Tryz.func135 nm_ qna (by show 2<=60;decide) ?_
 show ewp _ qoO _ _;obtain ⟨sv,gv,gs,hw,hnu,hlw,hof,hS,hG,hA,hsg,hnx⟩:=hW;obtain ⟨⟨d1,d2,d3,d4,d5,d6⟩,b1,b2,b3,b4⟩:=hD;rcases hS with ⟨h0,_⟩|⟨si,full,rfl,hf,hft,f1,f2⟩
 . rw[h0]at hst;cases pre<;>simp at hst
 have hsl:s0.stack.length=pre.length+(seg.length+1):=by rw[hst];simp
 have hfl:s0.stack.length<=full.length:=by have:=congrArg List.length hft;rw[List.length_take,xK]at this;omega
 have hip:i ∉ pre:=by rw[hst]at hnd;intro h;exact(List.nodup_append.1 hnd).2.2 i h i (by simp) rfl
 obtain ⟨eT,eD⟩:=Js (b:=seg) hip;have hIdx:Pure Tryz.prog 162 [ints (QF s0.stack),vi (i:Int)] (vi (pre.length:Int)):=qj1 (by rw[xK];omega) (Yr (by rw[hst];simp)) (by
  rw[hst];simp only[QF,List.map_append,List.map_cons];rw[List.take_append_of_le_length (by simp),List.take_of_length_le (by simp)];intro h;obtain ⟨x,hx,e⟩:=List.mem_map.1 h
  have:x=i:=o_
  exact hip (by rw[<- this];exact hx))
 have hEr:Er true H (.msl si 1 0 s0.stack.length) (ints (QF s0.stack)):=yw hf (by simp;omega) (by rw[List.drop_zero,<- List.map_take,hft]);have hse:s0.stack.length - pre.length=seg.length+1:=o_;have hcut:(full.drop pre.length).take (seg.length+1)=QF (i::seg):=by
  have e1:full.take s0.stack.length=QF pre++QF (i::seg):=by rw[hft,hst];simp[QF]
  have e2:(full.drop pre.length).take (seg.length+1)=(full.take s0.stack.length).drop pre.length:=by rw[hsl,List.drop_take];congr 1;omega
  rw[e2,e1,List.drop_append_of_le_length (by rw[xK];omega),List.drop_of_length_le (by rw[xK];omega),List.nil_append]
 repeat' with_reducible first|refine qF ?_|simp -implicitDefEqProofs only[wZZ,seval,hw,hse]|apply qJ (hp:=hIdx);(focus(first|exact hEr|(((try simp only[wM]);(repeat first|rw[if_pos trivial]|rw[if_pos rfl]|rw[if_neg o_]));exact hEr)));exact qf;exact wu_;exact Flat.int _ _|(refine qoo (k:=pre.length) _ rfl o_ ?_)|(refine qL rfl rfl rfl ((qyN (by first|exact hf|(((try simp only[wM]);(repeat first|rw[if_pos trivial]|rw[if_pos rfl]|rw[if_neg o_]));exact hf)) o_ o_ o_ hcut).mono ?_);rintro v1 H1 n1 ⟨rfl,rfl,q3,q4⟩;(try simp only[wN]at q3);(try simp only[wN]at q4))|refine t_ ?_
 have hw1:H1 wi=_:=(q4 wi o_).trans (by first|exact hw|(((try simp only[wM]);(repeat first|rw[if_pos trivial]|rw[if_pos rfl]|rw[if_neg o_]));exact hw));repeat' with_reducible first|refine s_ ?_|simp -implicitDefEqProofs only[wZZ,seval,hw1]|(refine qn0 (k:=pre.length) _ rfl o_ ?_)|refine t_ ?_
 have hgm:∀j,j<lo->mid gv≠some j:=λj h=>GrM.mid hG j (Or.inl h);have q4':∀j,j<next+15->H1 j=H j:=λj h=>(q4 j o_).trans (by first|rfl|((try simp only[wM]);(repeat first|rw[if_pos trivial]|rw[if_pos rfl]|rw[if_neg o_])))
 obtain ⟨sg,hsg'⟩:∃sg,sg=i::seg:=⟨_,rfl⟩;have hsgl:sg.length=seg.length+1:=by rw[hsg'];rfl
 rw[<- hsg']at q3;refine qc ?nx1 (λ(k:Nat) s=>s.f 0=?v1_0/\s.f 5=?v1_5/\s.f 30=?v1_30/\s.f 31=?v1_31/\s.f 32=vi k/\(k<=sg.length)/\((s.H wi=some (.own 7 [wkV rel ni li oi n (.msl si 1 0 pre.length) gv s0.next] false)))/\((s.H oi=some (.own 1 (ivs (Xk n (markT s0.of (s0.groups.length:Int) (sg.take k)))) false)))/\((∀j,j<next+16->j≠wi->j≠oi->s.H j=H1 j))) (λk=>sg.length - k) (0) wj_ (by refine⟨?_,?_,?_,?_,?_,wo_,(by((simp only[wM];(repeat first|rw[if_pos trivial]|rw[if_pos rfl]|rw[if_neg o_])))),(by((simp only[wM];(repeat first|rw[if_pos trivial]|rw[if_pos rfl]|rw[if_neg o_]));exact(q4' oi o_).trans hof)),(by(intro j h1 h2 h3;(simp only[wM];(repeat first|rw[if_pos trivial]|rw[if_pos rfl]|rw[if_neg o_]))))⟩<;>first|(simp -implicitDefEqProofs only[wL,wM,wN,wX,seval,Option.some.injEq]<;>exact wt_)|rfl|exact⟨_,rfl⟩) ?_;intro k s hnx ⟨g0,g5,g30,g31,g32,k1_0,k1_1,k1_2,k1_3⟩;have oN:s.H (next+7+8)=some (.own 1 (ivs (QF sg)) false):=(k1_3 _ o_ o_ o_).trans q3;by_cases hk:k<sg.length
 . obtain ⟨x,hx⟩:∃x,sg[k]?=some x:=⟨_,ge_ hk⟩;have hxn:x<n:=hlt x (by rw[hst,<- hsg'];exact List.mem_append_right _ (List.mem_of_getElem? hx));have htk:sg.take (k+1)=sg.take k++[x]:=(by rw[List.take_add_one,hx];rfl);repeat' with_reducible first|refine s_ ?_|simp -implicitDefEqProofs only[wZZ,seval,g0,g5,g30,g31,g32,k1_1,hG.len]|apply qa<;>intro h h_<;>(try simp only[wD,reduceCtorEq]at h_)<;>(try exact wb_)<;>(try simp only[h])|apply zh;omega;omega|(refine ldI k oN o_ (Yr hx) ?_)|(refine stI x k1_2 o_ hxn ?_)|refine t_ ?_|simp -implicitDefEqProofs (disch:=omega) only[w64,if_neg]
   refine⟨wg_,k+1,o_,?_⟩;(repeat refine⟨True.intro,?_⟩);exact⟨rfl,o_,by((try simp only[wM]);(repeat first|rw[if_pos trivial]|rw[if_pos rfl]|rw[if_neg o_]));(try exact k1_1),by((try simp only[wM]);(repeat first|rw[if_pos trivial]|rw[if_pos rfl]|rw[if_neg o_]));(try rw[htk,KU,hA.ln]),λj h1 h2 h3=>by((try simp only[wM]);(repeat first|rw[if_pos trivial]|rw[if_pos rfl]|rw[if_neg o_]));(try exact k1_3 j h1 h2 h3)⟩
 . rw [List.take_of_length_le o_]at k1_2;repeat' with_reducible first|refine s_ ?_|simp -implicitDefEqProofs only[wZZ,seval,g0,g5,g30,g31,g32,k1_1]|apply qa<;>intro h h_<;>(try simp only[wD,reduceCtorEq]at h_)<;>(try exact wb_)<;>(try simp only[h])|(refine qL rfl rfl rfl ((qyV (zs:=QF sg) (by rw[xK];exact hsgl) (by first|exact oN|(((try simp only[wM]);(repeat first|rw[if_pos trivial]|rw[if_pos rfl]|rw[if_neg o_]));exact oN)) o_ o_).mono ?_);rintro v2 H2 n2 ⟨rfl,rfl,u1,u2⟩;(try simp only[wN]at u1);(try simp only[wN]at u2))
   have hw2:H2 wi=_:=(u2 wi o_).trans (by first|exact k1_1|(((try simp only[wM]);(repeat first|rw[if_pos trivial]|rw[if_pos rfl]|rw[if_neg o_]));exact k1_1));repeat' with_reducible first|simp -implicitDefEqProofs only[wZZ,seval,g0,g5,g30,g31,g32,hw2]|refine t_ ?_
   have u2':∀j,j<next+15->j≠wi->j≠oi->H2 j=H j:=λj h1 h2 h3=>(u2 j o_).trans ((by first|rfl|((try simp only[wM]);(repeat first|rw[if_pos trivial]|rw[if_pos rfl]|rw[if_neg o_])):_=s.H j).trans ((k1_3 j o_ h2 h3).trans (q4' j h1)))
   have uo:H2 oi=_:=(u2 oi o_).trans ((by first|rfl|((try simp only[wM]);(repeat first|rw[if_pos trivial]|rw[if_pos rfl]|rw[if_neg o_])):_=s.H oi).trans k1_2);have hgl:=hA.ln;refine quh rfl (GrM.mono hG (Nat.le_refl _) (λj _ h1 h2=>u2' j o_ o_ o_)) rfl za.sl (by simp only[List.length_cons,List.length_nil];omega) (by unfold maxLen;simp only[List.length_cons,List.length_nil];omega) (λH3 w1 w2=>?_);have w2':∀j,j<lo->H3 j=H2 j:=λj h=>(w2 j wg_ (hgm j h)).trans (by first|rfl|((try simp only[wM]);(repeat first|rw[if_pos trivial]|rw[if_pos rfl]|rw[if_neg o_])));have hw3:H3 wi=_:=(w2' wi b1).trans hw2;repeat' with_reducible first|simp -implicitDefEqProofs only[wZZ,seval,g0,g5,g30,g31,g32,hw3]|refine t_ ?_
   have w3:∀j,j<next->mid gv≠some j->j≠wi->j≠oi->H3 j=H j:=λj h1 h2 h3 h4=>((w2 j o_ h2).trans (by first|rfl|((try simp only[wM]);(repeat first|rw[if_pos trivial]|rw[if_pos rfl]|rw[if_neg o_])):_=H2 j)).trans (u2' j o_ h3 h4)
   have hsn:sg.Nodup:=(by rw[hst,<- hsg']at hnd;exact(List.nodup_append.1 hnd).2.1);rw[YS hsn]at u1;have hsl2:(Jf sg).length=seg.length+1:=by have:=congrArg List.length (YS hsn);rw[xK,List.length_mergeSort,xK]at this;omega
   have hN:H3 (next+7+8)=some (.own 1 (ivs (QF (Jf sg))) false):=(w2 _ o_ (GrM.mid hG _ (Or.inr o_))).trans ((by first|rfl|((try simp only[wM]);(repeat first|rw[if_pos trivial]|rw[if_pos rfl]|rw[if_neg o_])):_=H2 _).trans u1);have hoi:H3 oi=_:=(w2' oi b4).trans uo;have est:(qga i s0).stack=pre:=(by show s0.stack.takeWhile _=_;rw[hst,eT]);have eof:(qga i s0).of=markT s0.of (s0.groups.length:Int) sg:=(by show markT s0.of _ (s0.stack.dropWhile _)=_;rw[hst,eD,hsg']);have egr:(qga i s0).groups=s0.groups++[Jf sg]:=(by show s0.groups++[Jf (s0.stack.dropWhile _)]=_;rw[hst,eD,hsg']);refine Ki rfl (Or.inl rfl) ⟨rfl,wg_,⟨.msl si 1 0 pre.length,.msl (s.next+1+2+7) 1 0 (gs++[V.msl (next+7+8) 1 0 (seg.length+1)]).length,gs++[.msl (next+7+8) 1 0 (seg.length+1)],⟨?_,?_,?_,?_,?_,?_,?_,?_,wg_⟩⟩,?_⟩
   . ((try simp only[wM]);(repeat first|rw[if_pos trivial]|rw[if_pos rfl]|rw[if_neg o_]));rfl
   . ((try simp only[wM]);(repeat first|rw[if_pos trivial]|rw[if_pos rfl]|rw[if_neg o_]));rw[w3 ni o_ (hgm ni b2) o_ o_];exact hnu
   . ((try simp only[wM]);(repeat first|rw[if_pos trivial]|rw[if_pos rfl]|rw[if_neg o_]));rw[w3 li o_ (hgm li b3) o_ o_];exact hlw
   . ((try simp only[wM]);(repeat first|rw[if_pos trivial]|rw[if_pos rfl]|rw[if_neg o_]));rw[eof];exact hoi
   . rw[est];refine Or.inr ⟨si,full,rfl,?_,?_,f1,wg_⟩
     . ((try simp only[wM]);(repeat first|rw[if_pos trivial]|rw[if_pos rfl]|rw[if_neg o_]));rw[w3 si f2 (hsg si rfl) o_ o_];exact hf
     . have:=congrArg (List.take pre.length) hft;rw[List.take_take,hst]at this;rw[show pre.length=min pre.length (pre++i::seg).length by rw[List.length_append];omega,this];simp[QF]
   . refine Or.inr ⟨_,rfl,?_,o_,wg_⟩;((try simp only[wM]);(repeat first|rw[if_pos trivial]|rw[if_pos rfl]|rw[if_neg o_]));exact w1
   . rw[egr,<- hsl2];refine GrpsAt.snoc ?_ ?_ ?_ ?_ ?_ ?_
     . refine GrpsAt.mono hA ?_ (λj h1 h2 h3 h4=>⟨?_,h3,?_⟩)
       . ((try simp only[wN])<;>omega)
       . ((try simp only[wM]);(repeat first|rw[if_pos trivial]|rw[if_pos rfl]|rw[if_neg o_]));exact w3 j h2 h4 o_ o_
       . intro e;have e2:=Option.some.inj e;omega
     . ((try simp only[wM]);(repeat first|rw[if_pos trivial]|rw[if_pos rfl]|rw[if_neg o_]));exact hN
     . omega
     . ((try simp only[wN])<;>omega)
     . intro e;have e2:=Option.some.inj e;omega
     . intro e;have e2:=Option.some.inj e;omega
   . intro j h e;have e1:=Option.some.inj h;have e2:=Option.some.inj e;omega
   . intro j h1 h2 h3 h4 h5;((try simp only[wM]);(repeat first|rw[if_pos trivial]|rw[if_pos rfl]|rw[if_neg o_]));exact w3 j o_ (hgm j h1) h2 h5

theorem qhe{P:Program}[Glob P]{cls:Cls}{id:Nat}{s:St}{K:V->St->Prop}(m:Bool)(x y:Opd):qg P cls id s K (.minmax m [x,y])=onS (Xt m [ev s x,ev s y]) λv=>K v s:=rfl
theorem qgJ(a b:Int):Xt false [.int .i64 a,.int .i64 b]=some (.int .i64 (if b<a then b else a)):=by simp[Xt]
theorem qyz(a b:Int):(if b<a then b else a)=min a b:=o_
def zF(rl:List (List Int))(i:Nat):List Int:=rl.getD i []
theorem WIn.mono{H H':Nat->Option MObj}{next n' wi ni li oi lo n:Nat}{rel:List (List Int)}{s:TS}{sv gv:V}{gs:List V}(h:WIn H next wi ni li oi lo n rel s sv gv gs)(hD:WD wi ni li oi lo)(hn:next<=n')(hh:∀j,j<next->H' j=H j):WIn H' n' wi ni li oi lo n rel s sv gv gs:=by obtain ⟨_,b1,b2,b3,b4⟩:=hD;have hx:=h.nx;exact⟨(hh _ o_).trans h.w,(hh _ o_).trans h.nu,(hh _ o_).trans h.lw,(hh _ o_).trans h.of,h.st.mono hn λj _ _ hj=>hh j hj,GrM.mono h.gr hn λj _ _ hj=>hh j hj,h.ga.mono hn λj _ hj a b=>⟨hh j hj,a,b⟩,h.sg,o_⟩
theorem WIn.lowT{H H':Nat->Option MObj}{next n' wi ni li oi lo n:Nat}{rel:List (List Int)}{s:TS}{sv gv:V}{gs:List V}{l:Nat->Int}(h:WIn H next wi ni li oi lo n rel s sv gv gs)(hD:WD wi ni li oi lo)(hn:next<=n')(hl:H' li=some (.own 1 (ivs (Xk n l)) false))(hh:∀j,j<next->j≠li->H' j=H j):WIn H' n' wi ni li oi lo n rel {s with low:=l} sv gv gs:=by obtain ⟨⟨d1,d2,d3,d4,d5,d6⟩,b1,b2,b3,b4⟩:=hD;have hx:=h.nx;exact⟨(hh _ o_ d2).trans h.w,(hh _ o_ d4).trans h.nu,hl,(hh _ o_ (Ne.symm d6)).trans h.of,h.st.mono hn λj _ hj hj2=>hh j hj2 o_,GrM.mono h.gr hn λj _ hj hj2=>hh j hj2 o_,h.ga.mono hn λj hj hj2 a b=>⟨hh j hj2 o_,a,b⟩,h.sg,o_⟩
def BdT(n:Nat)(s:TS):Prop:=s.next+V5 n s<=n
theorem qlD{n i:Nat}{s:TS}(h:BdT n s)(hi:i<n)(h0:s.num i=0):BdT n (qa8 i s):=by
 have:V5 n (qa8 i s)<V5 n s:=qeA (λx hx=>by
  show Y8 _ _ _ x≠0;by_cases e:x=i
  . subst e;rw[ji];omega
  . rw[vQ e];exact hx) hi h0 (by show Y8 _ _ _ i≠0;rw[ji];omega)
 unfold BdT at *
 show s.next+1+_<=n;omega
theorem qsm{n i:Nat}{s:TS}(h:BdT n s):BdT n (qlC i s):=by
 unfold qlC;split
 . exact h
 . exact h
theorem qjb(rel:Nat->List Int)(n:Nat):∀f i s,i<n->s.num i=0->BdT n s->BdT n (Xm rel n f i s)
 |0,_,_,_,_,h=>h
 | f + 1, i,s,hi,h0,h=>by
   rw[Xm];refine qsm ?_;have key:∀(l:List Int) (t:TS),BdT n t->BdT n (l.foldl (qjq n i (Xm rel n f)) t):=by
    intro l
    induction l with
    |nil=>intro t h;exact h
    | cons j l ih=>
      intro t h;rw[List.foldl_cons];refine ih _ ?_;unfold qjq;split
      . exact h
      . rename_i hr;split
        . rename_i hk;have:=qjb rel n f j.toNat t o_ hk h;exact this
        . split
          . exact h
          . exact h
   exact key _ _ (qlD h hi h0)
theorem JX{n:Nat}{l:List Nat}(h:l.Nodup)(hl:∀x∈l,x<n):l.length<=n:=by
 have h1:jl (QF (Jf l)):=by unfold QF;exact List.Pairwise.map (S:=(· < ·)) _ (λa b hab=>by omega) (Zt h)
 have h2:=qfL (n:=n) h1 (λx hx=>by
  obtain ⟨y,hy,rfl⟩:=List.mem_map.1 hx;have:=hl y (vZ.1 hy);exact⟨o_,o_⟩)
 have h3:=congrArg List.length (YS h);rw[List.length_mergeSort,xK]at h3;omega
theorem qhz{rel:Nat->List Int}{n:Nat}{G:Nat->Prop}{s:TS}(h:TInv rel n G s):s.groups.length<=n:=by
 have key:∀k,k<s.groups.length->∃x,s.of x=(k:Int):=λk hk=>by
  obtain ⟨h1,_,h3⟩:=h.grp k _ (ge_ hk);cases hl:s.groups[k]with
  |nil=>exact absurd hl h1
  |cons x r=>exact⟨x,(h3 x).1 (by rw[hl];simp)⟩
 have hf:∀k,∃x,k<s.groups.length->s.of x=(k:Int):=λk=>by
  by_cases hk:k<s.groups.length
  . obtain ⟨x,hx⟩:=key k hk;exact⟨x,λ_=>hx⟩
  . exact⟨0,λh=>absurd h hk⟩
 let g:Nat->Nat:=λk=>(hf k).choose
 have hg:∀k,k<s.groups.length->s.of (g k)=(k:Int):=λk=>(hf k).choose_spec;have hnd:((List.range s.groups.length).map g).Nodup:=by refine List.pairwise_map.2 ((List.nodup_range (n:=s.groups.length)).imp_of_mem λ{a b} ha hb hab e=>hab ?_);have h1:=hg a (List.mem_range.1 ha);have h2:=hg b (List.mem_range.1 hb);rw[e]at h1;omega
 have:=JX hnd (λx hx=>by
  obtain ⟨k,hk,rfl⟩:=List.mem_map.1 hx;exact of_lt h (by rw[hg k (List.mem_range.1 hk)];omega))
 simpa using this
theorem WIn.ent{H H':Nat->Option MObj}{next n' wi ni li oi lo n i id:Nat}{rel:List (List Int)}{s:TS}{sv gv:V}{gs:List V}(h:WIn H next wi ni li oi lo n rel s sv gv gs)(hD:WD wi ni li oi lo)(hid:next<=id)(hn:id<n')
(h1:H' wi=some (.own 7 [wkV rel ni li oi n (.msl id 1 0 (s.stack++[i]).length) gv (s.next+1)] false))(h2:H' ni=some (.own 1 (ivs (Xk n (Y8 s.num i ((s.next+1:Nat):Int)))) false))(h3:H' li=some (.own 1 (ivs (Xk n (Y8 s.low i ((s.next+1:Nat):Int)))) false))(h4:H' id=some (.own 1 (ivs (QF (s.stack++[i]))) false))
(hh:∀j,j<next->j≠wi->j≠ni->j≠li->mid sv≠some j->H' j=H j):WIn H' n' wi ni li oi lo n rel (qa8 i s) (.msl id 1 0 (s.stack++[i]).length) gv gs:=by
 obtain ⟨⟨d1,d2,d3,d4,d5,d6⟩,b1,b2,b3,b4⟩:=hD;have hx:=h.nx;exact⟨h1,h2,h3,(hh oi o_ o_ o_ o_ (h.st.mid oi (Or.inl b4))).trans h.of,Or.inr ⟨id,QF (s.stack++[i]),rfl,h4,by rw[List.take_of_length_le (by rw[xK];exact Nat.le_refl _)];rfl,o_,hn⟩,
  GrM.mono h.gr o_ λj e a b=>hh j b o_ o_ o_ (λe2=>h.sg j e2 e),h.ga.mono o_ λj a b c d=>⟨hh j b o_ o_ o_ c,(λe=>by have:=Option.some.inj e;omega),d⟩,
  λj e e2=>by have:=Option.some.inj e;exact GrM.mid h.gr j (Or.inr o_) e2,o_⟩
def fE(rl:List (List Int))(n i f:Nat)(s0:TS)(k:Nat):TS:=((zF rl i).take k).foldl (qjq n i (Xm (zF rl) n f)) (qa8 i s0)
theorem qpG{rl:List (List Int)}{n i f k:Nat}{s0:TS}{j:Int}(h:(zF rl i)[k]?=some j):fE rl n i f s0 (k+1)=qjq n i (Xm (zF rl) n f) (fE rl n i f s0 k) j:=by unfold fE;rw[List.take_add_one,h,Option.toList_some,List.foldl_append];rfl
abbrev qye(f wi ni li oi lo n:Nat)(rl:List (List Int)):Prop:= ∀(H:Nat->Option MObj) (next i:Nat) (s:TS) (G:Nat->Prop),s.num i=0->i<n->V5 n s<=f->BdT n s->TInv (zF rl) n G s->(∀g,G g->Rch (zF rl) n g i)->WAt H next wi ni li oi lo n rl s->
 ze Tryz.prog 115 [.ptr wi 0 0,vi (i:Int)] H next (WQ H next wi ni li oi lo n rl (Xm (zF rl) n f i s))
theorem qkp{H:Nat->Option MObj}{next f wi ni li oi lo n i:Nat}{rl:List (List Int)}{s0:TS}{G:Nat->Prop}(hD:WD wi ni li oi lo)(hn:n<=1000000)(hrl:rl.length=n)(hrk:∀l∈rl,l.length<=1000000)(IH:qye f wi ni li oi lo n rl)(h0:s0.num i=0)(hi:i<n)(hu:V5 n s0<=f+1)(hb:BdT n s0)(hI:TInv (zF rl) n G s0)(hG:∀g,G g->Rch (zF rl) n g i)(hW:WAt H next wi ni li oi lo n rl s0):ze Tryz.prog 115 [.ptr wi 0 0,vi (i:Int)] H next (WQ H next wi ni li oi lo n rl (Xm (zF rl) n (f+1) i s0)):=by
 refine qY Tryz.func115 nm_ ql4 (by show 2<=149;decide) ?_
 show ewp _ qo9 _ _;obtain ⟨sv,gv,gs,W⟩:=hW;have W':=W;obtain ⟨hw,hnu,hlw,hof,hS,hGm,hA,hsg,hnx⟩:=W';have hD':=hD;obtain ⟨⟨d1,d2,d3,d4,d5,d6⟩,b1,b2,b3,b4⟩:=hD';have hnl:s0.next<=n:=by unfold BdT at hb;omega
 have hstl:s0.stack.length<=n:=by exact JX (kG hI.rise) (λx hx=>hI.lt x ((hI.stk x).1 hx).1)
 have hz:IntKind.i64.wrap ((s0.next:Int)+1)=((s0.next+1:Nat):Int):=by rw[wrap64 o_ o_];omega
 repeat' with_reducible first|refine qF ?_|simp -implicitDefEqProofs only[wZZ,seval,hw,hz]|apply zh;omega;omega|(refine stI i hnu o_ hi ?_)|(refine stI i (l:=s0.low) (by first|exact hlw|(((try simp only[wM]);(repeat first|rw[if_pos trivial]|rw[if_pos rfl]|rw[if_neg o_]));exact hlw)) o_ hi ?_)|refine t_ ?_|simp -implicitDefEqProofs (disch:=omega) only[w64,if_neg]
 refine quX rfl (hS.mono (Nat.le_refl _) (λj e a b=>hh_)) rfl o_ (λH3 w1 w2=>?_);have w3:∀j,j<next->j≠wi->j≠ni->j≠li->mid sv≠some j->H3 j=H j:=λj h1 h2 h3 h4 h5=>(w2 j o_ h5).trans hh_
 have hsm:∀j,j<lo->mid sv≠some j:=λj h=>hS.mid j (Or.inl h);have hw3:H3 wi=some (.own 7 [wkV rl ni li oi n sv gv (s0.next+1)] false):=(w2 wi o_ (hsm wi b1)).trans hh_;have hn3:H3 ni=some (.own 1 (ivs (Xk n (Y8 s0.num i ((s0.next+1:Nat):Int)))) false):=(w2 ni o_ (hsm ni b2)).trans hh_;have hl3:H3 li=some (.own 1 (ivs (Xk n (Y8 s0.low i ((s0.next+1:Nat):Int)))) false):=(w2 li o_ (hsm li b3)).trans hh_;have hri:rl[i]?=some (zF rl i):=by unfold zF;rw[List.getD_eq_getElem?_getD,ge_ o_];rfl
 have hrl2:(zF rl i).length<=1000000:=hrk _ (List.mem_of_getElem? hri);repeat' with_reducible first|refine s_ ?_|simp -implicitDefEqProofs only[wZZ,seval,hw3]|refine t_ ?_
 refine qc ?nx1 (λ(k:Nat) s=>s.f 0=?v1_0/\s.f 1=?v1_1/\s.f 49=?v1_49/\s.f 50=?v1_50/\s.f 51=vi k/\(k<=(zF rl i).length)/\((∃sv gv gs,WIn s.H s.next wi ni li oi lo n rl (fE rl n i f s0 k) sv gv gs))/\((TLoop (zF rl) n i G s0 (fE rl n i f s0 k) ((zF rl i).take k)))/\((BdT n (fE rl n i f s0 k)))/\((∀j,j<lo->j≠wi->j≠ni->j≠li->j≠oi->s.H j=H j))) (λk=>(zF rl i).length - k) (0) wj_ (by refine⟨?_,?_,?_,?_,?_,wo_,(by(exact⟨_,_,_,WIn.ent (id:=next+8+22+7) W hD o_ wg_ wc_ (by(simp only[wM];(repeat first|rw[if_pos trivial]|rw[if_pos rfl]|rw[if_neg o_]));(try exact hn3)) (by(simp only[wM];(repeat first|rw[if_pos trivial]|rw[if_pos rfl]|rw[if_neg o_]));(try exact hl3)) (by(simp only[wM];(repeat first|rw[if_pos trivial]|rw[if_pos rfl]|rw[if_neg o_]));(try exact w1)) (λj h1 h2 h3 h4 h5=>by(simp only[wM];(repeat first|rw[if_pos trivial]|rw[if_pos rfl]|rw[if_neg o_]));(try exact w3 j h1 h2 h3 h4 h5))⟩)),(by(exact qfe hI h0 hi hG)),(by(exact qlD hb hi h0)),(by(intro j h1 h2 h3 h4 h5;(simp only[wM];(repeat first|rw[if_pos trivial]|rw[if_pos rfl]|rw[if_neg o_]));exact w3 j o_ h2 h3 h4 (hsm j h1)))⟩<;>first|(simp -implicitDefEqProofs only[wL,wM,wN,wX,seval,Option.some.injEq]<;>exact wt_)|rfl|exact⟨_,rfl⟩) ?_;intro k s hnx ⟨g0,g1,g49,g50,g51,k1_0,k1_1,k1_2,k1_3,k1_4⟩;obtain ⟨sv1,gv1,gs1,W1⟩:=k1_1;by_cases hk:k<(zF rl i).length
 . obtain ⟨x,hx⟩:∃x,(zF rl i)[k]?=some x:=⟨_,ge_ hk⟩;have hfs:=qpG (n:=n) (f:=f) (s0:=s0) hx;have hL2:=qlu (qaH (zF rl) n f) hI h0 hi hu hG (List.mem_of_getElem? hx) k1_2;rw[<- hfs,show (zF rl i).take k++[x]=(zF rl i).take (k+1) by rw[List.take_add_one,hx];rfl]at hL2;generalize htt:fE rl n i f s0 k=t at *;by_cases hr:x<0\/(n:Int)<=x
   . have hfs2:fE rl n i f s0 (k+1)=t:=(by rw[hfs];unfold qjq;rw[if_pos hr]);rcases hr with hr|hr
     . repeat' with_reducible first|refine s_ ?_|simp -implicitDefEqProofs only[wZZ,seval,g0,g1,g49,g50,g51,W1.w,hrl]|(first|apply qa|apply qy|apply qx)<;>intro h h_<;>(try simp only[wD,reduceCtorEq]at h_)<;>(try exact wb_)<;>(try simp only[h])|refine t_ ?_|simp -implicitDefEqProofs (disch:=omega) only[w64,if_neg]
       refine⟨wg_,k+1,o_,?_⟩;(repeat refine⟨True.intro,?_⟩);exact⟨rfl,o_,⟨_,_,_,by rw[hfs2];exact WIn.mono W1 hD wg_ (λj _=>hh_)⟩,hL2,by rw[hfs2];exact k1_3,λj h1 h2 h3 h4 h5=>by((try simp only[wM]);(repeat first|rw[if_pos trivial]|rw[if_pos rfl]|rw[if_neg o_]));(try exact k1_4 j h1 h2 h3 h4 h5)⟩
     . repeat' with_reducible first|refine s_ ?_|simp -implicitDefEqProofs only[wZZ,seval,g0,g1,g49,g50,g51,W1.w,hrl]|(first|apply qa|apply qy|apply qx)<;>intro h h_<;>(try simp only[wD,reduceCtorEq]at h_)<;>(try exact wb_)<;>(try simp only[h])|refine t_ ?_|simp -implicitDefEqProofs (disch:=omega) only[w64,if_neg]
       refine⟨wg_,k+1,o_,?_⟩;(repeat refine⟨True.intro,?_⟩);exact⟨rfl,o_,⟨_,_,_,by rw[hfs2];exact WIn.mono W1 hD wg_ (λj _=>hh_)⟩,hL2,by rw[hfs2];exact k1_3,λj h1 h2 h3 h4 h5=>by((try simp only[wM]);(repeat first|rw[if_pos trivial]|rw[if_pos rfl]|rw[if_neg o_]));(try exact k1_4 j h1 h2 h3 h4 h5)⟩
   . obtain ⟨m,rfl⟩:∃m:Nat,x=m:=⟨x.toNat,o_⟩;have hm:m<n:=o_;have hfs2:fE rl n i f s0 (k+1)=(if t.num m=0 then {Xm (zF rl) n f m t with low:=Y8 (Xm (zF rl) n f m t).low i (min ((Xm (zF rl) n f m t).low i) ((Xm (zF rl) n f m t).low m))} else if t.of m<0 then {t with low:=Y8 t.low i (min (t.low i) (t.num m))} else t):=by
      rw[hfs];unfold qjq;rw[if_neg hr,Int.toNat_natCast]
     have hgm:=jo (l:=t.num) hm;by_cases hk0:t.num m=0
     . rw[if_pos hk0]at hfs2;have hrec:=λH next W=>IH H next m t (λg=>G g\/g=i) hk0 hm (by have:=k1_2.unv;omega) k1_3 k1_2.inv (λg hg=>by
        have hE:Edge (zF rl) n i m:=⟨hi,hm,List.mem_of_getElem? hx⟩;rcases hg with hg|rfl
        . exact(hG g hg).trans (.one hE)
        . exact .one hE) W
       have hb2:=qjb (zF rl) n f m t hm hk0 k1_3;generalize Xm (zF rl) n f m t=t2 at *;repeat' with_reducible first|refine s_ ?_|simp -implicitDefEqProofs only[wZZ,seval,g0,g1,g49,g50,g51,W1.w,hrl]|(first|apply qa|apply qy|apply qx)<;>intro h h_<;>(try simp only[wD,reduceCtorEq]at h_)<;>(try exact wb_)<;>(try simp only[h])|refine t_ ?_|apply zh;omega;omega|(refine ldI m W1.nu o_ hgm ?_)|(refine qL rfl rfl rfl ((hrec _ _ ⟨_,_,_,WIn.mono W1 hD wg_ (λj _=>hh_)⟩).mono ?_);rintro v1 H1 n1 ⟨rfl,q1,⟨sv2,gv2,gs2,W2⟩,q3⟩;(try simp only[wN]at q1);(try simp only[wN]at q3))
       have g2i:=jo (l:=t2.low) hi;have g2m:=jo (l:=t2.low) hm;repeat' with_reducible first|refine s_ ?_|simp -implicitDefEqProofs only[wZZ,seval,g0,g1,g49,g50,g51,W2.w]|apply zh;omega;omega|(refine ldI i W2.lw o_ g2i ?_)|(refine ldI m W2.lw o_ g2m ?_)|(simp only[qhe,qgJ,qyz])|(refine stI i (l:=t2.low) (by first|exact W2.lw|(((try simp only[wM]);(repeat first|rw[if_pos trivial]|rw[if_pos rfl]|rw[if_neg o_]));exact W2.lw)) o_ hi ?_)|refine t_ ?_|simp -implicitDefEqProofs (disch:=omega) only[w64,if_neg]
       refine⟨wg_,k+1,o_,?_⟩;(repeat refine⟨True.intro,?_⟩);exact⟨rfl,o_,⟨_,_,_,by rw[hfs2];exact WIn.lowT W2 hD wg_ hh_ (λj h1 h2=>hh_)⟩,hL2,by rw[hfs2];exact hb2,λj h1 h2 h3 h4 h5=>by((try simp only[wM]);(repeat first|rw[if_pos trivial]|rw[if_pos rfl]|rw[if_neg o_]));rw[q3 j h1 h2 h3 h4 h5];((try simp only[wM]);(repeat first|rw[if_pos trivial]|rw[if_pos rfl]|rw[if_neg o_]));(try exact k1_4 j h1 h2 h3 h4 h5)⟩
     . rw [if_neg hk0]at hfs2;have hom:=jo (l:=t.of) hm;by_cases hko:t.of m<0
       . rw[if_pos hko]at hfs2;have g2i:=jo (l:=t.low) hi;repeat' with_reducible first|refine s_ ?_|simp -implicitDefEqProofs only[wZZ,seval,g0,g1,g49,g50,g51,W1.w,hrl]|(first|apply qa|apply qy|apply qx)<;>intro h h_<;>(try simp only[wD,reduceCtorEq]at h_)<;>(try exact wb_)<;>(try simp only[h])|refine t_ ?_|apply zh;omega;omega|(refine ldI m W1.nu o_ hgm ?_)|(refine ldI m W1.of o_ hom ?_)|(refine ldI i W1.lw o_ g2i ?_)|(simp only[qhe,qgJ,qyz])|(refine stI i (l:=t.low) (by first|exact W1.lw|(((try simp only[wM]);(repeat first|rw[if_pos trivial]|rw[if_pos rfl]|rw[if_neg o_]));exact W1.lw)) o_ hi ?_)|simp -implicitDefEqProofs (disch:=omega) only[w64,if_neg]
         refine⟨wg_,k+1,o_,?_⟩;(repeat refine⟨True.intro,?_⟩);exact⟨rfl,o_,⟨_,_,_,by rw[hfs2];exact WIn.lowT W1 hD wg_ hh_ (λj h1 h2=>hh_)⟩,hL2,by rw[hfs2];exact k1_3,λj h1 h2 h3 h4 h5=>by((try simp only[wM]);(repeat first|rw[if_pos trivial]|rw[if_pos rfl]|rw[if_neg o_]));(try exact k1_4 j h1 h2 h3 h4 h5)⟩
       . rw[if_neg hko]at hfs2;repeat' with_reducible first|refine s_ ?_|simp -implicitDefEqProofs only[wZZ,seval,g0,g1,g49,g50,g51,W1.w,hrl]|(first|apply qa|apply qy|apply qx)<;>intro h h_<;>(try simp only[wD,reduceCtorEq]at h_)<;>(try exact wb_)<;>(try simp only[h])|refine t_ ?_|apply zh;omega;omega|(refine ldI m W1.nu o_ hgm ?_)|(refine ldI m W1.of o_ hom ?_)|simp -implicitDefEqProofs (disch:=omega) only[w64,if_neg]
         refine⟨wg_,k+1,o_,?_⟩;(repeat refine⟨True.intro,?_⟩);exact⟨rfl,o_,⟨_,_,_,by rw[hfs2];exact WIn.mono W1 hD wg_ (λj _=>hh_)⟩,hL2,by rw[hfs2];exact k1_3,λj h1 h2 h3 h4 h5=>by((try simp only[wM]);(repeat first|rw[if_pos trivial]|rw[if_pos rfl]|rw[if_neg o_]));(try exact k1_4 j h1 h2 h3 h4 h5)⟩
 . have hall:Xm (zF rl) n (f+1) i s0=qlC i (fE rl n i f s0 k):=by
    rw[Xm];unfold fE;rw[List.take_of_length_le o_]
   rw[List.take_of_length_le o_]at k1_2;obtain ⟨seg,hst⟩:=k1_2.stk;generalize fE rl n i f s0 k=t at *;have g2i:=jo (l:=t.low) hi;have gni:=jo (l:=t.num) hi;rw[hall];unfold qlC;by_cases hln:t.low i=t.num i
   . rw[if_pos hln];have hgr:=λH next W=>grp (H:=H) (next:=next) (rel:=rl) (i:=i) (pre:=s0.stack) (seg:=seg) hD W hst (kG k1_2.inv.rise) (λx hx=>k1_2.inv.lt x ((k1_2.inv.stk x).1 hx).1) (by have:=JX (kG k1_2.inv.rise) (λx hx=>k1_2.inv.lt x ((k1_2.inv.stk x).1 hx).1);omega) (by have:=qhz k1_2.inv;omega)
     repeat' with_reducible first|refine s_ ?_|simp -implicitDefEqProofs only[wZZ,seval,g0,g1,g49,g50,g51,W1.w]|apply qa<;>intro h h_<;>(try simp only[wD,reduceCtorEq]at h_)<;>(try exact wb_)<;>(try simp only[h])|apply zh;omega;omega|(refine ldI i W1.lw o_ g2i ?_)|(refine ldI i W1.nu o_ gni ?_)|(refine qL rfl rfl rfl ((hgr _ _ ⟨_,_,_,WIn.mono W1 hD wg_ (λj _=>hh_)⟩).mono ?_);rintro v1 H1 n1 ⟨rfl,q1,q2,q3⟩;(try simp only[wN]at q1);(try simp only[wN]at q3))|refine t_ ?_
     exact Ki rfl (Or.inl rfl) ⟨rfl,wg_,q2,λj h1 h2 h3 h4 h5=>by((try simp only[wM]);(repeat first|rw[if_pos trivial]|rw[if_pos rfl]|rw[if_neg o_]));rw[q3 j h1 h2 h3 h4 h5];((try simp only[wM]);(repeat first|rw[if_pos trivial]|rw[if_pos rfl]|rw[if_neg o_]));(try exact k1_4 j h1 h2 h3 h4 h5)⟩
   . rw[if_neg hln];repeat' with_reducible first|refine s_ ?_|simp -implicitDefEqProofs only[wZZ,seval,g0,g1,g49,g50,g51,W1.w]|apply qa<;>intro h h_<;>(try simp only[wD,reduceCtorEq]at h_)<;>(try exact wb_)<;>(try simp only[h])|apply zh;omega;omega|(refine ldI i W1.lw o_ g2i ?_)|(refine ldI i W1.nu o_ gni ?_)|refine t_ ?_
     exact Ki rfl (Or.inl rfl) ⟨rfl,wg_,⟨_,_,_,WIn.mono W1 hD wg_ (λj _=>hh_)⟩,λj h1 h2 h3 h4 h5=>by((try simp only[wM]);(repeat first|rw[if_pos trivial]|rw[if_pos rfl]|rw[if_neg o_]));(try exact k1_4 j h1 h2 h3 h4 h5)⟩
theorem qhB{wi ni li oi lo n:Nat}{rl:List (List Int)}(hD:WD wi ni li oi lo)(hn:n<=1000000)(hrl:rl.length=n)(hrk:∀l∈rl,l.length<=1000000):∀f,qye f wi ni li oi lo n rl
 | 0=>λH next i s G h0 hi hu=>by
   exfalso
   have:V5 n {s with num:=λ_=>1}<V5 n s:=qeA (λx _=>by dsimp only;omega) hi h0 (by dsimp only;omega)
   omega
 |f+1=>λH next i s G h0 hi hu hb hI hG hW=>qkp hD hn hrl hrk (qhB hD hn hrl hrk f) h0 hi hu hb hI hG hW
end Go.Proofs
