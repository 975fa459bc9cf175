import Derived.Test.YtkcegflhobejmaaGreatDoorBSO
import Derived.Test.YtkcegflhobejmaaGreatDoorBTT
set_option maxRecDepth 20000
set_option linter.all false
set_option maxHeartbeats 4000000
namespace Go.Proofs
open Go.E
abbrev ivs(l:List Int):List V:=l.map (V.int .i64)
def J7(n:Nat)(l:Nat->Int):List Int:=(List.range n).map l
theorem Q9(n:Nat)(l:Nat->Int):(J7 n l).length=n:=by simp[J7]
variable {n k:Nat} {l:Nat->Int}
theorem jv(h:k<n):(J7 n l)[k]?=some (l k):=by simp[J7,h]
variable {x:Int}
theorem qkq:(J7 n l).set k x=J7 n (Yq l k x):=by
 refine List.ext_getElem? λj=>?_;rw[List.getElem?_set];by_cases hj:j<n
 . rw[jv (l:=Yq l k x) hj,jv (l:=l) hj];by_cases e:k=j
   . subst e;rw[if_pos rfl,if_pos (by rw[Q9];exact hj),jm]
   . rw[if_neg e,vC (λh=>e h.symm)]
 . have h1:(J7 n (Yq l k x))[j]?=none:=List.getElem?_eq_none (by rw[Q9];omega);have h2:(J7 n l)[j]?=none:=List.getElem?_eq_none (by rw[Q9];omega);rw[h1,h2];split
   . rw[if_neg (by rw[Q9];omega)]
   . rfl
theorem qfQ{m:Nat->Int}(h:∀k,k<n->l k=m k):J7 n l=J7 n m:=List.map_congr_left λk hk=>h k (List.mem_range.1 hk)
def Qy(l:List Nat):List Int:=l.map λx:Nat=>(x:Int)
theorem xC(l:List Nat):(Qy l).length=l.length:=by simp[Qy]
theorem X9{l:List Nat}{x:Nat}(h:l[k]?=some x):(Qy l)[k]?=some (x:Int):=by simp[Qy,h]
theorem K7(o:Nat->Int)(g:Int)(x:Nat):∀l:List Nat,markT o g (l++[x])=Yq (markT o g l) x g
 |[]=>by funext i;simp[markT,Yq]
 | y ::r=>by
   funext i;rw[List.cons_append,markT,K7 o g x r];by_cases h1:i=y
   . subst h1;rw[if_pos rfl];by_cases h2:i=x
     . subst h2;rw[jm]
     . rw[vC h2,markT,if_pos rfl]
   . rw[if_neg h1];by_cases h2:i=x
     . subst h2;rw[jm,jm]
     . rw[vC h2,vC h2,markT,if_neg h1]
theorem qld{l:List Int}(h:l.Nodup):jq (qdi l)/\∀x,x∈qdi l↔x∈l:=by have hp:(qdi l).Perm l:=List.mergeSort_perm _ _;have hs:(qdi l).Pairwise (λa b=>decide (a<=b)=true):=List.pairwise_mergeSort (λa b c=>so_) (λa b=>so_) _;have hn:(qdi l).Nodup:=hp.nodup_iff.2 h;refine⟨?_,λx=>hp.mem_iff⟩;refine(List.Pairwise.and hs hn).imp λ{a b} h=>?_;have:=h.1;have h2:=h.2;rw[decide_eq_true_eq]at this;exact Int.lt_iff_le_and_ne.2 ⟨this,h2⟩
theorem YG{l:List Nat}(h:l.Nodup):qdi (Qy l)=Qy (ZY l):=by
 have hn:(Qy l).Nodup:=by unfold Qy;exact List.Pairwise.map (S:=(· ≠ ·)) _ (λa b hab=>o_) h
 obtain ⟨a,b⟩:=qld hn;refine vw a ?_ λx=>?_
 . unfold Qy;exact List.Pairwise.map (S:=(· < ·)) _ (λa b hab=>o_) (Zg h)
 . rw[b];simp[Qy,kQ]
def mid:V->Option Nat
 |.msl id _ _ _=>some id
 | _=>none
def qm6(H:Nat->Option MObj)(base next:Nat)(st:List Nat)(v:V):Prop:=
 (st=[]/\v=.sl 1 true [])\/ ∃(id:Nat) (full:List Int),v=.msl id 1 0 st.length/\H id=some (.own 1 (ivs full) false)/\full.take st.length=Qy st/\base<=id/\id<next
variable {H H':Nat->Option MObj} {base n':Nat} {st:List Nat} {v:Go.E.V}
theorem qm6.mono{next:Nat}(h:qm6 H base next st v)(hn:next<=n')(hh:∀j,mid v=some j->base<=j->j<next->H' j=H j):qm6 H' base n' st v:=by
 rcases h with h|⟨id,full,rfl,h2,h3,h4,h5⟩
 . exact Or.inl h
 . exact Or.inr ⟨id,full,rfl,(hh id rfl h4 h5).trans h2,h3,h4,o_⟩
theorem qm6.mid{next:Nat}(h:qm6 H base next st v):∀j,(j<base\/next<=j)->Go.Proofs.mid v≠some j:=λj hj e=>by
 rcases h with ⟨_,rfl⟩|⟨id,full,rfl,h2,h3,h4,h5⟩
 . cases e
 . cases e;omega
variable {z:Nat} {es:List Go.E.V}
theorem GrM.mono{next:Nat}(h:GrM H base next z es v)(hn:next<=n')(hh:∀j,Go.Proofs.mid v=some j->base<=j->j<next->H' j=H j):GrM H' base n' z es v:=by
 rcases h with h|⟨id,rfl,h2,h3,h4⟩
 . exact Or.inl h
 . exact Or.inr ⟨id,rfl,(hh id rfl h3 h4).trans h2,h3,o_⟩
theorem GrM.mid{next:Nat}(h:GrM H base next z es v):∀j,(j<base\/next<=j)->Go.Proofs.mid v≠some j:=λj hj e=>by
 rcases h with ⟨_,rfl⟩|⟨id,rfl,h2,h3,h4⟩
 . cases e
 . cases e;omega
variable {cls:Cls} {K:Go.E.V->St->Prop} {vx:Go.E.V}
theorem qsu{id:Nat}{s:St}{bytes:Nat}{vy:V}{xs ys:List V}{next:Nat}(hcl:cls=.any)
(hg:GrM H base next z xs vx)(hH:s.H=H)(hs:qY s.H z ys vy)(hb:(xs.length+ys.length) *bytes<=140737488355328)(hl:xs.length+ys.length<=maxLen)
(hk:∀H',H' id=some (.own z (xs++ys) false)->(∀j,j≠id->mid vx≠some j->H' j=s.H j)->K (.msl id z 0 (xs++ys).length) {s with H:=H'}):VK cls id s K true z bytes vx vy:=by
 unfold VK;rw[hs.1 s rfl];refine⟨λe=>(by rw[hcl]at e;cases e),?_⟩;rcases hg with ⟨rfl,rfl⟩|⟨i,rfl,h1,h2,h3⟩
 . have e:qO id s true z (.sl z true []) ys=some (.msl id z 0 ys.length,s.setO id (some (.own z ys false)),ys.length):=(by simp[qO]);rw[e];refine⟨by simpa using hb,by simpa using hl,?_⟩;exact hk (λi=>if i=id then some (.own z ys false)else s.H i) (by simp) (λj hj _=>by simp[hj])
 . rw[<- hH]at h1;have e:qO id s true z (.msl i z 0 xs.length) ys=some (.msl id z 0 (xs.length+ys.length),(s.setO i none).setO id (some (.own z (xs++ys) false)),xs.length+ys.length):=(by simp[qO,h1]);rw[e];refine⟨hb,hl,?_⟩;have:=hk (λj=>if j=id then some (.own z (xs++ys) false)else if j=i then none else s.H j) (by simp) (λj hne hj=>by simp[hne,show j≠i from λe=>hj (by rw[e];rfl)]);rw[List.length_append]at this;exact this
theorem qwJ{id:Nat}{s:St}{x:Nat}{next:Nat}(hcl:cls=.any)
(hg:qm6 H base next st vx)(hH:s.H=H)(hl:st.length<=1000000000)
(hk:∀H',H' id=some (.own 1 (ivs (Qy (st++[x]))) false)->(∀j,j≠id->mid vx≠some j->H' j=s.H j)->K (.msl id 1 0 (st++[x]).length) {s with H:=H'}){c:Bool}:VK cls id s K true 1 8 vx (.sl 1 c [vi (x:Int)]):=by
 unfold VK;have e0:qb1 s 1 (.sl 1 c [vi (x:Int)])=some [vi (x:Int)]:=by simp[qb1]
 rw[e0];refine⟨λe=>(by rw[hcl]at e;cases e),?_⟩;rcases hg with ⟨rfl,rfl⟩|⟨i,full,rfl,h1,h2,h3,h4⟩
 . have e:qO id s true 1 (.sl 1 true []) [vi (x:Int)]=some (.msl id 1 0 1,s.setO id (some (.own 1 [vi (x:Int)] false)),1):=(by simp[qO]);rw[e];refine⟨dc_,dc_,?_⟩;exact hk (λi=>if i=id then some (.own 1 [vi (x:Int)] false)else s.H i) (by simp[Qy]) (λj hj _=>by simp[hj])
 . rw[<- hH]at h1;have hfl:st.length<=full.length:=by
    have:=congrArg List.length h2;rw[List.length_take,xC]at this;omega
   have e:qO id s true 1 (.msl i 1 0 st.length) [vi (x:Int)]=some (.msl id 1 0 (st.length+1),(s.setO i none).setO id (some (.own 1 (ivs (Qy (st++[x]))) false)),st.length+1):=by
    simp only[qO,h1,if_true];rw[if_pos ⟨trivial,so_⟩]
    have:((ivs full).drop 0).take st.length++[vi (x:Int)]=ivs (Qy (st++[x])):=by rw[List.drop_zero,<- List.map_take,h2];simp[Qy]
    rw[this];rfl
   rw[e];refine⟨o_,by unfold maxLen;omega,?_⟩;have:=hk (λj=>if j=id then some (.own 1 (ivs (Qy (st++[x]))) false)else if j=i then none else s.H j) (by simp) (λj hne hj=>by simp[hne,show j≠i from λe=>hj (by rw[e];rfl)]);rw[List.length_append]at this;exact this
variable {ro:Bool}
theorem ldI{K:V->Prop}(k':Nat){l:List Int}{o:Option MObj}(ho:o=some (.own 1 (ivs l) ro))(e:k=k')(hx:l[k']?=some x)(hk:K (vi x)):onS (ldQ o false 1 k 0) K:=by subst ho e;exact YV hx rfl hk
theorem stI{K:St->Prop}{s:St}{id:Nat}(k':Nat){o:Option MObj}(ho:o=some (.own 1 (ivs (J7 n l)) false))(e:k=k')(h:k'<n)(hk:K (s.setO id (some (.own 1 (ivs (J7 n (Yq l k' x))) false)))):onS (stQ s o 1 id k 0 (vi x)) K:=by subst ho e;have hh:=qix (K:=K) (s:=s) (id:=id) (f:=V.int .i64) (l:=J7 n l) (y:=x) (z:=1) (k:=k) (by rw[Q9];exact h) rfl rfl (λ_=>rfl);rw[qkq]at hh;exact hh hk
theorem qjU{l:List Int}(hl:l.length<=1000000000)(hk:l[k]?=some x)(hn:x ∉ l.take k):Pure Tryz.prog 162 [ints l,vi x] (vi (k:Int)):=by
 refine pure_intro Tryz.func162 nm_ qpL (by show 2<=19;decide) ?_
 show ewp _ qnx _ _;have hkl:=(List.getElem?_eq_some_iff.1 hk).1;repeat' with_reducible first|refine s_ ?_|simp -implicitDefEqProofs only[wZZ,seval]
 refine qb ?nx1 (λ(i:Nat) s=>s.f 0=?v1_0/\s.f 1=?v1_1/\s.f 7=?v1_7/\s.f 8=vi i/\(i<=k)) (λi=>l.length - i) (0) wj_ (by refine⟨?_,?_,?_,?_,wo_⟩<;>first|(simp -implicitDefEqProofs only[wL,wM,wN,wX,seval,Option.some.injEq]<;>exact wt_)|rfl|exact⟨_,rfl⟩) ?_;intro i s hnx ⟨g0,g1,g7,g8,k1_0⟩;repeat' with_reducible first|refine s_ ?_|simp -implicitDefEqProofs only[wZZ,seval,g0,g1,g7,g8]|apply qa<;>intro h h_<;>(try simp only[wD,reduceCtorEq]at h_)<;>(try exact wb_)<;>(try simp only[h])|refine t_ ?_|simp -implicitDefEqProofs (disch:=omega) only[w64,if_neg]
 . refine qz rfl (Or.inr rfl) ?_;simp -implicitDefEqProofs only[wL,seval,g0,g1,g7,g8];refine er_ ?_
   try(with_reducible rfl)
   have: ¬ i<k:=λh=>hn (by rw[h_];exact List.mem_take_iff_getElem.2 ⟨i,o_,rfl⟩)
   have:i=k:=o_
   rw[this]
 . have:i≠k:=λe=>h_ (by subst e;exact(List.getElem?_eq_some_iff.1 hk).2.symm)
   refine⟨wk_,i+1,o_,?_⟩;refine⟨?_,?_,?_,?_,?_⟩;iterate 4 (focus(first|(simp -implicitDefEqProofs only[wL,wM,wN,wX,seval,Option.some.injEq,g0,g1,g7,g8]<;>exact wt_)|rfl|exact⟨_,rfl⟩))
   all_goals try omega

variable {off:Nat}
theorem qn6{K:V->Prop}{id len:Nat}(k':Int)(e:k'=(k:Int))(h:k<=len)(hk:K (.msl id z (off+k) (len - k))):onS (xK z (.msl id z off len) (some (.int .i64 k')) none none) K:=by
 subst e
 have:xK z (.msl id z off len) (some (.int .i64 (k:Int))) none none=some (.msl id z (off+k) (len - k)):=by simp[xK,jR,idxOf,h]
 rw[this];exact hk
theorem qnr{K:V->Prop}{id len:Nat}(k':Int)(e:k'=(k:Int))(h:k<=len)(hk:K (.msl id z off k)):onS (xK z (.msl id z off len) none (some (.int .i64 k')) none) K:=by
 subst e
 have:xK z (.msl id z off len) none (some (.int .i64 (k:Int))) none=some (.msl id z off k):=by simp[xK,jR,idxOf,h]
 rw[this];exact hk
abbrev wkV(rel:List (List Int))(ni li oi n:Nat)(sv gv:V)(nx:Nat):V:= .agg [.sl 1 false (rel.map zS),.msl ni 1 0 n,.msl li 1 0 n,sv,.msl oi 1 0 n,gv,vi (nx:Int)]
structure WD(wi ni li oi lo:Nat):Prop where
 a:wi≠ni/\wi≠li/\wi≠oi/\ni≠li/\ni≠oi/\li≠oi
 b:wi<lo/\ni<lo/\li<lo/\oi<lo
structure GrpsAt(H:Nat->Option MObj)(lo next:Nat)(sv gv:V)(gr:List (List Nat))(gs:List V):Prop where
 ln:gs.length=gr.length
 pl:∀(k:Nat) (l:List Nat),gr[k]?=some l->∃id,gs[k]?=some (.msl id 1 0 l.length)/\H id=some (.own 1 (ivs (Qy l)) false)/\lo<=id/\id<next/\mid sv≠some id/\mid gv≠some id
structure WIn(H:Nat->Option MObj)(next wi ni li oi lo n:Nat)(rel:List (List Int))(s:TS)(sv gv:V)(gs:List V):Prop where
 w:H wi=some (.own 7 [wkV rel ni li oi n sv gv s.next] false)
 nu:H ni=some (.own 1 (ivs (J7 n s.num)) false)
 lw:H li=some (.own 1 (ivs (J7 n s.low)) false)
 of:H oi=some (.own 1 (ivs (J7 n s.of)) false)
 st:qm6 H lo next s.stack sv
 gr:GrM H lo next 1 gs gv
 ga:GrpsAt H lo next sv gv s.groups gs
 sg:∀j,mid sv=some j->mid gv≠some j
 nx:lo<=next
abbrev WAt(H:Nat->Option MObj)(next wi ni li oi lo n:Nat)(rel:List (List Int))(s:TS):Prop:= ∃sv gv gs,WIn H next wi ni li oi lo n rel s sv gv gs
abbrev WQ(H:Nat->Option MObj)(next wi ni li oi lo n:Nat)(rel:List (List Int))(s':TS):V->(Nat->Option MObj)->Nat->Prop:=λv H' n'=>
 v=.tup []/\next<=n'/\WAt H' n' wi ni li oi lo n rel s'/\∀j,j<lo->j≠wi->j≠ni->j≠li->j≠oi->H' j=H j
variable {lo:Nat} {sv gv:Go.E.V} {gs:List Go.E.V}
theorem GrpsAt.mono{next:Nat}{sv' gv':V}{gr:List (List Nat)}(h:GrpsAt H lo next sv gv gr gs)(hn:next<=n')
(hh:∀j,lo<=j->j<next->mid sv≠some j->mid gv≠some j->H' j=H j/\mid sv'≠some j/\mid gv'≠some j):GrpsAt H' lo n' sv' gv' gr gs:=
 ⟨h.ln,λk l hl=>by
  obtain ⟨id,h1,h2,h3,h4,h5,h6⟩:=h.pl k l hl;obtain ⟨a,b,c⟩:=hh id h3 h4 h5 h6;exact⟨id,h1,a.trans h2,h3,o_,b,c⟩⟩
theorem GrpsAt.snoc{next:Nat}{gr:List (List Nat)}(h:GrpsAt H lo next sv gv gr gs){l:List Nat}{id:Nat}(h1:H id=some (.own 1 (ivs (Qy l)) false))(h2:lo<=id)(h3:id<next)(h4:mid sv≠some id)(h5:mid gv≠some id):
 GrpsAt H lo next sv gv (gr++[l]) (gs++[.msl id 1 0 l.length]):=⟨by simp[h.ln],λk l' hk=>by
 rcases Nat.lt_or_ge k gr.length with e|e
 . rw[List.getElem?_append_left e]at hk;obtain ⟨i,a,b⟩:=h.pl k l' hk;exact⟨i,by rw[List.getElem?_append_left (by rw[h.ln];exact e)];exact a,b⟩
 . rw[List.getElem?_append_right e]at hk
   have:k - gr.length=0:=by have:=(List.getElem?_eq_some_iff.1 hk).1;simp at this;omega
   rw[this]at hk;cases hk;exact⟨id,by rw[List.getElem?_append_right (by rw[h.ln];exact e),h.ln,this];rfl,h1,h2,h3,h4,h5⟩⟩
variable {zs:List Int}
theorem qAe{next id len:Nat}(e:zs.length=len)(hH:H id=some (.own 1 (ivs zs) false))(hn:0<len)(hz:len<=1000000000):
 zh Tryz.prog 89 [.msl id 1 0 len] H next λv H' n'=>v=.tup []/\n'=next/\H' id=some (.own 1 (ivs (qdi zs)) false)/\∀j,j≠id->H' j=H j:=by
 subst e;exact Vn hH hn o_
theorem qAc{next id len:Nat}{zs':List Int}(hH:H id=some (.own 1 (ivs zs) ro))(hn:0<len)(hle:off+len<=zs.length)(hz:len<=1000000000)(e:(zs.drop off).take len=zs'):
 zh Tryz.prog 163 [.msl id 1 off len] H next λv H' n'=>v=.msl next 1 0 len/\n'=next+1/\H' next=some (.own 1 (ivs zs') false)/\∀j,j≠next->H' j=H j:=by
 subst e;exact slices_Clone hH hn hle o_
variable {wi ni li oi i:Nat} {rel:List (List Int)} {s0:TS}
theorem grp{next:Nat}{pre seg:List Nat}(hD:WD wi ni li oi lo)(hW:WAt H next wi ni li oi lo n rel s0)(hst:s0.stack=pre++i::seg)(hnd:s0.stack.Nodup)(hlt:∀x∈s0.stack,x<n)(hn:s0.stack.length<=1000000)(hg:s0.groups.length<=1000000):zh Tryz.prog 135 [.ptr wi 0 0,vi (i:Int)] H next (WQ H next wi ni li oi lo n rel (qgc i s0)):=by
 refine zb Tryz.func135 nm_ qqF (by show 2<=60;decide) ?_
 show ewp _ qqa _ _;obtain ⟨sv,gv,gs,hw,hnu,hlw,hof,hS,hG,hA,hsg,hnx⟩:=hW;obtain ⟨⟨d1,d2,d3,d4,d5,d6⟩,b1,b2,b3,b4⟩:=hD;rcases hS with ⟨h0,_⟩|⟨si,full,rfl,hf,hft,f1,f2⟩
 . rw[h0]at hst;cases pre<;>simp at hst
 have hsl:s0.stack.length=pre.length+(seg.length+1):=by rw[hst];simp
 have hfl:s0.stack.length<=full.length:=by have:=congrArg List.length hft;rw[List.length_take,xC]at this;omega
 have hip:i ∉ pre:=by rw[hst]at hnd;intro h;exact(List.nodup_append.1 hnd).2.2 i h i (by simp) rfl
 obtain ⟨eT,eD⟩:=ZU (b:=seg) hip;have hIdx:Pure Tryz.prog 162 [ints (Qy s0.stack),vi (i:Int)] (vi (pre.length:Int)):=qjU (by rw[xC];omega) (X9 (by rw[hst];simp)) (by
  rw[hst];simp only[Qy,List.map_append,List.map_cons];rw[List.take_append_of_le_length (by simp),List.take_of_length_le (by simp)];intro h;obtain ⟨x,hx,e⟩:=List.mem_map.1 h
  have:x=i:=o_
  exact hip (by rw[<- this];exact hx))
 have hEr:Er true H (.msl si 1 0 s0.stack.length) (ints (Qy s0.stack)):=xD hf so_ (by rw[List.drop_zero,<- List.map_take,hft]);have hse:s0.stack.length - pre.length=seg.length+1:=o_;have hcut:(full.drop pre.length).take (seg.length+1)=Qy (i::seg):=by
  have e1:full.take s0.stack.length=Qy pre++Qy (i::seg):=by rw[hft,hst];simp[Qy]
  have e2:(full.drop pre.length).take (seg.length+1)=(full.take s0.stack.length).drop pre.length:=by rw[hsl,List.drop_take];congr 1;omega
  rw[e2,e1,List.drop_append_of_le_length (by rw[xC];omega),List.drop_of_length_le (by rw[xC];omega),List.nil_append]
 repeat' with_reducible first|refine qL ?_|simp -implicitDefEqProofs only[wZZ,seval,hw,hse]|apply qM (hp:=hIdx);(focus(first|exact hEr|(((try simp only[wM]);(repeat first|rw[if_pos trivial]|rw[if_pos rfl]|rw[if_neg o_]));exact hEr)));exact qd;exact wu_;exact Flat.int _ _|(refine qn6 (k:=pre.length) _ rfl o_ ?_)|(refine qR rfl rfl rfl ((qAc (by first|exact hf|(((try simp only[wM]);(repeat first|rw[if_pos trivial]|rw[if_pos rfl]|rw[if_neg o_]));exact hf)) o_ o_ o_ hcut).mono ?_);rintro v1 H1 n1 ⟨rfl,rfl,q3,q4⟩;(try simp only[wN]at q3);(try simp only[wN]at q4))|refine t_ ?_
 have hw1:H1 wi=_:=(q4 wi o_).trans (by first|exact hw|(((try simp only[wM]);(repeat first|rw[if_pos trivial]|rw[if_pos rfl]|rw[if_neg o_]));exact hw));repeat' with_reducible first|refine s_ ?_|simp -implicitDefEqProofs only[wZZ,seval,hw1]|(refine qnr (k:=pre.length) _ rfl o_ ?_)|refine t_ ?_
 have hgm:∀j,j<lo->mid gv≠some j:=λj h=>GrM.mid hG j (Or.inl h);have q4':∀j,j<next+15->H1 j=H j:=λj h=>(q4 j o_).trans (by first|rfl|((try simp only[wM]);(repeat first|rw[if_pos trivial]|rw[if_pos rfl]|rw[if_neg o_])))
 obtain ⟨sg,hsg'⟩:∃sg,sg=i::seg:=⟨_,rfl⟩;have hsgl:sg.length=seg.length+1:=by rw[hsg'];rfl
 rw[<- hsg']at q3;refine qb ?nx1 (λ(k:Nat) s=>s.f 0=?v1_0/\s.f 5=?v1_5/\s.f 30=?v1_30/\s.f 31=?v1_31/\s.f 32=vi k/\(k<=sg.length)/\((s.H wi=some (.own 7 [wkV rel ni li oi n (.msl si 1 0 pre.length) gv s0.next] false)))/\((s.H oi=some (.own 1 (ivs (J7 n (markT s0.of (s0.groups.length:Int) (sg.take k)))) false)))/\((∀j,j<next+16->j≠wi->j≠oi->s.H j=H1 j))) (λk=>sg.length - k) (0) wj_ (by refine⟨?_,?_,?_,?_,?_,wo_,(by((simp only[wM];(repeat first|rw[if_pos trivial]|rw[if_pos rfl]|rw[if_neg o_])))),(by((simp only[wM];(repeat first|rw[if_pos trivial]|rw[if_pos rfl]|rw[if_neg o_]));exact(q4' oi o_).trans hof)),(by(intro j h1 h2 h3;(simp only[wM];(repeat first|rw[if_pos trivial]|rw[if_pos rfl]|rw[if_neg o_]))))⟩<;>first|(simp -implicitDefEqProofs only[wL,wM,wN,wX,seval,Option.some.injEq]<;>exact wt_)|rfl|exact⟨_,rfl⟩) ?_;intro k s hnx ⟨g0,g5,g30,g31,g32,k1_0,k1_1,k1_2,k1_3⟩;have oN:s.H (next+7+8)=some (.own 1 (ivs (Qy sg)) false):=(k1_3 _ o_ o_ o_).trans q3;by_cases hk:k<sg.length
 . obtain ⟨x,hx⟩:∃x,sg[k]?=some x:=⟨_,ge_ hk⟩;have hxn:x<n:=hlt x (by rw[hst,<- hsg'];exact List.mem_append_right _ (List.mem_of_getElem? hx));have htk:sg.take (k+1)=sg.take k++[x]:=(by rw[List.take_add_one,hx];rfl);repeat' with_reducible first|refine s_ ?_|simp -implicitDefEqProofs only[wZZ,seval,g0,g5,g30,g31,g32,k1_1,hG.len]|apply qa<;>intro h h_<;>(try simp only[wD,reduceCtorEq]at h_)<;>(try exact wb_)<;>(try simp only[h])|apply qZ;omega;omega|(refine ldI k oN o_ (X9 hx) ?_)|(refine stI x k1_2 o_ hxn ?_)|refine t_ ?_|simp -implicitDefEqProofs (disch:=omega) only[w64,if_neg]
   refine⟨wg_,k+1,o_,?_⟩;(repeat refine⟨True.intro,?_⟩);exact⟨rfl,o_,by((try simp only[wM]);(repeat first|rw[if_pos trivial]|rw[if_pos rfl]|rw[if_neg o_]));(try exact k1_1),by((try simp only[wM]);(repeat first|rw[if_pos trivial]|rw[if_pos rfl]|rw[if_neg o_]));(try rw[htk,K7,hA.ln]),λj h1 h2 h3=>by((try simp only[wM]);(repeat first|rw[if_pos trivial]|rw[if_pos rfl]|rw[if_neg o_]));(try exact k1_3 j h1 h2 h3)⟩
 . rw [List.take_of_length_le o_]at k1_2;repeat' with_reducible first|refine s_ ?_|simp -implicitDefEqProofs only[wZZ,seval,g0,g5,g30,g31,g32,k1_1]|apply qa<;>intro h h_<;>(try simp only[wD,reduceCtorEq]at h_)<;>(try exact wb_)<;>(try simp only[h])|(refine qR rfl rfl rfl ((qAe (zs:=Qy sg) (by rw[xC];exact hsgl) (by first|exact oN|(((try simp only[wM]);(repeat first|rw[if_pos trivial]|rw[if_pos rfl]|rw[if_neg o_]));exact oN)) o_ o_).mono ?_);rintro v2 H2 n2 ⟨rfl,rfl,u1,u2⟩;(try simp only[wN]at u1);(try simp only[wN]at u2))
   have hw2:H2 wi=_:=(u2 wi o_).trans (by first|exact k1_1|(((try simp only[wM]);(repeat first|rw[if_pos trivial]|rw[if_pos rfl]|rw[if_neg o_]));exact k1_1));repeat' with_reducible first|simp -implicitDefEqProofs only[wZZ,seval,g0,g5,g30,g31,g32,hw2]|refine t_ ?_
   have u2':∀j,j<next+15->j≠wi->j≠oi->H2 j=H j:=λj h1 h2 h3=>(u2 j o_).trans ((by first|rfl|((try simp only[wM]);(repeat first|rw[if_pos trivial]|rw[if_pos rfl]|rw[if_neg o_])):_=s.H j).trans ((k1_3 j o_ h2 h3).trans (q4' j h1)))
   have uo:H2 oi=_:=(u2 oi o_).trans ((by first|rfl|((try simp only[wM]);(repeat first|rw[if_pos trivial]|rw[if_pos rfl]|rw[if_neg o_])):_=s.H oi).trans k1_2);have hgl:=hA.ln;refine qsu rfl (GrM.mono hG (Nat.le_refl _) (λj _ h1 h2=>u2' j o_ o_ o_)) rfl qY.sl (by simp only[List.length_cons,List.length_nil];omega) (by unfold maxLen;simp only[List.length_cons,List.length_nil];omega) (λH3 w1 w2=>?_);have w2':∀j,j<lo->H3 j=H2 j:=λj h=>(w2 j wg_ (hgm j h)).trans (by first|rfl|((try simp only[wM]);(repeat first|rw[if_pos trivial]|rw[if_pos rfl]|rw[if_neg o_])));have hw3:H3 wi=_:=(w2' wi b1).trans hw2;repeat' with_reducible first|simp -implicitDefEqProofs only[wZZ,seval,g0,g5,g30,g31,g32,hw3]|refine t_ ?_
   have w3:∀j,j<next->mid gv≠some j->j≠wi->j≠oi->H3 j=H j:=λj h1 h2 h3 h4=>((w2 j o_ h2).trans (by first|rfl|((try simp only[wM]);(repeat first|rw[if_pos trivial]|rw[if_pos rfl]|rw[if_neg o_])):_=H2 j)).trans (u2' j o_ h3 h4)
   have hsn:sg.Nodup:=(by rw[hst,<- hsg']at hnd;exact(List.nodup_append.1 hnd).2.1);rw[YG hsn]at u1;have hsl2:(ZY sg).length=seg.length+1:=by have:=congrArg List.length (YG hsn);rw[xC,List.length_mergeSort,xC]at this;omega
   have hN:H3 (next+7+8)=some (.own 1 (ivs (Qy (ZY sg))) false):=(w2 _ o_ (GrM.mid hG _ (Or.inr o_))).trans ((by first|rfl|((try simp only[wM]);(repeat first|rw[if_pos trivial]|rw[if_pos rfl]|rw[if_neg o_])):_=H2 _).trans u1);have hoi:H3 oi=_:=(w2' oi b4).trans uo;have est:(qgc i s0).stack=pre:=(by show s0.stack.takeWhile _=_;rw[hst,eT]);have eof:(qgc i s0).of=markT s0.of (s0.groups.length:Int) sg:=(by show markT s0.of _ (s0.stack.dropWhile _)=_;rw[hst,eD,hsg']);have egr:(qgc i s0).groups=s0.groups++[ZY sg]:=(by show s0.groups++[ZY (s0.stack.dropWhile _)]=_;rw[hst,eD,hsg']);refine V3 rfl (Or.inl rfl) ⟨rfl,wg_,⟨.msl si 1 0 pre.length,.msl (s.next+1+2+7) 1 0 (gs++[V.msl (next+7+8) 1 0 (seg.length+1)]).length,gs++[.msl (next+7+8) 1 0 (seg.length+1)],⟨?_,?_,?_,?_,?_,?_,?_,?_,wg_⟩⟩,?_⟩
   . ((try simp only[wM]);(repeat first|rw[if_pos trivial]|rw[if_pos rfl]|rw[if_neg o_]));rfl
   . ((try simp only[wM]);(repeat first|rw[if_pos trivial]|rw[if_pos rfl]|rw[if_neg o_]));rw[w3 ni o_ (hgm ni b2) o_ o_];exact hnu
   . ((try simp only[wM]);(repeat first|rw[if_pos trivial]|rw[if_pos rfl]|rw[if_neg o_]));rw[w3 li o_ (hgm li b3) o_ o_];exact hlw
   . ((try simp only[wM]);(repeat first|rw[if_pos trivial]|rw[if_pos rfl]|rw[if_neg o_]));rw[eof];exact hoi
   . rw[est];refine Or.inr ⟨si,full,rfl,?_,?_,f1,wg_⟩
     . ((try simp only[wM]);(repeat first|rw[if_pos trivial]|rw[if_pos rfl]|rw[if_neg o_]));rw[w3 si f2 (hsg si rfl) o_ o_];exact hf
     . have:=congrArg (List.take pre.length) hft;rw[List.take_take,hst]at this;rw[show pre.length=min pre.length (pre++i::seg).length by rw[List.length_append];omega,this];simp[Qy]
   . refine Or.inr ⟨_,rfl,?_,o_,wg_⟩;((try simp only[wM]);(repeat first|rw[if_pos trivial]|rw[if_pos rfl]|rw[if_neg o_]));exact w1
   . rw[egr,<- hsl2];refine GrpsAt.snoc ?_ ?_ ?_ ?_ ?_ ?_
     . refine GrpsAt.mono hA ?_ (λj h1 h2 h3 h4=>⟨?_,h3,?_⟩)
       . ((try simp only[wN])<;>omega)
       . ((try simp only[wM]);(repeat first|rw[if_pos trivial]|rw[if_pos rfl]|rw[if_neg o_]));exact w3 j h2 h4 o_ o_
       . intro e;have e2:=Option.some.inj e;omega
     . ((try simp only[wM]);(repeat first|rw[if_pos trivial]|rw[if_pos rfl]|rw[if_neg o_]));exact hN
     . omega
     . ((try simp only[wN])<;>omega)
     . intro e;have e2:=Option.some.inj e;omega
     . intro e;have e2:=Option.some.inj e;omega
   . intro j h e;have e1:=Option.some.inj h;have e2:=Option.some.inj e;omega
   . intro j h1 h2 h3 h4 h5;((try simp only[wM]);(repeat first|rw[if_pos trivial]|rw[if_pos rfl]|rw[if_neg o_]));exact w3 j o_ (hgm j h1) h2 h5

theorem qgN{P:Program}[Glob P]{id:Nat}{s:St}(m:Bool)(x y:Opd):qg P cls id s K (.minmax m [x,y])=onS (Xo m [ev s x,ev s y]) λv=>K v s:=rfl
theorem qhT(a b:Int):Xo false [.int .i64 a,.int .i64 b]=some (.int .i64 (if b<a then b else a)):=by simp[Xo]
theorem qzm(a b:Int):(if b<a then b else a)=min a b:=o_
def zI(rl:List (List Int))(i:Nat):List Int:=rl.getD i []
variable {s:TS}
theorem WIn.mono{next:Nat}(h:WIn H next wi ni li oi lo n rel s sv gv gs)(hD:WD wi ni li oi lo)(hn:next<=n')(hh:∀j,j<next->H' j=H j):WIn H' n' wi ni li oi lo n rel s sv gv gs:=by obtain ⟨_,b1,b2,b3,b4⟩:=hD;have hx:=h.nx;exact⟨(hh _ o_).trans h.w,(hh _ o_).trans h.nu,(hh _ o_).trans h.lw,(hh _ o_).trans h.of,h.st.mono hn λj _ _ hj=>hh j hj,GrM.mono h.gr hn λj _ _ hj=>hh j hj,h.ga.mono hn λj _ hj a b=>⟨hh j hj,a,b⟩,h.sg,o_⟩
theorem WIn.lowT{next:Nat}(h:WIn H next wi ni li oi lo n rel s sv gv gs)(hD:WD wi ni li oi lo)(hn:next<=n')(hl:H' li=some (.own 1 (ivs (J7 n l)) false))(hh:∀j,j<next->j≠li->H' j=H j):WIn H' n' wi ni li oi lo n rel {s with low:=l} sv gv gs:=by obtain ⟨⟨d1,d2,d3,d4,d5,d6⟩,b1,b2,b3,b4⟩:=hD;have hx:=h.nx;exact⟨(hh _ o_ d2).trans h.w,(hh _ o_ d4).trans h.nu,hl,(hh _ o_ (Ne.symm d6)).trans h.of,h.st.mono hn λj _ hj hj2=>hh j hj2 o_,GrM.mono h.gr hn λj _ hj hj2=>hh j hj2 o_,h.ga.mono hn λj hj hj2 a b=>⟨hh j hj2 o_,a,b⟩,h.sg,o_⟩
def BdT(n:Nat)(s:TS):Prop:=s.next+VL n s<=n
theorem ql7(h:BdT n s)(hi:i<n)(h0:s.num i=0):BdT n (qag i s):=by
 have:VL n (qag i s)<VL n s:=qeN (λx hx=>by
  show Yq _ _ _ x≠0;by_cases e:x=i
  . subst e;rw[jm];omega
  . rw[vC e];exact hx) hi h0 (by show Yq _ _ _ i≠0;rw[jm];omega)
 unfold BdT at *
 show s.next+1+_<=n;omega
theorem qrW(h:BdT n s):BdT n (qlF i s):=by
 unfold qlF;split
 . exact h
 . exact h
theorem qiM(rel:Nat->List Int)(n:Nat):∀f i s,i<n->s.num i=0->BdT n s->BdT n (JY rel n f i s)
 |0,_,_,_,_,h=>h
 | f + 1, i,s,hi,h0,h=>by
   rw[JY];refine qrW ?_;have key:∀(l:List Int) (t:TS),BdT n t->BdT n (l.foldl (qjH n i (JY rel n f)) t):=by
    intro l
    induction l with
    |nil=>intro t h;exact h
    | cons j l ih=>
      intro t h;rw[List.foldl_cons];refine ih _ ?_;unfold qjH;split
      . exact h
      . rename_i hr;split
        . rename_i hk;have:=qiM rel n f j.toNat t o_ hk h;exact this
        . split
          . exact h
          . exact h
   exact key _ _ (ql7 h hi h0)
theorem JR{l:List Nat}(h:l.Nodup)(hl:∀x∈l,x<n):l.length<=n:=by
 have h1:jq (Qy (ZY l)):=by unfold Qy;exact List.Pairwise.map (S:=(· < ·)) _ (λa b hab=>o_) (Zg h)
 have h2:=qfC (n:=n) h1 (λx hx=>by
  obtain ⟨y,hy,rfl⟩:=List.mem_map.1 hx;have:=hl y (kQ.1 hy);exact⟨o_,o_⟩)
 have h3:=congrArg List.length (YG h);rw[List.length_mergeSort,xC]at h3;omega
theorem qjo{rel:Nat->List Int}{G:Nat->Prop}(h:TInv rel n G s):s.groups.length<=n:=by
 have key:∀k,k<s.groups.length->∃x,s.of x=(k:Int):=λk hk=>by
  obtain ⟨h1,_,h3⟩:=h.grp k _ (ge_ hk);cases hl:s.groups[k]with
  |nil=>exact absurd hl h1
  |cons x r=>exact⟨x,(h3 x).1 (by rw[hl];simp)⟩
 have hf:∀k,∃x,k<s.groups.length->s.of x=(k:Int):=λk=>by
  by_cases hk:k<s.groups.length
  . obtain ⟨x,hx⟩:=key k hk;exact⟨x,λ_=>hx⟩
  . exact⟨0,λh=>absurd h hk⟩
 let g:Nat->Nat:=λk=>(hf k).choose
 have hg:∀k,k<s.groups.length->s.of (g k)=(k:Int):=λk=>(hf k).choose_spec;have hnd:((List.range s.groups.length).map g).Nodup:=by refine List.pairwise_map.2 ((List.nodup_range (n:=s.groups.length)).imp_of_mem λ{a b} ha hb hab e=>hab ?_);have h1:=hg a (List.mem_range.1 ha);have h2:=hg b (List.mem_range.1 hb);rw[e]at h1;omega
 have:=JR hnd (λx hx=>by
  obtain ⟨k,hk,rfl⟩:=List.mem_map.1 hx;exact of_lt h (by rw[hg k (List.mem_range.1 hk)];omega))
 simpa using this
theorem WIn.ent{next id:Nat}(h:WIn H next wi ni li oi lo n rel s sv gv gs)(hD:WD wi ni li oi lo)(hid:next<=id)(hn:id<n')
(h1:H' wi=some (.own 7 [wkV rel ni li oi n (.msl id 1 0 (s.stack++[i]).length) gv (s.next+1)] false))(h2:H' ni=some (.own 1 (ivs (J7 n (Yq s.num i ((s.next+1:Nat):Int)))) false))(h3:H' li=some (.own 1 (ivs (J7 n (Yq s.low i ((s.next+1:Nat):Int)))) false))(h4:H' id=some (.own 1 (ivs (Qy (s.stack++[i]))) false))
(hh:∀j,j<next->j≠wi->j≠ni->j≠li->mid sv≠some j->H' j=H j):WIn H' n' wi ni li oi lo n rel (qag i s) (.msl id 1 0 (s.stack++[i]).length) gv gs:=by
 obtain ⟨⟨d1,d2,d3,d4,d5,d6⟩,b1,b2,b3,b4⟩:=hD;have hx:=h.nx;exact⟨h1,h2,h3,(hh oi o_ o_ o_ o_ (h.st.mid oi (Or.inl b4))).trans h.of,Or.inr ⟨id,Qy (s.stack++[i]),rfl,h4,by rw[List.take_of_length_le (by rw[xC];exact Nat.le_refl _)];rfl,o_,hn⟩,
  GrM.mono h.gr o_ λj e a b=>hh j b o_ o_ o_ (λe2=>h.sg j e2 e),h.ga.mono o_ λj a b c d=>⟨hh j b o_ o_ o_ c,(λe=>by have:=Option.some.inj e;omega),d⟩,
  λj e e2=>by have:=Option.some.inj e;exact GrM.mid h.gr j (Or.inr o_) e2,o_⟩
def fE(rl:List (List Int))(n i f:Nat)(s0:TS)(k:Nat):TS:=((zI rl i).take k).foldl (qjH n i (JY (zI rl) n f)) (qag i s0)
variable {rl:List (List Int)}
theorem qoI{f:Nat}{j:Int}(h:(zI rl i)[k]?=some j):fE rl n i f s0 (k+1)=qjH n i (JY (zI rl) n f) (fE rl n i f s0 k) j:=by unfold fE;rw[List.take_add_one,h,Option.toList_some,List.foldl_append];rfl
abbrev qzk(f wi ni li oi lo n:Nat)(rl:List (List Int)):Prop:= ∀(H:Nat->Option MObj) (next i:Nat) (s:TS) (G:Nat->Prop),s.num i=0->i<n->VL n s<=f->BdT n s->TInv (zI rl) n G s->(∀g,G g->Rch (zI rl) n g i)->WAt H next wi ni li oi lo n rl s->
 zh Tryz.prog 115 [.ptr wi 0 0,vi (i:Int)] H next (WQ H next wi ni li oi lo n rl (JY (zI rl) n f i s))
theorem qkW{next f:Nat}{G:Nat->Prop}(hD:WD wi ni li oi lo)(hn:n<=1000000)(hrl:rl.length=n)(hrk:∀l∈rl,l.length<=1000000)(IH:qzk f wi ni li oi lo n rl)(h0:s0.num i=0)(hi:i<n)(hu:VL n s0<=f+1)(hb:BdT n s0)(hI:TInv (zI rl) n G s0)(hG:∀g,G g->Rch (zI rl) n g i)(hW:WAt H next wi ni li oi lo n rl s0):zh Tryz.prog 115 [.ptr wi 0 0,vi (i:Int)] H next (WQ H next wi ni li oi lo n rl (JY (zI rl) n (f+1) i s0)):=by
 refine zb Tryz.func115 nm_ qnC (by show 2<=149;decide) ?_
 show ewp _ qn7 _ _;obtain ⟨sv,gv,gs,W⟩:=hW;have W':=W;obtain ⟨hw,hnu,hlw,hof,hS,hGm,hA,hsg,hnx⟩:=W';have hD':=hD;obtain ⟨⟨d1,d2,d3,d4,d5,d6⟩,b1,b2,b3,b4⟩:=hD';have hnl:s0.next<=n:=by unfold BdT at hb;omega
 have hstl:s0.stack.length<=n:=by exact JR (vY hI.rise) (λx hx=>hI.lt x ((hI.stk x).1 hx).1)
 have hz:IntKind.i64.wrap ((s0.next:Int)+1)=((s0.next+1:Nat):Int):=by rw[wrap64 o_ o_];omega
 repeat' with_reducible first|refine qL ?_|simp -implicitDefEqProofs only[wZZ,seval,hw,hz]|apply qZ;omega;omega|(refine stI i hnu o_ hi ?_)|(refine stI i (l:=s0.low) (by first|exact hlw|(((try simp only[wM]);(repeat first|rw[if_pos trivial]|rw[if_pos rfl]|rw[if_neg o_]));exact hlw)) o_ hi ?_)|refine t_ ?_|simp -implicitDefEqProofs (disch:=omega) only[w64,if_neg]
 refine qwJ rfl (hS.mono (Nat.le_refl _) (λj e a b=>hh_)) rfl o_ (λH3 w1 w2=>?_);have w3:∀j,j<next->j≠wi->j≠ni->j≠li->mid sv≠some j->H3 j=H j:=λj h1 h2 h3 h4 h5=>(w2 j o_ h5).trans hh_
 have hsm:∀j,j<lo->mid sv≠some j:=λj h=>hS.mid j (Or.inl h);have hw3:H3 wi=some (.own 7 [wkV rl ni li oi n sv gv (s0.next+1)] false):=(w2 wi o_ (hsm wi b1)).trans hh_;have hn3:H3 ni=some (.own 1 (ivs (J7 n (Yq s0.num i ((s0.next+1:Nat):Int)))) false):=(w2 ni o_ (hsm ni b2)).trans hh_;have hl3:H3 li=some (.own 1 (ivs (J7 n (Yq s0.low i ((s0.next+1:Nat):Int)))) false):=(w2 li o_ (hsm li b3)).trans hh_;have hri:rl[i]?=some (zI rl i):=by unfold zI;rw[List.getD_eq_getElem?_getD,ge_ o_];rfl
 have hrl2:(zI rl i).length<=1000000:=hrk _ (List.mem_of_getElem? hri);repeat' with_reducible first|refine s_ ?_|simp -implicitDefEqProofs only[wZZ,seval,hw3]|refine t_ ?_
 refine qb ?nx1 (λ(k:Nat) s=>s.f 0=?v1_0/\s.f 1=?v1_1/\s.f 49=?v1_49/\s.f 50=?v1_50/\s.f 51=vi k/\(k<=(zI rl i).length)/\((∃sv gv gs,WIn s.H s.next wi ni li oi lo n rl (fE rl n i f s0 k) sv gv gs))/\((TLoop (zI rl) n i G s0 (fE rl n i f s0 k) ((zI rl i).take k)))/\((BdT n (fE rl n i f s0 k)))/\((∀j,j<lo->j≠wi->j≠ni->j≠li->j≠oi->s.H j=H j))) (λk=>(zI rl i).length - k) (0) wj_ (by refine⟨?_,?_,?_,?_,?_,wo_,(by(exact⟨_,_,_,WIn.ent (id:=next+8+22+7) W hD o_ wg_ wc_ (by(simp only[wM];(repeat first|rw[if_pos trivial]|rw[if_pos rfl]|rw[if_neg o_]));(try exact hn3)) (by(simp only[wM];(repeat first|rw[if_pos trivial]|rw[if_pos rfl]|rw[if_neg o_]));(try exact hl3)) (by(simp only[wM];(repeat first|rw[if_pos trivial]|rw[if_pos rfl]|rw[if_neg o_]));(try exact w1)) (λj h1 h2 h3 h4 h5=>by(simp only[wM];(repeat first|rw[if_pos trivial]|rw[if_pos rfl]|rw[if_neg o_]));(try exact w3 j h1 h2 h3 h4 h5))⟩)),(by(exact qea hI h0 hi hG)),(by(exact ql7 hb hi h0)),(by(intro j h1 h2 h3 h4 h5;(simp only[wM];(repeat first|rw[if_pos trivial]|rw[if_pos rfl]|rw[if_neg o_]));exact w3 j o_ h2 h3 h4 (hsm j h1)))⟩<;>first|(simp -implicitDefEqProofs only[wL,wM,wN,wX,seval,Option.some.injEq]<;>exact wt_)|rfl|exact⟨_,rfl⟩) ?_;intro k s hnx ⟨g0,g1,g49,g50,g51,k1_0,k1_1,k1_2,k1_3,k1_4⟩;obtain ⟨sv1,gv1,gs1,W1⟩:=k1_1;by_cases hk:k<(zI rl i).length
 . obtain ⟨x,hx⟩:∃x,(zI rl i)[k]?=some x:=⟨_,ge_ hk⟩;have hfs:=qoI (n:=n) (f:=f) (s0:=s0) hx;have hL2:=qlM (qa6 (zI rl) n f) hI h0 hi hu hG (List.mem_of_getElem? hx) k1_2;rw[<- hfs,show (zI rl i).take k++[x]=(zI rl i).take (k+1) by rw[List.take_add_one,hx];rfl]at hL2;generalize htt:fE rl n i f s0 k=t at *;by_cases hr:x<0\/(n:Int)<=x
   . have hfs2:fE rl n i f s0 (k+1)=t:=(by rw[hfs];unfold qjH;rw[if_pos hr]);rcases hr with hr|hr
     . repeat' with_reducible first|refine s_ ?_|simp -implicitDefEqProofs only[wZZ,seval,g0,g1,g49,g50,g51,W1.w,hrl]|(first|apply qa|apply qA|apply qB)<;>intro h h_<;>(try simp only[wD,reduceCtorEq]at h_)<;>(try exact wb_)<;>(try simp only[h])|refine t_ ?_|simp -implicitDefEqProofs (disch:=omega) only[w64,if_neg]
       refine⟨wg_,k+1,o_,?_⟩;(repeat refine⟨True.intro,?_⟩);exact⟨rfl,o_,⟨_,_,_,by rw[hfs2];exact WIn.mono W1 hD wg_ (λj _=>hh_)⟩,hL2,by rw[hfs2];exact k1_3,λj h1 h2 h3 h4 h5=>by((try simp only[wM]);(repeat first|rw[if_pos trivial]|rw[if_pos rfl]|rw[if_neg o_]));(try exact k1_4 j h1 h2 h3 h4 h5)⟩
     . repeat' with_reducible first|refine s_ ?_|simp -implicitDefEqProofs only[wZZ,seval,g0,g1,g49,g50,g51,W1.w,hrl]|(first|apply qa|apply qA|apply qB)<;>intro h h_<;>(try simp only[wD,reduceCtorEq]at h_)<;>(try exact wb_)<;>(try simp only[h])|refine t_ ?_|simp -implicitDefEqProofs (disch:=omega) only[w64,if_neg]
       refine⟨wg_,k+1,o_,?_⟩;(repeat refine⟨True.intro,?_⟩);exact⟨rfl,o_,⟨_,_,_,by rw[hfs2];exact WIn.mono W1 hD wg_ (λj _=>hh_)⟩,hL2,by rw[hfs2];exact k1_3,λj h1 h2 h3 h4 h5=>by((try simp only[wM]);(repeat first|rw[if_pos trivial]|rw[if_pos rfl]|rw[if_neg o_]));(try exact k1_4 j h1 h2 h3 h4 h5)⟩
   . obtain ⟨m,rfl⟩:∃m:Nat,x=m:=⟨x.toNat,o_⟩;have hm:m<n:=o_;have hfs2:fE rl n i f s0 (k+1)=(if t.num m=0 then {JY (zI rl) n f m t with low:=Yq (JY (zI rl) n f m t).low i (min ((JY (zI rl) n f m t).low i) ((JY (zI rl) n f m t).low m))} else if t.of m<0 then {t with low:=Yq t.low i (min (t.low i) (t.num m))} else t):=by
      rw[hfs];unfold qjH;rw[if_neg hr,Int.toNat_natCast]
     have hgm:=jv (l:=t.num) hm;by_cases hk0:t.num m=0
     . rw[if_pos hk0]at hfs2;have hrec:=λH next W=>IH H next m t (λg=>G g\/g=i) hk0 hm (by have:=k1_2.unv;omega) k1_3 k1_2.inv (λg hg=>by
        have hE:Edge (zI rl) n i m:=⟨hi,hm,List.mem_of_getElem? hx⟩;rcases hg with hg|rfl
        . exact(hG g hg).trans (.one hE)
        . exact .one hE) W
       have hb2:=qiM (zI rl) n f m t hm hk0 k1_3;generalize JY (zI rl) n f m t=t2 at *;repeat' with_reducible first|refine s_ ?_|simp -implicitDefEqProofs only[wZZ,seval,g0,g1,g49,g50,g51,W1.w,hrl]|(first|apply qa|apply qA|apply qB)<;>intro h h_<;>(try simp only[wD,reduceCtorEq]at h_)<;>(try exact wb_)<;>(try simp only[h])|refine t_ ?_|apply qZ;omega;omega|(refine ldI m W1.nu o_ hgm ?_)|(refine qR rfl rfl rfl ((hrec _ _ ⟨_,_,_,WIn.mono W1 hD wg_ (λj _=>hh_)⟩).mono ?_);rintro v1 H1 n1 ⟨rfl,q1,⟨sv2,gv2,gs2,W2⟩,q3⟩;(try simp only[wN]at q1);(try simp only[wN]at q3))
       have g2i:=jv (l:=t2.low) hi;have g2m:=jv (l:=t2.low) hm;repeat' with_reducible first|refine s_ ?_|simp -implicitDefEqProofs only[wZZ,seval,g0,g1,g49,g50,g51,W2.w]|apply qZ;omega;omega|(refine ldI i W2.lw o_ g2i ?_)|(refine ldI m W2.lw o_ g2m ?_)|(simp only[qgN,qhT,qzm])|(refine stI i (l:=t2.low) (by first|exact W2.lw|(((try simp only[wM]);(repeat first|rw[if_pos trivial]|rw[if_pos rfl]|rw[if_neg o_]));exact W2.lw)) o_ hi ?_)|refine t_ ?_|simp -implicitDefEqProofs (disch:=omega) only[w64,if_neg]
       refine⟨wg_,k+1,o_,?_⟩;(repeat refine⟨True.intro,?_⟩);exact⟨rfl,o_,⟨_,_,_,by rw[hfs2];exact WIn.lowT W2 hD wg_ hh_ (λj h1 h2=>hh_)⟩,hL2,by rw[hfs2];exact hb2,λj h1 h2 h3 h4 h5=>by((try simp only[wM]);(repeat first|rw[if_pos trivial]|rw[if_pos rfl]|rw[if_neg o_]));rw[q3 j h1 h2 h3 h4 h5];((try simp only[wM]);(repeat first|rw[if_pos trivial]|rw[if_pos rfl]|rw[if_neg o_]));(try exact k1_4 j h1 h2 h3 h4 h5)⟩
     . rw [if_neg hk0]at hfs2;have hom:=jv (l:=t.of) hm;by_cases hko:t.of m<0
       . rw[if_pos hko]at hfs2;have g2i:=jv (l:=t.low) hi;repeat' with_reducible first|refine s_ ?_|simp -implicitDefEqProofs only[wZZ,seval,g0,g1,g49,g50,g51,W1.w,hrl]|(first|apply qa|apply qA|apply qB)<;>intro h h_<;>(try simp only[wD,reduceCtorEq]at h_)<;>(try exact wb_)<;>(try simp only[h])|refine t_ ?_|apply qZ;omega;omega|(refine ldI m W1.nu o_ hgm ?_)|(refine ldI m W1.of o_ hom ?_)|(refine ldI i W1.lw o_ g2i ?_)|(simp only[qgN,qhT,qzm])|(refine stI i (l:=t.low) (by first|exact W1.lw|(((try simp only[wM]);(repeat first|rw[if_pos trivial]|rw[if_pos rfl]|rw[if_neg o_]));exact W1.lw)) o_ hi ?_)|simp -implicitDefEqProofs (disch:=omega) only[w64,if_neg]
         refine⟨wg_,k+1,o_,?_⟩;(repeat refine⟨True.intro,?_⟩);exact⟨rfl,o_,⟨_,_,_,by rw[hfs2];exact WIn.lowT W1 hD wg_ hh_ (λj h1 h2=>hh_)⟩,hL2,by rw[hfs2];exact k1_3,λj h1 h2 h3 h4 h5=>by((try simp only[wM]);(repeat first|rw[if_pos trivial]|rw[if_pos rfl]|rw[if_neg o_]));(try exact k1_4 j h1 h2 h3 h4 h5)⟩
       . rw[if_neg hko]at hfs2;repeat' with_reducible first|refine s_ ?_|simp -implicitDefEqProofs only[wZZ,seval,g0,g1,g49,g50,g51,W1.w,hrl]|(first|apply qa|apply qA|apply qB)<;>intro h h_<;>(try simp only[wD,reduceCtorEq]at h_)<;>(try exact wb_)<;>(try simp only[h])|refine t_ ?_|apply qZ;omega;omega|(refine ldI m W1.nu o_ hgm ?_)|(refine ldI m W1.of o_ hom ?_)|simp -implicitDefEqProofs (disch:=omega) only[w64,if_neg]
         refine⟨wg_,k+1,o_,?_⟩;(repeat refine⟨True.intro,?_⟩);exact⟨rfl,o_,⟨_,_,_,by rw[hfs2];exact WIn.mono W1 hD wg_ (λj _=>hh_)⟩,hL2,by rw[hfs2];exact k1_3,λj h1 h2 h3 h4 h5=>by((try simp only[wM]);(repeat first|rw[if_pos trivial]|rw[if_pos rfl]|rw[if_neg o_]));(try exact k1_4 j h1 h2 h3 h4 h5)⟩
 . have hall:JY (zI rl) n (f+1) i s0=qlF i (fE rl n i f s0 k):=by
    rw[JY];unfold fE;rw[List.take_of_length_le o_]
   rw[List.take_of_length_le o_]at k1_2;obtain ⟨seg,hst⟩:=k1_2.stk;generalize fE rl n i f s0 k=t at *;have g2i:=jv (l:=t.low) hi;have gni:=jv (l:=t.num) hi;rw[hall];unfold qlF;by_cases hln:t.low i=t.num i
   . rw[if_pos hln];have hgr:=λH next W=>grp (H:=H) (next:=next) (rel:=rl) (i:=i) (pre:=s0.stack) (seg:=seg) hD W hst (vY k1_2.inv.rise) (λx hx=>k1_2.inv.lt x ((k1_2.inv.stk x).1 hx).1) (by have:=JR (vY k1_2.inv.rise) (λx hx=>k1_2.inv.lt x ((k1_2.inv.stk x).1 hx).1);omega) (by have:=qjo k1_2.inv;omega)
     repeat' with_reducible first|refine s_ ?_|simp -implicitDefEqProofs only[wZZ,seval,g0,g1,g49,g50,g51,W1.w]|apply qa<;>intro h h_<;>(try simp only[wD,reduceCtorEq]at h_)<;>(try exact wb_)<;>(try simp only[h])|apply qZ;omega;omega|(refine ldI i W1.lw o_ g2i ?_)|(refine ldI i W1.nu o_ gni ?_)|(refine qR rfl rfl rfl ((hgr _ _ ⟨_,_,_,WIn.mono W1 hD wg_ (λj _=>hh_)⟩).mono ?_);rintro v1 H1 n1 ⟨rfl,q1,q2,q3⟩;(try simp only[wN]at q1);(try simp only[wN]at q3))|refine t_ ?_
     exact V3 rfl (Or.inl rfl) ⟨rfl,wg_,q2,λj h1 h2 h3 h4 h5=>by((try simp only[wM]);(repeat first|rw[if_pos trivial]|rw[if_pos rfl]|rw[if_neg o_]));rw[q3 j h1 h2 h3 h4 h5];((try simp only[wM]);(repeat first|rw[if_pos trivial]|rw[if_pos rfl]|rw[if_neg o_]));(try exact k1_4 j h1 h2 h3 h4 h5)⟩
   . rw[if_neg hln];repeat' with_reducible first|refine s_ ?_|simp -implicitDefEqProofs only[wZZ,seval,g0,g1,g49,g50,g51,W1.w]|apply qa<;>intro h h_<;>(try simp only[wD,reduceCtorEq]at h_)<;>(try exact wb_)<;>(try simp only[h])|apply qZ;omega;omega|(refine ldI i W1.lw o_ g2i ?_)|(refine ldI i W1.nu o_ gni ?_)|refine t_ ?_
     exact V3 rfl (Or.inl rfl) ⟨rfl,wg_,⟨_,_,_,WIn.mono W1 hD wg_ (λj _=>hh_)⟩,λj h1 h2 h3 h4 h5=>by((try simp only[wM]);(repeat first|rw[if_pos trivial]|rw[if_pos rfl]|rw[if_neg o_]));(try exact k1_4 j h1 h2 h3 h4 h5)⟩
theorem qg8{wi ni li oi lo n:Nat}{rl:List (List Int)}(hD:WD wi ni li oi lo)(hn:n<=1000000)(hrl:rl.length=n)(hrk:∀l∈rl,l.length<=1000000):∀f,qzk f wi ni li oi lo n rl
 | 0=>λH next i s G h0 hi hu=>by
   exfalso
   have:VL n {s with num:=λ_=>1}<VL n s:=qeN (λx _=>d_) hi h0 d_
   omega
 |f+1=>λH next i s G h0 hi hu hb hI hG hW=>qkW hD hn hrl hrk (qg8 hD hn hrl hrk f) h0 hi hu hb hI hG hW
end Go.Proofs
