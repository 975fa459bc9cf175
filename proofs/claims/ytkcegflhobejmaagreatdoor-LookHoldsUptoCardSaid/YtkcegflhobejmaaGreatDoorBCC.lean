import Derived.Test.YtkcegflhobejmaaGreatDoorBSO
import Derived.Shelf.SlSortCmp.NoneTotal
import Derived.Shelf.Slices.In.SortNone
import Derived.Test.YtkcegflhobejmaaGreatDoorBBA
set_option maxRecDepth 20000
set_option linter.all false
set_option maxHeartbeats 4000000
namespace Go.Proofs
open Go.E
theorem qlh:Pure Tryz.prog 89 [.sl 1 false []] (.tup []):=by
 refine⟨⟨Tryz.f89,Tryz.func89,nm_,nm_⟩,λw lim ra hg hra=>?_⟩;obtain ⟨hsz,hrs⟩:=hra;obtain ⟨r,rfl⟩:∃r,ra= #[r]:=by
  rcases ra with ⟨l⟩
  match l,hsz with
  |[r],_=>exact⟨r,rfl⟩
 have h0:=hrs 0 _ r rfl rfl;obtain ⟨a,cap,rfl⟩:∃a cap,r=.slice a 0 cap:=by
  generalize hv:V.sl 1 false []=v at h0;cases h0<;>cases hv
  . exact⟨_,_,rfl⟩
  . exact⟨_,_,rfl⟩
 refine(Any.slices_Sort_int_none Tryz.lays189 a cap w).mono ?_;rintro e w' ⟨rfl,rfl⟩;exact⟨.tuple #[],rfl,RowKit.Below.refl _ _,.tup [] #[] rfl (by simp)⟩
theorem qjf:Pure Tryz.prog 108 [.sl 2 false [],.fn 109 []] (.tup []):=by
 refine⟨⟨Tryz.f108,Tryz.func108,nm_,nm_⟩,λw lim ra hg hra=>?_⟩;obtain ⟨hsz,hrs⟩:=hra;obtain ⟨r,r2,rfl⟩:∃r r2,ra= #[r,r2]:=by
  rcases ra with ⟨l⟩
  match l,hsz with
  |[r,r2],_=>exact⟨r,r2,rfl⟩
 have h0:=hrs 0 _ r rfl rfl;obtain ⟨a,cap,rfl⟩:∃a cap,r=.slice a 0 cap:=by
  generalize hv:V.sl 2 false []=v at h0;cases h0<;>cases hv
  . exact⟨_,_,rfl⟩
  . exact⟨_,_,rfl⟩
 refine(AnyF.slices_SortFunc_none {Tryz.sortL with} a cap r2 w).mono ?_;rintro e w' ⟨rfl,rfl⟩;exact⟨.tuple #[],rfl,RowKit.Below.refl _ _,.tup [] #[] rfl (by simp)⟩
theorem qd4:Pure Tryz.prog 90 [.sl 1 false []] (.sl 1 false []):=by
 refine pure_intro Tryz.func90 nm_ qrH (by show 1<=61;decide) ?_
 show ewp _ qtP _ _;repeat' with_reducible first|refine s_ ?_|simp -implicitDefEqProofs only[wZZ,seval]
 refine qz rfl (Or.inr rfl) ?_;simp -implicitDefEqProofs only[wL,seval];refine er_ ?_
 try(with_reducible rfl)

set_option maxRecDepth 100000
variable {k k' z:Nat} {es:List Go.E.V} {v:Go.E.V}
theorem qoe{K:V->Prop}{ro:Bool}{o:Option MObj}(ho:o=some (.own z es ro))(hz:z=1)(e:k=k')(hv:es[k']?=some v)(ha:v.isAgg=false)(hk:K v):onS (ldQ o false 1 k 0) K:=by
 subst ho e hz;have e:ldQ (some (.own 1 es ro)) false 1 k 0=some v:=by simp[ldQ,hv,jD,ha]
 rw[e];exact hk
variable {s:St}
theorem qoi{K:St->Prop}{id:Nat}{e:V}{o:Option MObj}(ho:o=some (.own 1 es false))(ek:k=k')(he:es[k']?=some e)(hea:e.isAgg=false)(h1:v.cells.length=1)(h2:v.okCell=true)(h3:v.isAgg=false)
(hk:K (s.setO id (some (.own 1 (es.set k' v) false)))):onS (stQ s o 1 id k 0 v) K:=by
 subst ho ek;have e:stQ s (some (.own 1 es false)) 1 id k 0 v=some (s.setO id (some (.own 1 (es.set k v) false))):=by simp[stQ,he,h1,h2,je,hea,h3]
 rw[e];exact hk
abbrev qqQ(zs:List Int):Prop:=zs.Pairwise (· <= ·)
variable {zs:List Int}
theorem qiq(h:qqQ zs):qdi zs=zs:=by unfold qdi;exact List.mergeSort_of_pairwise (h.imp λh=>decide_eq_true h)
def qbk(H:Nat->Option MObj)(base next:Nat)(l:List Int)(v:V):Prop:=(l=[]/\v=.sl 1 false [])\/ ∃id es,v=.msl id 1 0 l.length/\H id=some (.own 1 es false)/\l.length<=es.length/\es.take l.length=l.map (V.int .i64)/\base<=id/\id<next
variable {H H':Nat->Option MObj} {base next':Nat} {l:List Int}
theorem qbk.keep{base' next:Nat}(h:qbk H base next l v)(hb:base'<=base)(hn:next<=next')(hH:∀j,base<=j->j<next->H' j=H j):qbk H' base' next' l v:=by
 rcases h with h|⟨id,es,h1,h2,h3,h4,h5,h6⟩
 . exact Or.inl h
 . exact Or.inr ⟨id,es,h1,by rw[hH id h5 h6];exact h2,h3,h4,o_,o_⟩
theorem qbk.fl{next:Nat}(h:qbk H base next l v):v.cells.length=1/\v.okCell=true/\v.isAgg=false:=by rcases h with ⟨_,rfl⟩|⟨id,es,rfl,_⟩<;>exact⟨rfl,rfl,rfl⟩
theorem qbk.er{next:Nat}(h:qbk H base next l v):Er true H v (zS l):=by
 rcases h with ⟨rfl,rfl⟩|⟨id,es,rfl,h2,h3,h4,_,_⟩
 . exact ErL.sl .nil
 . refine .msl id 1 0 _ es false _ rfl h2 o_ (by simp) ?_;intro i c c' e1 e2;rw[Nat.zero_add]at e1;have hi:i<l.length:=(by have:=(List.getElem?_eq_some_iff.1 e2).1;simpa using this);have e3:(es.take l.length)[i]?=some c:=(by rw[List.getElem?_take,if_pos hi];exact e1);rw[h4,e2]at e3;cases e3;rw[List.getElem?_map,Option.map_eq_some_iff]at e2;obtain ⟨n,_,rfl⟩:=e2;exact .int _ _
variable {K:Go.E.V->St->Prop} {fid:FuncId}
theorem qtC{id:Nat}{fo a:Opd}{x:V}(hf:ev s fo=.mfn fid x)(ha:ev s a=v)(h:zh Tryz.prog fid [x,v] s.H s.next λr H' n'=>K r {s with H:=H',next:=n'}):qg Tryz.prog .any id s K (.call fo [a]):=by
 show (match funArgs (ev s fo) ([a].map (ev s))with
  | some (fid,w0)=>
    (∃bor as' res,(Cls.any=.r->bor=false)/\Ers bor s.H w0 as'/\Pure Tryz.prog fid as' res/\(bor=true->Flat res)/\K res s)\/
    (qxl .any=true/\zh Tryz.prog fid w0 s.H s.next λv H' next'=>qcr .any s.next s.H H' next'/\K v {s with H:=H',next:=next'})
  |none=>False)
 rw[hf];subst ha;exact Or.inr ⟨rfl,h.mono λ_ _ _ hk=>⟨trivial,hk⟩⟩
theorem qzO{id next:Nat}(hG:GrN s.H base next 1 (zs.map (V.int .i64)) v)(hr:qqQ zs)(hl:zs.length<=1000000000)(hk:K (.tup []) s):yL Tryz.prog .any id s K 89 [v]:=by
 rcases hG with ⟨h0,rfl⟩|⟨h0,i,rfl,h1,_,_⟩
 . exact yY (hE:=ErL.sl .nil) (hp:=qlh) hk
 . have hn:0<zs.length:=by
    cases zs with
    |nil=>exact absurd rfl h0
    |cons a l=>simp
   . rw[List.length_map];refine qcx rfl ((Vn h1 hn o_).mono ?_);rintro v H' n' ⟨rfl,rfl,h2,h3⟩;have e:H'=s.H:=by
      funext j;by_cases hj:j=i
      . subst hj;rw[h2,qiq hr,h1]
      . exact h3 j hj
     subst e;exact hk
theorem qAm{id next:Nat}(hG:GrN s.H base next 1 (zs.map (V.int .i64)) v)(hl:zs.length<=1000000)
(hk:∀v' H',qbk H' base next (Lib.compact zs) v'->(∀j,j<base->H' j=s.H j)->K v' {s with H:=H'}):yL Tryz.prog .any id s K 90 [v]:=by
 rcases hG with ⟨h0,rfl⟩|⟨h0,i,rfl,h1,hb,hn⟩
 . cases zs with
   |nil=>exact yY (hE:=ErL.sl .nil) (hp:=qd4) (hk _ s.H (Or.inl ⟨rfl,rfl⟩) λ_ _=>rfl)
   |cons a l=>cases h0
 . have hn0:0<zs.length:=by
    cases zs with
    |nil=>exact absurd rfl h0
    |cons a l=>simp
   have hle:=Lib.compact_length_le zs;rw[List.length_map];refine qcx rfl ((slices_Compact (next:=s.next) h1 hn0 o_).mono ?_);rintro v H' n' ⟨rfl,rfl,h2,h3⟩;exact hk _ H' (Or.inr ⟨i,_,rfl,h2,by simp,by rw[List.map_append,List.take_append_of_le_length (by simp),List.take_of_length_le (by simp)],hb,hn⟩) λj hj=>h3 j o_
structure TabR(H:Nat->Option MObj)(base next:Nat)(R:List (List Int))(i:Nat)(es:List V):Prop where
 ln:es.length=R.length
 row:∀(k:Nat) l,R[k]?=some l->k<i->∃v,es[k]?=some v/\qbk H base next l v
 nil:∀k,i<=k->k<R.length->es[k]?=some (.sl 1 true [])
variable {i:Nat}
theorem TabR.keep{next:Nat}{R:List (List Int)}(h:TabR H base next R i es)(hn:next<=next')(hH:∀j,base<=j->j<next->H' j=H j):TabR H' base next' R i es:=
 ⟨h.ln,λk l hl hk=>by obtain ⟨v,h1,h2⟩:=h.row k l hl hk;exact⟨v,h1,h2.keep (Nat.le_refl _) hn hH⟩,h.nil⟩
theorem TabR.new(H:Nat->Option MObj)(base next:Nat)(R:List (List Int)):TabR H base next R 0 (List.replicate R.length (.sl 1 true [])):=
 ⟨List.length_replicate,λk l hl hk=>absurd hk (Nat.not_lt_zero _),λk _ hk=>by rw[List.getElem?_replicate,if_pos hk]⟩
theorem TabR.set{next:Nat}{R:List (List Int)}(h:TabR H base next R i es)(hl:R[i]?=some l)(hv:qbk H base next l v):TabR H base next R (i+1) (es.set i v):=by
 have hi:=(List.getElem?_eq_some_iff.1 hl).1;refine⟨by rw[List.length_set];exact h.ln,λk l' hl' hk=>?_,λk hk hk2=>?_⟩
 . by_cases e:i=k
   . subst e;rw[hl]at hl';cases hl';exact⟨v,by rw[List.getElem?_set_self (by rw[h.ln];exact hi)],hv⟩
   . obtain ⟨w,h1,h2⟩:=h.row k l' hl' o_;exact⟨w,by rw[List.getElem?_set_ne e];exact h1,h2⟩
 . rw[List.getElem?_set_ne o_];exact h.nil k o_ hk2
theorem TabR.er{next:Nat}{R:List (List Int)}(h:TabR H base next R R.length es):ErL true H es (R.map zS):=by
 have key:∀(R:List (List Int)) (es:List V),es.length=R.length->(∀(k:Nat) l,R[k]?=some l->∃v,es[k]?=some v/\qbk H base next l v)->ErL true H es (R.map zS):=by
  intro R
  induction R with
  | nil=>intro es h1 _;cases es with
    |nil=>exact .nil
    |cons a l=>cases h1
  | cons l R ih=>
    intro es h1 h2;cases es with
    |nil=>cases h1
    | cons v es=>
      obtain ⟨w,h3,h4⟩:=h2 0 l rfl;cases h3;exact .cons h4.er (ih es (by simpa using h1) λk l' hl'=>h2 (k+1) l' hl')
 exact key R es h.ln λk l hl=>h.row k l hl (List.getElem?_eq_some_iff.1 hl).1
variable {g:Grammar}
theorem jy{m:List Sta}{E:Nat->Bool}{f:FuncId}{F:Int×Int->List Int}(hM:MOk g m)(hF:∀t∈qh m,∀(H:Nat->Option MObj) (next:Nat),zh Tryz.prog f [.iptr 9 (kM g m E) 0,prV t] H next λv H' n'=>next<=n'/\GrN H' next n' 1 ((F t).map (V.int .i64)) v/\∀j,j<next->H' j=H j)(hr:∀t∈qh m,qqQ (F t)/\(F t).length<=1000000):Pure Tryz.prog 52 [.iptr 9 (kM g m E) 0,.mfn f (.iptr 9 (kM g m E) 0)] (.sl 1 false (((qh m).map λt=>Lib.compact (F t)).map zS)):=by
 refine pure_intro Tryz.func52 nm_ qxf (by show 2<=37;decide) ?_
 show ewp _ quM _ _;have htl:=hM.trans_len;repeat' with_reducible first|refine s_ ?_|simp -implicitDefEqProofs only[wZZ,seval]|refine t_ ?_|apply V5;exact wf_;exact wf_;(focus(unfold maxLen;first|omega|(simp only[wZ]<;>omega)))
 refine qb ?nx1 (λ(k:Nat) s=>s.f 1=?v1_1/\s.f 5=?v1_5/\s.f 18=?v1_18/\s.f 19=?v1_19/\s.f 20=vi k/\(k<=(qh m).length)/\((∃es,s.H 6=some (.own 1 es false)/\TabR s.H 7 s.next ((qh m).map λt=>Lib.compact (F t)) k es))) (λk=>(qh m).length - k) (0) wj_ (by refine⟨?_,?_,?_,?_,?_,wo_,(by exact⟨_,hh_,(by rw[show (qh m).length=((qh m).map λt=>Lib.compact (F t)).length by simp];exact TabR.new _ _ _ _)⟩)⟩<;>first|(simp -implicitDefEqProofs only[wL,wM,wN,wX,seval,Option.some.injEq]<;>exact wt_)|rfl|exact⟨_,rfl⟩) ?_;intro k s hnx ⟨g1,g5,g18,g19,g20,k1_0,k1_1⟩;obtain ⟨es,ho,hT⟩:=k1_1;have hz:=w1_ k;by_cases hk:k<(qh m).length
 . have hgk:(qh m)[k]?=some (qh m)[k]:=ge_ hk;have hgR:((qh m).map λt=>Lib.compact (F t))[k]?=some (Lib.compact (F (qh m)[k])):=(by rw[List.getElem?_map,hgk];rfl);have hmem:=List.getElem_mem hk;have hFt:=hF _ hmem;obtain ⟨hrt,hlt⟩:=hr _ hmem;have hel:=hT.nil k (Nat.le_refl _) (by rw[List.length_map];exact hk);generalize (qh m)[k]=t at *;obtain ⟨a,b⟩:=t;repeat' with_reducible first|refine s_ ?_|simp -implicitDefEqProofs only[wZZ,seval,g1,g5,g18,g19,g20,hz]|apply qa<;>intro h h_<;>(try simp only[wD,reduceCtorEq]at h_)<;>(try exact wb_)<;>(try simp only[h])|refine t_ ?_
   refine qtC (fid:=f) (x:= .iptr 9 (kM g m E) 0) (v:= .agg [vi a,vi b]) rfl rfl ((hFt _ _).mono ?_);rintro v H1 n1 ⟨q1,q2,q3⟩;(try simp only[wN]at q1);have hb7:7<=n1:=o_;repeat' with_reducible first|refine qL ?_|simp -implicitDefEqProofs only[wZZ,seval,g1,g5,g18,g19,g20]
   refine qzO (next:=n1) (zs:=F (a,b)) (q2.keep rfl (Nat.le_refl _) (λ_ _ _=>rfl)) hrt o_ ?_;repeat' with_reducible first|refine ZR ?_|simp -implicitDefEqProofs only[wZZ,seval,g1,g5,g18,g19,g20]
   refine qAm (next:=n1) (zs:=F (a,b)) (q2.keep rfl (Nat.le_refl _) (λ_ _ _=>rfl)) hlt ?_;intro w H2 hw q4;(try simp only[wM,wN]at q4);have hwR:qbk H2 7 n1 (Lib.compact (F (a,b))) w:=hw.keep wg_ (Nat.le_refl _) (λ_ _ _=>rfl);obtain ⟨w1,w2,w3⟩:=hwR.fl;have ho1:H2 6=some (.own 1 es false):=(by rw[q4 6 o_,q3 6 wg_];((try simp only[wM]);(repeat first|rw[if_pos trivial]|rw[if_pos rfl]|rw[if_neg o_]));exact ho);repeat' with_reducible first|simp -implicitDefEqProofs only[wZZ,seval,g1,g5,g18,g19,g20]|refine t_ ?_
   refine qoi (es:=es) (k':=k) (e:= .sl 1 true []) ho1 rfl hel rfl w1 w2 w3 ?_;repeat' with_reducible first|refine s_ ?_|simp -implicitDefEqProofs only[wZZ,seval,g1,g5,g18,g19,g20,hz]
   refine⟨wg_,k+1,o_,?_⟩;(repeat refine⟨True.intro,?_⟩);exact⟨rfl,o_,es.set k w,hh_,((hT.keep wg_ (λj h1 h2=>by(try simp only[wM]);rw[if_neg o_,q4 j o_,q3 j wg_];((try simp only[wM]);(repeat first|rw[if_pos trivial]|rw[if_pos rfl]|rw[if_neg o_])))).set hgR (hwR.keep (Nat.le_refl _) wg_ (λj h1 h2=>hh_)))⟩
 . have e:k=(qh m).length:=o_;subst e;repeat' with_reducible first|refine s_ ?_|simp -implicitDefEqProofs only[wZZ,seval,g1,g5,g18,g19,g20]
   refine qz rfl (Or.inr rfl) ?_;(simp -implicitDefEqProofs only[wL,seval]);have hT':TabR s.H 7 s.next ((qh m).map λt=>Lib.compact (F t)) ((qh m).map λt=>Lib.compact (F t)).length es:=(by rw[List.length_map];exact hT);refine .msl 6 1 0 _ es false _ rfl (by((try simp only[wM]);(repeat first|rw[if_pos trivial]|rw[if_pos rfl]|rw[if_neg o_]));exact ho) (by rw[hT.ln,List.length_map];omega) (by simp) ?_;intro i c c' h1 h2;rw[Nat.zero_add]at h1;exact hT'.er.get.2 i c c' h1 h2

set_option maxRecDepth 20000
abbrev j3(l:List Int):List Int:=l.foldl xw []
theorem qeC{x:Int}:∀(l a:List Int),x∈l.foldl xw a↔x∈a\/x∈l
 |[],a=>by simp
 | y ::l,a=>by
   rw[List.foldl_cons,qeC l,zL,List.mem_cons];constructor
   . rintro ((h|h)|h)
     . exact Or.inl h
     . exact Or.inr (Or.inl h)
     . exact Or.inr (Or.inr h)
   . rintro (h|h|h)
     . exact Or.inl (Or.inl h)
     . exact Or.inl (Or.inr h)
     . exact Or.inr h
theorem qck:∀(l:List Int) {a:List Int},jq a->jq (l.foldl xw a)
 |[],a,h=>h
 |y::l,a,h=>by rw[List.foldl_cons];exact qck l (jU h)
theorem qbo{zs:List Int}(h:zs.Pairwise (· <= ·)):∀n,n<=zs.length->jq (Lib.compactUpTo zs.toArray n)/\∀x,x∈Lib.compactUpTo zs.toArray n↔x∈zs.take n
 |0,_=>⟨List.Pairwise.nil,λx=>by simp[Lib.compactUpTo]⟩
 | n + 1,hn=>by
   obtain ⟨h1,h2⟩:=qbo h n o_;have hlt:n<zs.length:=o_;have hg:zs[n]?=some zs[n]:=ge_ hlt;have ht:zs.take (n+1)=zs.take n++[zs[n]]:=(by rw[List.take_add_one,hg];rfl);have hd:zs.toArray[n]! =zs[n]:=(by simp[hlt]);have hle:∀x∈zs.take n,x<=zs[n]:=λx hx=>by obtain ⟨i,hi,rfl⟩:=List.getElem_of_mem hx;rw[List.getElem_take];rw[List.length_take]at hi;exact List.pairwise_iff_getElem.1 h i n o_ hlt o_
   rw[Lib.compactUpTo_succ,ht,hd];by_cases hk:Lib.keeps zs.toArray n=true
   . rw[if_pos hk];refine⟨?_,λx=>by rw[List.mem_append,List.mem_append,h2]⟩;refine List.pairwise_append.2 ⟨h1,by simp,λa ha b hb=>?_⟩;rw[List.mem_singleton]at hb;subst hb;have ha:=(h2 a).1 ha;unfold Lib.keeps at hk;rw[decide_eq_true_eq]at hk;obtain ⟨i,hi,rfl⟩:=List.getElem_of_mem ha;rw[List.length_take]at hi;rw[List.getElem_take];have hp:n - 1<zs.length:=o_;have h3:zs[n]≠zs[n - 1]:=by
      rcases hk with hk|hk
      . omega
      . intro e;apply hk;simp[hlt,hp,e]
     have h4:zs[n - 1]<=zs[n]:=List.pairwise_iff_getElem.1 h (n - 1) n hp hlt o_;have h5:zs[i]<=zs[n - 1]:=by
      by_cases e:i=n - 1
      . subst e;exact Int.le_refl _
      . exact List.pairwise_iff_getElem.1 h i (n - 1) o_ hp o_
     omega
   . rw [if_neg hk,List.append_nil];refine⟨h1,λx=>?_⟩;rw[h2,List.mem_append,List.mem_singleton];constructor
     . exact Or.inl
     . rintro (hx|rfl)
       . exact hx
       . unfold Lib.keeps at hk;rw[decide_eq_true_eq,not_or]at hk;obtain ⟨hk0,hk1⟩:=hk;have hp:n - 1<zs.length:=o_;have e:zs[n]=zs[n - 1]:=Classical.byContradiction λe=>hk1 (by simp[hlt,hp];exact e);rw[e];exact List.mem_iff_getElem.2 ⟨n - 1,by rw[List.length_take];omega,by rw[List.getElem_take]⟩
theorem Jy(h:zs.Pairwise (· <= ·)):Lib.compact zs=j3 zs:=by obtain ⟨h1,h2⟩:=qbo h zs.length (Nat.le_refl _);refine vw h1 (qck zs List.Pairwise.nil) λx=>?_;rw[qeC];have:=h2 x;rw[List.take_length]at this;simp only[List.not_mem_nil,false_or];exact this

def jE(E:Nat->Bool)(m:List Sta)(i:Nat)(q:Int)(r:List Int)(out:List (List Int))(k:Nat):List (List Int):=
 if 1000<=r.getD k 0/\zl false E (r.drop (k+1))=true/\0<=zT m q (r.take k)/\0<=XW (qh m) (zT m q (r.take k)) (r.getD k 0)then
  out.modify (XW (qh m) (zT m q (r.take k)) (r.getD k 0)).toNat λl=>l++[(i:Int)]
 else out
def yZ(E:Nat->Bool)(m:List Sta)(i:Nat)(t:Int×Int)(out:List (List Int))(p:GPr):List (List Int):=
 if 1000+p.left=t.2 then(List.range p.right.length).foldl (jE E m i t.1 p.right) out else out
def qeq(g:Grammar)(E:Nat->Bool)(m:List Sta)(out:List (List Int))(i:Nat):List (List Int):=g.prods.foldl (yZ E m i ((qh m).getD i (0,0))) out
def qaH(g:Grammar)(E:Nat->Bool)(m:List Sta)(n:Nat):List (List Int):=(List.range n).foldl (qeq g E m) (List.replicate (qh m).length [])
theorem qmp{α β:Type}(g:α->β)(f:α->α)(f':β->β)(h:∀x,g (f x)=f' (g x))(l:List α)(i:Nat):(l.modify i f).map g=(l.map g).modify i f':=by
 refine List.ext_getElem? λj=>?_;rw[List.getElem?_map,List.getElem?_modify,List.getElem?_modify,List.getElem?_map];cases l[j]? with
 |none=>rfl
 | some x=>
   by_cases e:i=j
   . simp[e,h]
   . simp[e]
theorem qj4(l:List Int)(x:Int):j3 (l++[x])=xw (j3 l) x:=by unfold j3;rw[List.foldl_append];rfl
theorem qhG{E:Nat->Bool}{m:List Sta}{q:Int}{r:List Int}(out:List (List Int))(k:Nat):(jE E m i q r out k).map j3=V4 E m i q r (out.map j3) k:=by
 unfold jE V4;simp only;split
 . exact qmp j3 _ _ (λl=>qj4 l _) out _
 . rfl
theorem fold_map{α β γ:Type}(h:β->γ)(f:β->α->β)(f':γ->α->γ)(e:∀b a,h (f b a)=f' (h b) a):∀(l:List α) (b:β),h (l.foldl f b)=l.foldl f' (h b)
 |[],b=>rfl
 |a::l,b=>by rw[List.foldl_cons,List.foldl_cons,fold_map h f f' e l,e]
theorem qhP{E:Nat->Bool}{m:List Sta}{t:Int×Int}(out:List (List Int))(p:GPr):(yZ E m i t out p).map j3=VX E m i t (out.map j3) p:=by
 unfold yZ VX;split
 . exact fold_map (List.map j3) _ _ (λb a=>qhG b a) _ _
 . rfl
theorem qcm(g:Grammar)(E:Nat->Bool)(m:List Sta):(qaH g E m (qh m).length).map j3=zo g E m:=by unfold qaH zo;have h:=fold_map (List.map j3) (qeq g E m) (λout i=>g.prods.foldl (VX E m i ((qh m).getD i (0,0))) out) (λb a=>fold_map (List.map j3) _ _ (λb p=>qhP b p) _ _) (List.range (qh m).length) (List.replicate (qh m).length []);rw[h];congr 1;simp[j3]
structure RowsI(n:Nat)(i:Int)(c:Nat)(out:List (List Int)):Prop where
 ln:out.length=n
 nd:∀l∈out,l.Pairwise (· <= ·)
 le:∀l∈out,(∀x∈l,x<=i)/\l.length<=c
variable {n c:Nat}
theorem RowsI.mono{i i':Int}{c':Nat}{out:List (List Int)}(h:RowsI n i c out)(hi:i<=i')(hc:c<=c'):RowsI n i' c' out:=
 ⟨h.ln,h.nd,λl hl=>⟨λx hx=>Int.le_trans ((h.le l hl).1 x hx) hi,Nat.le_trans (h.le l hl).2 hc⟩⟩
variable {j:Nat}
theorem RowsI.push{i:Int}{out:List (List Int)}(h:RowsI n i c out):RowsI n i (c+1) (out.modify j λl=>l++[i]):=by
 have key:∀l∈out.modify j (λl=>l++[i]),l∈out\/ ∃l0∈out,l=l0++[i]:=λl hl=>by
  obtain ⟨k,hk⟩:=List.getElem?_of_mem hl;rw[List.getElem?_modify]at hk;cases ho:out[k]? with
  |none=>rw[ho]at hk;cases hk
  | some l0=>
    rw[ho]at hk;by_cases e:j=k
    . simp[e]at hk;exact Or.inr ⟨l0,List.mem_of_getElem? ho,hk.symm⟩
    . simp[e]at hk;subst hk;exact Or.inl (List.mem_of_getElem? ho)
 refine⟨by rw[List.length_modify];exact h.ln,λl hl=>?_,λl hl=>?_⟩
 . rcases key l hl with h0|⟨l0,h0,rfl⟩
   . exact h.nd l h0
   . exact List.pairwise_append.2 ⟨h.nd l0 h0,by simp,λa ha b hb=>by rw[List.mem_singleton]at hb;subst hb;exact(h.le l0 h0).1 a ha⟩
 . rcases key l hl with h0|⟨l0,h0,rfl⟩
   . exact⟨(h.le l h0).1,Nat.le_succ_of_le (h.le l h0).2⟩
   . refine⟨λx hx=>?_,by rw[List.length_append,List.length_singleton];have:=(h.le l0 h0).2;omega⟩;rw[List.mem_append,List.mem_singleton]at hx;rcases hx with hx|rfl
     . exact(h.le l0 h0).1 x hx
     . exact Int.le_refl _
theorem RowsI.stepK{E:Nat->Bool}{m:List Sta}{q:Int}{r:List Int}{out:List (List Int)}(h:RowsI n i c out)(k:Nat):RowsI n i (c+1) (jE E m i q r out k):=by
 unfold jE;split
 . exact h.push
 . exact h.mono (Int.le_refl _) (Nat.le_succ _)
theorem RowsI.new(n:Nat):RowsI n 0 0 (List.replicate n []):=
 ⟨List.length_replicate,λl hl=>by rw[(List.mem_replicate.1 hl).2];exact List.Pairwise.nil,λl hl=>by rw[(List.mem_replicate.1 hl).2];exact⟨(λx hx=>by cases hx),Nat.le_refl _⟩⟩

def VS:V->Option Nat
 |.msl id _ _ _=>some id
 | _=>none
variable {cls:Cls}
theorem qgS{id:Nat}{bytes:Nat}{vx vy:V}{xs ys:List V}{next:Nat}(hcl:(cls == .t)=false)
(hg:GrN s.H base next z xs vx)(hs:qY s.H z ys vy)(hb:(xs.length+ys.length) *bytes<=140737488355328)(hl:xs.length+ys.length<=maxLen)
(hk:∀H',H' id=some (.own z (xs++ys) false)->(∀j,j≠id->VS vx≠some j->H' j=s.H j)->K (.msl id z 0 (xs++ys).length) {s with H:=H'}):VK cls id s K true z bytes vx vy:=by
 unfold VK;rw[hs.1 s rfl];refine⟨λe=>(by subst e;cases hcl),?_⟩;rcases hg with ⟨rfl,rfl⟩|⟨_,i,rfl,h1,h2,h3⟩
 . have e:qO id s true z (.sl z true []) ys=some (.msl id z 0 ys.length,s.setO id (some (.own z ys false)),ys.length):=(by simp[qO]);rw[e];refine⟨by simpa using hb,by simpa using hl,?_⟩;exact hk (λi=>if i=id then some (.own z ys false)else s.H i) (by simp) (λj hj _=>by simp[hj])
 . have e:qO id s true z (.msl i z 0 xs.length) ys=some (.msl id z 0 (xs.length+ys.length),(s.setO i none).setO id (some (.own z (xs++ys) false)),xs.length+ys.length):=(by simp[qO,h1]);rw[e];refine⟨hb,hl,?_⟩;have:=hk (λj=>if j=id then some (.own z (xs++ys) false)else if j=i then none else s.H j) (by simp) (λj hj hne=>by
    have:j≠i:=λe=>hne (by rw[e];rfl)
    simp[hj,this])
   rw[List.length_append]at this;exact this
theorem qxS{id next:Nat}(hG:GrN s.H base next 1 (zs.map (V.int .i64)) v)(hl:zs.length<=1000000000)
(hk:∀v' H',qbk H' base next (Lib.compact zs) v'->(v'=.sl 1 false []\/VS v'=VS v)->(∀j,VS v≠some j->H' j=s.H j)->K v' {s with H:=H'}):yL Tryz.prog .any id s K 90 [v]:=by
 rcases hG with ⟨h0,rfl⟩|⟨h0,i,rfl,h1,hb,hn⟩
 . cases zs with
   |nil=>exact yY (hE:=ErL.sl .nil) (hp:=qd4) (hk _ s.H (Or.inl ⟨rfl,rfl⟩) (Or.inl rfl) λ_ _=>rfl)
   |cons a l=>cases h0
 . have hn0:0<zs.length:=by
    cases zs with
    |nil=>exact absurd rfl h0
    |cons a l=>simp
   have hle:=Lib.compact_length_le zs;rw[List.length_map]at hk ⊢;refine qcx rfl ((slices_Compact (next:=s.next) h1 hn0 o_).mono ?_);rintro v H' n' ⟨rfl,rfl,h2,h3⟩;exact hk _ H' (Or.inr ⟨i,_,rfl,h2,by simp,by rw[List.map_append,List.take_append_of_le_length (by simp),List.take_of_length_le (by simp)],hb,hn⟩) (Or.inr rfl) λj hj=>h3 j (λe=>hj (by rw[e];rfl))
theorem qbk.keepM{next:Nat}(h:qbk H base next l v)(hn:next<=next')(hH:∀j,VS v=some j->H' j=H j):qbk H' base next' l v:=by
 rcases h with h|⟨id,es,rfl,h2,h3,h4,h5,h6⟩
 . exact Or.inl h
 . exact Or.inr ⟨id,es,rfl,by rw[hH id rfl];exact h2,h3,h4,h5,o_⟩
structure TabN(H:Nat->Option MObj)(base next:Nat)(L:List (List Int))(es:List V):Prop where
 ln:es.length=L.length
 row:∀(k:Nat) l,L[k]?=some l->∃v,es[k]?=some v/\GrN H base next 1 (l.map (V.int .i64)) v
 ap:∀(j k:Nat) v w i,j≠k->es[j]?=some v->es[k]?=some w->VS v=some i->VS w≠some i
theorem GrN.mid{next:Nat}(h:GrN H base next z es v)(e:VS v=some i):base<=i/\i<next:=by
 rcases h with ⟨_,rfl⟩|⟨_,id,rfl,_,h2,h3⟩
 . cases e
 . cases e;exact⟨h2,h3⟩
theorem GrN.keepM{next:Nat}(h:GrN H base next z es v)(hn:next<=next')(hH:∀j,VS v=some j->H' j=H j):GrN H' base next' z es v:=by
 rcases h with h|⟨h0,id,rfl,h1,h2,h3⟩
 . exact Or.inl h
 . exact Or.inr ⟨h0,id,rfl,by rw[hH id rfl];exact h1,h2,o_⟩
variable {L:List (List Int)}
theorem TabN.keep{next:Nat}(h:TabN H base next L es)(hn:next<=next')(hH:∀j,base<=j->j<next->H' j=H j):TabN H' base next' L es:=
 ⟨h.ln,λk l hl=>by obtain ⟨v,h1,h2⟩:=h.row k l hl;exact⟨v,h1,h2.keep rfl hn hH⟩,h.ap⟩
theorem TabN.new(H:Nat->Option MObj)(base next n:Nat):TabN H base next (List.replicate n []) (List.replicate n (.sl 1 true [])):=by
 refine⟨by simp,λk l hl=>?_,λj k v w i _ hv _ hm=>?_⟩
 . have hk:=(List.getElem?_eq_some_iff.1 hl).1;rw[List.length_replicate]at hk;rw[List.getElem?_replicate,if_pos hk]at hl;cases hl;exact⟨_,by rw[List.getElem?_replicate,if_pos hk],Or.inl ⟨rfl,rfl⟩⟩
 . obtain ⟨_,e⟩:=List.mem_replicate.1 (List.mem_of_getElem? hv);rw[e]at hm;cases hm
theorem TabN.put{next id:Nat}{l':List Int}{w:V}(h:TabN H base next L es)(hv:es[k]?=some v)(hn:next<=next')(hid:next<=id)(hw:VS w=some id)
(hg:GrN H' base next' 1 (l'.map (V.int .i64)) w)(hH:∀j,j<next->base<=j->VS v≠some j->H' j=H j):TabN H' base next' (L.set k l') (es.set k w):=by
 refine⟨by rw[List.length_set,List.length_set];exact h.ln,λa l hl=>?_,λa b x y i hab hx hy hm=>?_⟩
 . rw[List.getElem?_set]at hl;by_cases e:k=a
   . subst e;have hk:=(List.getElem?_eq_some_iff.1 hv).1;rw[if_pos rfl,if_pos (by rw[<- h.ln];exact hk)]at hl;cases hl;exact⟨w,List.getElem?_set_self hk,hg⟩
   . rw[if_neg e]at hl;obtain ⟨x,h1,h2⟩:=h.row a l hl;refine⟨x,by rw[List.getElem?_set_ne e];exact h1,h2.keepM hn λj hj=>?_⟩;obtain ⟨b1,b2⟩:=h2.mid hj;exact hH j b2 b1 λe2=>h.ap k a v x j e hv h1 e2 hj
 . intro hm2;have old:∀(c:Nat) z j,c≠k->es[c]?=some z->VS z=some j->j<next:=λc z j hc hz hj=>by
    have hlt:=(List.getElem?_eq_some_iff.1 hz).1;obtain ⟨z',h1,h2⟩:=h.row c _ (ge_ (by rw[<- h.ln];exact hlt));rw[hz]at h1;cases h1;exact(h2.mid hj).2
   by_cases ea:k=a
   . subst ea;have hk:=(List.getElem?_eq_some_iff.1 hv).1;rw[List.getElem?_set_self hk]at hx;cases hx;rw[hw]at hm;cases hm;rw[List.getElem?_set_ne hab]at hy;have:=old b y id (λe=>hab e.symm) hy hm2;omega
   . rw[List.getElem?_set_ne ea]at hx;by_cases eb:k=b
     . subst eb;have hk:=(List.getElem?_eq_some_iff.1 hv).1;rw[List.getElem?_set_self hk]at hy;cases hy;rw[hw]at hm2;cases hm2;have:=old a x id (λe=>ea e.symm) hx hm;omega
     . rw[List.getElem?_set_ne eb]at hy;exact h.ap a b x y i hab hx hy hm hm2
structure TabM(H:Nat->Option MObj)(base next:Nat)(L:List (List Int))(j:Nat)(es:List V):Prop where
 ln:es.length=L.length
 old:∀(k:Nat) l,L[k]?=some l->j<=k->∃v,es[k]?=some v/\GrN H base next 1 (l.map (V.int .i64)) v
 new:∀(k:Nat) l,L[k]?=some l->k<j->∃v,es[k]?=some v/\qbk H base next (Lib.compact l) v
 ap:∀(j k:Nat) v w i,j≠k->es[j]?=some v->es[k]?=some w->VS v=some i->VS w≠some i
theorem TabN.toM{next:Nat}(h:TabN H base next L es):TabM H base next L 0 es:=
 ⟨h.ln,λk l hl _=>h.row k l hl,λk l hl hk=>absurd hk (Nat.not_lt_zero _),h.ap⟩
theorem TabM.keep{next:Nat}(h:TabM H base next L j es)(hn:next<=next')(hH:∀j,base<=j->j<next->H' j=H j):TabM H' base next' L j es:=
 ⟨h.ln,λk l hl hk=>by obtain ⟨v,h1,h2⟩:=h.old k l hl hk;exact⟨v,h1,h2.keep rfl hn hH⟩,λk l hl hk=>by obtain ⟨v,h1,h2⟩:=h.new k l hl hk;exact⟨v,h1,h2.keep (Nat.le_refl _) hn hH⟩,h.ap⟩
theorem TabM.step{next:Nat}{w:V}(h:TabM H base next L j es)(hl:L[j]?=some l)(hv:es[j]?=some v)
(hw:qbk H' base next (Lib.compact l) w)(hm:w=.sl 1 false []\/VS w=VS v)(hH:∀a,VS v≠some a->H' a=H a):TabM H' base next L (j+1) (es.set j w):=by
 have hj:=(List.getElem?_eq_some_iff.1 hv).1;have ne:∀(k:Nat) x a,k≠j->es[k]?=some x->VS x=some a->VS v≠some a:=λk x a hk hx ha e=>h.ap j k v x a (λe2=>hk e2.symm) hv hx e ha;refine⟨by rw[List.length_set];exact h.ln,λk l' hl' hk=>?_,λk l' hl' hk=>?_,λa b x y i hab hx hy hx2 hy2=>?_⟩
 . obtain ⟨x,h1,h2⟩:=h.old k l' hl' o_;exact⟨x,by rw[List.getElem?_set_ne o_];exact h1,h2.keepM (Nat.le_refl _) λa ha=>hH a (ne k x a o_ h1 ha)⟩
 . by_cases e:k=j
   . subst e;rw[hl]at hl';cases hl';exact⟨w,List.getElem?_set_self hj,hw⟩
   . obtain ⟨x,h1,h2⟩:=h.new k l' hl' o_;exact⟨x,by rw[List.getElem?_set_ne (λe2=>e e2.symm)];exact h1,h2.keepM (Nat.le_refl _) λa ha=>hH a (ne k x a e h1 ha)⟩
 . by_cases ea:j=a
   . subst ea;rw[List.getElem?_set_self hj]at hx;cases hx;rw[List.getElem?_set_ne hab]at hy;rcases hm with rfl|hm
     . cases hx2
     . exact ne b y i (λe=>hab e.symm) hy hy2 (by rw[<- hm];exact hx2)
   . rw[List.getElem?_set_ne ea]at hx;by_cases eb:j=b
     . subst eb;rw[List.getElem?_set_self hj]at hy;cases hy;rcases hm with rfl|hm
       . cases hy2
       . exact ne a x i (λe=>ea e.symm) hx hx2 (by rw[<- hm];exact hy2)
     . rw[List.getElem?_set_ne eb]at hy;exact h.ap a b x y i hab hx hy hx2 hy2
theorem TabM.row{next:Nat}(h:TabM H base next L L.length es):TabR H base next (L.map Lib.compact) (L.map Lib.compact).length es:=
 ⟨by rw[List.length_map];exact h.ln,λk l hl hk=>by
  rw[List.getElem?_map,Option.map_eq_some_iff]at hl;obtain ⟨l0,hl0,rfl⟩:=hl;exact h.new k l0 hl0 (List.getElem?_eq_some_iff.1 hl0).1,λk h1 h2=>absurd h2 o_⟩

theorem qc0{α:Type}(f:α->Bool)(k:α->Int):∀(l:List α) (a:List Int),((l.filter f).map k).foldl xw a=l.foldl (λa p=>if f p=true then xw a (k p)else a) a
 |[],a=>rfl
 | x::l,a=>by rw[List.foldl_cons,<- qc0 f k l];cases hf:f x<;>simp[hf]
theorem Kh(m:List Sta):zU m=(qh m).map λt=>j3 (qf0 m t):=by unfold zU;refine List.map_congr_left λt _=>?_;unfold j3 qf0;rw[List.foldl_append,qc0];simp only[decide_eq_true_eq];congr 1;split<;>rfl
theorem qbF(E:Nat->Bool)(m:List Sta):jA E m=(qh m).map λt=>j3 (qdk E m t):=by unfold jA;refine List.map_congr_left λt _=>?_;unfold j3 qdk;rw[qc0];simp only[decide_eq_true_eq]
theorem JK{m:List Sta}(hM:MOk g m)(h:∀q∈m,RMv q)(t:Int×Int):qqQ (qf0 m t):=by
 unfold qf0;refine List.pairwise_append.2 ⟨by split<;>simp,(RMv.filt (KX h _) _).imp Int.le_of_lt,λa ha b hb=>?_⟩;have ea:a=0:=by split at ha<;>simp at ha;exact ha
 subst ea;obtain ⟨p,hp,rfl⟩:=List.mem_map.1 hb;have hp:=(List.mem_filter.1 hp).1;unfold jB at hp;cases hq:m[(goS m t.1 t.2).toNat]? with
 |none=>rw[hq]at hp;cases hp
 | some q=>
   rw[hq]at hp;rcases (hM.mv q (List.mem_of_getElem? hq) p hp).1 with ⟨k,e,_⟩|⟨k,e,_⟩<;>omega
theorem JP{m:List Sta}(hM:MOk g m)(q:Int):(jB m q).length<=64:=by
 unfold jB;cases hq:m[q.toNat]? with
 |none=>exact Nat.zero_le _
 |some x=>exact hM.mvl x (List.mem_of_getElem? hq)
theorem Qj{m:List Sta}{E:Nat->Bool}(h1:H i=some (.own 9 [XT g m E j] false))(h2:H j=some (.mapo (Ko (qh m) (qh m).length))):Er true H (.ptr i 0 0) (.iptr 9 (kM g m E) 0):=
 .ptr i 0 0 9 _ false (XT g m E j) (kM g m E) rfl h1 rfl (ErL.agg (.cons qd (.cons qd (.cons qd (.cons (.str _) (.cons (.str _) (.cons qd (.cons qd (.cons (.mapo _ _ rfl h2) (.cons (@yN _ _ _ _ _ (qel _ _)) .nil))))))))))
theorem qcb(H:Nat->Option MObj):rsH (λ_=>true) H=H:=by funext j;rfl
theorem qat{P:Program}[Glob P]{id:Nat}(f:FuncId)(x:Opd):qg P cls id s K (.mkmfn f x)=K (.mfn f (ev s x)) s:=rfl
theorem qdq{m:List Sta}(hg:GOk g)(hM:MOk g m)(hR:∀q∈m,RMv q):Pure Tryz.prog 18 [g.V,.sl 2 false (m.map Sta.V)] (.sl 1 false ((zU m).map zS)):=by
 refine pure_intro Tryz.func18 nm_ qvS (by show 2<=13;decide) ?_
 show ewp _ qyF _ _;obtain ⟨E,hE,_⟩:=Js (token:=false) hg;have he:=jy (E:=E) (F:=qf0 m) (f:=53) hM (λt ht H next=>by
  obtain ⟨a,b⟩:=t;obtain ⟨i,hi⟩:=List.getElem?_of_mem ht;obtain ⟨n,rfl,hn⟩:=Zd hi;exact Kr hg hM ht) (λt ht=>⟨JK hM hR t,by
   unfold qf0;have h1:=JP hM (goS m t.1 t.2);have h2:=List.length_filter_le (λp:Int×Int=>decide (p.1<1000)) (jB m (goS m t.1 t.2));rw[List.length_append,List.length_map];split<;>simp<;>omega⟩)
 have hd:((qh m).map λt=>Lib.compact (qf0 m t))=zU m:=by rw[Kh];exact List.map_congr_left λt _=>Jy (JK hM hR t)
 rw[hd]at he;repeat' with_reducible first|refine qL ?_|simp -implicitDefEqProofs only[wZZ,seval,qat]|(refine qR rfl rfl rfl ((of_run hg hM hR hE).mono ?_);rintro v1 H1 n1 ⟨i,j,rfl,q1,q2,q3,q4,q5⟩)|refine t_ ?_
 refine qR (H:=H1) rfl wu_ rfl ((xq (λ_=>true) (by rw[qcb];exact qI (Qj q3 q5) (qI (.mfn _ _ _ (Qj q3 q5)) ji)) he).mono ?_);rintro v2 H2 n2 ⟨rfl,rfl,rfl⟩;repeat' with_reducible first|refine vJ ?_|simp -implicitDefEqProofs only[wZZ,seval]
 refine qz rfl (Or.inr rfl) ?_;(simp -implicitDefEqProofs only[wL,seval]);exact qd
theorem qfv{m:List Sta}{E:Nat->Bool}(hg:GOk g)(hM:MOk g m)(hR:∀q∈m,RMv q)(hE:IsGrow g false E):Pure Tryz.prog 20 [g.V,.sl 2 false (m.map Sta.V)] (.sl 1 false ((jA E m).map zS)):=by
 refine pure_intro Tryz.func20 nm_ qvy (by show 2<=13;decide) ?_
 show ewp _ qyv _ _;have hrn:∀t∈qh m,qqQ (qdk E m t):=λt ht=>(qcd hM hR E ht).imp Int.le_of_lt;have he:=jy (E:=E) (F:=qdk E m) (f:=56) hM (λt ht H next=>by
  obtain ⟨a,b⟩:=t;obtain ⟨i,hi⟩:=List.getElem?_of_mem ht;obtain ⟨n,rfl,hn⟩:=Zd hi;exact qbB hg hM hR ht) (λt ht=>⟨hrn t ht,by
   unfold qdk;have h1:=JP hM (goS m t.1 t.2);have h2:=List.length_filter_le (λp:Int×Int=>decide (1000<=p.1/\E (p.1 - 1000).toNat=true)) (jB m (goS m t.1 t.2));rw[List.length_map];omega⟩)
 have hd:((qh m).map λt=>Lib.compact (qdk E m t))=jA E m:=by rw[qbF];exact List.map_congr_left λt ht=>Jy (hrn t ht)
 rw[hd]at he;repeat' with_reducible first|refine qL ?_|simp -implicitDefEqProofs only[wZZ,seval,qat]|(refine qR rfl rfl rfl ((of_run hg hM hR hE).mono ?_);rintro v1 H1 n1 ⟨i,j,rfl,q1,q2,q3,q4,q5⟩)|refine t_ ?_
 refine qR (H:=H1) rfl wu_ rfl ((xq (λ_=>true) (by rw[qcb];exact qI (Qj q3 q5) (qI (.mfn _ _ _ (Qj q3 q5)) ji)) he).mono ?_);rintro v2 H2 n2 ⟨rfl,rfl,rfl⟩;repeat' with_reducible first|refine vJ ?_|simp -implicitDefEqProofs only[wZZ,seval]
 refine qz rfl (Or.inr rfl) ?_;(simp -implicitDefEqProofs only[wL,seval]);exact qd

theorem qvV{sz off:Nat}{e:V}{K:V->Prop}(hk:K (.iptr sz e off)):onS (zw s false 1 (.iptr 1 (.iptr sz e off) 0)) K:=hk
theorem QC{m:List Sta}{E:Nat->Bool}{y:Int}(hy:y<1000\/ ∃k:Nat,y=1000+(k:Int)/\k<g.nons.length)(hnn:g.nons.length<=1000000):Pure Tryz.prog 125 [vi y,.iptr 1 (.iptr 9 (kM g m E) 0) 0] (.bool (!(if y<1000 then false else E (y - 1000).toNat))):=by
 refine pure_intro Tryz.func125 nm_ qnh (by show 2<=17;decide) ?_
 show ewp _ qwn _ _;rcases hy with hy|⟨k,rfl,hk⟩
 . rw[if_pos hy];repeat' with_reducible first|refine s_ ?_|simp -implicitDefEqProofs only[wZZ,seval,hy]
   all_goals refine qz rfl (Or.inr rfl) ?_
   all_goals(try simp -implicitDefEqProofs only[wL,seval])
   all_goals refine er_ ?_
   all_goals(try(with_reducible rfl))
 . rw[if_neg o_,show (1000+(k:Int) - 1000).toNat=k by omega];have hn: ¬ (1000+(k:Int)<1000):=o_;have hz1:IntKind.i64.wrap (1000+(k:Int) - 1000)=(k:Int):=(by rw[wrap64 o_ o_];omega);repeat' with_reducible first|refine s_ ?_|simp -implicitDefEqProofs only[wZZ,seval,hn,hz1]|apply qin;exact hk|(apply qvV)|refine t_ ?_
   all_goals refine qz rfl (Or.inr rfl) ?_
   all_goals(try simp -implicitDefEqProofs only[wL,seval])
   all_goals refine er_ ?_
   all_goals(try(with_reducible rfl))
def qkM(p:Int->Bool):List Int->Nat->Int
 |[],_=> -1
 |y::l,i=>if p y=true then(i:Int)else qkM p l (i+1)
variable {p:Int->Bool}
theorem qj7{y:Int}(h:l[i]?=some y):qkM p (l.drop i) n=if p y=true then(n:Int)else qkM p (l.drop (i+1)) (n+1):=by have hi:=(List.getElem?_eq_some_iff.1 h);rw[List.drop_eq_getElem_cons hi.1,hi.2];rfl
theorem qec{p:Int->Bool}:∀(l:List Int) (n:Nat),decide (0<=qkM p l n)=l.any p
 |[],n=>by simp[qkM]
 | y::l,n=>by unfold qkM;rw[List.any_cons,<- qec l (n+1)];cases h:p y<;>simp
variable {caps:List Go.E.V}
theorem vV(hl:l.length<=1000000)(hc:∀b H,ErL b H caps caps)(hp:∀x∈l,Pure Tryz.prog fid (vi x::caps) (.bool (p x))):Pure Tryz.prog 148 [.sl 1 false (l.map (V.int .i64)),.fn fid caps] (vi (qkM p l 0)):=by
 refine pure_intro Tryz.func148 nm_ qnd (by show 2<=19;decide) ?_
 show ewp _ qqE _ _;repeat' with_reducible first|refine s_ ?_|simp -implicitDefEqProofs only[wZZ,seval]
 refine qb ?nx1 (λ(i:Nat) s=>s.f 0=?v1_0/\s.f 1=?v1_1/\s.f 7=?v1_7/\s.f 8=vi i/\(i<=l.length)/\(qkM p l 0=qkM p (l.drop i) i)) (λi=>l.length - i) (0) wj_ (by refine⟨?_,?_,?_,?_,wo_,(by rfl)⟩<;>first|(simp -implicitDefEqProofs only[wL,wM,wN,wX,seval,Option.some.injEq]<;>exact wt_)|rfl|exact⟨_,rfl⟩) ?_;intro i s hnx ⟨g0,g1,g7,g8,k1_0,k1_1⟩;have hz:=w1_ i;by_cases hi:i<l.length
 . have hgi:l[i]?=some l[i]:=ge_ hi;have hst:=qj7 (p:=p) (n:=i) hgi;have hpx:=hp _ (List.getElem_mem hi);generalize l[i]=y at *;repeat' with_reducible first|refine s_ ?_|simp -implicitDefEqProofs only[wZZ,seval,g0,g1,g7,g8,hz]|apply qa<;>intro h h_<;>(try simp only[wD,reduceCtorEq]at h_)<;>(try exact wb_)<;>(try simp only[h])|refine t_ ?_
   refine qiA (fid:=fid) (caps:=caps) (as':=vi y::caps) rfl rfl rfl (qI (.int _ _) (hc _ _).get) hpx (Flat.bool _) ?_;cases hb:p y with
   | true=>
     rw[hb,if_pos rfl]at hst;rw[k1_1,hst];repeat' with_reducible first|refine s_ ?_|simp -implicitDefEqProofs only[wZZ,seval,g0,g1,g7,g8,hz]
     all_goals refine qz rfl (Or.inr rfl) ?_
     all_goals(try simp -implicitDefEqProofs only[wL,seval,g0,g1,g7,g8])
     all_goals refine er_ ?_
     all_goals(try(with_reducible rfl))
   | false=>
     rw[hb,if_neg (by simp)]at hst;repeat' with_reducible first|refine s_ ?_|simp -implicitDefEqProofs only[wZZ,seval,g0,g1,g7,g8,hz]
     refine⟨wk_,i+1,o_,?_⟩;refine⟨?_,?_,?_,?_,?_,?_⟩;iterate 4 (focus(first|(simp -implicitDefEqProofs only[wL,wM,wN,wX,seval,Option.some.injEq,g0,g1,g7,g8]<;>exact wt_)|rfl|exact⟨_,rfl⟩))
     all_goals try omega
 . have e:l.drop i=[]:=List.drop_of_length_le o_;rw[e]at k1_1;rw[k1_1];repeat' with_reducible first|refine s_ ?_|simp -implicitDefEqProofs only[wZZ,seval,g0,g1,g7,g8,hz]|apply qa<;>intro h h_<;>(try simp only[wD,reduceCtorEq]at h_)<;>(try exact wb_)<;>(try simp only[h])
   all_goals refine qz rfl (Or.inr rfl) ?_
   all_goals(try simp -implicitDefEqProofs only[wL,seval,g0,g1,g7,g8])
   all_goals refine er_ ?_
   all_goals(try(with_reducible rfl))
   all_goals rfl
theorem qi9{b:Bool}{f:FuncId}{c c':List V}(h:ErL b H c c'):Er b H (.fn f c) (.fn f c'):= .fn _ _ _ h.get.1 h.get.2
theorem yA(hl:l.length<=1000000)(hc:∀b H,ErL b H caps caps)(hp:∀x∈l,Pure Tryz.prog fid (vi x::caps) (.bool (p x))):Pure Tryz.prog 124 [.sl 1 false (l.map (V.int .i64)),.fn fid caps] (.bool (l.any p)):=by
 refine pure_intro Tryz.func124 nm_ qpH (by show 2<=9;decide) ?_
 show ewp _ quH _ _;have hix:=vV hl hc hp;rw[<- qec l 0];repeat' with_reducible first|refine s_ ?_|simp -implicitDefEqProofs only[wZZ,seval]|refine cq2 hix qd (qi9 (hc _ _)) ?_
 all_goals refine qz rfl (Or.inr rfl) ?_
 all_goals(try simp -implicitDefEqProofs only[wL,seval])
 all_goals refine er_ ?_
 all_goals(try(with_reducible rfl))
theorem ZO{m:List Sta}{E:Nat->Bool}(hl:l.length<=1000000)(hs:∀y∈l,y<1000\/ ∃k:Nat,y=1000+(k:Int)/\k<g.nons.length)(hnn:g.nons.length<=1000000):Pure Tryz.prog 93 [.iptr 9 (kM g m E) 0,.sl 1 false (l.map (V.int .i64))] (.bool (zl false E l)):=by
 refine pure_intro Tryz.func93 nm_ qvt (by show 2<=9;decide) ?_
 show ewp _ qx9 _ _;have hcf:=yA (l:=l) (fid:=125) (caps:=[.iptr 1 (.iptr 9 (kM g m E) 0) 0]) (p:=λy=> !(if y<1000 then false else E (y - 1000).toNat)) hl (λb H=>.cons (.iptr _ _ _ _ xO) .nil) (λx hx=>QC (m:=m) (hs x hx) hnn);have e:zl false E l= !(l.any λy=> !(if y<1000 then false else E (y - 1000).toNat)):=by unfold zl;rw[List.not_any_eq_all_not];simp only[Bool.not_not]
 rw[e];repeat' with_reducible first|refine s_ ?_|simp -implicitDefEqProofs only[wZZ,seval]|apply qM (hp:=hcf);exact qd;exact qi9 (.cons (.ptr 0 0 0 1 _ false _ _ rfl rfl rfl xO) .nil);exact wu_;exact Flat.bool _|refine t_ ?_
 all_goals refine qz rfl (Or.inr rfl) ?_
 all_goals(try simp -implicitDefEqProofs only[wL,seval])
 all_goals refine er_ ?_
 all_goals(try(with_reducible rfl))
end Go.Proofs
