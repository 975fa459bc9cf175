/- Part of a proof that a law of the given program answers true. -/
import Derived.Test.YthgkeppkcjcmjaaDDA
import Derived.Test.YthgkeppkcjcmjaaDZH
set_option linter.unusedSimpArgs false
set_option linter.unusedVariables false
set_option maxHeartbeats 8000000
namespace Go.Proofs
open Go.E
def Zc (src:Source) (E:Nat→Bool):List Cel:=if jQ src=true then cellsS (qN src).toks.length (ze src) (Zq (qN src) E (ze src))else[]
theorem qcl {src:Source} (h:jQ src=false):ze src=[]:=by
 unfold jQ at h
 unfold ze
 by_cases hb:VW src=true
 · rw[if_pos hb]
   rw[hb,Bool.true_and]at h
   cases ha:VA (qN src)with
   |none=>rfl
   |some m=>rw[ha]at h;cases h
 · rw[if_neg hb]
theorem JH {src:Source} {E:Nat→Bool} (hf:src.Fits) (hS:Xf src=true→Small src) (hE:jQ src=true→IsGrow (qN src) false E):Pure Try.prog 48 [src.V] (.tup [(qN src).V,.sl 2 false ((ze src).map Sta.V),.sl 5 false ((Zc src E).map Cel.V),.bool (jQ src)]):=by
 refine pure_intro Try.func48 qwO qCL (by show 1≤26;decide) ?_
 show ewp _ qg8 _ _
 have hma:=QU hf hS gok
 cases hb:jQ src with
 | false=>
   have e1:=qcl hb
   have e2:Zc src E=[]:=by unfold Zc;rw[hb];rfl
   rw[hb,e1]at hma
   rw[e1,e2]
   generalize qN src=g at *
   repeat' with_reducible first
    |refine s_ ?_
    |simp only[wZZ,seval]
    |refine cq1 hma (xZ src) ?_
    |refine t_ ?_
   refine qhc (id:=1) rfl (Or.inr rfl) (by(simp only[wL,seval])) (by(simp only[wM];(repeat first|rw[if_pos trivial]|rw[if_pos rfl]|rw[if_neg (by omega)]))<;>rfl) rfl ?_
   (simp only[wL,seval])
   exact ErL.tup (.cons qc (.cons (ErL.sl .nil) (.cons (ErL.sl .nil) (.cons (.bool _) .nil))))
 | true=>
   obtain ⟨_,hg,hM,hG⟩:=Qi hb
   have hlo:=Yg hM hg (hE hb) (hG.trans_ne hg hM)
   have hLk:=look_ok (E:=E) hM hg
   have hcs:=JA hM hg (show (Zq (qN src) E (ze src)).length≤1000000 from Nat.le_trans hLk.len (by omega)) (fun k hk=>by obtain ⟨h1,h2⟩:=hLk.tk k hk;have:=hg.tk2;have:=xH (N:=40) (a:=0) h1 (fun x hx=>by obtain ⟨t,e,h⟩:=h2 x hx;omega);omega)
   have e2:Zc src E=cellsS (qN src).toks.length (ze src) (Zq (qN src) E (ze src)):=by unfold Zc;rw[if_pos hb]
   rw[hb]at hma
   rw[e2]
   generalize cellsS (qN src).toks.length (ze src) (Zq (qN src) E (ze src))=C at *
   generalize Zq (qN src) E (ze src)=lk at *
   generalize ze src=m at *
   generalize qN src=g at *
   repeat' with_reducible first
    |refine s_ ?_
    |simp only[wZZ,seval]
    |refine cq1 hma (xZ src) ?_
    |refine t_ ?_
    |refine cq2 hlo qc qc ?_
    |refine cq3 hcs qc qc qc ?_
   refine qhc (id:=1) rfl (Or.inr rfl) (by(simp only[wL,seval])) (by(simp only[wM];(repeat first|rw[if_pos trivial]|rw[if_pos rfl]|rw[if_neg (by omega)]))<;>rfl) rfl ?_
   (simp only[wL,seval])
   exact ErL.tup (.cons qc (.cons qc (.cons qc (.cons (.bool _) .nil))))
theorem qiT {src:Source} {E:Nat→Bool} (hb:jQ src=true):(Zc src E).length≤6000∧(∀c∈Zc src E,c.prods.length≤144000)∧(∀c∈Zc src E,∃t:Nat,c.tok=t∧t<(qN src).toks.length)∧(∀c∈Zc src E,∀p∈c.prods,∃n:Nat,p=n∧n<(qN src).prods.length):=by
 obtain ⟨_,hg,hM,hG⟩:=Qi hb
 have hLk:=look_ok (E:=E) hM hg
 have e2:Zc src E=cellsS (qN src).toks.length (ze src) (Zq (qN src) E (ze src)):=by unfold Zc;rw[if_pos hb]
 rw[e2]
 generalize Zq (qN src) E (ze src)=l at *
 generalize ze src=m at *
 generalize qN src=g at *
 have hml:=hM.len;have htk:=hg.tk2;have hll:=hLk.len
 have hmem: ∀c∈cellsS g.toks.length m l,∃q t:Nat,t<g.toks.length∧c=cellAt m l q t:=fun c hc=>by
  unfold cellsS at hc
  rw[List.mem_flatMap]at hc
  obtain ⟨q,_,hc⟩:=hc
  rw[List.mem_filterMap]at hc
  obtain ⟨t,h1,hc⟩:=hc
  split at hc
  · cases hc;exact⟨q,t,List.mem_range.1 h1,rfl⟩
  · cases hc
 refine⟨?_,fun c hc=>?_,fun c hc=>?_,fun c hc p hp=>?_⟩
 · have: ∀n,(QG g.toks.length m l n).length≤n *40:=fun n=>by
    induction n with
    |zero=>exact Nat.zero_le _
    | succ n ih=>
      rw[Yi,List.length_append]
      have:=Zw (qhD m l n) g.toks.length
      omega
   have h:=this m.length
   have e:cellsS g.toks.length m l=QG g.toks.length m l m.length:=rfl
   rw[e];omega
 · obtain ⟨q,t,_,rfl⟩:=hmem c hc
   unfold cellAt
   dsimp only
   rw[qd2 (hLk.pr q)]
   have:=qgO l q t
   omega
 · obtain ⟨q,t,ht,rfl⟩:=hmem c hc
   exact⟨t,rfl,ht⟩
 · obtain ⟨q,t,ht,rfl⟩:=hmem c hc
   unfold cellAt at hp
   dsimp only at hp
   rw[qd2 (hLk.pr q)]at hp
   unfold qfJ at hp
   rw[List.mem_map]at hp
   obtain ⟨k,hk,rfl⟩:=hp
   obtain ⟨q',_,_,he⟩:=hLk.st k (List.mem_filter.1 hk).1
   have hkq:=hM.qJ q'
   obtain ⟨n,h1,_,h2⟩:=qao hg hkq.2 hkq.1 _ he
   exact⟨n,h1,h2⟩
abbrev qaT (src:Source) (E:Nat→Bool):List (List (Int×Int)):=if jQ src=true then qay (qN src) (Zc src E) (ze src).length else[]
abbrev qbh (src:Source):List (List Int):=if jQ src=true then qbm (qN src) (ze src) (ze src).length else[]
theorem qg9 {ef:EF} {t u a b id id2:Nat} {ro ro2:Bool} {v w res:V} {e:Exit} {s:St} (he:ef.res=[.inr (t,true,5),.inr (u,true,2),.inl a,.inl b]) (hx:e=.normal∨e=.ret) (hp:s.f t=.ptr id 0 0) (hH:s.H id=some (.own 5 [v] ro)) (ha:v.isAgg=true)
 (hp2:s.f u=.ptr id2 0 0) (hH2:s.H id2=some (.own 2 [w] ro2)) (ha2:w.isAgg=true) (h:Er true s.H (.tup [v,w,s.f a,s.f b]) res):zi ef res e s:=by
 have hv:qU s true 5 (s.f t)=some v:=by rw[hp];simp only[qU,hH,List.getElem?_cons_zero,jq,ha,and_self,if_true]
 have hw:qU s true 2 (s.f u)=some w:=by rw[hp2];simp only[qU,hH2,List.getElem?_cons_zero,jq,ha2,and_self,if_true]
 exact⟨hx,_,by rw[he];simp[qdi,qaR,hv,hw,one],h⟩
theorem yS {src:Source} {E:Nat→Bool} (hf:src.Fits) (hS:Xf src=true→Small src) (hE:jQ src=true→IsGrow (qN src) false E):Pure Try.prog 14 [src.V] (.tup [(qN src).V,qkQ (qaT src E) (qbh src),vi (qgU (Zc src E)),.bool (jQ src)]):=by
 refine pure_intro Try.func14 qzQ qEK (by show 1≤34;decide) ?_
 show ewp _ qha _ _
 have hce:=JH hf hS hE
 cases hb:jQ src with
 | false=>
   have e1:=qcl hb
   have e2:Zc src E=[]:=by unfold Zc;rw[hb];rfl
   have e3:qaT src E=[]:=by unfold qaT;rw[hb];rfl
   have e4:qbh src=[]:=by unfold qbh;rw[hb];rfl
   rw[hb,e1,e2]at hce
   rw[e3,e4,e2,show qgU []=0 from rfl]
   generalize qN src=g at *
   repeat' with_reducible first
    |refine s_ ?_
    |simp only[wZZ,seval]
    |refine cq1 hce (xZ src) ?_
    |refine t_ ?_
   refine qg9 (id:=1) (id2:=2) rfl (Or.inr rfl) (by(simp only[wL,seval])) (by(simp only[wM];(repeat first|rw[if_pos trivial]|rw[if_pos rfl]|rw[if_neg (by omega)]))<;>rfl) rfl (by(simp only[wL,seval])) (by(simp only[wM];(repeat first|rw[if_pos trivial]|rw[if_pos rfl]|rw[if_neg (by omega)]))<;>rfl) rfl ?_
   (simp only[wL,seval])
   exact ErL.tup (.cons qc (.cons (ErL.agg (.cons (ErL.sl .nil) (.cons (ErL.sl .nil) .nil))) (.cons (.int _ _) (.cons (.bool _) .nil))))
 | true=>
   obtain ⟨_,hg,hM,hG⟩:=Qi hb
   obtain ⟨c1,c2,c3,c4⟩:=qiT (E:=E) hb
   have hse:=Zu hM hg c1 c2 c3 c4
   have hra:=YC (l:=Zc src E) (by omega) (fun c hc=>by have:=c2 c hc;omega)
   have e3:qaT src E=qay (qN src) (Zc src E) (ze src).length:=by unfold qaT;rw[if_pos hb]
   have e4:qbh src=qbm (qN src) (ze src) (ze src).length:=by unfold qbh;rw[if_pos hb]
   rw[hb]at hce
   rw[e3,e4]
   generalize clN (qN src) (Zc src E) (ze src).length=K at *
   generalize qbm (qN src) (ze src) (ze src).length=G at *
   generalize qay (qN src) (Zc src E) (ze src).length=A at *
   generalize qgU (Zc src E)=rw_ at *
   generalize Zc src E=C at *
   generalize ze src=m at *
   generalize qN src=g at *
   repeat' with_reducible first
    |refine s_ ?_
    |simp only[wZZ,seval]
    |(refine And.intro ?_ ?_;(focus(first|with_unfolding_all rfl|exact congrArg some (qiF (by first|omega|(simp only[List.length_set];omega))))))
    |refine cq1 hce (xZ src) ?_
    |refine t_ ?_
    |refine cq3 hse qc qc qc ?_
    |refine cq1 hra qc ?_
   refine qg9 (id:=1) (id2:=2) rfl (Or.inr rfl) (by(simp only[wL,seval])) (by(simp only[wM];(repeat first|rw[if_pos trivial]|rw[if_pos rfl]|rw[if_neg (by omega)]))<;>rfl) rfl (by(simp only[wL,seval])) (by(simp only[wM];(repeat first|rw[if_pos trivial]|rw[if_pos rfl]|rw[if_neg (by omega)]))<;>rfl) rfl ?_
   (simp only[wL,seval])
   exact ErL.tup (.cons qc (.cons qc (.cons (.int _ _) (.cons (.bool _) .nil))))

set_option maxHeartbeats 4000000
theorem qae (g:Grammar) (A:List (List (Int×Int))) (G:List (List Int)) (l:List Int) (dp sp n q:Nat) (st:List Nat) (r:RunR):qdk g A G l dp sp (n+1) (q::st) r=
 if (ko A q (jU g.toks.length l r.at_)).1=3 then {r with kind:=1}
 else if (ko A q (jU g.toks.length l r.at_)).1=1 then
  if sp≤r.steps∨dp<(q::st).length then {r with kind:=3}
  else qdk g A G l dp sp n ((ko A q (jU g.toks.length l r.at_)).2.toNat::q::st) {r with at_:=r.at_+1,steps:=r.steps+1,deep:=max r.deep (q::st).length}
 else if (ko A q (jU g.toks.length l r.at_)).1=2 then
  if sp≤r.steps∨dp<(q::st).length - qfK g (ko A q (jU g.toks.length l r.at_)).2.toNat then {r with kind:=3}
  else qdk g A G l dp sp n ((qci G (((q::st).drop (qfK g (ko A q (jU g.toks.length l r.at_)).2.toNat)).headD 0) (qJl g (ko A q (jU g.toks.length l r.at_)).2.toNat)).toNat::(q::st).drop (qfK g (ko A q (jU g.toks.length l r.at_)).2.toNat)) {r with steps:=r.steps+1,deep:=max r.deep ((q::st).length - qfK g (ko A q (jU g.toks.length l r.at_)).2.toNat),prods:=r.prods++[(ko A q (jU g.toks.length l r.at_)).2]}
 else {r with kind:=2}:=rfl
def Js (st:List Nat):List V:=st.reverse.map fun(q:Nat)=>vi q
theorem qb0 (st:List Nat):(Js st).length=st.length:=by simp[Js]
theorem JP {st:List Nat} {n:Nat} (h:n<st.length):(Js st)[st.length - 1 - n]?=some (vi ((st.drop n).headD 0:Nat)):=by
 unfold Js
 rw[List.getElem?_map,List.getElem?_reverse (by omega),show st.length - 1 - (st.length - 1 - n)=n by omega,List.drop_eq_getElem_cons h,ge_ h];rfl
theorem KZ {st:List Nat} {n:Nat} (h:n≤st.length):(Js st).take (st.length - n)=Js (st.drop n):=by
 unfold Js
 rw[← List.map_take,List.reverse_drop]
theorem QV (st:List Nat) (t:Nat):Js st++[vi t]=Js (t::st):=by simp[Js]
def zq (n:Int) (k:Nat):Nat:=(max 0 (min n (k:Int))).toNat
theorem qbB (n:Int) (k:Nat):(if (if (k:Int)<n then(k:Int)else n)>0 then(if (k:Int)<n then(k:Int)else n)else 0)=((zq n k:Nat):Int):=by
 unfold zq;split<;>split<;>omega
theorem kM (n:Int) (k:Nat):zq n k≤k:=by unfold zq;omega
theorem qck {nt:Nat} (l:List Int) (a:Nat) (h:3≤nt): ∃t:Nat,jU nt l a=t∧t<nt:=by
 unfold jU
 split
 · exact⟨0,rfl,by omega⟩
 · rename_i x _
   split
   · rename_i h1;exact⟨x.toNat,by omega,by omega⟩
   · exact⟨2,rfl,by omega⟩
theorem VL {g:Grammar} {m:List Sta} {A:List (List (Int×Int))} {G:List (List Int)} (hT:TabOk g m A G) {q t:Nat} (hq:q<m.length) (ht:t<g.toks.length):
 ∃row a,A[q]?=some row∧row[t]?=some a∧ko A q t=a:=by
 have hqA:q<A.length:=by rw[hT.al];exact hq
 have h1:A[q]?=some A[q]:=ge_ hqA
 have hl:=hT.ar q _ h1
 have htA:t<A[q].length:=by rw[hl];exact ht
 have h2:A[q][t]?=some A[q][t]:=ge_ htA
 refine⟨_,_,h1,h2,?_⟩
 unfold ko
 simp only[List.getD_eq_getElem?_getD,h1,Option.getD_some,Int.toNat_natCast,h2]
theorem qdP {g:Grammar} {m:List Sta} {A:List (List (Int×Int))} {G:List (List Int)} (hg:GOk g) (hM:MOk g m) (hG:MGo g m) (hT:TabOk g m A G) {st:List Nat} {q t:Nat} (hP:Path g m (q::st)) (hq:q<m.length) (ht:t<g.toks.length) (ha:(ko A q t).1=2):
 ∃(p:Nat) (x:GPr) (l q0:Nat) (st0:List Nat) (n:Nat) (row:List Int),(ko A q t).2=p∧g.prods[p]?=some x∧x.left=l∧l<g.nons.length∧x.right.length≤8∧x.right.length<(q::st).length∧(q::st).drop x.right.length=q0::st0∧q0<m.length∧
  qfK g p=x.right.length∧qJl g p=l∧G[q0]?=some row∧row[l]?=some (n:Int)∧qci G q0 l=n∧n<m.length∧Path g m (n::q0::st0):=by
 obtain ⟨row,a,h1,h2,h3⟩:=VL hT hq ht
 rw[h3]at ha ⊢
 obtain ⟨p,x,l,q0,st0,n,e1,e2,e3,e4,e5,e6,e7,e8,e9,e10⟩:=hP.reduce hg hM hG (hT.re q row h1 t a h2 ha)
 have hqG:q0<G.length:=by rw[hT.gl];exact e8
 have g1:G[q0]?=some G[q0]:=ge_ hqG
 have g2:=hT.gr q0 _ g1
 have g3:G[q0][l]?=some (n:Int):=by rw[g2,List.getElem?_map,List.getElem?_range e4,Option.map_some,e9]
 obtain ⟨_,_,e,hnl⟩:=e10.lt hG
 cases e
 refine⟨p,x,l,q0,st0,n,G[q0],e1,e2,e3,e4,e5,e6,e7,e8,?_,?_,g1,g3,?_,hnl,e10⟩
 · unfold qfK;rw[e2];rfl
 · unfold qJl;rw[e2,Option.map_some,Option.getD_some,e3];rfl
 · unfold qci;simp only[List.getD_eq_getElem?_getD,g1,Option.getD_some,g3]
theorem qif {g:Grammar} {m:List Sta} {A:List (List (Int×Int))} {G:List (List Int)} (hT:TabOk g m A G) {st:List Nat} {q t:Nat} (hP:Path g m (q::st)) (hq:q<m.length) (ht:t<g.toks.length) (ha:(ko A q t).1=1):
 ∃n:Nat,(ko A q t).2=n∧n<m.length∧Path g m (n::q::st):=by
 obtain ⟨row,a,h1,h2,h3⟩:=VL hT hq ht
 rw[h3]at ha ⊢
 obtain ⟨n,e1,e2,e3⟩:=hT.sh q row h1 t a h2 ha
 exact⟨n,e1,e2,hP.push e2 e3⟩
end Go.Proofs
