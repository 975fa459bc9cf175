/- Part of a proof that a law of the given program answers true. -/
import Derived.Test.YthgkeppkcjcmjaaDDA
import Derived.Test.YthgkeppkcjcmjaaDZH
set_option linter.unusedSimpArgs false
set_option linter.unusedVariables false
set_option maxHeartbeats 8000000
namespace Go.Proofs
open Go.E
def yY (src:Source) (E:Nat→Bool):List Cel:=if zT src=true then cellsS (qE src).toks.length (qR src) (Q7 (qE src) E (qR src))else[]
theorem qcq {src:Source} (h:zT src=false):qR src=[]:=by
 unfold zT at h
 unfold qR
 by_cases hb:Y0 src=true
 · rw[if_pos hb]
   rw[hb,Bool.true_and]at h
   cases ha:VS (qE src)with
   |none=>rfl
   |some m=>rw[ha]at h;cases h
 · rw[if_neg hb]
theorem Xh {src:Source} {E:Nat→Bool} (hf:src.Fits) (hS:Yw src=true→Small src) (hE:zT src=true→IsGrow (qE src) false E):Pure Try.prog 48 [src.V] (.tup [(qE src).V,.sl 2 false ((qR src).map Sta.V),.sl 5 false ((yY src E).map Cel.V),.bool (zT src)]):=by
 refine pure_intro Try.func48 quw qyC (by show 1≤26;decide) ?_
 show ewp _ qiF _ _
 have hma:=Zk hf hS gok
 cases hb:zT src with
 | false=>
   have e1:=qcq hb
   have e2:yY src E=[]:=by unfold yY;rw[hb];rfl
   rw[hb,e1]at hma
   rw[e1,e2]
   generalize qE src=g at *
   repeat' with_reducible first
    |refine s_ ?_
    |simp only[wZZ,seval]
    |refine cq1 hma (zD src) ?_
    |refine t_ ?_
   refine qhY (id:=1) rfl (Or.inr rfl) (by(simp only[wL,seval])) (by(simp only[wM];(repeat first|rw[if_pos trivial]|rw[if_pos rfl]|rw[if_neg (by omega)]))<;>rfl) rfl ?_
   (simp only[wL,seval])
   exact ErL.tup (.cons qb (.cons (ErL.sl .nil) (.cons (ErL.sl .nil) (.cons (.bool _) .nil))))
 | true=>
   obtain ⟨_,hg,hM,hG⟩:=xD hb
   have hlo:=Yd hM hg (hE hb) (hG.trans_ne hg hM)
   have hLk:=look_ok (E:=E) hM hg
   have hcs:=Xi hM hg (show (Q7 (qE src) E (qR src)).length≤1000000 from Nat.le_trans hLk.len (by omega)) (fun k hk=>by obtain ⟨h1,h2⟩:=hLk.tk k hk;have:=hg.tk2;have:=xZ (N:=40) (a:=0) h1 (fun x hx=>by obtain ⟨t,e,h⟩:=h2 x hx;omega);omega)
   have e2:yY src E=cellsS (qE src).toks.length (qR src) (Q7 (qE src) E (qR src)):=by unfold yY;rw[if_pos hb]
   rw[hb]at hma
   rw[e2]
   generalize cellsS (qE src).toks.length (qR src) (Q7 (qE src) E (qR src))=C at *
   generalize Q7 (qE src) E (qR src)=lk at *
   generalize qR src=m at *
   generalize qE src=g at *
   repeat' with_reducible first
    |refine s_ ?_
    |simp only[wZZ,seval]
    |refine cq1 hma (zD src) ?_
    |refine t_ ?_
    |refine cq2 hlo qb qb ?_
    |refine cq3 hcs qb qb qb ?_
   refine qhY (id:=1) rfl (Or.inr rfl) (by(simp only[wL,seval])) (by(simp only[wM];(repeat first|rw[if_pos trivial]|rw[if_pos rfl]|rw[if_neg (by omega)]))<;>rfl) rfl ?_
   (simp only[wL,seval])
   exact ErL.tup (.cons qb (.cons qb (.cons qb (.cons (.bool _) .nil))))
theorem qrN {src:Source} {E:Nat→Bool} (hb:zT src=true):(yY src E).length≤6000∧(∀c∈yY src E,c.prods.length≤144000)∧(∀c∈yY src E,∃t:Nat,c.tok=t∧t<(qE src).toks.length)∧(∀c∈yY src E,∀p∈c.prods,∃n:Nat,p=n∧n<(qE src).prods.length):=by
 obtain ⟨_,hg,hM,hG⟩:=xD hb
 have hLk:=look_ok (E:=E) hM hg
 have e2:yY src E=cellsS (qE src).toks.length (qR src) (Q7 (qE src) E (qR src)):=by unfold yY;rw[if_pos hb]
 rw[e2]
 generalize Q7 (qE src) E (qR src)=l at *
 generalize qR src=m at *
 generalize qE src=g at *
 have hml:=hM.len;have htk:=hg.tk2;have hll:=hLk.len
 have hmem: ∀c∈cellsS g.toks.length m l,∃q t:Nat,t<g.toks.length∧c=cellAt m l q t:=fun c hc=>by
  unfold cellsS at hc
  rw[List.mem_flatMap]at hc
  obtain ⟨q,_,hc⟩:=hc
  rw[List.mem_filterMap]at hc
  obtain ⟨t,h1,hc⟩:=hc
  split at hc
  · cases hc;exact⟨q,t,List.mem_range.1 h1,rfl⟩
  · cases hc
 refine⟨?_,fun c hc=>?_,fun c hc=>?_,fun c hc p hp=>?_⟩
 · have: ∀n,(Zl g.toks.length m l n).length≤n *40:=fun n=>by
    induction n with
    |zero=>exact Nat.zero_le _
    | succ n ih=>
      rw[Yk,List.length_append]
      have:=JF (qig m l n) g.toks.length
      omega
   have h:=this m.length
   have e:cellsS g.toks.length m l=Zl g.toks.length m l m.length:=rfl
   rw[e];omega
 · obtain ⟨q,t,_,rfl⟩:=hmem c hc
   unfold cellAt
   dsimp only
   rw[qfz (hLk.pr q)]
   have:=qg7 l q t
   omega
 · obtain ⟨q,t,ht,rfl⟩:=hmem c hc
   exact⟨t,rfl,ht⟩
 · obtain ⟨q,t,ht,rfl⟩:=hmem c hc
   unfold cellAt at hp
   dsimp only at hp
   rw[qfz (hLk.pr q)]at hp
   unfold qgj at hp
   rw[List.mem_map]at hp
   obtain ⟨k,hk,rfl⟩:=hp
   obtain ⟨q',_,_,he⟩:=hLk.st k (List.mem_filter.1 hk).1
   have hkq:=hM.qJ q'
   obtain ⟨n,h1,_,h2⟩:=qa2 hg hkq.2 hkq.1 _ he
   exact⟨n,h1,h2⟩
abbrev Jg (src:Source) (E:Nat→Bool):List (List (Int×Int)):=if zT src=true then KH (qE src) (yY src E) (qR src).length else[]
abbrev Xj (src:Source):List (List Int):=if zT src=true then qcR (qE src) (qR src) (qR src).length else[]
theorem qil {ef:EF} {t u a b id id2:Nat} {ro ro2:Bool} {v w res:V} {e:Exit} {s:St} (he:ef.res=[.inr (t,true,5),.inr (u,true,2),.inl a,.inl b]) (hx:e=.normal∨e=.ret) (hp:s.f t=.ptr id 0 0) (hH:s.H id=some (.own 5 [v] ro)) (ha:v.isAgg=true)
 (hp2:s.f u=.ptr id2 0 0) (hH2:s.H id2=some (.own 2 [w] ro2)) (ha2:w.isAgg=true) (h:Er true s.H (.tup [v,w,s.f a,s.f b]) res):zq ef res e s:=by
 have hv:qY s true 5 (s.f t)=some v:=by rw[hp];simp only[qY,hH,List.getElem?_cons_zero,jH,ha,and_self,if_true]
 have hw:qY s true 2 (s.f u)=some w:=by rw[hp2];simp only[qY,hH2,List.getElem?_cons_zero,jH,ha2,and_self,if_true]
 exact⟨hx,_,by rw[he];simp[qdN,qbk,hv,hw,one],h⟩
theorem jX {src:Source} {E:Nat→Bool} (hf:src.Fits) (hS:Yw src=true→Small src) (hE:zT src=true→IsGrow (qE src) false E):Pure Try.prog 14 [src.V] (.tup [(qE src).V,qdW (Jg src E) (Xj src),vi (KE (yY src E)),.bool (zT src)]):=by
 refine pure_intro Try.func14 qJr qAZ (by show 1≤34;decide) ?_
 show ewp _ qhI _ _
 have hce:=Xh hf hS hE
 cases hb:zT src with
 | false=>
   have e1:=qcq hb
   have e2:yY src E=[]:=by unfold yY;rw[hb];rfl
   have e3:Jg src E=[]:=by unfold Jg;rw[hb];rfl
   have e4:Xj src=[]:=by unfold Xj;rw[hb];rfl
   rw[hb,e1,e2]at hce
   rw[e3,e4,e2,show KE []=0 from rfl]
   generalize qE src=g at *
   repeat' with_reducible first
    |refine s_ ?_
    |simp only[wZZ,seval]
    |refine cq1 hce (zD src) ?_
    |refine t_ ?_
   refine qil (id:=1) (id2:=2) rfl (Or.inr rfl) (by(simp only[wL,seval])) (by(simp only[wM];(repeat first|rw[if_pos trivial]|rw[if_pos rfl]|rw[if_neg (by omega)]))<;>rfl) rfl (by(simp only[wL,seval])) (by(simp only[wM];(repeat first|rw[if_pos trivial]|rw[if_pos rfl]|rw[if_neg (by omega)]))<;>rfl) rfl ?_
   (simp only[wL,seval])
   exact ErL.tup (.cons qb (.cons (ErL.agg (.cons (ErL.sl .nil) (.cons (ErL.sl .nil) .nil))) (.cons (.int _ _) (.cons (.bool _) .nil))))
 | true=>
   obtain ⟨_,hg,hM,hG⟩:=xD hb
   obtain ⟨c1,c2,c3,c4⟩:=qrN (E:=E) hb
   have hse:=Jo hM hg c1 c2 c3 c4
   have hra:=Y3 (l:=yY src E) (by omega) (fun c hc=>by have:=c2 c hc;omega)
   have e3:Jg src E=KH (qE src) (yY src E) (qR src).length:=by unfold Jg;rw[if_pos hb]
   have e4:Xj src=qcR (qE src) (qR src) (qR src).length:=by unfold Xj;rw[if_pos hb]
   rw[hb]at hce
   rw[e3,e4]
   generalize clN (qE src) (yY src E) (qR src).length=K at *
   generalize qcR (qE src) (qR src) (qR src).length=G at *
   generalize KH (qE src) (yY src E) (qR src).length=A at *
   generalize KE (yY src E)=rw_ at *
   generalize yY src E=C at *
   generalize qR src=m at *
   generalize qE src=g at *
   repeat' with_reducible first
    |refine s_ ?_
    |simp only[wZZ,seval]
    |(refine And.intro ?_ ?_;(focus(first|with_unfolding_all rfl|exact congrArg some (qi0 (by first|omega|(simp only[List.length_set];omega))))))
    |refine cq1 hce (zD src) ?_
    |refine t_ ?_
    |refine cq3 hse qb qb qb ?_
    |refine cq1 hra qb ?_
   refine qil (id:=1) (id2:=2) rfl (Or.inr rfl) (by(simp only[wL,seval])) (by(simp only[wM];(repeat first|rw[if_pos trivial]|rw[if_pos rfl]|rw[if_neg (by omega)]))<;>rfl) rfl (by(simp only[wL,seval])) (by(simp only[wM];(repeat first|rw[if_pos trivial]|rw[if_pos rfl]|rw[if_neg (by omega)]))<;>rfl) rfl ?_
   (simp only[wL,seval])
   exact ErL.tup (.cons qb (.cons qb (.cons (.int _ _) (.cons (.bool _) .nil))))

set_option maxHeartbeats 4000000
theorem YU (g:Grammar) (A:List (List (Int×Int))) (G:List (List Int)) (l:List Int) (dp sp n q:Nat) (st:List Nat) (r:RunR):j5 g A G l dp sp (n+1) (q::st) r=
 if (xV A q (zw g.toks.length l r.at_)).1=3 then {r with kind:=1}
 else if (xV A q (zw g.toks.length l r.at_)).1=1 then
  if sp≤r.steps∨dp<(q::st).length then {r with kind:=3}
  else j5 g A G l dp sp n ((xV A q (zw g.toks.length l r.at_)).2.toNat::q::st) {r with at_:=r.at_+1,steps:=r.steps+1,deep:=max r.deep (q::st).length}
 else if (xV A q (zw g.toks.length l r.at_)).1=2 then
  if sp≤r.steps∨dp<(q::st).length - qce g (xV A q (zw g.toks.length l r.at_)).2.toNat then {r with kind:=3}
  else j5 g A G l dp sp n ((KM G (((q::st).drop (qce g (xV A q (zw g.toks.length l r.at_)).2.toNat)).headD 0) (qsY g (xV A q (zw g.toks.length l r.at_)).2.toNat)).toNat::(q::st).drop (qce g (xV A q (zw g.toks.length l r.at_)).2.toNat)) {r with steps:=r.steps+1,deep:=max r.deep ((q::st).length - qce g (xV A q (zw g.toks.length l r.at_)).2.toNat),prods:=r.prods++[(xV A q (zw g.toks.length l r.at_)).2]}
 else {r with kind:=2}:=rfl
def JH (st:List Nat):List V:=st.reverse.map fun(q:Nat)=>vi q
theorem qcB (st:List Nat):(JH st).length=st.length:=by simp[JH]
theorem Xr {st:List Nat} {n:Nat} (h:n<st.length):(JH st)[st.length - 1 - n]?=some (vi ((st.drop n).headD 0:Nat)):=by
 unfold JH
 rw[List.getElem?_map,List.getElem?_reverse (by omega),show st.length - 1 - (st.length - 1 - n)=n by omega,List.drop_eq_getElem_cons h,ge_ h];rfl
theorem qac {st:List Nat} {n:Nat} (h:n≤st.length):(JH st).take (st.length - n)=JH (st.drop n):=by
 unfold JH
 rw[← List.map_take,List.reverse_drop]
theorem Zd (st:List Nat) (t:Nat):JH st++[vi t]=JH (t::st):=by simp[JH]
def qX (n:Int) (k:Nat):Nat:=(max 0 (min n (k:Int))).toNat
theorem qcX (n:Int) (k:Nat):(if (if (k:Int)<n then(k:Int)else n)>0 then(if (k:Int)<n then(k:Int)else n)else 0)=((qX n k:Nat):Int):=by
 unfold qX;split<;>split<;>omega
theorem Qn (n:Int) (k:Nat):qX n k≤k:=by unfold qX;omega
theorem VN {nt:Nat} (l:List Int) (a:Nat) (h:3≤nt): ∃t:Nat,zw nt l a=t∧t<nt:=by
 unfold zw
 split
 · exact⟨0,rfl,by omega⟩
 · rename_i x _
   split
   · rename_i h1;exact⟨x.toNat,by omega,by omega⟩
   · exact⟨2,rfl,by omega⟩
theorem XZ {g:Grammar} {m:List Sta} {A:List (List (Int×Int))} {G:List (List Int)} (hT:TabOk g m A G) {q t:Nat} (hq:q<m.length) (ht:t<g.toks.length):
 ∃row a,A[q]?=some row∧row[t]?=some a∧xV A q t=a:=by
 have hqA:q<A.length:=by rw[hT.al];exact hq
 have h1:A[q]?=some A[q]:=ge_ hqA
 have hl:=hT.ar q _ h1
 have htA:t<A[q].length:=by rw[hl];exact ht
 have h2:A[q][t]?=some A[q][t]:=ge_ htA
 refine⟨_,_,h1,h2,?_⟩
 unfold xV
 simp only[List.getD_eq_getElem?_getD,h1,Option.getD_some,Int.toNat_natCast,h2]
theorem V4 {g:Grammar} {m:List Sta} {A:List (List (Int×Int))} {G:List (List Int)} (hg:GOk g) (hM:MOk g m) (hG:MGo g m) (hT:TabOk g m A G) {st:List Nat} {q t:Nat} (hP:Path g m (q::st)) (hq:q<m.length) (ht:t<g.toks.length) (ha:(xV A q t).1=2):
 ∃(p:Nat) (x:GPr) (l q0:Nat) (st0:List Nat) (n:Nat) (row:List Int),(xV A q t).2=p∧g.prods[p]?=some x∧x.left=l∧l<g.nons.length∧x.right.length≤8∧x.right.length<(q::st).length∧(q::st).drop x.right.length=q0::st0∧q0<m.length∧
  qce g p=x.right.length∧qsY g p=l∧G[q0]?=some row∧row[l]?=some (n:Int)∧KM G q0 l=n∧n<m.length∧Path g m (n::q0::st0):=by
 obtain ⟨row,a,h1,h2,h3⟩:=XZ hT hq ht
 rw[h3]at ha ⊢
 obtain ⟨p,x,l,q0,st0,n,e1,e2,e3,e4,e5,e6,e7,e8,e9,e10⟩:=hP.reduce hg hM hG (hT.re q row h1 t a h2 ha)
 have hqG:q0<G.length:=by rw[hT.gl];exact e8
 have g1:G[q0]?=some G[q0]:=ge_ hqG
 have g2:=hT.gr q0 _ g1
 have g3:G[q0][l]?=some (n:Int):=by rw[g2,List.getElem?_map,List.getElem?_range e4,Option.map_some,e9]
 obtain ⟨_,_,e,hnl⟩:=e10.lt hG
 cases e
 refine⟨p,x,l,q0,st0,n,G[q0],e1,e2,e3,e4,e5,e6,e7,e8,?_,?_,g1,g3,?_,hnl,e10⟩
 · unfold qce;rw[e2];rfl
 · unfold qsY;rw[e2,Option.map_some,Option.getD_some,e3];rfl
 · unfold KM;simp only[List.getD_eq_getElem?_getD,g1,Option.getD_some,g3]
theorem qfE {g:Grammar} {m:List Sta} {A:List (List (Int×Int))} {G:List (List Int)} (hT:TabOk g m A G) {st:List Nat} {q t:Nat} (hP:Path g m (q::st)) (hq:q<m.length) (ht:t<g.toks.length) (ha:(xV A q t).1=1):
 ∃n:Nat,(xV A q t).2=n∧n<m.length∧Path g m (n::q::st):=by
 obtain ⟨row,a,h1,h2,h3⟩:=XZ hT hq ht
 rw[h3]at ha ⊢
 obtain ⟨n,e1,e2,e3⟩:=hT.sh q row h1 t a h2 ha
 exact⟨n,e1,e2,hP.push e2 e3⟩
end Go.Proofs
