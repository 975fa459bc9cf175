/- Part of a proof that a law of the given program answers true. -/
import Derived.Test.YthgkeppkcjcmjaaTDA
import Derived.Test.YthgkeppkcjcmjaaTZH
set_option linter.unusedSimpArgs false
set_option linter.unusedVariables false
set_option maxHeartbeats 8000000
namespace Go.Proofs
open Go.E
def Qu (src:Source) (E:Nat→Bool):List Cel:=if jB src=true then cellsS (qL src).toks.length (zn src) (Qv (qL src) E (zn src))else[]
theorem qcB {src:Source} (h:jB src=false):zn src=[]:=by
 unfold jB at h
 unfold zn
 by_cases hb:YP src=true
 · rw[if_pos hb]
   rw[hb,Bool.true_and]at h
   cases ha:Kl (qL src)with
   |none=>rfl
   |some m=>rw[ha]at h;cases h
 · rw[if_neg hb]
theorem JJ {src:Source} {E:Nat→Bool} (hf:src.Fits) (hS:jM src=true→Small src) (hE:jB src=true→IsGrow (qL src) false E):Pure Try.prog 48 [src.V] (.tup [(qL src).V,.sl 2 false ((zn src).map Sta.V),.sl 5 false ((Qu src E).map Cel.V),.bool (jB src)]):=by
 refine pure_intro Try.func48 nm_ qyN (by show 1≤26;decide) ?_
 show ewp _ qiR _ _
 have hma:=Q9 hf hS gok
 cases hb:jB src with
 | false=>
   have e1:=qcB hb
   have e2:Qu src E=[]:=by unfold Qu;rw[hb];rfl
   rw[hb,e1]at hma
   rw[e1,e2]
   generalize qL src=g at *
   repeat' with_reducible first
    |refine s_ ?_
    |simp only[wZZ,seval]
    |refine cq1 hma (j3 src) ?_
    |refine t_ ?_
   refine qiF (id:=1) rfl (Or.inr rfl) l_ (by(simp only[wM];(repeat first|rw[if_pos trivial]|rw[if_pos rfl]|rw[if_neg o_]))<;>rfl) rfl ?_
   (simp only[wL,seval])
   exact ErL.tup (.cons qc (.cons (ErL.sl .nil) (.cons (ErL.sl .nil) (.cons (.bool _) .nil))))
 | true=>
   obtain ⟨_,hg,hM,hG⟩:=xY hb
   have hlo:=X9 hM hg (hE hb) (hG.trans_ne hg hM)
   have hLk:=look_ok (E:=E) hM hg
   have hcs:=JR hM hg (show (Qv (qL src) E (zn src)).length≤1000000 from Nat.le_trans hLk.len o_) (fun k hk=>by obtain ⟨h1,h2⟩:=hLk.tk k hk;have:=hg.tk2;have:=xR (N:=40) (a:=0) h1 (fun x hx=>by obtain ⟨t,e,h⟩:=h2 x hx;omega);omega)
   have e2:Qu src E=cellsS (qL src).toks.length (zn src) (Qv (qL src) E (zn src)):=by unfold Qu;rw[if_pos hb]
   rw[hb]at hma
   rw[e2]
   generalize cellsS (qL src).toks.length (zn src) (Qv (qL src) E (zn src))=C at *
   generalize Qv (qL src) E (zn src)=lk at *
   generalize zn src=m at *
   generalize qL src=g at *
   repeat' with_reducible first
    |refine s_ ?_
    |simp only[wZZ,seval]
    |refine cq1 hma (j3 src) ?_
    |refine t_ ?_
    |refine cq2 hlo qc qc ?_
    |refine cq3 hcs qc qc qc ?_
   refine qiF (id:=1) rfl (Or.inr rfl) l_ (by(simp only[wM];(repeat first|rw[if_pos trivial]|rw[if_pos rfl]|rw[if_neg o_]))<;>rfl) rfl ?_
   (simp only[wL,seval])
   exact ErL.tup (.cons qc (.cons qc (.cons qc (.cons (.bool _) .nil))))
theorem qss {src:Source} {E:Nat→Bool} (hb:jB src=true):(Qu src E).length≤6000∧(∀c∈Qu src E,c.prods.length≤144000)∧(∀c∈Qu src E,∃t:Nat,c.tok=t∧t<(qL src).toks.length)∧(∀c∈Qu src E,∀p∈c.prods,∃n:Nat,p=n∧n<(qL src).prods.length):=by
 obtain ⟨_,hg,hM,hG⟩:=xY hb
 have hLk:=look_ok (E:=E) hM hg
 have e2:Qu src E=cellsS (qL src).toks.length (zn src) (Qv (qL src) E (zn src)):=by unfold Qu;rw[if_pos hb]
 rw[e2]
 generalize Qv (qL src) E (zn src)=l at *
 generalize zn src=m at *
 generalize qL src=g at *
 have hml:=hM.len;have htk:=hg.tk2;have hll:=hLk.len
 have hmem: ∀c∈cellsS g.toks.length m l,∃q t:Nat,t<g.toks.length∧c=cellAt m l q t:=fun c hc=>by
  unfold cellsS at hc
  rw[List.mem_flatMap]at hc
  obtain ⟨q,_,hc⟩:=hc
  rw[List.mem_filterMap]at hc
  obtain ⟨t,h1,hc⟩:=hc
  split at hc
  · cases hc;exact⟨q,t,List.mem_range.1 h1,rfl⟩
  · cases hc
 refine⟨?_,fun c hc=>?_,fun c hc=>?_,fun c hc p hp=>?_⟩
 · have: ∀n,(Zp g.toks.length m l n).length≤n *40:=fun n=>by
    induction n with
    |zero=>exact Nat.zero_le _
    | succ n ih=>
      rw[Xy,List.length_append]
      have:=Zz (qjJ m l n) g.toks.length
      omega
   have h:=this m.length
   have e:cellsS g.toks.length m l=Zp g.toks.length m l m.length:=rfl
   rw[e];omega
 · obtain ⟨q,t,_,rfl⟩:=hmem c hc
   unfold cellAt
   dsimp only
   rw[qeF (hLk.pr q)]
   have:=qgt l q t
   omega
 · obtain ⟨q,t,ht,rfl⟩:=hmem c hc
   exact⟨t,rfl,ht⟩
 · obtain ⟨q,t,ht,rfl⟩:=hmem c hc
   unfold cellAt at hp
   dsimp only at hp
   rw[qeF (hLk.pr q)]at hp
   unfold qgq at hp
   rw[List.mem_map]at hp
   obtain ⟨k,hk,rfl⟩:=hp
   obtain ⟨q',_,_,he⟩:=hLk.st k (List.mem_filter.1 hk).1
   have hkq:=hM.qF q'
   obtain ⟨n,h1,_,h2⟩:=qaf hg hkq.2 hkq.1 _ he
   exact⟨n,h1,h2⟩
abbrev Vx (src:Source) (E:Nat→Bool):List (List (Int×Int)):=if jB src=true then Kt (qL src) (Qu src E) (zn src).length else[]
abbrev qaS (src:Source):List (List Int):=if jB src=true then qbL (qL src) (zn src) (zn src).length else[]
theorem qiO {ef:EF} {t u a b id id2:Nat} {ro ro2:Bool} {v w res:V} {e:Exit} {s:St} (he:ef.res=[.inr (t,true,5),.inr (u,true,2),.inl a,.inl b]) (hx:e=.normal∨e=.ret) (hp:s.f t=.ptr id 0 0) (hH:s.H id=some (.own 5 [v] ro)) (ha:v.isAgg=true)
 (hp2:s.f u=.ptr id2 0 0) (hH2:s.H id2=some (.own 2 [w] ro2)) (ha2:w.isAgg=true) (h:Er true s.H (.tup [v,w,s.f a,s.f b]) res):zu ef res e s:=by
 have hv:zb s true 5 (s.f t)=some v:=by rw[hp];simp only[zb,hH,List.getElem?_cons_zero,zX,ha,and_self,if_true]
 have hw:zb s true 2 (s.f u)=some w:=by rw[hp2];simp only[zb,hH2,List.getElem?_cons_zero,zX,ha2,and_self,if_true]
 exact⟨hx,_,by rw[he];simp[Y2,YK,hv,hw,one],h⟩
theorem vv {src:Source} {E:Nat→Bool} (hf:src.Fits) (hS:jM src=true→Small src) (hE:jB src=true→IsGrow (qL src) false E):Pure Try.prog 14 [src.V] (.tup [(qL src).V,qqy (Vx src E) (qaS src),vi (qg6 (Qu src E)),.bool (jB src)]):=by
 refine pure_intro Try.func14 nm_ qMj (by show 1≤34;decide) ?_
 show ewp _ qiK _ _
 have hce:=JJ hf hS hE
 cases hb:jB src with
 | false=>
   have e1:=qcB hb
   have e2:Qu src E=[]:=by unfold Qu;rw[hb];rfl
   have e3:Vx src E=[]:=by unfold Vx;rw[hb];rfl
   have e4:qaS src=[]:=by unfold qaS;rw[hb];rfl
   rw[hb,e1,e2]at hce
   rw[e3,e4,e2,show qg6 []=0 from rfl]
   generalize qL src=g at *
   repeat' with_reducible first
    |refine s_ ?_
    |simp only[wZZ,seval]
    |refine cq1 hce (j3 src) ?_
    |refine t_ ?_
   refine qiO (id:=1) (id2:=2) rfl (Or.inr rfl) l_ (by(simp only[wM];(repeat first|rw[if_pos trivial]|rw[if_pos rfl]|rw[if_neg o_]))<;>rfl) rfl l_ (by(simp only[wM];(repeat first|rw[if_pos trivial]|rw[if_pos rfl]|rw[if_neg o_]))<;>rfl) rfl ?_
   (simp only[wL,seval])
   exact ErL.tup (.cons qc (.cons (ErL.agg (.cons (ErL.sl .nil) (.cons (ErL.sl .nil) .nil))) (.cons (.int _ _) (.cons (.bool _) .nil))))
 | true=>
   obtain ⟨_,hg,hM,hG⟩:=xY hb
   obtain ⟨c1,c2,c3,c4⟩:=qss (E:=E) hb
   have hse:=Jb hM hg c1 c2 c3 c4
   have hra:=YM (l:=Qu src E) o_ (fun c hc=>by have:=c2 c hc;omega)
   have e3:Vx src E=Kt (qL src) (Qu src E) (zn src).length:=by unfold Vx;rw[if_pos hb]
   have e4:qaS src=qbL (qL src) (zn src) (zn src).length:=by unfold qaS;rw[if_pos hb]
   rw[hb]at hce
   rw[e3,e4]
   generalize clN (qL src) (Qu src E) (zn src).length=K at *
   generalize qbL (qL src) (zn src) (zn src).length=G at *
   generalize Kt (qL src) (Qu src E) (zn src).length=A at *
   generalize qg6 (Qu src E)=rw_ at *
   generalize Qu src E=C at *
   generalize zn src=m at *
   generalize qL src=g at *
   repeat' with_reducible first
    |refine s_ ?_
    |simp only[wZZ,seval]
    |(refine And.intro ?_ ?_;(focus(first|with_unfolding_all rfl|exact congrArg some (qgl (by first|omega|(simp only[List.length_set];omega))))))
    |refine cq1 hce (j3 src) ?_
    |refine t_ ?_
    |refine cq3 hse qc qc qc ?_
    |refine cq1 hra qc ?_
   refine qiO (id:=1) (id2:=2) rfl (Or.inr rfl) l_ (by(simp only[wM];(repeat first|rw[if_pos trivial]|rw[if_pos rfl]|rw[if_neg o_]))<;>rfl) rfl l_ (by(simp only[wM];(repeat first|rw[if_pos trivial]|rw[if_pos rfl]|rw[if_neg o_]))<;>rfl) rfl ?_
   (simp only[wL,seval])
   exact ErL.tup (.cons qc (.cons qc (.cons (.int _ _) (.cons (.bool _) .nil))))

set_option maxHeartbeats 4000000
theorem K9 (g:Grammar) (A:List (List (Int×Int))) (G:List (List Int)) (l:List Int) (dp sp n q:Nat) (st:List Nat) (r:RunR):qeM g A G l dp sp (n+1) (q::st) r=
 if (kN A q (j6 g.toks.length l r.at_)).1=3 then {r with kind:=1}
 else if (kN A q (j6 g.toks.length l r.at_)).1=1 then
  if sp≤r.steps∨dp<(q::st).length then {r with kind:=3}
  else qeM g A G l dp sp n ((kN A q (j6 g.toks.length l r.at_)).2.toNat::q::st) {r with at_:=r.at_+1,steps:=r.steps+1,deep:=max r.deep (q::st).length}
 else if (kN A q (j6 g.toks.length l r.at_)).1=2 then
  if sp≤r.steps∨dp<(q::st).length - qdK g (kN A q (j6 g.toks.length l r.at_)).2.toNat then {r with kind:=3}
  else qeM g A G l dp sp n ((Vl G (((q::st).drop (qdK g (kN A q (j6 g.toks.length l r.at_)).2.toNat)).headD 0) (qs2 g (kN A q (j6 g.toks.length l r.at_)).2.toNat)).toNat::(q::st).drop (qdK g (kN A q (j6 g.toks.length l r.at_)).2.toNat)) {r with steps:=r.steps+1,deep:=max r.deep ((q::st).length - qdK g (kN A q (j6 g.toks.length l r.at_)).2.toNat),prods:=r.prods++[(kN A q (j6 g.toks.length l r.at_)).2]}
 else {r with kind:=2}:=rfl
def Ku (st:List Nat):List V:=st.reverse.map fun(q:Nat)=>vi q
theorem qg9 (st:List Nat):(Ku st).length=st.length:=by simp[Ku]
theorem qbF {st:List Nat} {n:Nat} (h:n<st.length):(Ku st)[st.length - 1 - n]?=some (vi ((st.drop n).headD 0:Nat)):=by
 unfold Ku
 rw[List.getElem?_map,List.getElem?_reverse o_,show st.length - 1 - (st.length - 1 - n)=n by omega,List.drop_eq_getElem_cons h,ge_ h];rfl
theorem qfY {st:List Nat} {n:Nat} (h:n≤st.length):(Ku st).take (st.length - n)=Ku (st.drop n):=by
 unfold Ku
 rw[← List.map_take,List.reverse_drop]
theorem KI (st:List Nat) (t:Nat):Ku st++[vi t]=Ku (t::st):=by simp[Ku]
def jK (n:Int) (k:Nat):Nat:=(max 0 (min n (k:Int))).toNat
theorem VB (n:Int) (k:Nat):jK n k≤k:=by unfold jK;omega
theorem qjL {nt:Nat} (l:List Int) (a:Nat) (h:3≤nt): ∃t:Nat,j6 nt l a=t∧t<nt:=by
 unfold j6
 split
 · exact⟨0,rfl,o_⟩
 · rename_i x _
   split
   · rename_i h1;exact⟨x.toNat,o_,o_⟩
   · exact⟨2,rfl,o_⟩
theorem Kg {g:Grammar} {m:List Sta} {A:List (List (Int×Int))} {G:List (List Int)} (hT:TabOk g m A G) {q t:Nat} (hq:q<m.length) (ht:t<g.toks.length):
 ∃row a,A[q]?=some row∧row[t]?=some a∧kN A q t=a:=by
 have hqA:q<A.length:=by rw[hT.al];exact hq
 have h1:A[q]?=some A[q]:=ge_ hqA
 have hl:=hT.ar q _ h1
 have htA:t<A[q].length:=by rw[hl];exact ht
 have h2:A[q][t]?=some A[q][t]:=ge_ htA
 refine⟨_,_,h1,h2,?_⟩
 unfold kN
 simp only[List.getD_eq_getElem?_getD,h1,Option.getD_some,Int.toNat_natCast,h2]
theorem qpx {g:Grammar} {m:List Sta} {A:List (List (Int×Int))} {G:List (List Int)} (hg:GOk g) (hM:MOk g m) (hG:MGo g m) (hT:TabOk g m A G) {st:List Nat} {q t:Nat} (hP:Path g m (q::st)) (hq:q<m.length) (ht:t<g.toks.length) (ha:(kN A q t).1=2):
 ∃(p:Nat) (x:GPr) (l q0:Nat) (st0:List Nat) (n:Nat) (row:List Int),(kN A q t).2=p∧g.prods[p]?=some x∧x.left=l∧l<g.nons.length∧x.right.length≤8∧x.right.length<(q::st).length∧(q::st).drop x.right.length=q0::st0∧q0<m.length∧
  qdK g p=x.right.length∧qs2 g p=l∧G[q0]?=some row∧row[l]?=some (n:Int)∧Vl G q0 l=n∧n<m.length∧Path g m (n::q0::st0):=by
 obtain ⟨row,a,h1,h2,h3⟩:=Kg hT hq ht
 rw[h3]at ha ⊢
 obtain ⟨p,x,l,q0,st0,n,e1,e2,e3,e4,e5,e6,e7,e8,e9,e10⟩:=hP.reduce hg hM hG (hT.re q row h1 t a h2 ha)
 have hqG:q0<G.length:=by rw[hT.gl];exact e8
 have g1:G[q0]?=some G[q0]:=ge_ hqG
 have g2:=hT.gr q0 _ g1
 have g3:G[q0][l]?=some (n:Int):=by rw[g2,List.getElem?_map,List.getElem?_range e4,Option.map_some,e9]
 obtain ⟨_,_,e,hnl⟩:=e10.lt hG
 cases e
 refine⟨p,x,l,q0,st0,n,G[q0],e1,e2,e3,e4,e5,e6,e7,e8,?_,?_,g1,g3,?_,hnl,e10⟩
 · unfold qdK;rw[e2];rfl
 · unfold qs2;rw[e2,Option.map_some,Option.getD_some,e3];rfl
 · unfold Vl;simp only[List.getD_eq_getElem?_getD,g1,Option.getD_some,g3]
theorem qtj {g:Grammar} {m:List Sta} {A:List (List (Int×Int))} {G:List (List Int)} (hT:TabOk g m A G) {st:List Nat} {q t:Nat} (hP:Path g m (q::st)) (hq:q<m.length) (ht:t<g.toks.length) (ha:(kN A q t).1=1):
 ∃n:Nat,(kN A q t).2=n∧n<m.length∧Path g m (n::q::st):=by
 obtain ⟨row,a,h1,h2,h3⟩:=Kg hT hq ht
 rw[h3]at ha ⊢
 obtain ⟨n,e1,e2,e3⟩:=hT.sh q row h1 t a h2 ha
 exact⟨n,e1,e2,hP.push e2 e3⟩
end Go.Proofs
