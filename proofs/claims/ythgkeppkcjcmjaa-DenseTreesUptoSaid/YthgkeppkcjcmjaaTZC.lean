/- Part of a proof that a law of the given program answers true. -/
import Derived.Test.YthgkeppkcjcmjaaTZA
import Derived.Test.YthgkeppkcjcmjaaTZB
import Derived.Test.YthgkeppkcjcmjaaTCA
import Derived.Test.YthgkeppkcjcmjaaTLA
set_option linter.unusedSimpArgs false
set_option linter.unusedVariables false
set_option maxHeartbeats 4000000
namespace Go.Proofs
open Go.E
abbrev qrK (v:V) (l:List Int):Prop:=Zw v=some (vi (l.length:Nat))∧(∀(k:IntKind) (i:Int) (x:Int),0≤i→l[i.toNat]?=some x→jk 1 v (.int k i)=some (.iptr 1 (.int .i64 x) 0))∧ErP v (.sl 1 false (l.map (V.int .i64)))∧v.cells=[v]∧v.okCell=true∧v.isAgg=false
theorem Zt (c:Bool) (l:List Int):qrK (.sl 1 c (l.map (V.int .i64))) l:=
 ⟨by simp[Zw,qh5],fun k i x h0 hx=>qfS h0 hx,jA,rfl,rfl,rfl⟩
theorem qgv (id f:Nat) (l:List Int):qrK (.asl id f 1 (l.map (V.int .i64))) l:=
 ⟨by simp[Zw,qh5],fun k i x h0 hx=>qea h0 hx,QN,rfl,rfl,rfl⟩
def Qh (es:List V) (L:List (List Int)):Prop:=es.length=L.length∧ ∀(i:Nat) l,L[i]?=some l→ ∃v,es[i]?=some v∧qrK v l
theorem Qh.nil:Qh [] []:=⟨rfl,fun i l h=>by simp at h⟩
theorem Qh.snoc {es:List V} {L:List (List Int)} {v:V} {l:List Int} (h:Qh es L) (hv:qrK v l):Qh (es++[v]) (L++[l]):=by
 refine⟨by simp[h.1],fun i l' hi=>?_⟩
 by_cases e:i<L.length
 · rw[List.getElem?_append_left e]at hi
   obtain ⟨w,h1,h2⟩:=h.2 i l' hi
   exact⟨w,by rw[List.getElem?_append_left (by rw[h.1];exact e)];exact h1,h2⟩
 · by_cases e2:i=L.length
   · subst e2
     rw[List.getElem?_append_right (Nat.le_refl _),Nat.sub_self]at hi
     cases hi
     exact⟨v,by rw[← h.1,List.getElem?_append_right (Nat.le_refl _),Nat.sub_self];rfl,hv⟩
   · rw[List.getElem?_eq_none (by simp;omega)]at hi;cases hi
theorem Qh.set {es:List V} {L:List (List Int)} {v:V} {l:List Int} (h:Qh es L) (hv:qrK v l) (i:Nat):Qh (es.set i v) (L.set i l):=by
 refine⟨by simp[h.1],fun k l' hk=>?_⟩
 rw[List.getElem?_set]at hk ⊢
 by_cases e:i=k
 · subst e
   rw[if_pos rfl]at hk ⊢
   rw[h.1]
   by_cases hl:i<L.length
   · rw[if_pos hl]at hk ⊢;cases hk;exact⟨v,rfl,hv⟩
   · rw[if_neg hl]at hk;cases hk
 · rw[if_neg e]at hk ⊢;exact h.2 k l' hk
theorem Qh.erL {es:List V} {L:List (List Int)} (h:Qh es L):QM es (L.map Jp):=by
 have : ∀(es:List V) (L:List (List Int)),Qh es L→QM es (L.map Jp):=by
  intro es
  induction es with
  | nil=>intro L h;cases L with
    |nil=>exact .nil
    |cons a L=>have:=h.1;simp at this
  | cons v es ih=>intro L h;cases L with
    |nil=>have:=h.1;simp at this
    | cons a L=>
      obtain ⟨w,h1,h2⟩:=h.2 0 a rfl
      cases h1
      exact .cons h2.2.2.1 (ih L ⟨by have:=h.1;simpa using this,fun i l hi=>h.2 (i+1) l (by simpa using hi)⟩)
 exact this es L h
theorem Qh.rep (n:Nat):Qh (List.replicate n (V.sl 1 true [])) (List.replicate n []):=by
 refine⟨by simp,fun i l hi=>?_⟩
 rw[List.getElem?_replicate]at hi ⊢
 split at hi
 · cases hi;rename_i h;rw[if_pos h];exact⟨_,rfl,Zt true []⟩
 · cases hi
theorem Qh.er {H:Nat→Option MObj} {id n:Nat} {es:List V} {L:List (List Int)} {ro:Bool} (hH:H id=some (.own 1 es ro)) (h:Qh es L) (hn:L.length=n):Er true H (.msl id 1 0 n) (.sl 1 false (L.map Jp)):=by
 obtain ⟨h1,h2⟩:=(h.erL.up (b:=true) (H:=H)).get
 refine .msl id 1 0 n es ro _ rfl hH (by rw[← hn,h.1];omega) (by simp[hn]) fun i c c' h3 h4=>?_
 rw[Nat.zero_add]at h3
 exact h2 i c c' h3 h4
theorem ldV {K:V→Prop} {k:Nat} {es:List V} {ro:Bool} {v:V} {o:Option MObj} (ho:o=some (.own 1 es ro)) (hx:es[k]?=some v) (ha:v.isAgg=false) (hk:K v):onS (ldQ o false 1 k 0) K:=by
 subst ho
 have e:ldQ (some (.own 1 es ro)) false 1 k 0=some v:=by simp[ldQ,hx,zX,ha]
 rw[e];exact hk
theorem stV {K:St→Prop} {s:St} {id k:Nat} {es:List V} {v w:V} {o:Option MObj} (ho:o=some (.own 1 es false)) (hx:es[k]?=some w) (hw:w.isAgg=false) (hv:v.cells=[v]) (hc:v.okCell=true) (ha:v.isAgg=false)
 (hk:K (s.setO id (some (.own 1 (es.set k v) false)))):onS (stQ s o 1 id k 0 v) K:=by
 subst ho
 have e0:zZ 1 1 w v 0=some v:=by
  unfold zZ
  rw[if_pos ⟨rfl,rfl,by rw[hw,ha]⟩]
 have e:stQ s (some (.own 1 es false)) 1 id k 0 v=some (s.setO id (some (.own 1 (es.set k v) false))):=by
  simp only[stQ,hx,e0,hv,hc,List.length_singleton,and_self,if_true,Option.map_some]
 rw[e];exact hk
structure MOk (g:Grammar) (m:List Sta):Prop where
 len:m.length≤150
 mvl: ∀q∈m,q.mov.length≤64
 mv: ∀q∈m,∀p∈q.mov,vE g.toks.length g.nons.length p.1∧ ∃t:Nat,p.2=t∧t<m.length
 kr: ∀q∈m,jO q.ker
 ki: ∀q∈m,∀x∈q.ker,QL g x
theorem MOk.kl {g:Grammar} {m:List Sta} (h:MOk g m) (hpl:g.prods.length≤60): ∀q∈m,q.ker.length≤960:=fun q hq=>
 xR (a:=0) (h.kr q hq) fun x hx=>by
  obtain ⟨h0,p,hp,_⟩:=h.ki q hq x hx
  have:=(List.getElem?_eq_some_iff.1 hp).1
  omega
theorem qe7 {m:List Sta} {q s:Int} (h:(q,s)∈qB m): ∃(n:Nat) (x:Sta),q=n∧m[n]?=some x∧1000≤s∧ ∃t,(s,t)∈x.mov:=by
 unfold qB at h
 rw[List.mem_flatMap]at h
 obtain ⟨n,hn,h⟩:=h
 rw[List.mem_filterMap]at h
 obtain ⟨p,hp,h⟩:=h
 rw[List.mem_range]at hn
 have hg:m[n]?=some m[n]:=ge_ hn
 rw[hg]at hp
 split at h
 · rename_i h1
   cases h
   exact⟨n,_,rfl,hg,h1,p.2,hp⟩
 · cases h
theorem KJ {m:List Sta} {n:Nat} {x:Sta} {s t:Int} (h:m[n]?=some x) (h1:1000≤s) (h2:(s,t)∈x.mov):((n:Int),s)∈qB m:=by
 unfold qB
 rw[List.mem_flatMap]
 refine⟨n,List.mem_range.2 (List.getElem?_eq_some_iff.1 h).1,?_⟩
 rw[List.mem_filterMap,h]
 exact⟨(s,t),h2,by rw[if_pos h1]⟩
theorem qfX {l:List (Int×Int)} {s t:Int} (h:(s,t)∈l):(s,goL l s)∈l:=by
 induction l with
 |nil=>cases h
 | cons a l ih=>
   unfold goL
   split
   · rename_i e;rw[← e];exact List.mem_cons_self
   · rename_i e
     rcases List.mem_cons.1 h with h|h
     · exact absurd (by rw[← h]) e
     · exact List.mem_cons_of_mem _ (ih h)
theorem qaB (l:List (Int×Int)) (s:Int):goL l s= -1∨(s,goL l s)∈l:=by
 induction l with
 |nil=>exact Or.inl rfl
 | cons a l ih=>
   unfold goL
   split
   · rename_i e;right;rw[← e];exact List.mem_cons_self
   · exact ih.imp id (List.mem_cons_of_mem _)
theorem MOk.trans_go {g:Grammar} {m:List Sta} (h:MOk g m) {q s:Int} (ht:(q,s)∈qB m): ∃r:Nat,goS m q s=r∧r<m.length:=by
 obtain ⟨n,x,rfl,hx,h1,t,h2⟩:=qe7 ht
 have:=(h.mv x (List.mem_of_getElem? hx) _ (qfX h2)).2
 unfold goS
 rw[if_neg o_,show ((n:Int)).toNat=n from rfl,hx]
 exact this
theorem qbN {q s:Int}: ∀(T:List (Int×Int)) (n:Nat),(q,s)∈T→ ∃i:Nat,qgd q s T n=((n+i:Nat):Int)∧i<T.length
 |[],_,h=>by cases h
 | p ::T,n,h=>by
   unfold qgd
   split
   · exact⟨0,by simp,by simp⟩
   · rename_i e
     rcases List.mem_cons.1 h with h|h
     · subst h;exact absurd ⟨rfl,rfl⟩ e
     · obtain ⟨i,h1,h2⟩:=qbN T (n+1) h
       exact⟨i+1,by rw[h1];omega,by simp;exact h2⟩
theorem qhh {q s:Int} {T:List (Int×Int)} (h:(q,s)∈T): ∃i:Nat,qaT T q s=i∧i<T.length:=by
 obtain ⟨i,h1,h2⟩:=qbN T 0 h
 exact⟨i,by unfold qaT;rw[h1];omega,h2⟩
theorem Y0 {q s:Int}: ∀(T:List (Int×Int)) (n:Nat),qgd q s T n= -1∨ ∃i:Nat,qgd q s T n=((n+i:Nat):Int)∧i<T.length
 |[],_=>Or.inl rfl
 | p ::T,n=>by
   unfold qgd
   split
   · exact Or.inr ⟨0,by simp,by simp⟩
   · rcases Y0 T (n+1)with h|⟨i,h1,h2⟩
     · exact Or.inl h
     · exact Or.inr ⟨i+1,by rw[h1];omega,by simp;exact h2⟩

abbrev qaV:List Int→Int×Int→List Int:=fun l p=>if p.1<1000 then jm l p.1 else l
theorem zY {α β:Type} (f:β→α→β) (b:β) {l:List α} {i:Nat} {x:α} (h:l[i]?=some x):(l.take (i+1)).foldl f b=f ((l.take i).foldl f b) x:=by
 rw[List.take_add_one,h,List.foldl_append];rfl
theorem qhv (l:List (Int×Int)): ∀b:List Int,(l.foldl qaV b).length≤b.length+l.length:=by
 induction l with
 |nil=>intro b;exact Nat.le_refl _
 | cons p l ih=>
   intro b
   have h1:(qaV b p).length≤b.length+1:=by
    unfold qaV;split
    · exact QW _ _
    · omega
   have:=ih (qaV b p)
   rw[List.foldl_cons,List.length_cons];omega
def qb2 (m:List Sta) (t:Int×Int):List Int:=(Xz m (goS m t.1 t.2)).foldl qaV (if (1:Int)∈qF m (goS m t.1 t.2).toNat then[0]else[])
theorem qhz {s0:St} {next r:Nat} {m:List Sta} {xk:List Int} {xm:List (Int×Int)} {L0:List Int} {v3 v4 v5 w:V} {es:List V} {L:List (List Int)} {Q:Exit→St→Prop} (f0:s0.f 0=.sl 2 false (m.map Sta.V)) (f3:s0.f 3=v3) (f4:s0.f 4=v4) (f5:s0.f 5=v5) (f6:s0.f 6=w) (f7:s0.f 7=vi r) (hw:qrK w L0) (hLl:L0.length≤1) (hgr:m[r]?=some {ker:=xk,mov:=xm}) (hxl:xm.length≤64) (hnx:next≤s0.next) (hH:GrM s0.H next s0.next 1 es v4) (hT:Qh es L) (hL:L.length≤150000) (hml:m.length≤150)
 (hQ: ∀s' v es',s'.f 0=.sl 2 false (m.map Sta.V)→s'.f 3=v3→s'.f 5=v5→s'.f 4=v→s0.next≤s'.next→(∀j,j<next→s'.H j=s0.H j)→GrM s'.H next s'.next 1 es' v→Qh es' (L++[xm.foldl qaV L0])→Q .normal s'):ewp Try.prog qa3 Q s0:=by
 repeat' with_reducible first
  |refine s_ ?_
  |simp only[wZZ,seval,f0,f4,f6,f7]
 refine qb ?nx2 (fun(j:Nat) s=>s.f 0=?v2_0∧s.f 3=?v2_3∧s.f 4=?v2_4∧s.f 5=?v2_5∧s.f 7=?v2_7∧s.f 8=vi j∧(j≤xm.length)∧(s0.next≤s.next)∧((s.f 3=s0.f 3))∧((s.f 5=s0.f 5))∧((∀j,j<next→s.H j=s0.H j))∧(GrM s.H next s.next 1 es v4)∧((∃v,s.f 6=v∧qrK v ((xm.take j).foldl qaV L0)))) (fun j=>xm.length - j) (0) wj_ (by refine⟨?_,?_,?_,?_,?_,?_,wo_,wg_,l_,l_,(by intro j hj;((try simp only[wM]);(repeat first|rw[if_pos trivial]|rw[if_pos rfl]|rw[if_neg o_]))),(by exact hH.keep rfl wg_ (fun j h1 h2=>hh_)),(by exact⟨w,(by(simp only[wL,seval]);exact f6),hw⟩)⟩<;>first|(simp only[wL,wM,wN,wX,seval,Option.some.injEq]<;>exact wt_)|rfl|exact⟨_,rfl⟩) ?_
 intro j s hnx ⟨g0,g3,g4,g5,g7,g8,k2_0,k2_1,k2_2,k2_3,k2_4,k2_5,k2_6⟩
 obtain ⟨v6,g6,hv6⟩:=k2_6
 have hzj:=w1_ j
 have hln:=qhv (xm.take j) L0
 rw[List.length_take]at hln
 by_cases hj:j<xm.length
 · have hgj:xm[j]?=some xm[j]:=ge_ hj
   have hst2:=zY qaV L0 hgj
   generalize (xm.take j).foldl qaV L0=U at *
   generalize xm[j]=p at *
   obtain ⟨p1,p2⟩:=p
   have hput:=zM (l:=U) (x:=p1) o_
   by_cases hp:p1<1000
   · have hst3:(xm.take (j+1)).foldl qaV L0=jm U p1:=by rw[hst2];simp[qaV,hp]
     repeat' with_reducible first
      |refine s_ ?_
      |simp only[wZZ,seval,g0,g3,g4,g5,g7,g8,hzj,g6,f0,f7]
      |apply qa<;>intro h h_<;>(try simp only[wD,reduceCtorEq]at h_)<;>(try exact wb_)<;>(try simp only[h])
      |refine t_ ?_
      |refine cq2 hput hv6.2.2.1.er qc ?_
     refine⟨wg_,j+1,o_,?_⟩;(repeat refine⟨True.intro,?_⟩)
     exact⟨rfl,o_,wg_,trivial,trivial,k2_4,k2_5.keep rfl wg_ (fun _ _ _=>rfl),_,rfl,by rw[hst3];exact Zt _ _⟩
   · have hst3:(xm.take (j+1)).foldl qaV L0=U:=by rw[hst2];simp[qaV,hp]
     repeat' with_reducible first
      |refine s_ ?_
      |simp only[wZZ,seval,g0,g3,g4,g5,g7,g8,hzj,g6,f0,f7]
      |apply qa<;>intro h h_<;>(try simp only[wD,reduceCtorEq]at h_)<;>(try exact wb_)<;>(try simp only[h])
      |refine t_ ?_
     refine⟨wg_,j+1,o_,?_⟩;(repeat refine⟨True.intro,?_⟩)
     exact⟨rfl,o_,wg_,trivial,trivial,k2_4,k2_5.keep rfl wg_ (fun _ _ _=>rfl),v6,rfl,by rw[hst3];exact hv6⟩
 · have e:xm.take j=xm:=List.take_of_length_le o_
   rw[e]at hv6
   have hel:=hT.1
   repeat' with_reducible first
    |refine s_ ?_
    |simp only[wZZ,seval,g0,g3,g4,g5,g7,g8,g6,f0,f7,f4]
    |apply qa<;>intro h h_<;>(try simp only[wD,reduceCtorEq]at h_)<;>(try exact wb_)<;>(try simp only[h])
    |refine t_ ?_
    |apply qcx;(focus(rw[hv6.2.2.2.1];with_unfolding_all rfl));exact hv6.2.2.2.2.1;exact hv6.2.2.2.2.2;exact wu_
   apply qMd (hg:=k2_5)
   · rfl
   · first|rfl|(simp only[wM];done)
   · exact qU.sl
   · rw[hel,List.length_singleton];omega
   · unfold maxLen;rw[hel,List.length_singleton];omega
   intro H1 h1 h2
   refine hQ _ (.msl (s.next+8+3) 1 0 (es++[v6]).length) (es++[v6]) ?_ ?_ ?_ ?_ ?_ ?_ ?_ (hT.snoc hv6)
   · (simp only[wL,seval]);rw[g0,f0]
   · (simp only[wL,seval]);rw[g3,f3]
   · (simp only[wL,seval]);rw[g5,f5]
   · (simp only[wL,seval])
   · ((try simp only[wN])<;>omega)
   · intro j hj;rw[← k2_4 j hj];exact h2 j hj o_
   · exact Or.inr ⟨_,rfl,h1,o_,wg_⟩
theorem qd8 {H:Nat→Option MObj} {next:Nat} {g:Grammar} {m:List Sta} (hM:MOk g m) (hg:GOk g):qZ Try.prog 79 [.sl 2 false (m.map Sta.V)] H next (fun v H' n'=>next≤n'∧(∃es,GrM H' next n' 1 es v∧Qh es (yR m))∧ ∀j,j<next→H' j=H j):=by
 refine qO Try.func79 nm_ qrc (by show 1≤74;decide) ?_
 show ewp _ qgi _ _
 have hml:=hM.len;have hmv:=hM.mvl
 have hpl:=hg.pl2
 have htr:=jc (m:=m) o_ (fun q h=>by have:=hmv q h;omega)
 have hdef:yR m=(qB m).map (qb2 m):=rfl
 have htg: ∀t∈qB m,∃r:Nat,goS m t.1 t.2=r∧r<m.length:=fun t h=>hM.trans_go h
 rw[hdef]
 have htl:(qB m).length≤150000:=by have:=Qe (m:=m) (fun q h=>by have:=hmv q h;omega) m.length;have e:qB m=yB m m.length:=rfl;rw[e];omega
 generalize qB m=T at *
 repeat' with_reducible first
  |refine s_ ?_
  |simp only[wZZ,seval]
  |refine cq1 htr qc ?_
 refine qb ?nx1 (fun(i:Nat) s=>s.f 0=?v1_0∧s.f 3=?v1_3∧s.f 5=vi i∧(i≤T.length)∧(next≤s.next)∧((∀j,j<next→s.H j=H j))∧((∃v es,s.f 4=v∧GrM s.H next s.next 1 es v∧Qh es ((T.take i).map (qb2 m))))) (fun i=>T.length - i) (0) wj_ (by refine⟨?_,?_,?_,wo_,wg_,(by intro j hj;((try simp only[wM]);(repeat first|rw[if_pos trivial]|rw[if_pos rfl]|rw[if_neg o_]))),(by exact⟨_,[],l_,Or.inl ⟨rfl,rfl⟩,Qh.nil⟩)⟩<;>first|(simp only[wL,wM,wN,wX,seval,Option.some.injEq]<;>exact wt_)|rfl|exact⟨_,rfl⟩) ?_
 intro i s hnx ⟨g0,g3,g5,k1_0,k1_1,k1_2,k1_3⟩
 obtain ⟨v4,es,g4,hG4,hT4⟩:=k1_3
 have hz:=w1_ i
 by_cases hi:i<T.length
 · have hgi:T[i]?=some T[i]:=ge_ hi
   obtain ⟨r,hr,hrm⟩:=htg _ (List.getElem_mem hi)
   have hst:(T.take (i+1)).map (qb2 m)=(T.take i).map (qb2 m)++[qb2 m T[i]]:=by rw[List.take_add_one,hgi,List.map_append];rfl
   have hgo:=jq (m:=m) (q:=T[i].1) (sy:=T[i].2) o_ (fun q h=>by have:=hmv q h;omega)
   have hgr:m[r]?=some m[r]:=ge_ hrm
   have hxl:=hmv _ (List.getElem_mem hrm)
   have hkl:=hM.kl hpl _ (List.getElem_mem hrm)
   have hdn:=Yj (k:=m[r].ker) o_
   have hF:qb2 m T[i]=m[r].mov.foldl qaV (if (1:Int)∈m[r].ker then[0]else[]):=by
    unfold qb2 Xz qF
    rw[hr,show ((r:Int)).toNat=r from rfl,hgr];rfl
   rw[hr]at hgo
   rw[hF]at hst
   generalize m[r]=x at *
   generalize T[i]=t at *
   obtain ⟨t1,t2⟩:=t
   obtain ⟨xk,xm⟩:=x
   dsimp only at hgo hxl hkl hdn hst
   obtain ⟨L0,hL0,hLl⟩: ∃L0,L0=(if (1:Int)∈xk then([0]:List Int)else[])∧L0.length≤1:=⟨_,rfl,by split<;>simp⟩
   rw[← hL0]at hst
   have hel:=hT4.1
   rw[List.length_map,List.length_take]at hel
   have W:= @qhz
   unfold qfe qd2 qgg qdQ qf3 qfV
   generalize qa3=E at W ⊢
   by_cases hc:(1:Int)∈xk
   · rw[decide_eq_true hc]at hdn;rw[if_pos hc]at hL0
     repeat' with_reducible first
      |refine s_ ?_
      |simp only[wZZ,seval,g0,g3,g5,hz,g4]
      |apply qa<;>intro h h_<;>(try simp only[wD,reduceCtorEq]at h_)<;>(try exact wb_)<;>(try simp only[h])
      |refine t_ ?_
      |refine cq3 hgo qc qc qc ?_
      |refine cq1 hdn qc ?_
      |apply XE;(focus(first|exact qU.sl|exact qU.asl|exact qU.str));exact wf_;(focus(unfold maxLen;first|omega|(simp only[wZ]<;>omega)))
     refine W (r:=r) (v4:=v4) (es:=es) (L0:=L0) (L:=(T.take i).map (qb2 m)) (next:=next) (v3:= .sl 2 false (T.map prV)) (v5:=vi i) (by(simp only[wL,seval]);exact g0) (by(simp only[wL,seval]);exact g3) (by(simp only[wL,seval]);exact g4) (by(simp only[wL,seval]);exact g5) (by(simp only[wL,seval])<;>rfl) l_ (by rw[hL0];exact qgv _ _ [0]) hLl hgr hxl wg_ (hG4.keep rfl wg_ (fun j h1 h2=>hh_)) hT4 (by rw[List.length_map,List.length_take];omega) hml ?_
     intro s' v es' q0 q3 q5 q4 qn qH qG qT
     (try simp only[wN]at qn)
     repeat' with_reducible first
      |refine s_ ?_
      |simp only[wZZ,seval,g0,g3,g5,q0,q3,q5,q4,hz]
     refine⟨wg_,i+1,o_,?_⟩;(repeat refine⟨True.intro,?_⟩)
     exact⟨rfl,o_,wg_,fun j hj=>by rw[qH j hj];((try simp only[wM]);(repeat first|rw[if_pos trivial]|rw[if_pos rfl]|rw[if_neg o_]));exact k1_2 j hj,v,es',rfl,qG.keep rfl wg_ (fun _ _ _=>rfl),by rw[hst];exact qT⟩
   · rw[decide_eq_false hc]at hdn;rw[if_neg hc]at hL0
     repeat' with_reducible first
      |refine s_ ?_
      |simp only[wZZ,seval,g0,g3,g5,hz,g4]
      |apply qa<;>intro h h_<;>(try simp only[wD,reduceCtorEq]at h_)<;>(try exact wb_)<;>(try simp only[h])
      |refine t_ ?_
      |refine cq3 hgo qc qc qc ?_
      |refine cq1 hdn qc ?_
     refine W (r:=r) (v4:=v4) (es:=es) (L0:=L0) (L:=(T.take i).map (qb2 m)) (next:=next) (v3:= .sl 2 false (T.map prV)) (v5:=vi i) (by(simp only[wL,seval]);exact g0) (by(simp only[wL,seval]);exact g3) (by(simp only[wL,seval]);exact g4) (by(simp only[wL,seval]);exact g5) (by(simp only[wL,seval])<;>rfl) l_ (by rw[hL0];exact Zt true []) hLl hgr hxl wg_ (hG4.keep rfl wg_ (fun j h1 h2=>hh_)) hT4 (by rw[List.length_map,List.length_take];omega) hml ?_
     intro s' v es' q0 q3 q5 q4 qn qH qG qT
     (try simp only[wN]at qn)
     repeat' with_reducible first
      |refine s_ ?_
      |simp only[wZZ,seval,g0,g3,g5,q0,q3,q5,q4,hz]
     refine⟨wg_,i+1,o_,?_⟩;(repeat refine⟨True.intro,?_⟩)
     exact⟨rfl,o_,wg_,fun j hj=>by rw[qH j hj];((try simp only[wM]);(repeat first|rw[if_pos trivial]|rw[if_pos rfl]|rw[if_neg o_]));exact k1_2 j hj,v,es',rfl,qG.keep rfl wg_ (fun _ _ _=>rfl),by rw[hst];exact qT⟩
 · have e:i=T.length:=o_
   subst e
   rw[List.take_length]at hT4
   repeat' with_reducible first
    |refine s_ ?_
    |simp only[wZZ,seval,g0,g3,g5,g4]
   exact kQ rfl (Or.inr rfl) ⟨wg_,⟨es,by(simp only[wL,seval]);exact hG4.keep rfl wg_ (fun _ _ _=>rfl),hT4⟩,k1_2⟩

abbrev K8 (E:Nat→Bool) (T:List (Int×Int)) (r:Int):List Int→Int×Int→List Int:=fun l p=>if 1000≤p.1∧E (p.1 - 1000).toNat=true then jm l (qaT T r p.1)else l
theorem qct (E:Nat→Bool) (T:List (Int×Int)) (r:Int) (l:List (Int×Int)): ∀b:List Int,(l.foldl (K8 E T r) b).length≤b.length+l.length:=by
 induction l with
 |nil=>intro b;exact Nat.le_refl _
 | cons p l ih=>
   intro b
   have h1:(K8 E T r b p).length≤b.length+1:=by
    unfold K8;split
    · exact QW _ _
    · omega
   have:=ih (K8 E T r b p)
   rw[List.foldl_cons,List.length_cons];omega
def qhj (E:Nat→Bool) (T:List (Int×Int)) (m:List Sta) (t:Int×Int):List Int:=(Xz m (goS m t.1 t.2)).foldl (K8 E T (goS m t.1 t.2)) []
theorem JK {g:Grammar} {m:List Sta} {E:Nat→Bool} (hM:MOk g m) (hg:GOk g) (hE:IsGrow g false E):Pure Try.prog 80 [g.V,.sl 2 false (m.map Sta.V)] (.sl 1 false ((Xu E m).map Jp)):=by
 refine pure_intro Try.func80 nm_ qM3 (by show 2≤74;decide) ?_
 show ewp _ qh9 _ _
 have hml:=hM.len;have hmv:=hM.mvl;have hmm:=hM.mv
 have hpl:=hg.pl2;have htk:=hg.tk2;have hnn:=hg.nn2
 have htr:=jc (m:=m) o_ (fun q h=>by have:=hmv q h;omega)
 have hdef:Xu E m=(qB m).map (qhj E (qB m) m):=rfl
 have htg: ∀t∈qB m,∃r:Nat,goS m t.1 t.2=r∧r<m.length:=fun t h=>hM.trans_go h
 obtain ⟨E',hE',hnull⟩:=yc hg
 obtain rfl:=hE'.uniq hE
 have hbm:ZO g.nons.length E'=(List.range g.nons.length).map fun k=>V.bool (E' k):=rfl
 have hcb:=qew g.nons.length E'
 rw[hdef]
 have htl:(qB m).length≤150000:=by have:=Qe (m:=m) (fun q h=>by have:=hmv q h;omega) m.length;have e:qB m=yB m m.length:=rfl;rw[e];omega
 generalize qB m=T at *
 repeat' with_reducible first
  |refine s_ ?_
  |simp only[wZZ,seval]
  |refine cq1 htr qc ?_
  |refine cq1 hnull qc ?_
  |refine t_ ?_
 refine qb ?nx1 (fun(i:Nat) s=>s.f 1=?v1_1∧s.f 5=?v1_5∧s.f 6=?v1_6∧s.f 8=vi i∧(i≤T.length)∧((∃v es,s.f 7=v∧Gr s.H s.next 1 es v∧Qh es ((T.take i).map (qhj E' T m))))) (fun i=>T.length - i) (0) wj_ (by refine⟨?_,?_,?_,?_,wo_,(by exact⟨_,[],(by(simp only[wL,seval])<;>rfl),Gr.nil,Qh.nil⟩)⟩<;>first|(simp only[wL,wM,wN,wX,seval,Option.some.injEq]<;>exact wt_)|rfl|exact⟨_,rfl⟩) ?_
 intro i s hnx ⟨g1,g5,g6,g8,k1_0,k1_1⟩
 obtain ⟨v7,es,g7,hG7,hT7⟩:=k1_1
 have hz:=w1_ i
 by_cases hi:i<T.length
 · have hgi:T[i]?=some T[i]:=ge_ hi
   obtain ⟨r,hr,hrm⟩:=htg _ (List.getElem_mem hi)
   have hst:(T.take (i+1)).map (qhj E' T m)=(T.take i).map (qhj E' T m)++[qhj E' T m T[i]]:=by rw[List.take_add_one,hgi,List.map_append];rfl
   have hgo:=jq (m:=m) (q:=T[i].1) (sy:=T[i].2) o_ (fun q h=>by have:=hmv q h;omega)
   have hgr:m[r]?=some m[r]:=ge_ hrm
   have hxl:=hmv _ (List.getElem_mem hrm)
   have hxm:=hmm _ (List.getElem_mem hrm)
   have hF:qhj E' T m T[i]=m[r].mov.foldl (K8 E' T r) []:=by
    unfold qhj Xz
    rw[hr,show ((r:Int)).toNat=r from rfl,hgr];rfl
   rw[hr]at hgo
   rw[hF]at hst
   have hel:=hT7.1
   rw[List.length_map,List.length_take]at hel
   generalize m[r]=x at *
   generalize T[i]=t at *
   obtain ⟨t1,t2⟩:=t
   obtain ⟨xk,xm⟩:=x
   dsimp only at hgo hxl hst hxm
   repeat' with_reducible first
    |refine s_ ?_
    |simp only[wZZ,seval,g1,g5,g6,g8,hz,g7]
    |apply qa<;>intro h h_<;>(try simp only[wD,reduceCtorEq]at h_)<;>(try exact wb_)<;>(try simp only[h])
    |refine t_ ?_
    |refine cq3 hgo qc qc qc ?_
   refine qb ?nx2 (fun(j:Nat) s=>s.f 1=?v2_1∧s.f 5=?v2_5∧s.f 6=?v2_6∧s.f 8=?v2_8∧s.f 10=?v2_10∧(∃c,s.f 9=.sl 1 c (((xm.take j).foldl (K8 E' T r) []).map (V.int .i64)))∧s.f 11=vi j∧(j≤xm.length)∧(Gr s.H s.next 1 es v7)∧(s.f 7=v7)) (fun j=>xm.length - j) (0) wj_ (by refine⟨?_,?_,?_,?_,?_,?_,?_,wo_,(by exact hG7.mono wg_ (fun j h1 h2=>hh_)),(by(try simp only[wL,wM,wN,seval,g1,g5,g6,g8]);first|done|rfl|exact g7)⟩<;>first|(simp only[wL,wM,wN,wX,seval,Option.some.injEq,g1,g5,g6,g8]<;>exact wt_)|rfl|exact⟨_,rfl⟩) ?_
   intro j s hnx ⟨g1,g5,g6,g8,g10,⟨c9,g9⟩,g11,k2_0,k2_1,g7⟩
   have hzj:=w1_ j
   have hln:=qct E' T r (xm.take j) []
   rw[List.length_take,List.length_nil]at hln
   by_cases hj:j<xm.length
   · have hgj:xm[j]?=some xm[j]:=ge_ hj
     have hst2:=zY (K8 E' T r) [] hgj
     have hsy:=(hxm _ (List.getElem_mem hj)).1
     generalize (xm.take j).foldl (K8 E' T r) []=U at *
     generalize xm[j]=p at *
     obtain ⟨p1,p2⟩:=p
     dsimp only at hsy
     have hput:=zM (l:=U) (x:=qaT T r p1) o_
     have hnum:=yA (t:=T) (q:=r) (sy:=p1) o_
     rcases hsy with ⟨t,rfl,ht⟩|⟨k,rfl,hk⟩
     · have hst3:(xm.take (j+1)).foldl (K8 E' T r) []=U:=by rw[hst2];simp only[K8];rw[if_neg o_]
       have hlt:(t:Int)<1000:=o_
       repeat' with_reducible first
        |refine s_ ?_
        |simp only[wZZ,seval,g1,g5,g6,g8,g10,g9,g11,g7,hzj,g9]
        |(first|apply qa|apply qg|apply qh)<;>intro h h_<;>(try simp only[wD,reduceCtorEq]at h_)<;>(try exact wb_)<;>(try simp only[h])
        |refine t_ ?_
       refine⟨wg_,j+1,o_,?_⟩;(repeat refine⟨True.intro,?_⟩)
       exact⟨⟨_,by rw[hst3]⟩,rfl,o_,k2_1.mono wg_ (fun _ _ _=>rfl),trivial⟩
     · have hz1:IntKind.i64.wrap (1000+(k:Int) - 1000)=(k:Int):=by rw[wrap64 o_ o_];omega
       have hgb:(List.range g.nons.length)[k]?=some k:=List.getElem?_range hk
       rw[hbm]at *
       cases hb:E' k with
       | true=>
         have hst3:(xm.take (j+1)).foldl (K8 E' T r) []=jm U (qaT T r (1000+(k:Int))):=by rw[hst2];simp only[K8];rw[if_pos ⟨o_,by rw[show (1000+(k:Int) - 1000).toNat=k by omega];exact hb⟩]
         repeat' with_reducible first
          |refine s_ ?_
          |simp only[wZZ,seval,g1,g5,g6,g8,g10,g9,g11,g7,hzj,hz1,hb,g9]
          |(first|apply qa|apply qg|apply qh)<;>intro h h_<;>(try simp only[wD,reduceCtorEq]at h_)<;>(try exact wb_)<;>(try simp only[h])
          |refine t_ ?_
          |refine cq3 hnum qc qc qc ?_
          |refine cq2 hput jA qc ?_
         refine⟨wg_,j+1,o_,?_⟩;(repeat refine⟨True.intro,?_⟩)
         exact⟨⟨_,by rw[hst3]⟩,rfl,o_,k2_1.mono wg_ (fun _ _ _=>rfl),trivial⟩
       | false=>
         have hst3:(xm.take (j+1)).foldl (K8 E' T r) []=U:=by rw[hst2];simp only[K8];rw[if_neg (by rw[show (1000+(k:Int) - 1000).toNat=k by omega,hb];simp)]
         repeat' with_reducible first
          |refine s_ ?_
          |simp only[wZZ,seval,g1,g5,g6,g8,g10,g9,g11,g7,hzj,hz1,hb,g9]
          |(first|apply qa|apply qg|apply qh)<;>intro h h_<;>(try simp only[wD,reduceCtorEq]at h_)<;>(try exact wb_)<;>(try simp only[h])
          |refine t_ ?_
         refine⟨wg_,j+1,o_,?_⟩;(repeat refine⟨True.intro,?_⟩)
         exact⟨⟨_,by rw[hst3]⟩,rfl,o_,k2_1.mono wg_ (fun _ _ _=>rfl),trivial⟩
   · have e:xm.take j=xm:=List.take_of_length_le o_
     rw[e]at g9
     have hT':=hT7.snoc (Zt c9 (xm.foldl (K8 E' T r) []))
     rw[← hst]at hT'
     repeat' with_reducible first
      |refine s_ ?_
      |simp only[wZZ,seval,g1,g5,g6,g8,g10,g9,g11,g7,hz,g9]
      |apply qa<;>intro h h_<;>(try simp only[wD,reduceCtorEq]at h_)<;>(try exact wb_)<;>(try simp only[h])
      |refine t_ ?_
      |apply za rfl (k2_1.mono (Nat.le_refl _) (fun id h1 h2=>by(try simp only[wM]);(repeat rw[if_neg o_])));(focus(first|exact qU.sl|exact qU.asl));(focus(simp only[wZ,hel];omega));(focus(unfold maxLen;simp only[wZ,hel];omega))
     exact⟨wg_,i+1,o_,trivial,trivial,trivial,rfl,o_,_,_,rfl,Gr.tok (id:=s.next+8+3) (fin:=es.length+1) hh_ wg_,hT'⟩
 · have e:i=T.length:=o_
   subst e
   rw[List.take_length]at hT7
   skip
   repeat' with_reducible first
    |refine s_ ?_
    |simp only[wZZ,seval,g1,g5,g6,g8,g7]
   refine qA rfl (Or.inr rfl) ?_
   (simp only[wL,seval])
   exact hG7.erL hT7.erL.up
end Go.Proofs
