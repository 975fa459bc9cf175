/- Part of a proof that a law of the given program answers true. -/
import Derived.Test.YthgkeppkcjcmjaaTNE
import Derived.Test.YthgkeppkcjcmjaaTCA
set_option linter.unusedSimpArgs false
set_option linter.unusedVariables false
set_option maxHeartbeats 4000000
namespace Go.Proofs
open Go.E
mutual
def jR (H:Nat→Option MObj) (S:Nat→Prop):Nd→V→Prop
 |.mk s p a ks,v=> ∃kv,v=.agg [vi s,vi p,vi a,kv]∧((ks=[]∧kv=.sl 4 true [])∨ ∃id es,kv=.msl id 4 0 es.length∧S id∧H id=some (.own 4 es false)∧qV H S ks es)
def qV (H:Nat→Option MObj) (S:Nat→Prop):List Nd→List V→Prop
 |[],es=>es=[]
 |k::r,es=> ∃e es',es=e::es'∧jR H S k e∧qV H S r es'
end
mutual
theorem jR.mono {H H':Nat→Option MObj} {S S':Nat→Prop} (hh: ∀j,S j→S' j∧H' j=H j): ∀(t:Nd) (v:V),jR H S t v→jR H' S' t v
 | .mk s p a ks,v,h=>by
   rw[jR]at h ⊢
   obtain ⟨kv,e,h|⟨id,es,h1,h2,h3,h4⟩⟩:=h
   · exact⟨kv,e,Or.inl h⟩
   · exact⟨kv,e,Or.inr ⟨id,es,h1,(hh id h2).1,(hh id h2).2.trans h3,qV.mono hh ks es h4⟩⟩
theorem qV.mono {H H':Nat→Option MObj} {S S':Nat→Prop} (hh: ∀j,S j→S' j∧H' j=H j): ∀(l:List Nd) (es:List V),qV H S l es→qV H' S' l es
 |[],es,h=>by rw[qV]at h ⊢;exact h
 | k::r,es,h=>by
   rw[qV]at h ⊢
   obtain ⟨e,es',h1,h2,h3⟩:=h
   exact⟨e,es',h1,jR.mono hh k e h2,qV.mono hh r es' h3⟩
end
mutual
theorem jR.er {H:Nat→Option MObj} {S:Nat→Prop}: ∀(t:Nd) (v:V),jR H S t v→Er true H v t.V
 | .mk s p a ks,v,h=>by
   rw[jR]at h
   rw[Nd.V]
   obtain ⟨kv,rfl,⟨rfl,rfl⟩|⟨id,es,rfl,h2,h3,h4⟩⟩:=h
   · exact ErL.agg (.cons (.int _ _) (.cons (.int _ _) (.cons (.int _ _) (.cons (ErL.sl .nil) .nil))))
   · exact ErL.agg (.cons (.int _ _) (.cons (.int _ _) (.cons (.int _ _) (.cons (VA h3 (qV.er ks es h4) rfl) .nil))))
theorem qV.er {H:Nat→Option MObj} {S:Nat→Prop}: ∀(l:List Nd) (es:List V),qV H S l es→ErL true H es (Nd.Vs l)
 |[],es,h=>by rw[qV]at h;subst h;exact .nil
 | k::r,es,h=>by
   rw[qV]at h
   obtain ⟨e,es',rfl,h2,h3⟩:=h
   rw[Nd.Vs]
   exact .cons (jR.er k e h2) (qV.er r es' h3)
end
theorem qV.len {H:Nat→Option MObj} {S:Nat→Prop}: ∀{l:List Nd} {es:List V},qV H S l es→es.length=l.length
 |[],es,h=>by rw[qV]at h;subst h;rfl
 | k::r,es,h=>by
   rw[qV]at h
   obtain ⟨e,es',rfl,h2,h3⟩:=h
   rw[List.length_cons,List.length_cons,h3.len]
theorem qV.snoc {H:Nat→Option MObj} {S:Nat→Prop} {k:Nd} {e:V} (hk:jR H S k e): ∀{l:List Nd} {es:List V},qV H S l es→qV H S (l++[k]) (es++[e])
 | [],es,h=>by
   rw[qV]at h;subst h
   rw[List.nil_append,qV]
   exact⟨e,[],rfl,hk,by rw[qV]⟩
 | x::r,es,h=>by
   rw[qV]at h
   obtain ⟨e',es',rfl,h2,h3⟩:=h
   rw[List.cons_append,qV]
   exact⟨e',es'++[e],rfl,h2,qV.snoc hk h3⟩
theorem qV.rev {H:Nat→Option MObj} {S:Nat→Prop}: ∀{l:List Nd} {es:List V},qV H S l es→qV H S l.reverse es.reverse
 |[],es,h=>by rw[qV]at h;subst h;rw[List.reverse_nil,qV];rfl
 | k::r,es,h=>by
   rw[qV]at h
   obtain ⟨e,es',rfl,h2,h3⟩:=h
   rw[List.reverse_cons,List.reverse_cons]
   exact(qV.rev h3).snoc h2
theorem jR.shape {H:Nat→Option MObj} {S:Nat→Prop} {t:Nd} {v:V} (h:jR H S t v): ∃kv,v=.agg [vi t.sym,vi t.prod,vi t.at_,kv]∧kv.cells=[kv]∧kv.okCell=true∧kv.isAgg=false:=by
 obtain ⟨s,p,a,ks⟩:=t
 rw[jR]at h
 obtain ⟨kv,rfl,⟨rfl,rfl⟩|⟨id,es,rfl,h2,h3,h4⟩⟩:=h
 · exact⟨_,rfl,rfl,rfl,rfl⟩
 · exact⟨_,rfl,rfl,rfl,rfl⟩
def Is4 (v:V):Prop:=v.cells.length=4∧v.okCell=true∧v.isAgg=true
theorem jR.is4 {H:Nat→Option MObj} {S:Nat→Prop} {t:Nd} {v:V} (h:jR H S t v):Is4 v:=by
 obtain ⟨kv,rfl,h1,h2,h3⟩:=h.shape
 exact⟨rfl,by simp[V.okCell,h2],rfl⟩
theorem qV.is4 {H:Nat→Option MObj} {S:Nat→Prop}: ∀{l:List Nd} {es:List V},qV H S l es→ ∀e∈es,Is4 e
 |[],es,h=>by rw[qV]at h;subst h;intro e he;cases he
 | k::r,es,h=>by
   rw[qV]at h
   obtain ⟨e,es',rfl,h2,h3⟩:=h
   intro x hx
   rcases List.mem_cons.1 hx with rfl|hx
   · exact h2.is4
   · exact qV.is4 h3 x hx
theorem qiz {K:St→Prop} {s:St} {id k:Nat} {es:List V} {v:V} {o:Option MObj} (hO:o=some (.own 4 es false)) (hk:k<es.length) (hv:Is4 v) (ha: ∀e∈es,Is4 e)
 (hK:K (s.setO id (some (.own 4 (es.set k v) false)))):onS (stQ s o 4 id k 0 v) K:=by
 subst hO
 have e:es[k]?=some es[k]:=ge_ hk
 have e2:stQ s (some (.own 4 es false)) 4 id k 0 v=some (s.setO id (some (.own 4 (es.set k v) false))):=by
  simp[stQ,e,hv.1,hv.2.1,zZ,hv.2.2,(ha _ (List.getElem_mem hk)).2.2]
 rw[e2];exact hK
theorem qib {K:V→Prop} {k:Nat} {es:List V} {v:V} {o:Option MObj} (hO:o=some (.own 4 es false)) (hx:es[k]?=some v) (ha:Is4 v) (hk:K v):onS (ldQ o true 4 k 0) K:=by
 subst hO
 have e:ldQ (some (.own 4 es false)) true 4 k 0=some v:=by simp[ldQ,hx,zX,ha.2.2]
 rw[e];exact hk
theorem Is4.set {es:List V} {k:Nat} {v:V} (h: ∀e∈es,Is4 e) (hv:Is4 v): ∀e∈es.set k v,Is4 e:=fun e he=>by
 rcases List.mem_or_eq_of_mem_set he with he|rfl
 · exact h e he
 · exact hv
def qS1 (es:List V) (i:Nat) (o:Option MObj):Prop:= ∃es':List V,o=some (.own 4 es' false)∧es'.length=es.length∧(∀e∈es',Is4 e)∧ ∀k,k<es.length→es'[k]?=if k<i∨es.length≤k+i then es[es.length - 1 - k]? else es[k]?
theorem qpQ {H:Nat→Option MObj} {next:Nat}:qZ Try.prog 86 [.sl 4 true []] H next (fun v H' n'=>next≤n'∧ ∀j,j<next→H' j=H j):=by
 refine qO Try.func86 nm_ qjH (by show 1≤28;decide) ?_
 show ewp _ qfT _ _
 repeat' with_reducible first
  |refine s_ ?_
  |simp only[wZZ,seval]
  |simp(disch:=omega) only[w64,if_neg]
 refine qb ?nx1 (fun(i:Nat) s=>s.f 0=?v1_0∧s.f 2=vi 0∧s.f 3=vi (-1)∧((∀j,j<next→s.H j=H j))) (fun i=>0) (0) wj_ (by refine⟨?_,?_,?_,(by intro j hj;rfl)⟩<;>first|(simp only[wL,wM,wN,wX,seval,Option.some.injEq]<;>exact wt_)|rfl|exact⟨_,rfl⟩) ?_
 intro i s hnx ⟨g0,g2,g3,k1_0⟩
 repeat' with_reducible first
  |refine s_ ?_
  |simp only[wZZ,seval,g0,g2,g3]
 exact Qt rfl (Or.inl rfl) ⟨wg_,fun j hj=>by((try simp only[wM]);(repeat first|rw[if_pos trivial]|rw[if_pos rfl]|rw[if_neg o_]));exact k1_0 j hj⟩
theorem qlW {H:Nat→Option MObj} {next id:Nat} {es:List V} (hH:H id=some (.own 4 es false)) (hl:es.length≤1000000000) (h4: ∀e∈es,Is4 e) (hid:id<next):qZ Try.prog 86 [.msl id 4 0 es.length] H next (fun v H' n'=>next≤n'∧H' id=some (.own 4 es.reverse false)∧ ∀j,j<next→j≠id→H' j=H j):=by
 refine qO Try.func86 nm_ qjH (by show 1≤28;decide) ?_
 show ewp _ qfT _ _
 have hz0:IntKind.i64.wrap ((es.length:Int) - 1)=(es.length:Int) - 1:=wrap64 o_ o_
 repeat' with_reducible first
  |refine s_ ?_
  |simp only[wZZ,seval,hz0]
 refine qb ?nx1 (fun(i:Nat) s=>s.f 0=?v1_0∧s.f 2=vi i∧s.f 3=vi ((es.length:Int) - ((i+1:Nat):Int))∧(2 *i≤es.length)∧(qS1 es i (s.H id))∧((∀j,j<next→j≠id→s.H j=H j))) (fun i=>es.length - i) (0) wj_ (by refine⟨?_,?_,?_,wo_,(by exact⟨es,hH,rfl,h4,fun k hk=>by rw[if_neg o_]⟩),(by intro j h1 h2;rfl)⟩<;>first|(simp only[wL,wM,wN,wX,seval,Option.some.injEq]<;>exact wt_)|rfl|exact⟨_,rfl⟩) ?_
 intro i s hnx ⟨g0,g2,g3,k1_0,k1_1,k1_2⟩
 obtain ⟨es',k1,k2,k3,k4⟩:=k1_1
 have hz:=w1_ i
 have hz2:IntKind.i64.wrap ((es.length:Int) - ((i+1:Nat):Int) - 1)=(es.length:Int) - ((i+1+1:Nat):Int):=by rw[wrap64 o_ o_];omega
 by_cases hi:2 *i+1<es.length
 · have hj:((es.length:Int) - ((i+1:Nat):Int)).toNat=es.length - 1 - i:=o_
   have h1:es'[i]?=some es'[i]:=ge_ o_
   have h2:es'[es.length - 1 - i]?=some es'[es.length - 1 - i]:=ge_ o_
   have i1:=k3 _ (List.getElem_mem (show i<es'.length by omega))
   have i2:=k3 _ (List.getElem_mem (show es.length - 1 - i<es'.length by omega))
   have e1:es[i]?=some es'[i]:=by rw[← h1,k4 i o_,if_neg o_]
   have e2:es[es.length - 1 - i]?=some es'[es.length - 1 - i]:=by rw[← h2,k4 _ o_,if_neg o_]
   generalize es'[i]=x1 at *
   generalize es'[es.length - 1 - i]=x2 at *
   repeat' with_reducible first
    |refine s_ ?_
    |simp only[wZZ,seval,g0,g2,g3,hz,hz2,hj]
    |apply qa<;>intro h h_<;>(try simp only[wD,reduceCtorEq]at h_)<;>(try exact wb_)<;>(try simp only[h])
    |apply zm;omega;omega
    |(refine qib (v:=x2) k1 h2 i2 ?_)
    |(refine qib (v:=x1) k1 h1 i1 ?_)
    |(refine qiz k1 o_ i2 k3 ?_)
    |(refine qiz (es:=es'.set i x2) rfl (by rw[List.length_set];omega) i1 (Is4.set k3 i2) ?_)
    |simp(disch:=omega) only[w64,if_neg]
   refine⟨wg_,i+1,o_,?_⟩;(repeat refine⟨True.intro,?_⟩)
   refine⟨rfl,rfl,o_,⟨_,rfl,by rw[List.length_set,List.length_set,k2],Is4.set (Is4.set k3 i2) i1,fun k hk=>?_⟩,fun j h1 h2=>by rw[if_neg h2];exact k1_2 j h1 h2⟩
   rw[List.getElem?_set,List.getElem?_set]
   by_cases hk1:k=es.length - 1 - i
   · subst hk1
     rw[if_pos rfl,if_pos (by rw[List.length_set];omega),if_pos o_,show es.length - 1 - (es.length - 1 - i)=i by omega,e1]
   · rw[if_neg (Ne.symm hk1)]
     by_cases hk2:k=i
     · subst hk2
       rw[if_pos rfl,if_pos o_,if_pos o_,e2]
     · rw[if_neg (Ne.symm hk2),k4 k hk]
       by_cases c:k<i∨es.length≤k+i
       · rw[if_pos c,if_pos o_]
       · rw[if_neg c,if_neg o_]
 · have e:es'=es.reverse:=List.ext_getElem? fun k=>by
    by_cases hk:k<es.length
    · rw[k4 k hk,List.getElem?_reverse hk]
      split
      · rfl
      · have:es.length - 1 - k=k:=o_
        rw[this]
    · rw[List.getElem?_eq_none o_,List.getElem?_eq_none (by rw[List.length_reverse];omega)]
   subst e
   repeat' with_reducible first
    |refine s_ ?_
    |simp only[wZZ,seval,g0,g2,g3]
    |apply qa<;>intro h h_<;>(try simp only[wD,reduceCtorEq]at h_)<;>(try exact wb_)<;>(try simp only[h])
   exact Qt rfl (Or.inl rfl) ⟨wg_,by((try simp only[wM]);(repeat first|rw[if_pos trivial]|rw[if_pos rfl]|rw[if_neg o_]));exact k1,fun j h1 h2=>by((try simp only[wM]);(repeat first|rw[if_pos trivial]|rw[if_pos rfl]|rw[if_neg o_]));exact k1_2 j h1 h2⟩

theorem kC {ef:EF} {Q:V→(Nat→Option MObj)→Nat→Prop} {t u n id:Nat} {ag ro:Bool} {v w:V} {e:Exit} {s:St} (he:ef.res=[.inr (t,ag,n),.inl u]) (hx:e=.normal∨e=.ret) (hp:s.f t=.ptr id 0 0) (hH:s.H id=some (.own n [v] ro)) (ha:v.isAgg=ag) (hu:s.f u=w)
 (h:Q (.tup [v,w]) s.H s.next):jI ef Q e s:=by
 have hv:zb s ag n (s.f t)=some v:=by
  rw[hp]
  simp only[zb,hH,List.getElem?_cons_zero,zX,ha,and_self,if_true]
 exact⟨hx,_,by rw[he];simp[Y2,YK,hv,one,hu],h⟩
abbrev bdV (g:Grammar) (P T:List Int) (n:Int):V:= .agg [.sl 6 false (g.toks.map Tok.V),.sl 2 false (g.nons.map Non.V),.sl 6 false (g.prods.map GPr.V),.str g.pro,.str g.tail,.sl 1 false (P.map (V.int .i64)),.sl 1 false (T.map (V.int .i64)),vi n]
abbrev ndZ:V:= .agg [.int .i64 0,.int .i64 0,.int .i64 0,.sl 4 true []]
def qPk (g:Grammar) (H:Nat→Option MObj) (next bi:Nat) (r:qGN):V→(Nat→Option MObj)→Nat→Prop:=fun v H' n'=>next≤n'∧(∀j,j<next→j≠bi→H' j=H j)∧match r with
 |none=>v=.tup [ndZ,.bool false]∧ ∃x,H' bi=some (.own 8 [x] false)
 |some (t,P',T',m)=> ∃tv,v=.tup [tv,.bool true]∧jR H' (fun j=>next≤j∧j<n') t tv∧H' bi=some (.own 8 [bdV g P' T' m] false)
structure BIn (g:Grammar) (H:Nat→Option MObj) (next bi:Nat) (P T:List Int) (n:Nat):Prop where
 hb:H bi=some (.own 8 [bdV g P T n] false)
 lb:bi<next
 hP:P.length≤1000000000
 hT:T.length≤1000000000
 hn:n≤1000000000
theorem qa9 {f:Int→List Int→List Int→Nat→qGN} (hf: ∀s P T n t P' T' m,f s P T n=some (t,P',T',m)→P'.length≤P.length∧T'.length≤T.length∧m<n): ∀(l P T:List Int) (n:Nat) ks P' T' m,Xi f l P T n=some (ks,P',T',m)→P'.length≤P.length∧T'.length≤T.length∧m≤n
 |[],P,T,n,ks,P',T',m,h=>by rw[Xi]at h;cases h;exact⟨Nat.le_refl _,Nat.le_refl _,Nat.le_refl _⟩
 | s ::l,P,T,n,ks,P',T',m,h=>by
   rw[Xi]at h
   cases h1:f s P T n with
   |none=>rw[h1]at h;cases h
   | some q=>
     obtain ⟨k,P1,T1,n1⟩:=q
     rw[h1]at h
     dsimp only at h
     cases h2:Xi f l P1 T1 n1 with
     |none=>rw[h2]at h;cases h
     | some q=>
       obtain ⟨ks2,P2,T2,n2⟩:=q
       rw[h2]at h
       cases h
       have a:=hf _ _ _ _ _ _ _ _ h1
       have b:=qa9 hf l P1 T1 n1 _ _ _ _ h2
       omega
theorem qia {g : Grammar}: ∀(d:Nat) s P T n t P' T' m,bld g d s P T n=some (t,P',T',m)→P'.length≤P.length∧T'.length≤T.length∧m<n
 |0,s,P,T,n,t,P',T',m,h=>by rw[bld]at h;cases h
 | d + 1, s, P,T,n,t,P',T',m,h=>by
   rw[bld]at h
   split at h
   · cases h
   · split at h
     · split at h
       · cases h
       · split at h
         · cases h
           rw[List.length_dropLast];omega
         · cases h
     · split at h
       · cases h
       · split at h
         · cases h
         · split at h
           · cases h
           · split at h
             · split at h
               · cases h
               · rename_i h5
                 cases h
                 have:=qa9 (qia d) _ _ _ _ _ _ _ _ h5
                 rw[List.length_dropLast]at this
                 omega
             · cases h
def mid:V→Option Nat
 |.msl id _ _ _=>some id
 | _=>none
theorem qGs {cls:Cls} {id:Nat} {s:St} {K:V→St→Prop} {z bytes:Nat} {vx vy:V} {xs ys:List V} {H:Nat→Option MObj} {base next:Nat} (hcl:cls=.any)
 (hg:GrM H base next z xs vx) (hH:s.H=H) (hs:qU s.H z ys vy) (hb:(xs.length+ys.length) *bytes≤140737488355328) (hl:xs.length+ys.length≤maxLen)
 (hk: ∀H',H' id=some (.own z (xs++ys) false)→(∀j,j≠id→mid vx≠some j→H' j=s.H j)→K (.msl id z 0 (xs++ys).length) {s with H:=H'}):Vr cls id s K true z bytes vx vy:=by
 unfold Vr
 rw[hs.1 s rfl]
 refine⟨fun e=>(by rw[hcl]at e;cases e),?_⟩
 rcases hg with ⟨rfl,rfl⟩|⟨i,rfl,h1,h2,h3⟩
 · have e:qW id s true z (.sl z true []) ys=some (.msl id z 0 ys.length,s.setO id (some (.own z ys false)),ys.length):=by simp[qW]
   rw[e]
   refine⟨by simpa using hb,by simpa using hl,?_⟩
   exact hk (fun i=>if i=id then some (.own z ys false)else s.H i) (by simp) (fun j hj _=>by simp[hj])
 · rw[← hH]at h1
   have e:qW id s true z (.msl i z 0 xs.length) ys=some (.msl id z 0 (xs.length+ys.length),(s.setO i none).setO id (some (.own z (xs++ys) false)),xs.length+ys.length):=by simp[qW,h1]
   rw[e]
   refine⟨hb,hl,?_⟩
   have:=hk (fun j=>if j=id then some (.own z (xs++ys) false)else if j=i then none else s.H j) (by simp) (fun j hne hj=>by simp[hne,show j≠i from fun e=>hj (by rw[e];rfl)])
   rw[List.length_append]at this
   exact this
theorem GrM.mono {H H':Nat→Option MObj} {base next n' z:Nat} {es:List V} {v:V} (h:GrM H base next z es v) (hn:next≤n') (hh: ∀j,base≤j→j<next→H' j=H j):GrM H' base n' z es v:=by
 rcases h with h|⟨id,h1,h2,h3,h4⟩
 · exact Or.inl h
 · exact Or.inr ⟨id,h1,(hh id h3 h4).trans h2,h3,o_⟩
theorem GrM.mid {H:Nat→Option MObj} {base next z:Nat} {es:List V} {v:V} (h:GrM H base next z es v): ∀j,(j<base∨next≤j)→Go.Proofs.mid v≠some j:=fun j hj e=>by
 rcases h with ⟨_,rfl⟩|⟨id,rfl,h2,h3,h4⟩
 · cases e
 · cases e;omega
structure KidB (s:St) (g:Grammar) (d bi r8 lo:Nat) (right P0 T0:List Int) (n0 i:Nat) (y p:Int) (P T:List Int) (n:Nat) (ks:List Nd) (kv:V) (es:List V):Prop where
 hb:s.H bi=some (.own 8 [bdV g P T n] false)
 o8:s.H r8=some (.own 4 [.agg [vi y,vi p,vi (-1),kv]] false)
 bl:Xi (bld g d) (right.reverse.take i) P0 T0 n0=some (ks,P,T,n)
 gr:GrM s.H lo s.next 4 es kv
 nd:qV s.H (fun j=>lo≤j∧j<s.next∧mid kv≠some j) ks es
 ln:ks.length=i
theorem Vu {H :Nat→Option MObj} {next bi d n:Nat} {g:Grammar} {P T:List Int} {y:Int} (hg:GOk g) (IH: ∀(H:Nat→Option MObj) (next n1:Nat) (P T:List Int) (s:Int),n1<n→BIn g H next bi P T n1→qZ Try.prog 65 [.ptr bi 0 0,vi s] H next (qPk g H next bi (bld g d s P T n1))) (hI:BIn g H next bi P T n):qZ Try.prog 65 [.ptr bi 0 0,vi y] H next (qPk g H next bi (bld g (d+1) y P T n)):=by
 refine qO Try.func65 nm_ qmf (by show 2≤172;decide) ?_
 show ewp _ qex _ _
 obtain ⟨hb,hlb,hP,hT,hn⟩:=hI
 have hz:IntKind.i64.wrap ((n:Int) - 1)=(n:Int) - 1:=wrap64 o_ o_
 have hzT:IntKind.i64.wrap ((T.length:Int) - 1)=(T.length:Int) - 1:=wrap64 o_ o_
 have hzP:IntKind.i64.wrap ((P.length:Int) - 1)=(P.length:Int) - 1:=wrap64 o_ o_
 rw[bld]
 by_cases h0:n=0
 · rw[if_pos h0]
   repeat' with_reducible first
    |refine s_ ?_
    |simp only[wZZ,seval,hb,hz]
    |apply qa<;>intro h h_<;>(try simp only[wD,reduceCtorEq]at h_)<;>(try exact wb_)<;>(try simp only[h])
    |refine t_ ?_
    |simp(disch:=omega) only[w64,if_neg]
   exact kC (t:=4) (u:=5) (id:=next) (ro:=false) rfl (Or.inr rfl) l_ hh_ rfl l_ ⟨wg_,fun j h1 h2=>hh_,rfl,_,hh_⟩
 · rw [if_neg h0]
   replace hz:IntKind.i64.wrap ((n:Int) - 1)=((n - 1:Nat):Int):=by rw[hz];omega
   by_cases hy:y<1000
   · rw [if_pos hy,List.getLast?_eq_getElem?,List.dropLast_eq_take]
     cases hx:T[T.length - 1]? with
     | none=>
       have hT0:T.length=0:=by have:=List.getElem?_eq_none_iff.1 hx;omega
       repeat' with_reducible first
        |refine s_ ?_
        |simp only[wZZ,seval,hb,hz,hzT]
        |(first|apply qa|apply qg|apply qh)<;>intro h h_<;>(try simp only[wD,reduceCtorEq]at h_)<;>(try exact wb_)<;>(try simp only[h])
        |refine t_ ?_
        |simp(disch:=omega) only[w64,if_neg]
       all_goals first|(exfalso;omega)|(exact kC (t:=4) (u:=5) (id:=next) (ro:=false) rfl (Or.inr rfl) l_ hh_ rfl l_ ⟨wg_,fun j h1 h2=>hh_,rfl,_,hh_⟩)
     | some x=>
       have hx':T[((T.length:Int) - 1).toNat]?=some x:=by rw[← hx];congr 1;omega
       have hTl:=(List.getElem?_eq_some_iff.1 hx).1
       dsimp only
       by_cases hxy:x=y
       · rw[if_pos hxy]
         repeat' with_reducible first
          |refine s_ ?_
          |simp only[wZZ,seval,hb,hz,hzT]
          |(first|apply qa|apply qg|apply qh)<;>intro h h_<;>(try simp only[wD,reduceCtorEq]at h_)<;>(try exact wb_)<;>(try simp only[h])
          |refine t_ ?_
          |apply yX;omega;exact wf_
          |simp(disch:=omega) only[w64,if_neg]
         all_goals first|(exfalso;omega)|(exact kC (t:=4) (u:=5) (id:=next) (ro:=false) rfl (Or.inr rfl) l_ hh_ rfl l_ ⟨wg_,fun j h1 h2=>hh_,_,rfl,by rw[jR];exact⟨_,rfl,Or.inl ⟨rfl,rfl⟩⟩,by((try simp only[wM]);(repeat first|rw[if_pos trivial]|rw[if_pos rfl]|rw[if_neg o_]));rw[show ((T.length:Int) - 1).toNat=T.length - 1 by omega]⟩)
       · rw[if_neg hxy]
         repeat' with_reducible first
          |refine s_ ?_
          |simp only[wZZ,seval,hb,hz,hzT]
          |(first|apply qa|apply qg|apply qh)<;>intro h h_<;>(try simp only[wD,reduceCtorEq]at h_)<;>(try exact wb_)<;>(try simp only[h])
          |refine t_ ?_
          |simp(disch:=omega) only[w64,if_neg]
         all_goals first|(exfalso;omega)|(exact kC (t:=4) (u:=5) (id:=next) (ro:=false) rfl (Or.inr rfl) l_ hh_ rfl l_ ⟨wg_,fun j h1 h2=>hh_,rfl,_,hh_⟩)
   · rw [if_neg hy,List.getLast?_eq_getElem?,List.dropLast_eq_take]
     cases hx:P[P.length - 1]? with
     | none=>
       have hP0:P.length=0:=by have:=List.getElem?_eq_none_iff.1 hx;omega
       repeat' with_reducible first
        |refine s_ ?_
        |simp only[wZZ,seval,hb,hz,hzT,hzP]
        |(first|apply qa|apply qg|apply qh)<;>intro h h_<;>(try simp only[wD,reduceCtorEq]at h_)<;>(try exact wb_)<;>(try simp only[h])
        |refine t_ ?_
        |simp(disch:=omega) only[w64,if_neg]
       all_goals first|(exfalso;omega)|(exact kC (t:=4) (u:=5) (id:=next) (ro:=false) rfl (Or.inr rfl) l_ hh_ rfl l_ ⟨wg_,fun j h1 h2=>hh_,rfl,_,hh_⟩)
     | some p =>
       have hx':P[((P.length:Int) - 1).toNat]?=some p:=by rw[← hx];congr 1;omega
       have hPl:=(List.getElem?_eq_some_iff.1 hx).1
       dsimp only
       by_cases hp0:p<0
       · rw[if_pos hp0]
         repeat' with_reducible first
          |refine s_ ?_
          |simp only[wZZ,seval,hb,hz,hzT,hzP]
          |(first|apply qa|apply qg|apply qh)<;>intro h h_<;>(try simp only[wD,reduceCtorEq]at h_)<;>(try exact wb_)<;>(try simp only[h])
          |refine t_ ?_
          |simp(disch:=omega) only[w64,if_neg]
         all_goals first|(exfalso;omega)|(exact kC (t:=4) (u:=5) (id:=next) (ro:=false) rfl (Or.inr rfl) l_ hh_ rfl l_ ⟨wg_,fun j h1 h2=>hh_,rfl,_,hh_⟩)
       · rw [if_neg hp0]
         obtain ⟨m,rfl⟩: ∃m:Nat,p=m:=⟨p.toNat,o_⟩
         rw[Int.toNat_natCast]
         cases hpr:g.prods[m]? with
         | none=>
           have hml:=List.getElem?_eq_none_iff.1 hpr
           repeat' with_reducible first
            |refine s_ ?_
            |simp only[wZZ,seval,hb,hz,hzT,hzP]
            |(first|apply qa|apply qg|apply qh)<;>intro h h_<;>(try simp only[wD,reduceCtorEq]at h_)<;>(try exact wb_)<;>(try simp only[h])
            |refine t_ ?_
            |simp(disch:=omega) only[w64,if_neg]
           all_goals first|(exfalso;omega)|(exact kC (t:=4) (u:=5) (id:=next) (ro:=false) rfl (Or.inr rfl) l_ hh_ rfl l_ ⟨wg_,fun j h1 h2=>hh_,rfl,_,hh_⟩)
         | some pr=>
           have hml:=(List.getElem?_eq_some_iff.1 hpr).1
           have hmem:=List.mem_of_getElem? hpr
           obtain ⟨lf,hlf,hln⟩:=hg.left pr hmem
           have hrl:=hg.rlen pr hmem
           have hnl:=hg.nn2
           obtain ⟨pl,prr,pc,pco,pa,pat⟩:=pr
           dsimp only at hlf hrl ⊢
           subst hlf
           have hzl:IntKind.i64.wrap (1000+(lf:Int))=1000+(lf:Int):=wrap64 o_ o_
           by_cases hy2:1000+(lf:Int)≠y
           · rw[if_neg hy2]
             repeat' with_reducible first
              |refine s_ ?_
              |simp only[wZZ,seval,hb,hz,hzT,hzP,hzl]
              |(first|apply qa|apply qg|apply qh)<;>intro h h_<;>(try simp only[wD,reduceCtorEq]at h_)<;>(try exact wb_)<;>(try simp only[h])
              |refine t_ ?_
              |simp(disch:=omega) only[w64,if_neg]
             all_goals first|(exfalso;omega)|(exact kC (t:=4) (u:=5) (id:=next) (ro:=false) rfl (Or.inr rfl) l_ hh_ rfl l_ ⟨wg_,fun j h1 h2=>hh_,rfl,_,hh_⟩)
           · replace hy2:=Classical.not_not.1 hy2
             rw[if_pos hy2]
             repeat' with_reducible first
              |refine s_ ?_
              |simp only[wZZ,seval,hb,hz,hzT,hzP,hzl]
              |(first|apply qa|apply qg|apply qh)<;>intro h h_<;>(try simp only[wD,reduceCtorEq]at h_)<;>(try exact wb_)<;>(try simp only[h])
              |refine t_ ?_
              |apply yX;omega;exact wf_
              |simp(disch:=omega) only[w64,if_neg]
             have hzr:IntKind.i64.wrap ((prr.length:Int) - 1)=(prr.length:Int) - 1:=wrap64 o_ o_
             skip
             refine qb ?nx1 (fun(i:Nat) s=>s.f 0=?v1_0∧s.f 4=?v1_4∧s.f 8=?v1_8∧s.f 9=?v1_9∧s.f 10=vi ((prr.length:Int) - ((i+1:Nat):Int))∧(i≤prr.length)∧((∃P1 T1 n1 ks kv es,KidB s g d bi (next+81) (next+82) prr (P.take (P.length - 1)) T (n - 1) i y m P1 T1 n1 ks kv es))∧((∀j,j<next→j≠bi→s.H j=H j))∧((s.H next=some (.own 4 [ndZ] false)))) (fun i=>prr.length - i) (0) wj_ (by refine⟨?_,?_,?_,?_,?_,wo_,(by exact⟨P.take (P.length - 1),T,n - 1,[],_,[],⟨by(simp only[wM];(repeat first|rw[if_pos trivial]|rw[if_pos rfl]|rw[if_neg o_]));rw[show ((P.length:Int) - 1).toNat=P.length - 1 by omega],by(simp only[wM];(repeat first|rw[if_pos trivial]|rw[if_pos rfl]|rw[if_neg o_])),rfl,Or.inl ⟨rfl,rfl⟩,by rw[qV],rfl⟩⟩),(by intro j h1 h2;(simp only[wM];(repeat first|rw[if_pos trivial]|rw[if_pos rfl]|rw[if_neg o_]))),wc_⟩<;>first|(simp only[wL,wM,wN,wX,seval,Option.some.injEq]<;>exact wt_)|rfl|exact⟨_,rfl⟩) ?_
             intro i s hnx ⟨g0,g4,g8,g9,g10,k1_0,k1_1,k1_2,k1_3⟩
             obtain ⟨P1,T1,n1,ks,kv,es,kb,k8,kbl,kgr,knd,kln⟩:=k1_1
             have hel:es.length=i:=by rw[knd.len,kln]
             have hbd:=qa9 (qia d) _ _ _ _ _ _ _ _ kbl
             rw[List.length_take]at hbd
             by_cases hi:i<prr.length
             · have hgi:prr[prr.length - 1 - i]?=some prr[prr.length - 1 - i]:=ge_ o_
               generalize prr[prr.length - 1 - i]=sy at *
               have hgi':prr[((prr.length:Int) - ((i+1:Nat):Int)).toNat]?=some sy:=by rw[← hgi];congr 1;omega
               have htk:prr.reverse.take (i+1)=prr.reverse.take i++[sy]:=by rw[List.take_add_one,List.getElem?_reverse hi,hgi];rfl
               have hzi:IntKind.i64.wrap ((prr.length:Int) - ((i+1:Nat):Int) - 1)=(prr.length:Int) - ((i+1+1:Nat):Int):=by rw[wrap64 o_ o_];omega
               have hsr:prr.reverse=(prr.reverse.take i++[sy])++prr.reverse.drop (i+1):=by rw[← htk,List.take_append_drop]
               cases hr:bld g d sy P1 T1 n1 with
               | none=>
                 have IH2: ∀(H:Nat→Option MObj) (next:Nat),BIn g H next bi P1 T1 n1→qZ Try.prog 65 [.ptr bi 0 0,vi sy] H next (fun v H' n'=>next≤n'∧(∀j,j<next→j≠bi→H' j=H j)∧v=.tup [ndZ,.bool false]∧ ∃x,H' bi=some (.own 8 [x] false)):=fun H next h=>by
                  have:=IH H next n1 P1 T1 sy o_ h
                  rw[hr]at this;exact this
                 have hall:Xi (bld g d) prr.reverse (P.take (P.length - 1)) T (n - 1)=none:=by
                  rw[hsr,Za,Za,kbl]
                  dsimp only
                  rw[Xi,hr]
                 rw[hall]
                 dsimp only
                 repeat' with_reducible first
                  |refine s_ ?_
                  |simp only[wZZ,seval,g0,g4,g8,g9,g10,hzi,kb,k8]
                  |apply qa<;>intro h h_<;>(try simp only[wD,reduceCtorEq]at h_)<;>(try exact wb_)<;>(try simp only[h])
                  |refine t_ ?_
                  |(refine zk rfl rfl rfl ((IH2 _ _ ⟨(by first|exact kb|(((try simp only[wM]);(repeat first|rw[if_pos trivial]|rw[if_pos rfl]|rw[if_neg o_]));exact kb)),wg_,o_,o_,o_⟩).mono ?_);rintro v1 H1 n1' ⟨q1,q2,rfl,xv,q3⟩;(try simp only[wN]at q1))
                  |simp(disch:=omega) only[w64,if_neg]
                 have q2': ∀j,j<s.next→j≠bi→H1 j=s.H j:=fun j h1 h2=>(q2 j wg_ h2).trans (by first|rfl|((try simp only[wM]);(repeat first|rw[if_pos trivial]|rw[if_pos rfl]|rw[if_neg o_])))
                 have o4:H1 next=some (.own 4 [ndZ] false):=(q2' next o_ o_).trans k1_3
                 repeat' with_reducible first
                  |refine s_ ?_
                  |simp only[wZZ,seval,g0,g4,g8,g9,g10,o4]
                  |refine t_ ?_
                 exact kC (t:=4) (u:=5) (id:=next) (ro:=false) rfl (Or.inr rfl) (by(simp only[wL,seval,g4])) hh_ rfl l_ ⟨wg_,fun j h1 h2=>by((try simp only[wM]);(repeat first|rw[if_pos trivial]|rw[if_pos rfl]|rw[if_neg o_]));rw[q2' j o_ h2];exact k1_2 j h1 h2,rfl,xv,by((try simp only[wM]);(repeat first|rw[if_pos trivial]|rw[if_pos rfl]|rw[if_neg o_]));exact q3⟩
               | some q=>
                 obtain ⟨t,P2,T2,n2⟩:=q
                 have IH2: ∀(H:Nat→Option MObj) (next:Nat),BIn g H next bi P1 T1 n1→qZ Try.prog 65 [.ptr bi 0 0,vi sy] H next (fun v H' n'=>next≤n'∧(∀j,j<next→j≠bi→H' j=H j)∧ ∃tv,v=.tup [tv,.bool true]∧jR H' (fun j=>next≤j∧j<n') t tv∧H' bi=some (.own 8 [bdV g P2 T2 n2] false)):=fun H next h=>by
                  have:=IH H next n1 P1 T1 sy o_ h
                  rw[hr]at this;exact this
                 repeat' with_reducible first
                  |refine s_ ?_
                  |simp only[wZZ,seval,g0,g4,g8,g9,g10,hzi,kb,k8]
                  |apply qa<;>intro h h_<;>(try simp only[wD,reduceCtorEq]at h_)<;>(try exact wb_)<;>(try simp only[h])
                  |refine t_ ?_
                  |(refine zk rfl rfl rfl ((IH2 _ _ ⟨(by first|exact kb|(((try simp only[wM]);(repeat first|rw[if_pos trivial]|rw[if_pos rfl]|rw[if_neg o_]));exact kb)),wg_,o_,o_,o_⟩).mono ?_);rintro v1 H1 n1' ⟨q1,q2,tv,rfl,q3,q4⟩;(try simp only[wN]at q1);obtain ⟨kv2,rfl,w1,w2,w3⟩:=q3.shape)
                  |simp(disch:=omega) only[w64,if_neg]
                 have q2': ∀j,j<s.next→j≠bi→H1 j=s.H j:=fun j h1 h2=>(q2 j wg_ h2).trans (by first|rfl|((try simp only[wM]);(repeat first|rw[if_pos trivial]|rw[if_pos rfl]|rw[if_neg o_])))
                 have o8:H1 (next+2+8+5+2+7+48+9)=some (.own 4 [.agg [vi y,vi m,vi (-1),kv]] false):=(q2' _ o_ o_).trans k8
                 repeat' with_reducible first
                  |simp only[wZZ,seval,g0,g4,g8,g9,g10,o8]
                  |refine t_ ?_
                 refine qGs rfl (GrM.mono kgr (Nat.le_refl _) (fun j h1 h2=>by first|(((try simp only[wM]);(repeat first|rw[if_pos trivial]|rw[if_pos rfl]|rw[if_neg o_]));done)|(((try simp only[wM]);(repeat first|rw[if_pos trivial]|rw[if_pos rfl]|rw[if_neg o_]));exact q2' j h2 o_))) rfl qU.sl (by simp only[wZ,hel];omega) (by unfold maxLen;simp only[wZ,hel];omega) (fun H2 u1 u2=>?_)
                 have hs2:H2 (next+2+8+5+2+7+48+9)=some (.own 4 [.agg [vi y,vi m,vi (-1),kv]] false):=(u2 _ wg_ (GrM.mid kgr _ (Or.inl o_))).trans (by((try simp only[wM]);(repeat first|rw[if_pos trivial]|rw[if_pos rfl]|rw[if_neg o_]));exact o8)
                 have u2': ∀j,j<n1'→j≠s.next+2+9→mid kv≠some j→H2 j=H1 j:=fun j h1 h2 h3=>(u2 j wg_ h3).trans hh_
                 (try simp only[wN]at q3)
                 repeat' with_reducible first
                  |refine s_ ?_
                  |simp only[wZZ,seval,g0,g4,g8,g9,g10,hs2,hzi]
                  |refine t_ ?_
                  |simp(disch:=omega) only[w64,if_neg]
                 refine⟨o_,i+1,o_,trivial,trivial,trivial,trivial,rfl,o_,⟨P2,T2,n2,ks++[t],V.msl (n1'+2+4) 4 0 (es++[V.agg [vi t.sym,vi t.prod,vi t.at_,kv2]]).length,es++[.agg [vi t.sym,vi t.prod,vi t.at_,kv2]],⟨?_,?_,?_,Or.inr ⟨_,rfl,?_,o_,wg_⟩,qV.snoc (jR.mono (fun j ⟨a,b⟩=>⟨⟨o_,wg_,fun e=>by cases e;omega⟩,?_⟩) _ _ q3) (qV.mono (fun j ⟨a,b,c⟩=>⟨⟨a,wg_,fun e=>by cases e;omega⟩,?_⟩) _ _ knd),by simp;omega⟩⟩,fun j h1 h2=>?_,?_⟩
                 · ((try simp only[wM]);(repeat first|rw[if_pos trivial]|rw[if_pos rfl]|rw[if_neg o_]));rw[u2' bi o_ o_ (GrM.mid kgr _ (Or.inl o_))];exact q4
                 · ((try simp only[wM]);(repeat first|rw[if_pos trivial]|rw[if_pos rfl]|rw[if_neg o_]))
                 · rw[htk,Za,kbl];dsimp only;rw[Xi,hr];dsimp only;rw[Xi]
                 · ((try simp only[wM]);(repeat first|rw[if_pos trivial]|rw[if_pos rfl]|rw[if_neg o_]));exact u1
                 · ((try simp only[wM]);(repeat first|rw[if_pos trivial]|rw[if_pos rfl]|rw[if_neg o_]));rw[u2' j o_ o_ (GrM.mid kgr _ (Or.inl o_)),q2' j o_ h2];exact k1_2 j h1 h2
                 · ((try simp only[wM]);(repeat first|rw[if_pos trivial]|rw[if_pos rfl]|rw[if_neg o_]));rw[u2' next o_ o_ (GrM.mid kgr _ (Or.inl o_))];exact(q2' next o_ o_).trans k1_3
                 · ((try simp only[wM]);(repeat first|rw[if_pos trivial]|rw[if_pos rfl]|rw[if_neg o_]));exact u2' j b o_ (GrM.mid kgr _ (Or.inr o_))
                 · ((try simp only[wM]);(repeat first|rw[if_pos trivial]|rw[if_pos rfl]|rw[if_neg o_]));rw[u2' j o_ o_ c,q2' j b o_]
             · have et:prr.reverse.take i=prr.reverse:=List.take_of_length_le (by rw[List.length_reverse];omega)
               rw[et]at kbl
               rw[kbl]
               dsimp only
               rcases kgr with ⟨rfl,rfl⟩|⟨id,rfl,ka,kb1,kb2⟩
               · have hks:ks=[]:=List.length_eq_zero_iff.1 knd.len.symm
                 subst hks
                 repeat' with_reducible first
                  |refine s_ ?_
                  |simp only[wZZ,seval,g0,g4,g8,g9,g10,kb,k8]
                  |apply qa<;>intro h h_<;>(try simp only[wD,reduceCtorEq]at h_)<;>(try exact wb_)<;>(try simp only[h])
                  |(refine zk rfl rfl rfl (qpQ.mono ?_);rintro v1 H1 n1' ⟨q1,q2⟩;(try simp only[wN]at q1))
                  |refine t_ ?_
                 have q2': ∀j,j<s.next→H1 j=s.H j:=fun j h1=>(q2 j wg_).trans (by first|rfl|((try simp only[wM]);(repeat first|rw[if_pos trivial]|rw[if_pos rfl]|rw[if_neg o_])))
                 have o8:H1 (next+2+8+5+2+7+48+9)=some (.own 4 [.agg [vi y,vi m,vi (-1),.sl 4 true []]] false):=(q2' _ o_).trans k8
                 have o4:H1 next=some (.own 4 [ndZ] false):=(q2' next o_).trans k1_3
                 repeat' with_reducible first
                  |refine QF ?_
                  |simp only[wZZ,seval,g0,g4,g8,g9,g10,o8,o4]
                  |refine t_ ?_
                 exact kC (t:=4) (u:=5) (id:=next) (ro:=false) rfl (Or.inr rfl) (by(simp only[wL,seval,g4])) hh_ rfl l_ ⟨wg_,fun j h1 h2=>by((try simp only[wM]);(repeat first|rw[if_pos trivial]|rw[if_pos rfl]|rw[if_neg o_]));rw[q2' j o_];exact k1_2 j h1 h2,_,rfl,by rw[jR];exact⟨_,rfl,Or.inl ⟨rfl,rfl⟩⟩,by((try simp only[wM]);(repeat first|rw[if_pos trivial]|rw[if_pos rfl]|rw[if_neg o_]));rw[q2' bi o_];exact kb⟩
               · repeat' with_reducible first
                  |refine s_ ?_
                  |simp only[wZZ,seval,g0,g4,g8,g9,g10,kb,k8]
                  |apply qa<;>intro h h_<;>(try simp only[wD,reduceCtorEq]at h_)<;>(try exact wb_)<;>(try simp only[h])
                  |(refine zk rfl rfl rfl ((qlW (es:=es) (by((try simp only[wM]);(repeat first|rw[if_pos trivial]|rw[if_pos rfl]|rw[if_neg o_]));exact ka) o_ knd.is4 wg_).mono ?_);rintro v1 H1 n1' ⟨q1,q2,q3⟩;(try simp only[wN]at q1))
                  |refine t_ ?_
                 have q3': ∀j,j<s.next→j≠id→H1 j=s.H j:=fun j h1 h2=>(q3 j wg_ h2).trans (by first|rfl|((try simp only[wM]);(repeat first|rw[if_pos trivial]|rw[if_pos rfl]|rw[if_neg o_])))
                 have o8:H1 (next+2+8+5+2+7+48+9)=some (.own 4 [.agg [vi y,vi m,vi (-1),.msl id 4 0 es.length]] false):=(q3' _ o_ o_).trans k8
                 have o4:H1 next=some (.own 4 [ndZ] false):=(q3' next o_ o_).trans k1_3
                 repeat' with_reducible first
                  |refine QF ?_
                  |simp only[wZZ,seval,g0,g4,g8,g9,g10,o8,o4]
                  |refine t_ ?_
                 exact kC (t:=4) (u:=5) (id:=next) (ro:=false) rfl (Or.inr rfl) (by(simp only[wL,seval,g4])) hh_ rfl l_ ⟨wg_,fun j h1 h2=>by((try simp only[wM]);(repeat first|rw[if_pos trivial]|rw[if_pos rfl]|rw[if_neg o_]));rw[q3' j o_ o_];exact k1_2 j h1 h2,_,rfl,by rw[jR];exact⟨_,rfl,Or.inr ⟨id,es.reverse,by rw[List.length_reverse],⟨o_,wg_⟩,by((try simp only[wM]);(repeat first|rw[if_pos trivial]|rw[if_pos rfl]|rw[if_neg o_]));exact q2,qV.mono (fun j ⟨a,b,c⟩=>⟨⟨o_,wg_⟩,by((try simp only[wM]);(repeat first|rw[if_pos trivial]|rw[if_pos rfl]|rw[if_neg o_]));exact q3' j b (fun e=>c (by rw[e];rfl))⟩) _ _ knd.rev⟩⟩,by((try simp only[wM]);(repeat first|rw[if_pos trivial]|rw[if_pos rfl]|rw[if_neg o_]));rw[q3' bi o_ o_];exact kb⟩

theorem qaL {g:Grammar} (hg:GOk g) (bi:Nat): ∀(d:Nat) (H:Nat→Option MObj) (next n:Nat) (P T:List Int) (s:Int),n≤d→BIn g H next bi P T n→qZ Try.prog 65 [.ptr bi 0 0,vi s] H next (qPk g H next bi (bld g (d+1) s P T n))
 |0,H,next,n,P,T,s,hn,hI=>Vu hg (fun H next n1 P T s h=>by omega) hI
 |d+1,H,next,n,P,T,s,hn,hI=>Vu hg (fun H next n1 P T s h hI=>qaL hg bi d H next n1 P T s o_ hI) hI
theorem Vv {ef:EF} {t u n id:Nat} {ag ro:Bool} {v w res:V} {e:Exit} {s:St} (he:ef.res=[.inr (t,ag,n),.inl u]) (hx:e=.normal∨e=.ret) (hp:s.f t=.ptr id 0 0) (hH:s.H id=some (.own n [v] ro)) (ha:v.isAgg=ag) (hu:s.f u=w)
 (h:Er true s.H (.tup [v,w]) res):zu ef res e s:=by
 have hv:zb s ag n (s.f t)=some v:=by
  rw[hp]
  simp only[zb,hH,List.getElem?_cons_zero,zX,ha,and_self,if_true]
 exact⟨hx,_,by rw[he];simp[Y2,YK,hv,one,hu],h⟩
def qFF (g:Grammar):Int:=((g.prods[0]?).bind fun p=>p.right[0]?).getD 0
def qcF (g:Grammar) (P T:List Int):Option Nd:=match bld g 3001 (qFF g) P T 3000 with
 |some (t,[],[],_)=>some t
 | _=>none
def qRi:Option Nd→V
 |some t=>.tup [t.V,.bool true]
 |none=>.tup [(Nd.mk 0 0 0 []).V,.bool false]
theorem qba {H:Nat→Option MObj}:Er true H (.tup [ndZ,.bool false]) (qRi none):=by
 unfold qRi
 rw[Nd.V]
 exact ErL.tup (.cons (ErL.agg (.cons (.int _ _) (.cons (.int _ _) (.cons (.int _ _) (.cons (ErL.sl .nil) .nil))))) (.cons (.bool _) .nil))
theorem qdB {g:Grammar} {P T:List Int} (hg:GOk g) (hP:P.length≤1000000000) (hT:T.length≤1000000000):Pure Try.prog 37 [g.V,.sl 1 false (P.map (V.int .i64)),.sl 1 false (T.map (V.int .i64))] (qRi (qcF g P T)):=by
 refine pure_intro Try.func37 nm_ qtf (by show 3≤48;decide) ?_
 show ewp _ qjA _ _
 obtain ⟨p0,rest,hpr,_,k,hpk,hkn⟩:=hg.head
 have hgp:g.prods[0]?=some p0:=by rw[hpr];rfl
 have hs0:qFF g=1000+(k:Int):=by unfold qFF;rw[hgp,Option.bind_some,hpk];rfl
 obtain ⟨pl,pr,pc,pco,pa,pat⟩:=p0
 dsimp only at hpk
 subst hpk
 unfold qcF
 rw[hs0]
 have hb:=qaL hg
 cases hr:bld g 3001 (1000+(k:Int)) P T 3000 with
 | none=>
   have IH2: ∀(bi:Nat) (H:Nat→Option MObj) (next:Nat),BIn g H next bi P T 3000→qZ Try.prog 65 [.ptr bi 0 0,vi (1000+(k:Int))] H next (fun v H' n'=>next≤n'∧(∀j,j<next→j≠bi→H' j=H j)∧v=.tup [ndZ,.bool false]∧ ∃x,H' bi=some (.own 8 [x] false)):=fun bi H next h=>by
    have:=hb bi 3000 H next 3000 P T (1000+(k:Int)) (Nat.le_refl _) h
    rw[hr]at this;exact this
   repeat' with_reducible first
    |refine s_ ?_
    |simp only[wZZ,seval]
    |(apply JD;(focus omega);(focus with_unfolding_all exact hgp))
    |(with_unfolding_all (refine JD (f:=V.int .i64) (l:=[1000+(k:Int)]) (x:=1000+(k:Int)) o_ rfl ?_))
    |(refine zk rfl rfl rfl ((IH2 _ _ _ ⟨by((try simp only[wM]);(repeat first|rw[if_pos trivial]|rw[if_pos rfl]|rw[if_neg o_]));with_unfolding_all rfl,wg_,hP,hT,o_⟩).mono ?_);rintro v1 H1 n1' ⟨q1,q2,rfl,xv,q3⟩;(try simp only[wN]at q1))
    |refine t_ ?_
   have o1:H1 1=some (.own 4 [ndZ] false):=(q2 1 wg_ o_).trans hh_
   repeat' with_reducible first
    |refine s_ ?_
    |simp only[wZZ,seval,o1]
    |refine t_ ?_
   exact Vv (t:=6) (u:=7) (id:=1) (n:=4) (ro:=false) (ag:=true) (v:=ndZ) rfl (Or.inr rfl) l_ hh_ rfl l_ qba
 | some q=>
   obtain ⟨t,P2,T2,n2⟩:=q
   have IH2: ∀(bi:Nat) (H:Nat→Option MObj) (next:Nat),BIn g H next bi P T 3000→qZ Try.prog 65 [.ptr bi 0 0,vi (1000+(k:Int))] H next (fun v H' n'=>next≤n'∧(∀j,j<next→j≠bi→H' j=H j)∧ ∃tv,v=.tup [tv,.bool true]∧jR H' (fun j=>next≤j∧j<n') t tv∧H' bi=some (.own 8 [bdV g P2 T2 n2] false)):=fun bi H next h=>by
    have:=hb bi 3000 H next 3000 P T (1000+(k:Int)) (Nat.le_refl _) h
    rw[hr]at this;exact this
   repeat' with_reducible first
    |refine s_ ?_
    |simp only[wZZ,seval]
    |(apply JD;(focus omega);(focus with_unfolding_all exact hgp))
    |(with_unfolding_all (refine JD (f:=V.int .i64) (l:=[1000+(k:Int)]) (x:=1000+(k:Int)) o_ rfl ?_))
    |(refine zk rfl rfl rfl ((IH2 _ _ _ ⟨by((try simp only[wM]);(repeat first|rw[if_pos trivial]|rw[if_pos rfl]|rw[if_neg o_]));with_unfolding_all rfl,wg_,hP,hT,o_⟩).mono ?_);rintro v1 H1 n1' ⟨q1,q2,tv,rfl,q3,q4⟩;(try simp only[wN]at q1);obtain ⟨kv2,rfl,w1,w2,w3⟩:=q3.shape)
    |refine t_ ?_
   have o1:H1 1=some (.own 4 [ndZ] false):=(q2 1 wg_ o_).trans hh_
   (try simp only[wN]at q3)
   cases P2 with
   | cons x l=>
     repeat' with_reducible first
      |refine s_ ?_
      |simp only[wZZ,seval,o1,q4]
      |(first|apply qg|apply qh)<;>intro h h_<;>(try simp only[wD,reduceCtorEq]at h_)<;>(try exact wb_)<;>(try simp only[h])
      |refine t_ ?_
     all_goals(exact Vv (t:=6) (u:=7) (id:=1) (n:=4) (ro:=false) (ag:=true) (v:=ndZ) rfl (Or.inr rfl) l_ hh_ rfl l_ qba)
   | nil=>
     cases T2 with
     | cons x l=>
       repeat' with_reducible first
        |refine s_ ?_
        |simp only[wZZ,seval,o1,q4]
        |apply qa<;>intro h h_<;>(try simp only[wD,reduceCtorEq]at h_)<;>(try exact wb_)<;>(try simp only[h])
        |refine t_ ?_
       all_goals(exact Vv (t:=6) (u:=7) (id:=1) (n:=4) (ro:=false) (ag:=true) (v:=ndZ) rfl (Or.inr rfl) l_ hh_ rfl l_ qba)
     | nil=>
       repeat' with_reducible first
        |refine s_ ?_
        |simp only[wZZ,seval,o1,q4]
        |refine t_ ?_
       all_goals(exact Vv (t:=6) (u:=7) (id:=1) (n:=4) (ro:=false) (ag:=true) (v:= .agg [vi t.sym,vi t.prod,vi t.at_,kv2]) rfl (Or.inr rfl) l_ hh_ rfl l_ (ErL.tup (.cons (jR.er _ _ (jR.mono (S':=fun _=>True) (fun j ⟨a,b⟩=>⟨trivial,hh_⟩) _ _ q3)) (.cons (.bool _) .nil))))
end Go.Proofs
