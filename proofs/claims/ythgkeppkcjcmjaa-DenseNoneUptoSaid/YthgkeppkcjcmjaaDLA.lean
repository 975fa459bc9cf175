/- Part of a proof that a law of the given program answers true. -/
import Derived.Test.YthgkeppkcjcmjaaDJB
import Derived.Test.YthgkeppkcjcmjaaDKA
import Derived.Test.YthgkeppkcjcmjaaDPB
set_option linter.unusedSimpArgs false
set_option linter.unusedVariables false
set_option maxHeartbeats 4000000
namespace Go.Proofs
open Go.E
def ve (token:Bool) (h:Nat→Bool) (l:List Int):Bool:=l.all fun s=>if s<1000 then token else h (s - 1000).toNat
def YN (g:Grammar) (token:Bool) (E:Nat→Bool):Prop:= ∀p∈g.prods,ve token E p.right=true→E p.left.toNat=true
structure IsGrow (g:Grammar) (token:Bool) (E:Nat→Bool):Prop where
 closed:YN g token E
 least: ∀F,YN g token F→ ∀k,E k=true→F k=true
theorem IsGrow.uniq {g:Grammar} {token:Bool} {E F:Nat→Bool} (h:IsGrow g token E) (k:IsGrow g token F):E=F:=by
 funext n
 rw[Bool.eq_iff_iff]
 exact⟨h.least F k.closed n,k.least E h.closed n⟩
theorem qdf {token:Bool} {h F:Nat→Bool} (hh: ∀k,h k=true→F k=true) {l:List Int} (hl:ve token h l=true):ve token F l=true:=by
 unfold ve at *
 rw[List.all_eq_true]at *
 intro s hs
 have:=hl s hs
 split
 · rename_i h1;rwa [if_pos h1]at this
 · rename_i h1;rw[if_neg h1]at this;exact hh _ this
def cf (h:Nat→Bool):Nat→Nat
 |0=>0
 |n+1=>cf h n+if h n=true then 0 else 1
theorem qiO {h:Nat→Bool} {k:Nat} (hk:h k=false): ∀n,(n≤k→cf (qN h k true) n=cf h n)∧(k<n→cf (qN h k true) n+1=cf h n)
 |0=>⟨fun _=>rfl,fun h=>by omega⟩
 | n +1=>by
   obtain ⟨h1,h2⟩:=qiO hk n
   unfold cf
   by_cases e:n=k
   · subst e
     have e2:qN h n true n=true:=by unfold qN;rw[if_pos rfl]
     rw[e2,h1 (Nat.le_refl _),hk]
     exact⟨fun h=>by omega,fun _=>by simp⟩
   · have e2:qN h k true n=h n:=by unfold qN;rw[if_neg e]
     rw[e2]
     exact⟨fun h=>by rw[h1 (by omega)],fun h=>by have:=h2 (by omega);omega⟩
theorem qgc (n:Nat) (h:Nat→Bool):Cls' (JJ n h):=inferInstanceAs (Cls' (List.map _ _))

theorem qfP {H:Nat→Option MObj} {id n:Nat} {ro:Bool} {h:Nat→Bool} (hH:H id=some (.own 1 (JJ n h) ro)):Er true H (.msl id 1 0 n) (.sl 1 false (JJ n h)):=by
 have:=qgc n h
 exact Qa hH (by rw[vF];omega) (by rw[List.drop_zero];exact List.take_of_length_le (by rw[vF];omega))
instance gpr_cl (p:GPr):Cl p.V:=⟨fun b H=>ErL.agg (.cons (.int _ _) (.cons qb (.cons (.int _ _) (.cons (.str _) (.cons qb (.cons (.int _ _) .nil))))))⟩
theorem GOk.rt {g:Grammar} (h:GOk g) {p:GPr} (hp:p∈g.prods): ∀s∈p.right,s<1000∨ ∃k:Nat,s=1000+(k:Int)∧k<g.nons.length:=fun s hs=>by
 rcases h.right p hp s hs with ⟨t,e,l⟩|⟨k,e,l⟩
 · have:=h.tk2;exact Or.inl (by omega)
 · exact Or.inr ⟨k,e,l⟩

abbrev jU (l:List Int):Prop:=l.Pairwise (· < ·)
theorem Xk: ∀{a b:List Int},jU a→jU b→(∀x,x∈a↔x∈b)→a=b
 |[],[],_,_,_=>rfl
 |[],y::b,_,_,h=>absurd ((h y).2 (List.mem_cons_self ..)) (by simp)
 |x::a,[],_,_,h=>absurd ((h x).1 (List.mem_cons_self ..)) (by simp)
 | x ::a,y::b,ha,hb,h=>by
   have ha':=List.pairwise_cons.1 ha
   have hb':=List.pairwise_cons.1 hb
   have hxy:x=y:=by
    have h1:=(h x).1 (List.mem_cons_self ..)
    have h2:=(h y).2 (List.mem_cons_self ..)
    rcases List.mem_cons.1 h1 with e|e
    · exact e
    · rcases List.mem_cons.1 h2 with e2|e2
      · exact e2.symm
      · have:=hb'.1 x e;have:=ha'.1 y e2;omega
   subst hxy
   congr 1
   refine Xk ha'.2 hb'.2 fun z=>?_
   have hz:=h z
   simp only[List.mem_cons]at hz
   constructor
   · intro hm
     rcases hz.1 (Or.inr hm)with e|e
     · subst e;have:=ha'.1 z hm;omega
     · exact e
   · intro hm
     rcases hz.2 (Or.inr hm)with e|e
     · subst e;have:=hb'.1 z hm;omega
     · exact e
theorem qps (l:List Int) (x:Int) (n:Nat): ∀i,YL l x n≤i→i<n→x<l.getD i 0:=by
 induction n with
 |zero=>intro i _ h;omega
 | succ n ih=>
   intro i h1 h2
   rw[Zx]at h1
   split at h1
   · rename_i hlt
     by_cases hi:i=n
     · subst hi;exact hlt
     · exact ih i h1 (by omega)
   · omega
theorem qj4 (l:List Int) (x:Int) (n:Nat):0<YL l x n→l.getD (YL l x n - 1) 0≤x:=by
 induction n with
 |zero=>intro h;simp[YL]at h
 | succ n ih=>
   rw[Zx]
   split
   · exact ih
   · rename_i h;intro _;simpa using h
theorem zo {l:List Int} {x y:Int}:y∈jw l x↔y∈l∨y=x:=by
 have hk:=qbO l x l.length
 unfold jw
 split
 · rename_i h
   constructor
   · exact Or.inl
   · rintro (h1|h1)
     · exact h1
     · subst h1
       rw[← h.2,getD_eq (by omega)]
       exact List.getElem_mem _
 · have e: ∀y,y∈l↔y∈l.take (YL l x l.length)∨y∈l.drop (YL l x l.length):=by
    intro y
    conv=>lhs;rw[← List.take_append_drop (YL l x l.length) l]
    rw[List.mem_append]
   simp only[List.mem_append,List.mem_singleton,e y]
   constructor
   · rintro ((h|h)|h)
     · exact Or.inl (Or.inl h)
     · exact Or.inr h
     · exact Or.inl (Or.inr h)
   · rintro ((h|h)|h)
     · exact Or.inl (Or.inl h)
     · exact Or.inr h
     · exact Or.inl (Or.inr h)
theorem qgz {l:List Int} (h:jU l) {i j:Nat} (hij:i<j) (hj:j<l.length):l.getD i 0<l.getD j 0:=by
 rw[getD_eq (by omega),getD_eq hj]
 exact(List.pairwise_iff_getElem.1 h) i j (by omega) hj hij
theorem jS {l:List Int} {x:Int} (h:jU l):jU (jw l x):=by
 have hk:=qbO l x l.length
 have hhi:=qps l x l.length
 have hlo:=qj4 l x l.length
 unfold jw
 split
 · exact h
 · rename_i hn
   generalize YL l x l.length=k at *
   have h1: ∀y∈l.take k,y<x:=by
    intro y hy
    obtain ⟨i,hi,rfl⟩:=List.getElem_of_mem hy
    simp only[List.length_take]at hi
    rw[List.getElem_take,← getD_eq (by omega)]
    have h0:=hlo (by omega)
    have hne:l.getD (k - 1) 0≠x:=fun e=>hn ⟨by omega,e⟩
    by_cases hik:i=k - 1
    · subst hik;omega
    · have:=qgz h (show i<k - 1 by omega) (by omega);omega
   have h2: ∀y∈l.drop k,x<y:=by
    intro y hy
    obtain ⟨i,hi,rfl⟩:=List.getElem_of_mem hy
    simp only[List.length_drop]at hi
    rw[List.getElem_drop,← getD_eq (by omega)]
    exact hhi (k+i) (by omega) (by omega)
   rw[jU,List.append_assoc,List.pairwise_append]
   refine⟨h.sublist (List.take_sublist _ _),?_,?_⟩
   · rw[List.singleton_append,List.pairwise_cons]
     exact⟨h2,h.sublist (List.drop_sublist _ _)⟩
   · intro a ha b hb
     have h3:=h1 a ha
     rw[List.singleton_append]at hb
     rcases List.mem_cons.1 hb with e|e
     · subst e;exact h3
     · have:=h2 b e;omega

set_option maxRecDepth 20000
theorem qdI (token:Bool) (h:Nat→Bool) (s:Int) (l:List Int):ve token h (s::l)=((if s<1000 then token else h (s - 1000).toNat) && ve token h l):=rfl
theorem yL {n:Nat} {F:Nat→Bool} {l:List Int} (hn:n≤1000000) (hl:l.length≤1000000) (hs: ∀s∈l,s<1000∨ ∃k:Nat,s=1000+(k:Int)∧k<n):Pure Try.prog 103 [.sl 1 false (JJ n F),.sl 1 false (l.map (V.int .i64))] (.bool (ve false F l)):=by
 refine pure_intro Try.func103 qn6 qqe (by show 2≤28;decide) ?_
 show ewp _ qez _ _
 have hbm:JJ n F=(List.range n).map fun k=>V.bool (F k):=rfl
 rw[hbm]
 clear hbm
 repeat' with_reducible first
  |refine s_ ?_
  |simp only[wZZ,seval]
 refine qd ?nx1 (fun(i:Nat) s=>s.f 0=?v1_0∧s.f 1=?v1_1∧s.f 5=vi i∧(i≤l.length)∧(ve false F l=ve false F (l.drop i))) (fun i=>l.length - i) (0) wj_ (by refine⟨?_,?_,?_,wo_,(by simp)⟩<;>first|(simp only[wL,wM,wN,wX,seval,Option.some.injEq]<;>exact wt_)|rfl|exact⟨_,rfl⟩) ?_
 intro i s hnx ⟨g0,g1,g5,k1_0,k1_1⟩
 have hzi:=w1_ i
 by_cases hi:i<l.length
 · have hgi:l[i]?=some l[i]:=ge_ hi
   have hd:l.drop i=l[i]::l.drop (i+1):=List.drop_eq_getElem_cons hi
   rw[hd,qdI]at k1_1
   have hsi:=hs _ (List.getElem_mem hi)
   generalize l[i]=s at *
   rcases hsi with hlt|⟨k,rfl,hk⟩
   · rw[if_pos hlt,Bool.false_and]at k1_1
     repeat' with_reducible first
      |refine s_ ?_
      |simp only[wZZ,seval,g0,g1,g5,hzi,k1_1]
      |(first|apply qa|apply qh|apply qg)<;>intro h h_<;>(try simp only[wD,reduceCtorEq]at h_)<;>(try exact wb_)<;>(try simp only[h])
      |refine t_ ?_
     all_goals refine qw rfl (Or.inr rfl) ?_
     all_goals(try simp only[wL,seval,g0,g1,g5])
     all_goals refine er_ ?_
     all_goals(try(with_reducible rfl))
   · have hz1:IntKind.i64.wrap (1000+(k:Int) - 1000)=(k:Int):=by rw[wrap64 (by omega) (by omega)];omega
     have hgk:(List.range n)[k]?=some k:=List.getElem?_range hk
     rw[if_neg (by omega),show (1000+(k:Int) - 1000).toNat=k by omega]at k1_1
     cases hb:F k
     · rw[hb,Bool.false_and]at k1_1
       repeat' with_reducible first
        |refine s_ ?_
        |simp only[wZZ,seval,g0,g1,g5,hzi,hz1,k1_1,hb]
        |(first|apply qa|apply qh|apply qg)<;>intro h h_<;>(try simp only[wD,reduceCtorEq]at h_)<;>(try exact wb_)<;>(try simp only[h])
        |refine t_ ?_
       all_goals refine qw rfl (Or.inr rfl) ?_
       all_goals(try simp only[wL,seval,g0,g1,g5])
       all_goals refine er_ ?_
       all_goals(try(with_reducible rfl))
     · rw[hb,Bool.true_and]at k1_1
       repeat' with_reducible first
        |refine s_ ?_
        |simp only[wZZ,seval,g0,g1,g5,hzi,hz1,hb]
        |(first|apply qa|apply qh|apply qg)<;>intro h h_<;>(try simp only[wD,reduceCtorEq]at h_)<;>(try exact wb_)<;>(try simp only[h])
        |refine t_ ?_
       exact⟨by((try simp only[wN])<;>omega),i+1,by omega,trivial,trivial,rfl,by omega,k1_1⟩
 · rw[List.drop_of_length_le (by omega)]at k1_1
   repeat' with_reducible first
    |refine s_ ?_
    |simp only[wZZ,seval,g0,g1,g5,hzi]
    |apply qa<;>intro h h_<;>(try simp only[wD,reduceCtorEq]at h_)<;>(try exact wb_)<;>(try simp only[h])
   all_goals refine qw rfl (Or.inr rfl) ?_
   all_goals(try simp only[wL,seval,g0,g1,g5])
   all_goals refine er_ ?_
   all_goals(try(with_reducible rfl))
   all_goals(first|done|exact k1_1.symm|(rw[k1_1];rfl))

theorem jP {g:Grammar} (hg:GOk g): ∃E,IsGrow g false E∧Pure Try.prog 101 [g.V] (.sl 1 false (JJ g.nons.length E)):=by
 have hh:=qoM (G:=fun v=> ∃E,v=.sl 1 false (JJ g.nons.length E)∧IsGrow g false E) (args:=[g.V]) Try.func101 qpW qqm (by show 1≤41;decide) ?_
 · obtain ⟨v,⟨E,rfl,h⟩,h2⟩:=hh
   exact⟨E,h,h2⟩
 show ewp _ qej _ _
 have hnl:=hg.nn2;have hpl:=hg.pl2
 have hb0:=qiA g.nons.length
 repeat' with_reducible first
  |refine s_ ?_
  |simp only[wZZ,seval]
  |refine t_ ?_
  |apply qdx;exact wf_;exact wf_;(focus(unfold maxLen;first|omega|(simp only[wZ]<;>omega)))
 rw[hb0]
 refine qd ?nx1 (fun(q:(Nat→Bool)×Bool) s=>s.f 1=?v1_1∧s.f 3=?v1_3∧s.H 0=some (MObj.own 5 [g.V] false)∧s.f 4=.bool q.2∧((s.H 5=some (MObj.own 1 (JJ g.nons.length q.1) false)))∧((∀F,YN g false F→ ∀k,q.1 k=true→F k=true))∧((q.2=false→YN g false q.1))) (fun q=>2 *cf q.1 g.nons.length+(if q.2=true then 1 else 0)) ((fun _=>false,true)) wj_ (by refine⟨?_,?_,?_,?_,wc_,(by intro F _ k h;cases h),(by intro h;cases h)⟩<;>first|(simp only[wL,wM,wN,wX,seval,Option.some.injEq]<;>exact wt_)|rfl|exact⟨_,rfl⟩) ?_
 intro q s hnx ⟨g1,g3,o0,g4,k1_0,k1_1,k1_2⟩
 obtain ⟨h,b⟩:=q
 dsimp only at *
 cases b with
 | false=>
   have hcl:=k1_2 rfl
   repeat' with_reducible first
    |refine s_ ?_
    |simp only[wZZ,seval,g1,g3,g4,o0,k1_0]
   refine⟨_,⟨h,rfl,hcl,k1_1⟩,Or.inr rfl,.msl 5 1 0 g.nons.length,?_,qfP (ro:=false) ?_⟩
   · show qdN _ [.inl 2]=_
     simp[qdN,qbk,one,wL]
   · (simp only[wM];(repeat first|rw[if_pos trivial]|rw[if_pos rfl]|rw[if_neg (by omega)]));exact k1_0
 | true =>
   repeat' with_reducible first
    |refine s_ ?_
    |simp only[wZZ,seval,g1,g3,g4,o0,k1_0]
   refine qd ?nx2 (fun(r:Nat×(Nat→Bool)×Bool) s=>s.f 1=?v2_1∧s.f 3=?v2_3∧s.H 0=some (MObj.own 5 [g.V] false)∧s.f 4=.bool r.2.2∧s.f 5=vi r.1∧(r.1≤g.prods.length)∧((s.H 5=some (MObj.own 1 (JJ g.nons.length r.2.1) false)))∧((∀F,YN g false F→ ∀k,r.2.1 k=true→F k=true))∧((r.2.2=false→r.2.1=h∧ ∀p∈g.prods.take r.1,ve false h p.right=true→h p.left.toNat=true))∧((r.2.2=true→cf r.2.1 g.nons.length<cf h g.nons.length))) (fun r=>g.prods.length - r.1) ((0,h,false)) wj_ (by refine⟨?_,?_,?_,?_,?_,wo_,(by(simp only[wM];(repeat first|rw[if_pos trivial]|rw[if_pos rfl]|rw[if_neg (by omega)]));exact k1_0),(by exact k1_1),(by exact fun _=>⟨rfl,fun p hp=>by simp at hp⟩),(by intro h;cases h)⟩<;>first|(simp only[wL,wM,wN,wX,seval,Option.some.injEq,g1,g3,g4,o0]<;>exact wt_)|rfl|exact⟨_,rfl⟩) ?_
   intro r s hnx ⟨g1,g3,o0,g4,g5,k2_0,k2_1,k2_2,k2_3,k2_4⟩
   obtain ⟨i,h',b'⟩:=r
   dsimp only at *
   have hz:=w1_ i
   by_cases hi:i<g.prods.length
   · have hmem:=List.getElem_mem hi
     obtain ⟨lf,hl1,hl2⟩:=hg.left _ hmem
     have hrt:=hg.rt hmem
     have hrl:=hg.rlen _ hmem
     have htk:g.prods.take (i+1)=g.prods.take i++[g.prods[i]]:=by rw[List.take_add_one,ge_ hi];rfl
     generalize hp:g.prods[i]=p at *
     have hgp:g.prods[i]?=some p:=by rw[ge_ hi,hp]
     have hpm:p∈g.prods:=hp ▸ List.getElem_mem hi
     clear hp
     obtain ⟨pl,pr,pc,pco,pa,pat⟩:=p
     dsimp only at hl1 hrt hrl
     subst hl1
     have hnew:(b'=false→h'=h∧ ∀p∈g.prods.take i,ve false h p.right=true→h p.left.toNat=true)→(ve false h' pr=true→h' lf=true)→(b'=false→h'=h∧ ∀p∈g.prods.take (i+1),ve false h p.right=true→h p.left.toNat=true):=fun q1 q2 hb=>by
      obtain ⟨e1,e2⟩:=q1 hb
      refine⟨e1,fun p hp hf=>?_⟩
      rw[htk]at hp
      rcases List.mem_append.1 hp with hp|hp
      · exact e2 p hp hf
      · rw[List.mem_singleton]at hp;subst hp
        subst e1
        exact q2 hf
     have hcl:=yL (n:=g.nons.length) (F:=h') (l:=pr) (by omega) (by omega) hrt
     repeat' with_reducible first
      |refine s_ ?_
      |simp only[wZZ,seval,g1,g3,g4,g5,o0,k2_1,hz]
      |(first|apply qa|apply qh|apply qg)<;>intro h h_<;>(try simp only[wD,reduceCtorEq]at h_)<;>(try exact wb_)<;>(try simp only[h])
      |(refine ldB hl2 ?_)
      |refine t_ ?_
      |apply qV (hp:=hcl);(focus(refine qfP (ro:=false) ?_;(try simp only[wM]);(repeat rw[if_neg (by omega)]);exact k2_1));exact qb;exact wu_;exact Flat.bool _
      |(refine stB hl2 ?_)
     · have hfit:ve false h' pr=true:=by assumption
       refine⟨by((try simp only[wN])<;>omega),(i+1,qN h' lf true,true),by dsimp only;omega,trivial,trivial,trivial,rfl,rfl,by dsimp only;omega,rfl,fun F hF k hk=>?_,fun e=>(by cases e),fun _=>?_⟩
       · dsimp only at hk
         unfold qN at hk
         split at hk
         · rename_i e;subst e
           exact hF _ hpm (qdf (k2_2 F hF) hfit)
         · exact k2_2 F hF k hk
       · have:=(qiO (h:=h') (k:=lf) (by assumption) g.nons.length).2 hl2
         show cf (qN h' lf true) g.nons.length<_
         cases b' with
         |false=>have e:=(k2_3 rfl).1;subst e;omega
         |true=>have:=k2_4 rfl;omega
     · have hfit:ve false h' pr=false:=by assumption
       refine⟨by((try simp only[wN])<;>omega),(i+1,h',b'),by dsimp only;omega,trivial,trivial,trivial,rfl,rfl,by dsimp only;omega,rfl,k2_2,hnew k2_3 (fun e=>by rw[hfit]at e;cases e),k2_4⟩
     · refine⟨by((try simp only[wN])<;>omega),(i+1,h',b'),by dsimp only;omega,trivial,trivial,trivial,rfl,rfl,by dsimp only;omega,rfl,k2_2,hnew k2_3 (fun _=>by assumption),k2_4⟩
   · have e:i=g.prods.length:=by omega
     subst e
     rw[List.take_length]at k2_3
     repeat' with_reducible first
      |refine s_ ?_
      |simp only[wZZ,seval,g1,g3,g4,g5,o0,k2_1]
      |refine t_ ?_
     refine⟨by((try simp only[wN])<;>omega),(h',b'),?_,trivial,trivial,trivial,rfl,rfl,k2_2,fun hb=>?_⟩
     · dsimp only
       cases b' with
       |false=>have e:=(k2_3 rfl).1;subst e;simp
       |true=>have:=k2_4 rfl;simp;omega
     · obtain ⟨e1,e2⟩:=k2_3 hb
       dsimp only
       rw[e1];exact e2
end Go.Proofs
