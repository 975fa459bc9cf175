/- Part of a proof that a law of the given program answers true. -/
import Derived.Test.YthgkeppkcjcmjaaTJA
import Derived.Test.YthgkeppkcjcmjaaTKA
import Derived.Test.YthgkeppkcjcmjaaTPB
set_option linter.unusedSimpArgs false
set_option linter.unusedVariables false
set_option maxHeartbeats 4000000
namespace Go.Proofs
open Go.E
def zo (token:Bool) (h:Nat→Bool) (l:List Int):Bool:=l.all fun s=>if s<1000 then token else h (s - 1000).toNat
def jV (g:Grammar) (token:Bool) (E:Nat→Bool):Prop:= ∀p∈g.prods,zo token E p.right=true→E p.left.toNat=true
structure IsGrow (g:Grammar) (token:Bool) (E:Nat→Bool):Prop where
 closed:jV g token E
 least: ∀F,jV g token F→ ∀k,E k=true→F k=true
theorem IsGrow.uniq {g:Grammar} {token:Bool} {E F:Nat→Bool} (h:IsGrow g token E) (k:IsGrow g token F):E=F:=by
 funext n
 rw[Bool.eq_iff_iff]
 exact⟨h.least F k.closed n,k.least E h.closed n⟩
theorem Y1 {token:Bool} {h F:Nat→Bool} (hh: ∀k,h k=true→F k=true) {l:List Int} (hl:zo token h l=true):zo token F l=true:=by
 unfold zo at *
 rw[List.all_eq_true]at *
 intro s hs
 have:=hl s hs
 split
 · rename_i h1;rwa [if_pos h1]at this
 · rename_i h1;rw[if_neg h1]at this;exact hh _ this
def cf (h:Nat→Bool):Nat→Nat
 |0=>0
 |n+1=>cf h n+if h n=true then 0 else 1
theorem qd7 {h:Nat→Bool} {k:Nat} (hk:h k=false): ∀n,(n≤k→cf (zi h k true) n=cf h n)∧(k<n→cf (zi h k true) n+1=cf h n)
 |0=>⟨fun _=>rfl,fun h=>by omega⟩
 | n +1=>by
   obtain ⟨h1,h2⟩:=qd7 hk n
   unfold cf
   by_cases e:n=k
   · subst e
     have e2:zi h n true n=true:=by unfold zi;rw[if_pos rfl]
     rw[e2,h1 (Nat.le_refl _),hk]
     exact⟨fun h=>by omega,fun _=>by simp⟩
   · have e2:zi h k true n=h n:=by unfold zi;rw[if_neg e]
     rw[e2]
     exact⟨fun h=>by rw[h1 o_],fun h=>by have:=h2 o_;omega⟩
theorem qew (n:Nat) (h:Nat→Bool):Cls' (ZO n h):=inferInstanceAs (Cls' (List.map _ _))

theorem qdV {H:Nat→Option MObj} {id n:Nat} {ro:Bool} {h:Nat→Bool} (hH:H id=some (.own 1 (ZO n h) ro)):Er true H (.msl id 1 0 n) (.sl 1 false (ZO n h)):=by
 have:=qew n h
 exact yD hH (by rw[ve];omega) (by rw[List.drop_zero];exact List.take_of_length_le (by rw[ve];omega))
instance gpr_cl (p:GPr):Cl p.V:=⟨fun b H=>ErL.agg (.cons (.int _ _) (.cons qc (.cons (.int _ _) (.cons (.str _) (.cons qc (.cons (.int _ _) .nil))))))⟩
theorem GOk.rt {g:Grammar} (h:GOk g) {p:GPr} (hp:p∈g.prods): ∀s∈p.right,s<1000∨ ∃k:Nat,s=1000+(k:Int)∧k<g.nons.length:=fun s hs=>by
 rcases h.right p hp s hs with ⟨t,e,l⟩|⟨k,e,l⟩
 · have:=h.tk2;exact Or.inl o_
 · exact Or.inr ⟨k,e,l⟩

abbrev jO (l:List Int):Prop:=l.Pairwise (· < ·)
theorem Xc: ∀{a b:List Int},jO a→jO b→(∀x,x∈a↔x∈b)→a=b
 |[],[],_,_,_=>rfl
 |[],y::b,_,_,h=>absurd ((h y).2 (List.mem_cons_self ..)) (by simp)
 |x::a,[],_,_,h=>absurd ((h x).1 (List.mem_cons_self ..)) (by simp)
 | x ::a,y::b,ha,hb,h=>by
   have ha':=List.pairwise_cons.1 ha
   have hb':=List.pairwise_cons.1 hb
   have hxy:x=y:=by
    have h1:=(h x).1 (List.mem_cons_self ..)
    have h2:=(h y).2 (List.mem_cons_self ..)
    rcases List.mem_cons.1 h1 with e|e
    · exact e
    · rcases List.mem_cons.1 h2 with e2|e2
      · exact e2.symm
      · have:=hb'.1 x e;have:=ha'.1 y e2;omega
   subst hxy
   congr 1
   refine Xc ha'.2 hb'.2 fun z=>?_
   have hz:=h z
   simp only[List.mem_cons]at hz
   constructor
   · intro hm
     rcases hz.1 (Or.inr hm)with e|e
     · subst e;have:=ha'.1 z hm;omega
     · exact e
   · intro hm
     rcases hz.2 (Or.inr hm)with e|e
     · subst e;have:=hb'.1 z hm;omega
     · exact e
theorem qma (l:List Int) (x:Int) (n:Nat): ∀i,Xv l x n≤i→i<n→x<l.getD i 0:=by
 induction n with
 |zero=>intro i _ h;omega
 | succ n ih=>
   intro i h1 h2
   rw[QX]at h1
   split at h1
   · rename_i hlt
     by_cases hi:i=n
     · subst hi;exact hlt
     · exact ih i h1 o_
   · omega
theorem qm4 (l:List Int) (x:Int) (n:Nat):0<Xv l x n→l.getD (Xv l x n - 1) 0≤x:=by
 induction n with
 |zero=>intro h;simp[Xv]at h
 | succ n ih=>
   rw[QX]
   split
   · exact ih
   · rename_i h;intro _;simpa using h
theorem zD {l:List Int} {x y:Int}:y∈jm l x↔y∈l∨y=x:=by
 have hk:=qa0 l x l.length
 unfold jm
 split
 · rename_i h
   constructor
   · exact Or.inl
   · rintro (h1|h1)
     · exact h1
     · subst h1
       rw[← h.2,getD_eq o_]
       exact List.getElem_mem _
 · have e: ∀y,y∈l↔y∈l.take (Xv l x l.length)∨y∈l.drop (Xv l x l.length):=by
    intro y
    conv=>lhs;rw[← List.take_append_drop (Xv l x l.length) l]
    rw[List.mem_append]
   simp only[List.mem_append,List.mem_singleton,e y]
   constructor
   · rintro ((h|h)|h)
     · exact Or.inl (Or.inl h)
     · exact Or.inr h
     · exact Or.inl (Or.inr h)
   · rintro ((h|h)|h)
     · exact Or.inl (Or.inl h)
     · exact Or.inr h
     · exact Or.inl (Or.inr h)
theorem qgW {l:List Int} (h:jO l) {i j:Nat} (hij:i<j) (hj:j<l.length):l.getD i 0<l.getD j 0:=by
 rw[getD_eq o_,getD_eq hj]
 exact(List.pairwise_iff_getElem.1 h) i j o_ hj hij
theorem jN {l:List Int} {x:Int} (h:jO l):jO (jm l x):=by
 have hk:=qa0 l x l.length
 have hhi:=qma l x l.length
 have hlo:=qm4 l x l.length
 unfold jm
 split
 · exact h
 · rename_i hn
   generalize Xv l x l.length=k at *
   have h1: ∀y∈l.take k,y<x:=by
    intro y hy
    obtain ⟨i,hi,rfl⟩:=List.getElem_of_mem hy
    simp only[List.length_take]at hi
    rw[List.getElem_take,← getD_eq o_]
    have h0:=hlo o_
    have hne:l.getD (k - 1) 0≠x:=fun e=>hn ⟨o_,e⟩
    by_cases hik:i=k - 1
    · subst hik;omega
    · have:=qgW h (show i<k - 1 by omega) o_;omega
   have h2: ∀y∈l.drop k,x<y:=by
    intro y hy
    obtain ⟨i,hi,rfl⟩:=List.getElem_of_mem hy
    simp only[List.length_drop]at hi
    rw[List.getElem_drop,← getD_eq o_]
    exact hhi (k+i) o_ o_
   rw[jO,List.append_assoc,List.pairwise_append]
   refine⟨h.sublist (List.take_sublist _ _),?_,?_⟩
   · rw[List.singleton_append,List.pairwise_cons]
     exact⟨h2,h.sublist (List.drop_sublist _ _)⟩
   · intro a ha b hb
     have h3:=h1 a ha
     rw[List.singleton_append]at hb
     rcases List.mem_cons.1 hb with e|e
     · subst e;exact h3
     · have:=h2 b e;omega

set_option maxRecDepth 20000
theorem qdD (token:Bool) (h:Nat→Bool) (s:Int) (l:List Int):zo token h (s::l)=((if s<1000 then token else h (s - 1000).toNat) && zo token h l):=rfl
theorem yK {n:Nat} {F:Nat→Bool} {l:List Int} (hn:n≤1000000) (hl:l.length≤1000000) (hs: ∀s∈l,s<1000∨ ∃k:Nat,s=1000+(k:Int)∧k<n):Pure Try.prog 103 [.sl 1 false (ZO n F),.sl 1 false (l.map (V.int .i64))] (.bool (zo false F l)):=by
 refine pure_intro Try.func103 nm_ qrt (by show 2≤28;decide) ?_
 show ewp _ qeX _ _
 have hbm:ZO n F=(List.range n).map fun k=>V.bool (F k):=rfl
 rw[hbm]
 clear hbm
 repeat' with_reducible first
  |refine s_ ?_
  |simp only[wZZ,seval]
 refine qb ?nx1 (fun(i:Nat) s=>s.f 0=?v1_0∧s.f 1=?v1_1∧s.f 5=vi i∧(i≤l.length)∧(zo false F l=zo false F (l.drop i))) (fun i=>l.length - i) (0) wj_ (by refine⟨?_,?_,?_,wo_,(by simp)⟩<;>first|(simp only[wL,wM,wN,wX,seval,Option.some.injEq]<;>exact wt_)|rfl|exact⟨_,rfl⟩) ?_
 intro i s hnx ⟨g0,g1,g5,k1_0,k1_1⟩
 have hzi:=w1_ i
 by_cases hi:i<l.length
 · have hgi:l[i]?=some l[i]:=ge_ hi
   have hd:l.drop i=l[i]::l.drop (i+1):=List.drop_eq_getElem_cons hi
   rw[hd,qdD]at k1_1
   have hsi:=hs _ (List.getElem_mem hi)
   generalize l[i]=s at *
   rcases hsi with hlt|⟨k,rfl,hk⟩
   · rw[if_pos hlt,Bool.false_and]at k1_1
     repeat' with_reducible first
      |refine s_ ?_
      |simp only[wZZ,seval,g0,g1,g5,hzi,k1_1]
      |(first|apply qa|apply qg|apply qh)<;>intro h h_<;>(try simp only[wD,reduceCtorEq]at h_)<;>(try exact wb_)<;>(try simp only[h])
      |refine t_ ?_
     all_goals refine qA rfl (Or.inr rfl) ?_
     all_goals(try simp only[wL,seval,g0,g1,g5])
     all_goals refine er_ ?_
     all_goals(try(with_reducible rfl))
   · have hz1:IntKind.i64.wrap (1000+(k:Int) - 1000)=(k:Int):=by rw[wrap64 o_ o_];omega
     have hgk:(List.range n)[k]?=some k:=List.getElem?_range hk
     rw[if_neg o_,show (1000+(k:Int) - 1000).toNat=k by omega]at k1_1
     cases hb:F k
     · rw[hb,Bool.false_and]at k1_1
       repeat' with_reducible first
        |refine s_ ?_
        |simp only[wZZ,seval,g0,g1,g5,hzi,hz1,k1_1,hb]
        |(first|apply qa|apply qg|apply qh)<;>intro h h_<;>(try simp only[wD,reduceCtorEq]at h_)<;>(try exact wb_)<;>(try simp only[h])
        |refine t_ ?_
       all_goals refine qA rfl (Or.inr rfl) ?_
       all_goals(try simp only[wL,seval,g0,g1,g5])
       all_goals refine er_ ?_
       all_goals(try(with_reducible rfl))
     · rw[hb,Bool.true_and]at k1_1
       repeat' with_reducible first
        |refine s_ ?_
        |simp only[wZZ,seval,g0,g1,g5,hzi,hz1,hb]
        |(first|apply qa|apply qg|apply qh)<;>intro h h_<;>(try simp only[wD,reduceCtorEq]at h_)<;>(try exact wb_)<;>(try simp only[h])
        |refine t_ ?_
       exact⟨wg_,i+1,o_,trivial,trivial,rfl,o_,k1_1⟩
 · rw[List.drop_of_length_le o_]at k1_1
   repeat' with_reducible first
    |refine s_ ?_
    |simp only[wZZ,seval,g0,g1,g5,hzi]
    |apply qa<;>intro h h_<;>(try simp only[wD,reduceCtorEq]at h_)<;>(try exact wb_)<;>(try simp only[h])
   all_goals refine qA rfl (Or.inr rfl) ?_
   all_goals(try simp only[wL,seval,g0,g1,g5])
   all_goals refine er_ ?_
   all_goals(try(with_reducible rfl))
   all_goals(first|done|exact k1_1.symm|(rw[k1_1];rfl))

theorem yc {g:Grammar} (hg:GOk g): ∃E,IsGrow g false E∧Pure Try.prog 101 [g.V] (.sl 1 false (ZO g.nons.length E)):=by
 have hh:=Vz (G:=fun v=> ∃E,v=.sl 1 false (ZO g.nons.length E)∧IsGrow g false E) (args:=[g.V]) Try.func101 nm_ qr0 (by show 1≤41;decide) ?_
 · obtain ⟨v,⟨E,rfl,h⟩,h2⟩:=hh
   exact⟨E,h,h2⟩
 show ewp _ qgk _ _
 have hnl:=hg.nn2;have hpl:=hg.pl2
 have hb0:=qjE g.nons.length
 repeat' with_reducible first
  |refine s_ ?_
  |simp only[wZZ,seval]
  |refine t_ ?_
  |apply qbj;exact wf_;exact wf_;(focus(unfold maxLen;first|omega|(simp only[wZ]<;>omega)))
 rw[hb0]
 refine qb ?nx1 (fun(q:(Nat→Bool)×Bool) s=>s.f 1=?v1_1∧s.f 3=?v1_3∧s.H 0=some (MObj.own 5 [g.V] false)∧s.f 4=.bool q.2∧((s.H 5=some (MObj.own 1 (ZO g.nons.length q.1) false)))∧((∀F,jV g false F→ ∀k,q.1 k=true→F k=true))∧((q.2=false→jV g false q.1))) (fun q=>2 *cf q.1 g.nons.length+(if q.2=true then 1 else 0)) ((fun _=>false,true)) wj_ (by refine⟨?_,?_,?_,?_,wc_,(by intro F _ k h;cases h),(by intro h;cases h)⟩<;>first|(simp only[wL,wM,wN,wX,seval,Option.some.injEq]<;>exact wt_)|rfl|exact⟨_,rfl⟩) ?_
 intro q s hnx ⟨g1,g3,o0,g4,k1_0,k1_1,k1_2⟩
 obtain ⟨h,b⟩:=q
 dsimp only at *
 cases b with
 | false=>
   have hcl:=k1_2 rfl
   repeat' with_reducible first
    |refine s_ ?_
    |simp only[wZZ,seval,g1,g3,g4,o0,k1_0]
   refine⟨_,⟨h,rfl,hcl,k1_1⟩,Or.inr rfl,.msl 5 1 0 g.nons.length,?_,qdV (ro:=false) ?_⟩
   · show Y2 _ [.inl 2]=_
     simp[Y2,YK,one,wL]
   · (simp only[wM];(repeat first|rw[if_pos trivial]|rw[if_pos rfl]|rw[if_neg o_]));exact k1_0
 | true =>
   repeat' with_reducible first
    |refine s_ ?_
    |simp only[wZZ,seval,g1,g3,g4,o0,k1_0]
   refine qb ?nx2 (fun(r:Nat×(Nat→Bool)×Bool) s=>s.f 1=?v2_1∧s.f 3=?v2_3∧s.H 0=some (MObj.own 5 [g.V] false)∧s.f 4=.bool r.2.2∧s.f 5=vi r.1∧(r.1≤g.prods.length)∧((s.H 5=some (MObj.own 1 (ZO g.nons.length r.2.1) false)))∧((∀F,jV g false F→ ∀k,r.2.1 k=true→F k=true))∧((r.2.2=false→r.2.1=h∧ ∀p∈g.prods.take r.1,zo false h p.right=true→h p.left.toNat=true))∧((r.2.2=true→cf r.2.1 g.nons.length<cf h g.nons.length))) (fun r=>g.prods.length - r.1) ((0,h,false)) wj_ (by refine⟨?_,?_,?_,?_,?_,wo_,(by(simp only[wM];(repeat first|rw[if_pos trivial]|rw[if_pos rfl]|rw[if_neg o_]));exact k1_0),(by exact k1_1),(by exact fun _=>⟨rfl,fun p hp=>by simp at hp⟩),(by intro h;cases h)⟩<;>first|(simp only[wL,wM,wN,wX,seval,Option.some.injEq,g1,g3,g4,o0]<;>exact wt_)|rfl|exact⟨_,rfl⟩) ?_
   intro r s hnx ⟨g1,g3,o0,g4,g5,k2_0,k2_1,k2_2,k2_3,k2_4⟩
   obtain ⟨i,h',b'⟩:=r
   dsimp only at *
   have hz:=w1_ i
   by_cases hi:i<g.prods.length
   · have hmem:=List.getElem_mem hi
     obtain ⟨lf,hl1,hl2⟩:=hg.left _ hmem
     have hrt:=hg.rt hmem
     have hrl:=hg.rlen _ hmem
     have htk:g.prods.take (i+1)=g.prods.take i++[g.prods[i]]:=by rw[List.take_add_one,ge_ hi];rfl
     generalize hp:g.prods[i]=p at *
     have hgp:g.prods[i]?=some p:=by rw[ge_ hi,hp]
     have hpm:p∈g.prods:=hp ▸ List.getElem_mem hi
     clear hp
     obtain ⟨pl,pr,pc,pco,pa,pat⟩:=p
     dsimp only at hl1 hrt hrl
     subst hl1
     have hnew:(b'=false→h'=h∧ ∀p∈g.prods.take i,zo false h p.right=true→h p.left.toNat=true)→(zo false h' pr=true→h' lf=true)→(b'=false→h'=h∧ ∀p∈g.prods.take (i+1),zo false h p.right=true→h p.left.toNat=true):=fun q1 q2 hb=>by
      obtain ⟨e1,e2⟩:=q1 hb
      refine⟨e1,fun p hp hf=>?_⟩
      rw[htk]at hp
      rcases List.mem_append.1 hp with hp|hp
      · exact e2 p hp hf
      · rw[List.mem_singleton]at hp;subst hp
        subst e1
        exact q2 hf
     have hcl:=yK (n:=g.nons.length) (F:=h') (l:=pr) o_ o_ hrt
     repeat' with_reducible first
      |refine s_ ?_
      |simp only[wZZ,seval,g1,g3,g4,g5,o0,k2_1,hz]
      |(first|apply qa|apply qg|apply qh)<;>intro h h_<;>(try simp only[wD,reduceCtorEq]at h_)<;>(try exact wb_)<;>(try simp only[h])
      |(refine ldB hl2 ?_)
      |refine t_ ?_
      |apply ze (hp:=hcl);(focus(refine qdV (ro:=false) ?_;(try simp only[wM]);(repeat rw[if_neg o_]);exact k2_1));exact qc;exact wu_;exact Flat.bool _
      |(refine stB hl2 ?_)
     · have hfit:zo false h' pr=true:=by assumption
       refine⟨wg_,(i+1,zi h' lf true,true),by dsimp only;omega,trivial,trivial,trivial,rfl,rfl,by dsimp only;omega,rfl,fun F hF k hk=>?_,fun e=>(by cases e),fun _=>?_⟩
       · dsimp only at hk
         unfold zi at hk
         split at hk
         · rename_i e;subst e
           exact hF _ hpm (Y1 (k2_2 F hF) hfit)
         · exact k2_2 F hF k hk
       · have:=(qd7 (h:=h') (k:=lf) (by assumption) g.nons.length).2 hl2
         show cf (zi h' lf true) g.nons.length<_
         cases b' with
         |false=>have e:=(k2_3 rfl).1;subst e;omega
         |true=>have:=k2_4 rfl;omega
     · have hfit:zo false h' pr=false:=by assumption
       refine⟨wg_,(i+1,h',b'),by dsimp only;omega,trivial,trivial,trivial,rfl,rfl,by dsimp only;omega,rfl,k2_2,hnew k2_3 (fun e=>by rw[hfit]at e;cases e),k2_4⟩
     · refine⟨wg_,(i+1,h',b'),by dsimp only;omega,trivial,trivial,trivial,rfl,rfl,by dsimp only;omega,rfl,k2_2,hnew k2_3 (fun _=>by assumption),k2_4⟩
   · have e:i=g.prods.length:=o_
     subst e
     rw[List.take_length]at k2_3
     repeat' with_reducible first
      |refine s_ ?_
      |simp only[wZZ,seval,g1,g3,g4,g5,o0,k2_1]
      |refine t_ ?_
     refine⟨wg_,(h',b'),?_,trivial,trivial,trivial,rfl,rfl,k2_2,fun hb=>?_⟩
     · dsimp only
       cases b' with
       |false=>have e:=(k2_3 rfl).1;subst e;simp
       |true=>have:=k2_4 rfl;simp;omega
     · obtain ⟨e1,e2⟩:=k2_3 hb
       dsimp only
       rw[e1];exact e2
end Go.Proofs
