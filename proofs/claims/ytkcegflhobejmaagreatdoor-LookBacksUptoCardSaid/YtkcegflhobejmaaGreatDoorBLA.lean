/- Part of a proof that a law of the given program answers true. -/
import Derived.Test.YtkcegflhobejmaaGreatDoorBJA
import Derived.Test.YtkcegflhobejmaaGreatDoorBKZ
set_option maxRecDepth 20000
set_option linter.unusedSimpArgs false
set_option linter.unusedVariables false
set_option maxHeartbeats 4000000
namespace Go.Proofs
open Go.E
def Zt (token:Bool) (h:Nat→Bool) (l:List Int):Bool:=l.all fun s=>if s<1000 then token else h (s - 1000).toNat
def Jw (g:Grammar) (token:Bool) (E:Nat→Bool):Prop:= ∀p∈g.prods,Zt token E p.right=true→E p.left.toNat=true
structure IsGrow (g:Grammar) (token:Bool) (E:Nat→Bool):Prop where
 closed:Jw g token E
 least: ∀F,Jw g token F→ ∀k,E k=true→F k=true
theorem IsGrow.uniq {g:Grammar} {token:Bool} {E F:Nat→Bool} (h:IsGrow g token E) (k:IsGrow g token F):E=F:=by
 funext n
 rw[Bool.eq_iff_iff]
 exact⟨h.least F k.closed n,k.least E h.closed n⟩
theorem qba {token:Bool} {h F:Nat→Bool} (hh: ∀k,h k=true→F k=true) {l:List Int} (hl:Zt token h l=true):Zt token F l=true:=by
 unfold Zt at *
 rw[List.all_eq_true]at *
 intro s hs
 have:=hl s hs
 split
 · rename_i h1;rwa [if_pos h1]at this
 · rename_i h1;rw[if_neg h1]at this;exact hh _ this
theorem qaX {token:Bool} {h:Nat→Bool} {l:List Int} {i:Nat} (hi:i<l.length) (ht: ∀s∈l.take i,(if s<1000 then token else h (s - 1000).toNat)=true):(if l[i]<1000 then token else h (l[i] - 1000).toNat)=false→Zt token h l=false:=fun hf=>
 List.all_eq_false.2 ⟨l[i],List.getElem_mem hi,by rw[hf];exact Bool.false_ne_true⟩
def cf (h:Nat→Bool):Nat→Nat
 |0=>0
 |n+1=>cf h n+if h n=true then 0 else 1
theorem qfR {h:Nat→Bool} {k:Nat} (hk:h k=false): ∀n,(n≤k→cf (zb h k true) n=cf h n)∧(k<n→cf (zb h k true) n+1=cf h n)
 |0=>⟨fun _=>rfl,fun h=>by omega⟩
 | n +1=>by
   obtain ⟨h1,h2⟩:=qfR hk n
   unfold cf
   by_cases e:n=k
   · subst e
     have e2:zb h n true n=true:=by unfold zb;rw[if_pos rfl]
     rw[e2,h1 (Nat.le_refl _),hk]
     exact⟨fun h=>by omega,fun _=>by simp⟩
   · have e2:zb h k true n=h n:=by unfold zb;rw[if_neg e]
     rw[e2]
     exact⟨fun h=>by rw[h1 o_],fun h=>by have:=h2 o_;omega⟩
theorem qgG (n:Nat) (h:Nat→Bool):Cls' (QM n h):=inferInstanceAs (Cls' (List.map _ _))
theorem qJ0 {P:Program} [Glob P] {cls:Cls} {id:Nat} {s:St} {K:V→St→Prop} {f a:Opd} {fid:FuncId} {caps as':List V} {x res:V} (hf:ev s f=.fn fid caps) (ha:ev s a=x) (hc:(cls == .r)=false) (hE:Ers true s.H (x::caps) as') (hp:Pure P fid as' res) (hfl:Flat res) (hk:K res s):qd P cls id s K (.call f [a]):=by
 show (match funArgs (ev s f) ([a].map (ev s))with
  | some (fid,w0)=>
    (∃bor as' res,(cls=.r→bor=false)∧Ers bor s.H w0 as'∧Pure P fid as' res∧(bor=true→Flat res)∧K res s)∨
    (qum cls=true∧jQ P fid w0 s.H s.next fun v H' next'=>Yv cls s.next s.H H' next'∧K v {s with H:=H',next:=next'})
  |none=>False)
 rw[hf]
 subst ha
 exact Or.inl ⟨true,as',res,fun e=>(by subst e;cases hc),hE,hp,fun _=>hfl,hk⟩
theorem Kh {p:GPr} {token:Bool} {h:Nat→Bool} {n:Nat} (hr: ∀s∈p.right,s<1000∨ ∃k:Nat,s=1000+(k:Int)∧k<n) (hl:p.right.length≤1000000) (hn:n≤1000000):Pure Tryz.prog 136 [p.V,.iptr 1 (.bool token) 0,.iptr 1 (.sl 1 false (QM n h)) 0] (.bool (Zt token h p.right)):=by
 refine pure_intro Tryz.func136 nm_ qcX (by show 3≤33;decide) ?_
 show ewp _ qcU _ _
 repeat' with_reducible first
  |refine s_ ?_
  |simp -implicitDefEqProofs only[wZZ,seval]
  |refine t_ ?_
 refine qi ?nx1 (fun(i:Nat) s=>s.f 1=?v1_1∧s.f 2=?v1_2∧s.f 8=?v1_8∧s.f 9=?v1_9∧s.f 10=vi i∧(i≤p.right.length)∧(∀s∈p.right.take i,(if s<1000 then token else h (s - 1000).toNat)=true)) (fun i=>p.right.length - i) (0) wj_ (by refine⟨?_,?_,?_,?_,?_,wo_,wo_⟩<;>first|(simp -implicitDefEqProofs only[wL,wM,wN,wX,seval,Option.some.injEq]<;>exact wt_)|rfl|exact⟨_,rfl⟩) ?_
 intro i s hnx ⟨g1,g2,g8,g9,g10,k1_0,k1_1⟩
 have hz:=w1_ i
 by_cases hi:i<p.right.length
 · have hst:=qaX hi k1_1
   have hnx:(if p.right[i]<1000 then token else h (p.right[i] - 1000).toNat)=true→ ∀s∈p.right.take (i+1),(if s<1000 then token else h (s - 1000).toNat)=true:=fun hh s hs=>by
    rw[List.take_add_one,ge_ hi]at hs
    rcases List.mem_append.1 hs with hs|hs
    · exact k1_1 s hs
    · simp at hs;subst hs;exact hh
   rcases hr _ (List.getElem_mem hi)with hs|⟨k,hk,hkn⟩
   · rw [if_pos hs]at hst hnx
     cases token with
     | true=>
       repeat' with_reducible first
        |refine s_ ?_
        |simp -implicitDefEqProofs only[wZZ,seval,g1,g2,g8,g9,g10,hz]
        |(first|apply qa|apply qJ|apply qK)<;>intro h h_<;>(try simp only[wD,reduceCtorEq]at h_)<;>(try exact wb_)<;>(try simp only[h])
        |refine t_ ?_
       refine⟨wk_,i+1,o_,?_⟩
       refine⟨?_,?_,?_,?_,?_,?_,?_⟩
       iterate 5 (focus(first|(simp -implicitDefEqProofs only[wL,wM,wN,wX,seval,Option.some.injEq,g1,g2,g8,g9,g10]<;>exact wt_)|rfl|exact⟨_,rfl⟩))
       all_goals try omega
       exact hnx rfl
     | false=>
       rw[hst rfl]
       repeat' with_reducible first
        |refine s_ ?_
        |simp -implicitDefEqProofs only[wZZ,seval,g1,g2,g8,g9,g10,hz]
        |(first|apply qa|apply qJ|apply qK)<;>intro h h_<;>(try simp only[wD,reduceCtorEq]at h_)<;>(try exact wb_)<;>(try simp only[h])
        |refine t_ ?_
       refine qF rfl (Or.inr rfl) ?_
       simp -implicitDefEqProofs only[wL,seval,g1,g2,g8,g9,g10]
       refine er_ ?_
       try(with_reducible rfl)
   · have hz2:IntKind.i64.wrap (1000+(k:Int) - 1000)=(k:Int):=by rw[wrap64 o_ o_];omega
     rw[if_neg o_,hk,show ((1000+(k:Int)) - 1000).toNat=k by omega]at hst hnx
     have hbg:=kJ (h:=h) hkn
     cases hb:h k with
     | true=>
       repeat' with_reducible first
        |refine s_ ?_
        |simp -implicitDefEqProofs only[wZZ,seval,g1,g2,g8,g9,g10,hz,hk,hz2,hb]
        |(first|apply qa|apply qJ|apply qK)<;>intro h h_<;>(try simp only[wD,reduceCtorEq]at h_)<;>(try exact wb_)<;>(try simp only[h])
        |(apply Zy (qgj o_ (by with_unfolding_all exact hbg)))
        |refine t_ ?_
       refine⟨wk_,i+1,o_,?_⟩
       refine⟨?_,?_,?_,?_,?_,?_,?_⟩
       iterate 5 (focus(first|(simp -implicitDefEqProofs only[wL,wM,wN,wX,seval,Option.some.injEq,g1,g2,g8,g9,g10]<;>exact wt_)|rfl|exact⟨_,rfl⟩))
       all_goals try omega
       exact hnx hb
     | false=>
       rw[hst hb]
       repeat' with_reducible first
        |refine s_ ?_
        |simp -implicitDefEqProofs only[wZZ,seval,g1,g2,g8,g9,g10,hz,hk,hz2,hb]
        |(first|apply qa|apply qJ|apply qK)<;>intro h h_<;>(try simp only[wD,reduceCtorEq]at h_)<;>(try exact wb_)<;>(try simp only[h])
        |(apply Zy (qgj o_ (by with_unfolding_all exact hbg)))
        |refine t_ ?_
       refine qF rfl (Or.inr rfl) ?_
       simp -implicitDefEqProofs only[wL,seval,g1,g2,g8,g9,g10]
       refine er_ ?_
       try(with_reducible rfl)
 · rw[List.take_of_length_le o_]at k1_1
   have e:Zt token h p.right=true:=List.all_eq_true.2 k1_1
   rw[e]
   repeat' with_reducible first
    |refine s_ ?_
    |simp -implicitDefEqProofs only[wZZ,seval,g1,g2,g8,g9,g10]
    |apply qa<;>intro h h_<;>(try simp only[wD,reduceCtorEq]at h_)<;>(try exact wb_)<;>(try simp only[h])
   refine qF rfl (Or.inr rfl) ?_
   simp -implicitDefEqProofs only[wL,seval,g1,g2,g8,g9,g10]
   refine er_ ?_
   try(with_reducible rfl)

theorem qdP {H:Nat→Option MObj} {id sz:Nat} {ro:Bool} {e e':V} (hH:H id=some (.own sz [e] ro)) (h:Er true H e e'):Er true H (.ptr id 0 0) (.iptr sz e' 0):= .ptr id 0 0 sz _ ro _ _ rfl hH rfl h
theorem qca {H:Nat→Option MObj} {id n:Nat} {ro:Bool} {h:Nat→Bool} (hH:H id=some (.own 1 (QM n h) ro)):Er true H (.msl id 1 0 n) (.sl 1 false (QM n h)):=by
 have:=qgG n h
 exact vG hH (by rw[yD];omega) (by rw[List.drop_zero];exact List.take_of_length_le (by rw[yD];omega))
instance gpr_cl (p:GPr):Cl p.V:=⟨fun b H=>ErL.agg (.cons (.int _ _) (.cons qj (.cons (.int _ _) (.cons (.str _) (.cons qj (.cons (.int _ _) .nil))))))⟩
theorem GOk.rt {g:Grammar} (h:GOk g) {p:GPr} (hp:p∈g.prods): ∀s∈p.right,s<1000∨ ∃k:Nat,s=1000+(k:Int)∧k<g.nons.length:=fun s hs=>by
 rcases h.right p hp s hs with ⟨t,e,l⟩|⟨k,e,l⟩
 · have:=h.tk2;exact Or.inl o_
 · exact Or.inr ⟨k,e,l⟩
theorem Vv {g:Grammar} {token:Bool} (hg:GOk g): ∃E,IsGrow g token E∧Pure Tryz.prog 120 [g.V,.bool token] (.sl 1 false (QM g.nons.length E)):=by
 have hh:=qqo (G:=fun v=> ∃E,v=.sl 1 false (QM g.nons.length E)∧IsGrow g token E) (args:=[g.V,.bool token]) Tryz.func120 nm_ qdT (by show 2≤40;decide) ?_
 · obtain ⟨v,⟨E,rfl,h⟩,h2⟩:=hh
   exact⟨E,h,h2⟩
 show ewp _ qb7 _ _
 have hnl:=hg.nn2;have hpl:=hg.pl2
 have hb0:=qgB g.nons.length
 repeat' with_reducible first
  |refine s_ ?_
  |simp -implicitDefEqProofs only[wZZ,seval]
  |refine t_ ?_
  |apply qO;exact wu_;exact wu_;exact wu_
  |apply qpN;exact wf_;exact wf_;(focus(unfold maxLen;first|omega|(simp only[wZ]<;>omega)))
 rw[hb0]
 refine qi ?nx1 (fun(q:(Nat→Bool)×Bool) s=>s.f 2=?v1_2∧s.f 5=?v1_5∧s.f 6=?v1_6∧s.H 0=some (MObj.own 5 [g.V] false)∧s.H 1=some (MObj.own 1 [.bool token] false)∧s.H 7=some (MObj.own 1 [.msl 6 1 0 g.nons.length] false)∧s.f 7=.bool q.2∧((s.H 6=some (MObj.own 1 (QM g.nons.length q.1) false)))∧((∀F,Jw g token F→ ∀k,q.1 k=true→F k=true))∧((q.2=false→Jw g token q.1))) (fun q=>2 *cf q.1 g.nons.length+(if q.2=true then 1 else 0)) ((fun _=>false,true)) wj_ (by refine⟨?_,?_,?_,?_,?_,?_,?_,wc_,(by intro F _ k h;cases h),(by intro h;cases h)⟩<;>first|(simp -implicitDefEqProofs only[wL,wM,wN,wX,seval,Option.some.injEq]<;>exact wt_)|rfl|exact⟨_,rfl⟩) ?_
 intro q s hnx ⟨g2,g5,g6,o0,o1,o2,g7,k1_0,k1_1,k1_2⟩
 obtain ⟨h,b⟩:=q
 dsimp only at *
 cases b with
 | false=>
   have hcl:=k1_2 rfl
   repeat' with_reducible first
    |refine s_ ?_
    |simp -implicitDefEqProofs only[wZZ,seval,g2,g5,g6,g7,o0,o1,o2,k1_0]
    |apply qh;exact wu_
   refine⟨_,⟨h,rfl,hcl,k1_1⟩,Or.inr rfl,.msl 6 1 0 g.nons.length,?_,qca (ro:=false) ?_⟩
   · show qcH _ [.inl 4]=_
     simp[qcH,qbF,one,wL]
   · (simp only[wM];(repeat first|rw[if_pos trivial]|rw[if_pos rfl]|rw[if_neg o_]));exact k1_0
 | true =>
   repeat' with_reducible first
    |refine s_ ?_
    |simp -implicitDefEqProofs only[wZZ,seval,g2,g5,g6,g7,o0,o1,o2,k1_0]
    |refine t_ ?_
   refine qi ?nx2 (fun(r:Nat×(Nat→Bool)×Bool) s=>s.f 2=?v2_2∧s.f 5=?v2_5∧s.f 6=?v2_6∧s.f 17=?v2_17∧s.f 18=?v2_18∧s.H 0=some (MObj.own 5 [g.V] false)∧s.H 1=some (MObj.own 1 [.bool token] false)∧s.H 7=some (MObj.own 1 [.msl 6 1 0 g.nons.length] false)∧s.f 7=.bool r.2.2∧s.f 19=vi r.1∧(r.1≤g.prods.length)∧((s.H 6=some (MObj.own 1 (QM g.nons.length r.2.1) false)))∧((∀F,Jw g token F→ ∀k,r.2.1 k=true→F k=true))∧((r.2.2=false→r.2.1=h∧ ∀p∈g.prods.take r.1,Zt token h p.right=true→h p.left.toNat=true))∧((r.2.2=true→cf r.2.1 g.nons.length<cf h g.nons.length))) (fun r=>g.prods.length - r.1) ((0,h,false)) wj_ (by refine⟨?_,?_,?_,?_,?_,?_,?_,?_,?_,?_,wo_,(by(simp only[wM];(repeat first|rw[if_pos trivial]|rw[if_pos rfl]|rw[if_neg o_]));exact k1_0),(by exact k1_1),(by exact fun _=>⟨rfl,fun p hp=>by simp at hp⟩),(by intro h;cases h)⟩<;>first|(simp -implicitDefEqProofs only[wL,wM,wN,wX,seval,Option.some.injEq,g2,g5,g6,g7,o0,o1,o2]<;>exact wt_)|rfl|exact⟨_,rfl⟩) ?_
   intro r s hnx ⟨g2,g5,g6,g17,g18,o0,o1,o2,g7,g19,k2_0,k2_1,k2_2,k2_3,k2_4⟩
   obtain ⟨i,h',b'⟩:=r
   dsimp only at *
   have hz:=w1_ i
   by_cases hi:i<g.prods.length
   · have hmem:=List.getElem_mem hi
     obtain ⟨lf,hl1,hl2⟩:=hg.left _ hmem
     have hrt:=hg.rt hmem
     have hrl:=hg.rlen _ hmem
     have htk:g.prods.take (i+1)=g.prods.take i++[g.prods[i]]:=by rw[List.take_add_one,ge_ hi];rfl
     generalize hp:g.prods[i]=p at *
     have hcl:=Kh (p:=p) (token:=token) (h:=h') (n:=g.nons.length) hrt o_ o_
     have hgp:g.prods[i]?=some p:=by rw[ge_ hi,hp]
     have hpm:p∈g.prods:=hp ▸ List.getElem_mem hi
     clear hp
     obtain ⟨pl,pr,pc,pco,pa,pat⟩:=p
     dsimp only at hl1 hrt hrl hcl
     subst hl1
     have hnew:(b'=false→h'=h∧ ∀p∈g.prods.take i,Zt token h p.right=true→h p.left.toNat=true)→(Zt token h' pr=true→h' lf=true)→(b'=false→h'=h∧ ∀p∈g.prods.take (i+1),Zt token h p.right=true→h p.left.toNat=true):=fun q1 q2 hb=>by
      obtain ⟨e1,e2⟩:=q1 hb
      refine⟨e1,fun p hp hf=>?_⟩
      rw[htk]at hp
      rcases List.mem_append.1 hp with hp|hp
      · exact e2 p hp hf
      · rw[List.mem_singleton]at hp;subst hp
        subst e1
        exact q2 hf
     repeat' with_reducible first
      |refine s_ ?_
      |simp -implicitDefEqProofs only[wZZ,seval,g2,g5,g6,g17,g18,g7,g19,o0,o1,o2,k2_1,hz]
      |(first|apply qa|apply qJ|apply qK)<;>intro h h_<;>(try simp only[wD,reduceCtorEq]at h_)<;>(try exact wb_)<;>(try simp only[h])
      |(refine ldB hl2 ?_)
      |refine t_ ?_
      |apply qh;exact wu_
      |simp -implicitDefEqProofs (disch:=omega) only[w64,if_neg]
     · refine qJ0 (fid:=136) (caps:=[.ptr 1 0 0,.ptr 7 0 0]) (as':=[GPr.V {left:=lf,right:=pr,prec:=pc,code:=pco,args:=pa,at_:=pat},.iptr 1 (.bool token) 0,.iptr 1 (.sl 1 false (QM g.nons.length h')) 0]) (x:=GPr.V {left:=lf,right:=pr,prec:=pc,code:=pco,args:=pa,at_:=pat}) (by rfl) (by rfl) rfl ?_ hcl (Flat.bool _) ?_
       · refine zV qj (zV (qdP (ro:=false) (by(simp only[wM];(repeat first|rw[if_pos trivial]|rw[if_pos rfl]|rw[if_neg o_]));exact o1) (.bool _)) (zV (qdP (ro:=false) (by(simp only[wM];(repeat first|rw[if_pos trivial]|rw[if_pos rfl]|rw[if_neg o_]));exact o2) (qca (ro:=false) (by(simp only[wM];(repeat first|rw[if_pos trivial]|rw[if_pos rfl]|rw[if_neg o_]));exact k2_1))) Qg))
       cases hfit:Zt token h' pr with
       | true=>
         repeat' with_reducible first
          |refine s_ ?_
          |simp -implicitDefEqProofs only[wZZ,seval,g2,g5,g6,g17,g18,g7,g19,o0,o1,o2,k2_1,hz]
          |(refine stB hl2 ?_)
          |refine t_ ?_
          |apply qh;exact wu_
          |simp -implicitDefEqProofs (disch:=omega) only[w64,if_neg]
         refine⟨wg_,(i+1,zb h' lf true,true),by dsimp only;omega,trivial,trivial,trivial,trivial,trivial,trivial,trivial,trivial,rfl,rfl,by dsimp only;omega,rfl,fun F hF k hk=>?_,fun e=>(by cases e),fun _=>?_⟩
         · dsimp only at hk
           unfold zb at hk
           split at hk
           · rename_i e;subst e
             exact hF _ hpm (qba (k2_2 F hF) hfit)
           · exact k2_2 F hF k hk
         · have:=(qfR (h:=h') (k:=lf) (by assumption) g.nons.length).2 hl2
           show cf (zb h' lf true) g.nons.length<_
           cases b' with
           |false=>have e:=(k2_3 rfl).1;subst e;omega
           |true=>have:=k2_4 rfl;omega
       | false=>
         repeat' with_reducible first
          |refine s_ ?_
          |simp -implicitDefEqProofs only[wZZ,seval,g2,g5,g6,g17,g18,g7,g19,o0,o1,o2,k2_1,hz]
          |simp -implicitDefEqProofs (disch:=omega) only[w64,if_neg]
         refine⟨wg_,(i+1,h',b'),by dsimp only;omega,trivial,trivial,trivial,trivial,trivial,trivial,trivial,trivial,rfl,rfl,by dsimp only;omega,rfl,k2_2,hnew k2_3 (fun e=>by rw[hfit]at e;cases e),k2_4⟩
     · refine⟨wg_,(i+1,h',b'),by dsimp only;omega,trivial,trivial,trivial,trivial,trivial,trivial,trivial,trivial,rfl,rfl,by dsimp only;omega,rfl,k2_2,hnew k2_3 (fun _=>by assumption),k2_4⟩
   · have e:i=g.prods.length:=o_
     subst e
     rw[List.take_length]at k2_3
     repeat' with_reducible first
      |refine s_ ?_
      |simp -implicitDefEqProofs only[wZZ,seval,g2,g5,g6,g17,g18,g7,g19,o0,o1,o2,k2_1]
     refine⟨wg_,(h',b'),?_,trivial,trivial,trivial,trivial,trivial,trivial,rfl,rfl,k2_2,fun hb=>?_⟩
     · dsimp only
       cases b' with
       |false=>have e:=(k2_3 rfl).1;subst e;simp
       |true=>have:=k2_4 rfl;simp;omega
     · obtain ⟨e1,e2⟩:=k2_3 hb
       dsimp only
       rw[e1];exact e2
end Go.Proofs
