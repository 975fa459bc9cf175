/- Part of a proof that a law of the given program answers true. -/
import Derived.Test.YthgkeppkcjcmjaaTDB
import Derived.Test.YthgkeppkcjcmjaaTDD
import Derived.Test.YthgkeppkcjcmjaaTZH
set_option linter.unusedSimpArgs false
set_option linter.unusedVariables false
set_option maxHeartbeats 4000000
namespace Go.Proofs
open Go.E
theorem qLC {g:Grammar} {m:List Sta} {l:List Lk} (hM:MOk g m) (hG:MGo g m) {q t:Nat} (hq:q<m.length) (h:0≤goS m q t): ∃n:Nat,goS m q t=n∧n<m.length∧qF m n=kL g (qF m q) t:=by
 have e:m[q]?=some m[q]:=ge_ hq
 have hgo:goS m q t=goL m[q].mov t:=by unfold goS;rw[if_neg o_,Int.toNat_natCast,e]
 rw[hgo]at h ⊢
 rcases qaB m[q].mov (t:Int)with h1|h1
 · omega
 · obtain ⟨_,n,hn,hl⟩:=hM.mv _ (List.getElem_mem hq) _ h1
   have h2:=hG.tgt _ (List.getElem_mem hq) _ h1
   dsimp only at hn h2
   rw[hn,Int.toNat_natCast]at h2
   exact⟨n,hn,hl,by rw[h2,Zq e]⟩
theorem qer {g:Grammar} {nt q:Nat}: ∀(cells:List Cel) (t:Nat) (a:Int×Int),(qaU g nt q cells)[t]?=some a→a=(0,0)∨ ∃c∈cells,c.st=(q:Int)∧c.tok.toNat=t∧a=Kq g c:=by
 intro cells
 unfold qaU
 refine zS (fun r:List (Int×Int)=> ∀(t:Nat) (a:Int×Int),r[t]?=some a→a=(0,0)∨ ∃c∈cells,c.st=(q:Int)∧c.tok.toNat=t∧a=Kq g c) _ _ _ ?_ fun b c hc hb=>?_
 · intro t a h
   rw[List.getElem?_replicate]at h
   split at h
   · cases h;exact Or.inl rfl
   · cases h
 · intro t a h
   by_cases hq:c.st=(q:Int)
   · rw[if_pos hq,List.getElem?_set]at h
     split at h
     · rename_i e
       split at h
       · cases h;exact Or.inr ⟨c,hc,hq,e,rfl⟩
       · cases h
     · exact hb t a h
   · rw[if_neg hq]at h;exact hb t a h
theorem qfC {src:Source} {E:Nat→Bool} (hb:jB src=true):TabOk (qL src) (zn src) (Vx src E) (qaS src):=by
 obtain ⟨_,hg,hM,hG⟩:=xY hb
 have hLk:=look_ok (E:=E) hM hg
 have e1:Vx src E=Kt (qL src) (Qu src E) (zn src).length:=by unfold Vx;rw[if_pos hb]
 have e2:qaS src=qbL (qL src) (zn src) (zn src).length:=by unfold qaS;rw[if_pos hb]
 have e3:Qu src E=cellsS (qL src).toks.length (zn src) (Qv (qL src) E (zn src)):=by unfold Qu;rw[if_pos hb]
 rw[e1,e2,e3]
 generalize Qv (qL src) E (zn src)=l at *
 generalize zn src=m at *
 generalize qL src=g at *
 have row: ∀(q:Nat) r,(Kt g (cellsS g.toks.length m l) m.length)[q]?=some r→q<m.length∧r=qaU g g.toks.length q (cellsS g.toks.length m l):=fun q r h=>by
  unfold Kt at h
  rw[List.getElem?_map]at h
  by_cases hq:q<m.length
  · rw[List.getElem?_range hq]at h;cases h;exact⟨hq,rfl⟩
  · rw[List.getElem?_eq_none (by rw[List.length_range];omega)]at h;cases h
 have cel: ∀(q:Nat) r,(Kt g (cellsS g.toks.length m l) m.length)[q]?=some r→ ∀(t:Nat) a,r[t]?=some a→a=(0,0)∨(q<m.length∧a=Kq g (cellAt m l q t)∧0<z8 (cellAt m l q t)):=fun q r h t a ha=>by
  obtain ⟨hq,rfl⟩:=row q r h
  rcases qer _ t a ha with h0|⟨c,hc,h1,h2,h3⟩
  · exact Or.inl h0
  · right
    unfold cellsS at hc
    rw[List.mem_flatMap]at hc
    obtain ⟨q',_,hc⟩:=hc
    rw[List.mem_filterMap]at hc
    obtain ⟨t',_,hc⟩:=hc
    split at hc
    · rename_i hth
      cases hc
      have hq':q'=q:=by
       have:((q':Nat):Int)=q:=h1
       omega
      have ht':t'=t:=by
       have:((t':Nat):Int).toNat=t:=h2
       omega
      subst hq' ht'
      exact⟨hq,h3,hth⟩
    · cases hc
 have prs: ∀(q t:Nat) p,p∈(cellAt m l q t).prods→p∈xW g (qF m q):=fun q t p hp=>by
  unfold cellAt at hp
  dsimp only at hp
  rw[qeF (hLk.pr q)]at hp
  unfold qgq at hp
  rw[List.mem_map]at hp
  obtain ⟨k,hk,rfl⟩:=hp
  rw[List.mem_filter]at hk
  obtain ⟨q',h1,_,h2⟩:=hLk.st k hk.1
  simp only[Bool.and_eq_true,decide_eq_true_eq]at hk
  have:q'=q:=o_
  subst this
  exact h2
 refine⟨by simp[Kt],fun q r h=>?_,by simp[qbL],fun q r h=>?_,fun q r h t a ha h1=>?_,fun q r h t a ha h2=>?_⟩
 · obtain ⟨_,rfl⟩:=row q r h
   exact VS _ _ _ _
 · unfold qbL at h
   rw[List.getElem?_map]at h
   by_cases hq:q<m.length
   · rw[List.getElem?_range hq]at h;cases h;rfl
   · rw[List.getElem?_eq_none (by rw[List.length_range];omega)]at h;cases h
 · rcases cel q r h t a ha with rfl|⟨hq,rfl,hth⟩
   · exact absurd h1 (by decide)
   · have hshift:(Kq g (cellAt m l q t)).1=1→(Kq g (cellAt m l q t)).2=(cellAt m l q t).shift∧0≤(cellAt m l q t).shift:=by
      generalize cellAt m l q t=c at *
      obtain ⟨cs,ct,ch,ca,cp⟩:=c
      unfold Kq qp5 z8 at *
      dsimp only at *
      cases cp with
      |nil=>cases ca<;>simp at hth ⊢ <;>(try omega)
      | cons p cp=>
        dsimp only
        cases ca<;>(repeat' split)<;>simp_all<;>omega
     obtain ⟨e4,e5⟩:=hshift h1
     rw[e4]
     exact qLC (l:=l) hM hG hq e5
 · rcases cel q r h t a ha with rfl|⟨hq,rfl,hth⟩
   · exact absurd h2 (by decide)
   · have hred:(Kq g (cellAt m l q t)).1=2→(Kq g (cellAt m l q t)).2∈(cellAt m l q t).prods:=by
      generalize cellAt m l q t=c at *
      obtain ⟨cs,ct,ch,ca,cp⟩:=c
      unfold Kq qp5
      cases cp with
      |nil=>cases ca<;>simp
      | cons p cp=>
        dsimp only
        cases ca<;>(repeat' split)<;>simp_all
     exact prs q t _ (hred h2)

set_option maxHeartbeats 8000000
def Jo (g:Grammar) (l:List Int) (n:Nat):List Int:=(l.take n).map fun x=>x % ((g.toks.length+1:Nat):Int)
theorem Yg {g:Grammar} {l:List Int} {n:Nat} (hb:g.toks.length≤1000000) (hn:n≤100) (hl:l.length≤1099511627776):Pure Try.prog 15 [g.V,.sl 1 false (l.map (V.int .i64)),vi n] (.sl 1 false ((Jo g l n).map (V.int .i64))):=by
 refine pure_intro Try.func15 nm_ qIB (by show 3≤33;decide) ?_
 show ewp _ qjM _ _
 repeat' with_reducible first
  |refine s_ ?_
  |simp only[wZZ,seval]
  |refine t_ ?_
 refine qb ?nx1 (fun(i:Nat) s=>s.f 1=?v1_1∧s.f 2=?v1_2∧s.f 3=?v1_3∧s.H 0=some (.own 5 [g.V] false)∧(∃v,s.f 7=v∧Gr s.H s.next 1 ((Jo g l i).map (V.int .i64)) v)∧s.f 8=vi i∧(i≤l.length)∧(i≤n)) (fun i=>l.length - i) (0) wj_ (by refine⟨?_,?_,?_,?_,?_,?_,wo_,wo_⟩<;>first|(simp only[wL,wM,wN,wX,seval,Option.some.injEq]<;>exact wt_)|rfl|exact⟨_,rfl⟩) ?_
 intro i s hnx ⟨g1,g2,g3,o0,⟨v7,g7,G7⟩,g8,k1_0,k1_1⟩
 have hlt:(Jo g l i).length=i:=by unfold Jo;rw[List.length_map,List.length_take];omega
 have hz:=w1_ i
 have hz2:IntKind.i64.wrap ((g.toks.length+1:Nat):Int)=((g.toks.length+1:Nat):Int):=wrap64 o_ o_
 by_cases hi:i<l.length
 · by_cases hin:i<n
   · have hst:Jo g l (i+1)=Jo g l i++[l[i] % ((g.toks.length+1:Nat):Int)]:=by unfold Jo;rw[List.take_add_one,ge_ hi,List.map_append];rfl
     have hwi:=jU (i:=l[i]) (n:=((g.toks.length+1:Nat):Int)) o_ o_
     repeat' with_reducible first
      |refine s_ ?_
      |simp only[wZZ,seval,g1,g2,g3,g7,g8,o0,Gr.dropO G7 o0,hz,hz2,hlt,G7.len]
      |(first|apply qa|apply qg|apply qh)<;>intro h h_<;>(try simp only[wD,reduceCtorEq]at h_)<;>(try exact wb_)<;>(try simp only[h])
      |refine cq2 hwi qc qc ?_
      |refine t_ ?_
      |apply za (hg:=G7);(focus(first|rfl|(simp only[wM];done)));(focus(first|exact qU.sl|exact qU.asl|exact qU.gr G7|exact qU.str));exact wf_;(focus(unfold maxLen;first|omega|(simp only[wZ]<;>omega)))
     refine⟨wk_,i+1,o_,?_⟩
     refine⟨?_,?_,?_,?_,?_,?_,?_,?_⟩
     iterate 6 (focus(first|(simp only[wL,wM,wN,wX,seval,Option.some.injEq,g1,g2,g3,g7,g8,o0,Gr.dropO G7 o0,hst]<;>first|rfl|exact⟨_,rfl⟩|exact⟨_,rfl,by first|assumption|exact Gr.nil|exact Gr.tok rfl o_|exact Gr.tok (by simp only[wM,seval]<;>rfl) o_|exact Gr.clip|exact G7.to (by first|rfl|(simp[*];done)) o_ rfl⟩)|rfl|exact⟨_,rfl⟩))
     all_goals try omega
   · have e:i=n:=o_
     subst e
     repeat' with_reducible first
      |refine s_ ?_
      |simp only[wZZ,seval,g1,g2,g3,g7,g8,o0,Gr.dropO G7 o0,G7.len]
      |(first|apply qg|apply qh)<;>intro h h_<;>(try simp only[wD,reduceCtorEq]at h_)<;>(try exact wb_)<;>(try simp only[h])
     all_goals refine qA rfl (Or.inr rfl) ?_
     all_goals(try simp only[wL,seval,g1,g2,g3,g7,g8])
     all_goals(first|refine er_ ?_ |refine G7.er ?_)
     all_goals(try(with_reducible rfl))
 · have e:Jo g l i=Jo g l n:=by unfold Jo;rw[List.take_of_length_le o_,List.take_of_length_le o_]
   rw[e]at G7
   repeat' with_reducible first
    |refine s_ ?_
    |simp only[wZZ,seval,g1,g2,g3,g7,g8,o0,Gr.dropO G7 o0,G7.len]
    |(first|apply qg|apply qh)<;>intro h h_<;>(try simp only[wD,reduceCtorEq]at h_)<;>(try exact wb_)<;>(try simp only[h])
   all_goals refine qA rfl (Or.inr rfl) ?_
   all_goals(try simp only[wL,seval,g1,g2,g3,g7,g8])
   all_goals(first|refine er_ ?_ |refine G7.er ?_)
   all_goals(try(with_reducible rfl))
def XJ (l:List Int) (n:Nat):List Int:=if n<l.length then l.take n else l
theorem Qn {l:List Int} {n:Nat} (hl:l.length≤1099511627776) (hn:n≤1000000):Pure Try.prog 16 [.sl 1 false (l.map (V.int .i64)),vi n] (.sl 1 false ((XJ l n).map (V.int .i64))):=by
 refine pure_intro Try.func16 nm_ qMy (by show 2≤13;decide) ?_
 show ewp _ qMa _ _
 by_cases h:n<l.length
 · have e:XJ l n=l.take n:=by unfold XJ;rw[if_pos h]
   rw[e]
   repeat' with_reducible first
    |refine s_ ?_
    |simp only[wZZ,seval]
    |apply qa<;>intro h h_<;>(try simp only[wD,reduceCtorEq]at h_)<;>(try exact wb_)<;>(try simp only[h])
    |apply yX;omega;exact wf_
   all_goals refine qA rfl (Or.inr rfl) ?_
   all_goals(try simp only[wL,seval])
   all_goals refine er_ ?_
   all_goals(try(with_reducible rfl))
 · have e:XJ l n=l:=by unfold XJ;rw[if_neg h]
   rw[e]
   repeat' with_reducible first
    |refine s_ ?_
    |simp only[wZZ,seval]
    |apply qa<;>intro h h_<;>(try simp only[wD,reduceCtorEq]at h_)<;>(try exact wb_)<;>(try simp only[h])
   all_goals refine qA rfl (Or.inr rfl) ?_
   all_goals(try simp only[wL,seval])
   all_goals refine er_ ?_
   all_goals(try(with_reducible rfl))
theorem XU {r:RunR} (hr:r.prods.length≤1000001):Pure Try.prog 17 [r.V,r.V] (.bool true):=by
 refine pure_intro Try.func17 nm_ qAV (by show 2≤38;decide) ?_
 show ewp _ qAN _ _
 obtain ⟨rk,ra,rs,rd,rp⟩:=r
 dsimp only at hr
 have heq:=jX (a:=rp) (b:=rp) o_ o_
 rw[decide_eq_true rfl]at heq
 have e1: ∀x:Int,decide (x=x)=true:=fun x=>decide_eq_true rfl
 repeat' with_reducible first
  |refine s_ ?_
  |simp only[wZZ,seval,e1]
  |refine cq2 heq qc qc ?_
  |refine t_ ?_
 all_goals refine qA rfl (Or.inr rfl) ?_
 all_goals(try simp only[wL,seval])
 all_goals refine er_ ?_
 all_goals(try(with_reducible rfl))
theorem qcd {g:Grammar} {A:List (List (Int×Int))} {G:List (List Int)} {l:List Int} {dp sp:Nat}: ∀(n:Nat) (st:List Nat) (r:RunR),(qeM g A G l dp sp n st r).prods.length≤r.prods.length+n
 |0,_,r=>Nat.le_refl _
 | n+1,st,r=>by
   unfold qeM
   dsimp only
   repeat' split
   all_goals first|(dsimp only;omega)|(refine Nat.le_trans (qcd n _ _) ?_;dsimp only;(try rw[List.length_append,List.length_singleton]);omega)
theorem qgu {g:Grammar} {A:List (List (Int×Int))} {G:List (List Int)} {l:List Int} {dp sp:Nat} (h:sp≤1000000):(qgm g A G l dp sp).prods.length≤1000001:=by
 have:=qcd (g:=g) (A:=A) (G:=G) (l:=l) (dp:=dp) (sp:=sp) (sp+1) [0] {}
 unfold qgm
 simp at this
 omega
@[reducible] def JI:Source:={rules:=[{left:=[101],alts:=[{parts:=[{sym:={name:=[101]}},{sym:={name:=[43],lit:=true}},{sym:={name:=[120],lit:=true}}]},{parts:=[{sym:={name:=[120],lit:=true}}]}]}]}
theorem lrR:(qL JI).prods.map (fun p=>(p.left,p.right))=[(0,[1001]),(1,[1001,3,4]),(1,[4])]:=by decide+kernel
theorem okR:jB JI=true:=by decide+kernel
theorem qAQ:IsGrow (qL JI) false (fun _=>false):=by
 refine⟨fun p hp h=>?_,fun F hF k hk=>(by cases hk)⟩
 have:(p.left,p.right)∈(qL JI).prods.map (fun p=>(p.left,p.right)):=List.mem_map.2 ⟨p,hp,rfl⟩
 rw[lrR]at this
 simp only[List.mem_cons,List.not_mem_nil,or_false,Prod.mk.injEq]at this
 rcases this with ⟨e1,e2⟩|⟨e1,e2⟩|⟨e1,e2⟩<;>rw[e2]at h<;>cases h
theorem qOm:qgm (qL JI) (Vx JI fun _=>false) (qaS JI) [4,3,4] 9 9=⟨1,3,5,3,[2,1]⟩:=by decide+kernel
theorem qPz:qgm (qL JI) (Vx JI fun _=>false) (qaS JI) [4,4] 9 9=⟨2,1,1,1,[]⟩:=by decide+kernel
theorem qRc:qgm (qL JI) (Vx JI fun _=>false) (qaS JI) [4] 9 0=⟨3,0,0,0,[]⟩:=by decide+kernel

theorem qMe:Small JI:=by
 refine⟨by simp,fun d h=>?_,fun d h=>?_,fun d h=>?_,by simp,?_,?_,?_,?_⟩
 · cases h
 · cases h
 · cases h
 · decide
 · decide
 · decide
 · decide
theorem qOz:JI.Fits:=by
 refine⟨by simp,by simp,by simp,fun d h=>?_,by simp,fun r hr=>?_⟩
 · cases h
 · simp only[List.mem_cons,List.not_mem_nil,or_false]at hr
   subst hr
   refine⟨by simp,by simp,fun a ha=>?_⟩
   simp only[List.mem_cons,List.not_mem_nil,or_false]at ha
   rcases ha with rfl|rfl
   · refine⟨by simp,fun p hp=>?_,by simp⟩
     simp only[List.mem_cons,List.not_mem_nil,or_false]at hp
     rcases hp with rfl|rfl|rfl<;>exact⟨by simp,by simp⟩
   · refine⟨by simp,fun p hp=>?_,by simp⟩
     simp only[List.mem_cons,List.not_mem_nil,or_false]at hp
     subst hp;exact⟨by simp,by simp⟩
theorem qnk {H:Nat→Option MObj}:Er false H (.agg [.str [],.sl 4 true [],.sl 3 true [.agg [.str [101],.sl 6 true [.agg [.sl 6 true [.agg [.str [101],.bool false,vi 0,vi 0,.str [],vi 0],.agg [.str [43],.bool true,vi 0,vi 0,.str [],vi 0],.agg [.str [120],.bool true,vi 0,vi 0,.str [],vi 0]],.str [],.bool false,vi 0,vi 0,vi 0],.agg [.sl 6 true [.agg [.str [120],.bool true,vi 0,vi 0,.str [],vi 0]],.str [],.bool false,vi 0,vi 0,vi 0]],vi 0]],.str []]) JI.V:=by
 have p: ∀(n:List UInt8) (b:Bool),Er false H (.agg [.str n,.bool b,vi 0,vi 0,.str [],vi 0]) (.agg [.str n,.bool b,vi 0,vi 0,.str [],vi 0]):=fun n b=>qc
 refine ErL.agg (.cons (.str _) (.cons (ErL.sl .nil) (.cons (ErL.sl ?_) (.cons (.str _) .nil))))
 refine .cons (ErL.agg (.cons (.str _) (.cons (ErL.sl ?_) (.cons (.int _ _) .nil)))) .nil
 refine .cons (ErL.agg (.cons (ErL.sl ?_) (.cons (.str _) (.cons (.bool _) (.cons (.int _ _) (.cons (.int _ _) (.cons (.int _ _) .nil))))))) (.cons (ErL.agg (.cons (ErL.sl ?_) (.cons (.str _) (.cons (.bool _) (.cons (.int _ _) (.cons (.int _ _) (.cons (.int _ _) .nil))))))) .nil)
 · exact .cons (p _ _) (.cons (p _ _) (.cons (p _ _) .nil))
 · exact .cons (p _ _) .nil
theorem qSP:Pure Try.prog 14 [JI.V] (.tup [(qL JI).V,qqy (Vx JI fun _=>false) (qaS JI),vi (qg6 (Qu JI fun _=>false)),.bool true]):=by
 have:=vv qOz (fun _=>qMe) (fun _=>qAQ)
 rw[okR]at this
 exact this
theorem JM:Pure Try.prog 11 [] (.bool true):=by
 refine pure_intro Try.func11 nm_ qCt (by show 0≤67;decide) ?_
 show ewp _ qyI _ _
 have hde:=qSP
 obtain ⟨_,hg,hM,hG⟩:=xY okR
 have hT:=qfC (E:=fun _=>false) okR
 have r1:=QS (l:=[4,3,4]) (depth:=9) (steps:=9) hg hM hG hT (by simp)
 have r2:=QS (l:=[4,4]) (depth:=9) (steps:=9) hg hM hG hT (by simp)
 have r3:=QS (l:=[4]) (depth:=9) (steps:=0) hg hM hG hT (by simp)
 rw[show jK 9 100000=9 from rfl,show jK 9 1000000=9 from rfl,qOm]at r1
 rw[show jK 9 100000=9 from rfl,show jK 9 1000000=9 from rfl,qPz]at r2
 rw[show jK 9 100000=9 from rfl,show jK 0 1000000=0 from rfl,qRc]at r3
 have heq:=XU (r:=⟨1,3,5,3,[2,1]⟩) (by simp)
 generalize qg6 (Qu JI fun _=>false)=rw_ at *
 generalize (Vx JI fun _=>false)=A at *
 generalize qaS JI=G at *
 generalize qL JI=g at *
 have erR: ∀(H:Nat→Option MObj),Er false H (.agg [vi 1,vi 3,vi 5,vi 3,.sl 1 true [vi 2,vi 1]]) (RunR.V ⟨1,3,5,3,[2,1]⟩):=fun H=>ErL.agg (.cons (.int _ _) (.cons (.int _ _) (.cons (.int _ _) (.cons (.int _ _) (.cons (ZW (l:=[2,1])) .nil)))))
 repeat' with_reducible first
  |refine s_ ?_
  |simp only[wZZ,seval]
  |apply JA (hp:=hde);with_unfolding_all exact qnk
  |apply qcC (hp:=r1);exact qc;exact qc;(focus(with_unfolding_all first|exact ZW|exact jA));exact qc;exact qc
  |apply qcC (hp:=r2);exact qc;exact qc;(focus(with_unfolding_all first|exact ZW|exact jA));exact qc;exact qc
  |apply qcC (hp:=r3);exact qc;exact qc;(focus(with_unfolding_all first|exact ZW|exact jA));exact qc;exact qc
  |(refine JL (v:=vi 3) wu_ ?_)
  |apply kM (hp:=heq);(focus(with_unfolding_all first|exact qc|exact erR _));with_unfolding_all exact erR _
  |refine t_ ?_
 all_goals refine qA rfl (Or.inr rfl) ?_
 all_goals(try simp only[wL,seval])
 all_goals refine er_ ?_
 all_goals(try(with_reducible rfl))
end Go.Proofs
