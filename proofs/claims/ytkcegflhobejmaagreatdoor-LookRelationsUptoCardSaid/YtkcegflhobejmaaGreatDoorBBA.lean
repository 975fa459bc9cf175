/- Part of a proof that a law of the given program answers true. -/
import Derived.Test.YtkcegflhobejmaaGreatDoorBZB
import Derived.Test.YtkcegflhobejmaaGreatDoorBCA
import Derived.Test.YtkcegflhobejmaaGreatDoorXEC
import Derived.Test.YtkcegflhobejmaaGreatDoorBJA
set_option maxRecDepth 20000
set_option linter.unusedSimpArgs false
set_option linter.unusedVariables false
set_option maxHeartbeats 4000000
namespace Go.Proofs
open Go.E
theorem KJ {m:List Sta} {q:Nat} {sy:Int} (hq:q<m.length) (hm:m.length≤1000000) (hv: ∀q∈m,q.mov.length≤1000000):Pure Tryz.prog 94 [.sl 2 false (m.map Sta.V),vi q,vi sy] (vi (goS m q sy)):=by
 refine pure_intro Tryz.func94 nm_ qiS (by show 3≤26;decide) ?_
 show ewp _ qiQ _ _
 have hgn:m[q]?=some m[q]:=ge_ hq
 have hml:=hv _ (List.getElem_mem hq)
 rw[qka hgn]
 generalize m[q]=x at *
 obtain ⟨xk,xm⟩:=x
 dsimp only at hml ⊢
 repeat' with_reducible first
  |refine s_ ?_
  |simp -implicitDefEqProofs only[wZZ,seval]
  |refine t_ ?_
 refine qc ?nx1 (fun(i:Nat) s=>s.f 2=?v1_2∧s.f 13=?v1_13∧s.f 14=?v1_14∧s.f 15=vi i∧(i≤xm.length)∧(goL xm sy=goL (xm.drop i) sy)) (fun i=>xm.length - i) (0) wj_ (by refine⟨?_,?_,?_,?_,wo_,(by rfl)⟩<;>first|(simp -implicitDefEqProofs only[wL,wM,wN,wX,seval,Option.some.injEq]<;>exact wt_)|rfl|exact⟨_,rfl⟩) ?_
 intro i s hnx ⟨g2,g13,g14,g15,k1_0,k1_1⟩
 have hz:=w1_ i
 by_cases hi:i<xm.length
 · have hgi:xm[i]?=some xm[i]:=ge_ hi
   have hst:=qfP (s:=sy) hgi
   generalize xm[i]=p at *
   obtain ⟨p1,p2⟩:=p
   dsimp only at hst
   by_cases hc:p1=sy
   · rw[if_pos hc]at hst
     rw[k1_1,hst]
     repeat' with_reducible first
      |refine s_ ?_
      |simp -implicitDefEqProofs only[wZZ,seval,g2,g13,g14,g15,hz]
      |apply qa<;>intro h h_<;>(try simp only[wD,reduceCtorEq]at h_)<;>(try exact wb_)<;>(try simp only[h])
      |refine t_ ?_
     all_goals refine qx rfl (Or.inr rfl) ?_
     all_goals(try simp -implicitDefEqProofs only[wL,seval,g2,g13,g14,g15])
     all_goals refine er_ ?_
     all_goals(try(with_reducible rfl))
   · rw[if_neg hc]at hst
     repeat' with_reducible first
      |refine s_ ?_
      |simp -implicitDefEqProofs only[wZZ,seval,g2,g13,g14,g15,hz]
      |apply qa<;>intro h h_<;>(try simp only[wD,reduceCtorEq]at h_)<;>(try exact wb_)<;>(try simp only[h])
      |refine t_ ?_
     refine⟨wk_,i+1,o_,?_⟩
     refine⟨?_,?_,?_,?_,?_,?_⟩
     iterate 4 (focus(first|(simp -implicitDefEqProofs only[wL,wM,wN,wX,seval,Option.some.injEq,g2,g13,g14,g15]<;>exact wt_)|rfl|exact⟨_,rfl⟩))
     all_goals try omega
 · have e:xm.drop i=[]:=List.drop_of_length_le o_
   rw[e]at k1_1
   rw[k1_1]
   repeat' with_reducible first
    |refine s_ ?_
    |simp -implicitDefEqProofs only[wZZ,seval,g2,g13,g14,g15,hz]
    |apply qa<;>intro h h_<;>(try simp only[wD,reduceCtorEq]at h_)<;>(try exact wb_)<;>(try simp only[h])
   all_goals refine qx rfl (Or.inr rfl) ?_
   all_goals(try simp -implicitDefEqProofs only[wL,seval,g2,g13,g14,g15])
   all_goals refine er_ ?_
   all_goals(try(with_reducible rfl))
   all_goals rfl
theorem Va {m:List Sta} (hm:m.length≤1000) (hq: ∀q∈m,q.mov.length≤1000):Pure Tryz.prog 15 [.sl 2 false (m.map Sta.V)] (.sl 2 false ((qg m).map prV)):=by
 refine pure_intro Tryz.func15 nm_ qj3 (by show 1≤35;decide) ?_
 show ewp _ qlp _ _
 have hdef:qg m=jR m m.length:=rfl
 rw[hdef]
 repeat' with_reducible first
  |refine s_ ?_
  |simp -implicitDefEqProofs only[wZZ,seval]
 refine qc ?nx1 (fun(i:Nat) s=>s.f 8=?v1_8∧s.f 9=?v1_9∧(∃v,s.f 3=v∧Gr s.H s.next 2 ((jR m i).map prV) v)∧s.f 10=vi i∧(i≤m.length)∧((jR m i).length≤i *1000)) (fun i=>m.length - i) (0) wj_ (by refine⟨?_,?_,?_,?_,wo_,(by exact Nat.zero_le _)⟩<;>first|(simp -implicitDefEqProofs only[wL,wM,wN,wX,seval,Option.some.injEq]<;>exact wt_)|rfl|exact⟨_,rfl⟩) ?_
 intro i s hnx ⟨g8,g9,⟨v3,g3,G3⟩,g10,k1_0,k1_1⟩
 have hz:=w1_ i
 by_cases hi:i<m.length
 · have hgi:m[i]?=some m[i]:=ge_ hi
   have hml:=hq _ (List.getElem_mem hi)
   have hst:=yO m i
   have hmi:qdF m i=m[i].mov:=by unfold qdF;rw[hgi];rfl
   rw[hmi]at hst
   generalize m[i]=x at *
   generalize hT:jR m i=T at *
   obtain ⟨xk,xm⟩:=x
   dsimp only at hml hst
   repeat' with_reducible first
    |refine s_ ?_
    |simp -implicitDefEqProofs only[wZZ,seval,g8,g9,g3,g10,hz,G3.len]
    |apply qa<;>intro h h_<;>(try simp only[wD,reduceCtorEq]at h_)<;>(try exact wb_)<;>(try simp only[h])
    |refine t_ ?_
   refine qc ?nx2 (fun(j:Nat) s=>s.f 4=?v2_4∧s.f 8=?v2_8∧s.f 9=?v2_9∧s.f 10=?v2_10∧s.f 16=?v2_16∧s.f 17=?v2_17∧(∃v,s.f 3=v∧Gr s.H s.next 2 ((T++(xm.take j).filterMap (trF i)).map prV) v)∧s.f 18=vi j∧(j≤xm.length)∧(((xm.take j).filterMap (trF i)).length≤j)) (fun j=>xm.length - j) (0) wj_ (by refine⟨?_,?_,?_,?_,?_,?_,?_,?_,wo_,(by exact Nat.zero_le _)⟩<;>first|(simp -implicitDefEqProofs only[wL,wM,wN,wX,seval,Option.some.injEq,g8,g9,g3,g10]<;>first|rfl|exact⟨_,rfl⟩|exact⟨_,rfl,by first|assumption|exact Gr.nil|exact Gr.tok rfl o_|exact Gr.tok (by simp -implicitDefEqProofs only[wM,seval]<;>rfl) o_|exact Gr.clip|exact G3.to (by first|rfl|(simp[*];done)) o_ rfl|exact G3.mono' (by first|rfl|(simp[*];done)) o_ (fun j hj hl=>by(try simp only[wM,jS]);repeat(first|rfl|rw[if_neg o_]))⟩)|rfl|exact⟨_,rfl⟩|exact⟨_,rfl,by first|assumption|exact G3.to (by first|rfl|(simp[*];done)) o_ rfl|exact G3.mono' (by first|rfl|(simp[*];done)) o_ (fun j hj hl=>by(try simp only[wM,jS]);repeat(first|rfl|rw[if_neg o_]))⟩) ?_
   intro j s hnx ⟨g4,g8,g9,g10,g16,g17,⟨v3,g3,G3⟩,g18,k2_0,k2_1⟩
   have hzj:=w1_ j
   by_cases hj:j<xm.length
   · have hgj:xm[j]?=some xm[j]:=ge_ hj
     have hst2:=qgk (trF i) hgj
     generalize xm[j]=p at *
     generalize (xm.take j).filterMap (trF i)=U at *
     obtain ⟨p1,p2⟩:=p
     by_cases hc:1000≤p1
     · have hst3:(xm.take (j+1)).filterMap (trF i)=U++[((i:Int),p1)]:=by rw[hst2];simp[trF,hc]
       have hlr:(T++U).length=T.length+U.length:=List.length_append
       repeat' with_reducible first
        |refine s_ ?_
        |simp -implicitDefEqProofs only[wZZ,seval,g4,g8,g9,g10,g16,g17,g3,g18,hzj,G3.len]
        |apply qa<;>intro h h_<;>(try simp only[wD,reduceCtorEq]at h_)<;>(try exact wb_)<;>(try simp only[h])
        |apply qZ rfl (G3.mono (Nat.le_refl _) (fun id h1 h2=>by(try simp only[wM]);(repeat rw[if_neg o_])));(focus(first|exact qP.sl|exact qP.asl));(focus(simp only[wZ,hlr];omega));(focus(unfold maxLen;simp only[wZ,hlr];omega))
        |refine t_ ?_
       exact⟨wg_,j+1,o_,trivial,trivial,trivial,trivial,trivial,trivial,⟨_,rfl,by rw[hst3,← List.append_assoc,List.map_append];exact Gr.tok (id:=s.next+1+4+3+6) (fin:=(T++U).length+1) hh_ wg_⟩,rfl,o_,by rw[hst3,List.length_append,List.length_singleton];omega⟩
     · have hst3:(xm.take (j+1)).filterMap (trF i)=U:=by rw[hst2];simp[trF,hc]
       repeat' with_reducible first
        |refine s_ ?_
        |simp -implicitDefEqProofs only[wZZ,seval,g4,g8,g9,g10,g16,g17,g3,g18,hzj,G3.len]
        |apply qa<;>intro h h_<;>(try simp only[wD,reduceCtorEq]at h_)<;>(try exact wb_)<;>(try simp only[h])
        |refine t_ ?_
       refine⟨wk_,j+1,o_,?_⟩
       refine⟨?_,?_,?_,?_,?_,?_,?_,?_,?_,?_⟩
       iterate 8 (focus(first|(simp -implicitDefEqProofs only[wL,wM,wN,wX,seval,Option.some.injEq,g4,g8,g9,g10,g16,g17,g3,g18,hst3]<;>first|rfl|exact⟨_,rfl⟩|exact⟨_,rfl,by first|assumption|exact Gr.nil|exact Gr.tok rfl o_|exact Gr.tok (by simp -implicitDefEqProofs only[wM,seval]<;>rfl) o_|exact Gr.clip|exact G3.to (by first|rfl|(simp[*];done)) o_ rfl|exact G3.mono' (by first|rfl|(simp[*];done)) o_ (fun j hj hl=>by(try simp only[wM,jS]);repeat(first|rfl|rw[if_neg o_]))⟩)|rfl|exact⟨_,rfl⟩|exact⟨_,rfl,by first|assumption|exact G3.to (by first|rfl|(simp[*];done)) o_ rfl|exact G3.mono' (by first|rfl|(simp[*];done)) o_ (fun j hj hl=>by(try simp only[wM,jS]);repeat(first|rfl|rw[if_neg o_]))⟩))
       all_goals try omega
       rw[hst3];omega
   · have e:xm.take j=xm:=List.take_of_length_le o_
     rw[e]at G3 k2_1
     rw[← hst]at G3
     repeat' with_reducible first
      |refine s_ ?_
      |simp -implicitDefEqProofs only[wZZ,seval,g4,g8,g9,g10,g16,g17,g3,g18,hz,G3.len]
      |apply qa<;>intro h h_<;>(try simp only[wD,reduceCtorEq]at h_)<;>(try exact wb_)<;>(try simp only[h])
     exact⟨wg_,i+1,o_,trivial,trivial,⟨v3,rfl,G3.mono wg_ (fun _ _ _=>rfl)⟩,rfl,o_,by rw[hst,List.length_append];omega⟩
 · have e:i=m.length:=o_
   subst e
   skip
   repeat' with_reducible first
    |refine s_ ?_
    |simp -implicitDefEqProofs only[wZZ,seval,g8,g9,g3,g10,hz,G3.len]
   all_goals refine qx rfl (Or.inr rfl) ?_
   all_goals(try simp -implicitDefEqProofs only[wL,seval,g8,g9,g3,g10])
   all_goals(first|refine er_ ?_ |refine G3.er ?_)
   all_goals(try(with_reducible rfl))
end Go.Proofs

namespace Go.E
section
variable {P : Program} [Glob P] {cls : Cls} {id : Nat} {s : St}
theorem qiv {K:V→St→Prop}:qd P cls id s K .mkmap=K (.map id) (s.setO id (some (.mapo []))):=rfl
theorem qvD {K:V→St→Prop} (x k v:Opd):qd P cls id s K (.mset x k v)=onS (Qr s (ev s x) (ev s k) (ev s v)) fun s'=>K .undef s':=rfl
theorem qZl {K:St→Prop} {i:Nat} {l:List (Int×Int×Int)} {a b c:Int} (hH:s.H i=some (.mapo l)) (hn: ∀e∈l,¬ (e.1=a∧e.2.1=b)) (hk:K (s.setO i (some (.mapo (l++[(a,b,c)]))))):
 onS (Qr s (.map i) (.agg [.int .i64 a,.int .i64 b]) (.int .i64 c)) K:=by
 have e:l.find? (fun e=>e.1 == a && e.2.1 == b)=none:=by
  rw[List.find?_eq_none]
  intro x hx h
  rw[Bool.and_eq_true,beq_iff_eq,beq_iff_eq]at h
  exact hn x hx h
 have e1:Qr s (.map i) (.agg [.int .i64 a,.int .i64 b]) (.int .i64 c)=some (s.setO i (some (.mapo (l++[(a,b,c)])))):=by
  unfold Qr
  simp only[hH,e]
 rw[e1];exact hk
end
end Go.E

namespace Go.Proofs
open Go.E
theorem KI {g:Grammar} {E:Nat→Bool} (hg:GOk g) (hE:IsGrow g false E):Pure Tryz.prog 88 [g.V] (.sl 1 false (vV g.nons.length E)):=by
 refine pure_intro Tryz.func88 nm_ qju (by show 1≤5;decide) ?_
 show ewp _ qC3 _ _
 obtain ⟨E',hE',hp⟩:=X7 (token:=false) hg
 obtain rfl:=hE.uniq hE'
 repeat' with_reducible first
  |refine s_ ?_
  |simp -implicitDefEqProofs only[wZZ,seval]
  |refine cq2 hp qf (.bool _) ?_
  |refine t_ ?_
 refine qx rfl (Or.inr rfl) ?_
 (simp -implicitDefEqProofs only[wL,seval])
 exact @jv _ _ _ _ _ (Y2 _ _)
theorem qd5 (j:Nat):(V.map j).cells=[V.map j]:=rfl
@[reducible] def qpv (g:Grammar) (m:List Sta) (E:Nat→Bool) (j:Nat):V:= .agg [.sl 6 false (g.toks.map Tok.V),.sl 2 false (g.nons.map Non.V),.sl 6 false (g.prods.map GPr.V),.str g.pro,.str g.tail,.sl 2 false (m.map Sta.V),.sl 2 false ((qg m).map prV),.map j,.sl 1 false (vV g.nons.length E)]
theorem of_run {H:Nat→Option MObj} {next:Nat} {g:Grammar} {m:List Sta} {E:Nat→Bool} (hg:GOk g) (hM:MOk g m) (hR: ∀q∈m,RMv q) (hE:IsGrow g false E):zl Tryz.prog 51 [g.V,.sl 2 false (m.map Sta.V)] H next (fun v H' n'=> ∃i j,v=.ptr i 0 0∧next≤i∧i<n'∧H' i=some (.own 9 [qpv g m E j] false)∧(∀k,k<next→H' k=H k)∧H' j=some (.mapo (VA (qg m) (qg m).length))):=by
 refine zh Tryz.func51 nm_ qiJ (by show 2≤35;decide) ?_
 show ewp _ qkj _ _
 have hml:=hM.len
 have htr:=Va (m:=m) o_ (fun q h=>by have:=hM.mvl q h;omega)
 have htl:=hM.trans_len
 have hlx:=Q8 hR
 have hem:=KI hg hE
 obtain ⟨gt,gn,gp,gpr,gta⟩:=g
 repeat' with_reducible first
  |refine s_ ?_
  |simp -implicitDefEqProofs only[wZZ,seval,qiv,qd5]
  |refine cq1 htr qf ?_
  |refine cq1 hem qf ?_
  |refine t_ ?_
  |simp -implicitDefEqProofs (disch:=omega) only[w64,if_neg]
 generalize hT:qg m=T at *
 refine qc ?nx1 (fun(i:Nat) s=>s.f 5=?v1_5∧s.f 20=?v1_20∧s.f 21=?v1_21∧s.H (next+2+8)=?o1_0∧s.f 22=vi i∧(i≤T.length)∧((∀k,k<next→s.H k=H k))∧(s.H (next+2+4)=some (.mapo (VA T i)))) (fun i=>T.length - i) (0) wj_ (by refine⟨?_,?_,?_,?_,?_,wo_,(by intro k hk;simp only[wM];(repeat rw[if_neg o_])),(by(try simp -implicitDefEqProofs only[wL,wM,wN,seval]);(exact(if_neg o_).trans rfl))⟩<;>first|(simp -implicitDefEqProofs only[wL,wM,wN,wX,seval,Option.some.injEq]<;>exact wt_)|rfl|exact⟨_,rfl⟩) ?_
 intro i s hnx ⟨g5,g20,g21,o0,g22,k1_0,k1_1,o100⟩
 have hz:=w1_ i
 by_cases hi:i<T.length
 · have hgi:T[i]?=some T[i]:=ge_ hi
   generalize T[i]=t at *
   obtain ⟨a,b⟩:=t
   have hst:=qdL hgi
   have hne:=qh9 hlx hgi
   repeat' with_reducible first
    |refine s_ ?_
    |simp -implicitDefEqProofs only[wZZ,seval,g5,g20,g21,g22,o0,o100,hz,qvD]
    |apply qa<;>intro h h_<;>(try simp only[wD,reduceCtorEq]at h_)<;>(try exact wb_)<;>(try simp only[h])
    |refine t_ ?_
    |apply qZl;(focus((try simp only[wM]);(repeat rw[if_neg o_]);exact o100));exact hne
    |simp -implicitDefEqProofs (disch:=omega) only[w64,if_neg]
   exact⟨wg_,i+1,o_,trivial,trivial,trivial,trivial,rfl,o_,by(intro k hk;rw[if_neg o_,if_neg o_];exact k1_1 k hk),by rw[hst]⟩
 · have e:i=T.length:=o_
   subst e
   repeat' with_reducible first
    |refine s_ ?_
    |simp -implicitDefEqProofs only[wZZ,seval,g5,g20,g21,g22,o0,o100,hz]
   refine Yr rfl (Or.inr rfl) ?_
   (simp -implicitDefEqProofs only[wL,seval])
   subst hT
   exact⟨next+2+8,next+2+4,rfl,o_,wg_,o0,k1_1,o100⟩

theorem VW {m:List Sta} {i:Nat} {a b:Int} (h:(qg m)[i]?=some (a,b)): ∃n:Nat,a=n∧n<m.length:=by
 obtain ⟨n,x,e,hx,_⟩:=xW (List.mem_of_getElem? h)
 exact⟨n,e,(List.getElem?_eq_some_iff.1 hx).1⟩

theorem qMJ {α:Type} (f:α→Bool) (k:α→Int): ∀(l:List α) (acc:List Int),(∀x,x∈l.foldl (fun a p=>if f p=true then jo a (k p)else a) acc↔x∈acc∨ ∃p∈l,f p=true∧x=k p)∧(xD acc→xD (l.foldl (fun a p=>if f p=true then jo a (k p)else a) acc))
 |[],acc=>⟨fun x=>by simp,fun h=>h⟩
 | p ::l,acc=>by
   rw[List.foldl_cons]
   obtain ⟨h1,h2⟩:=qMJ f k l (if f p=true then jo acc (k p)else acc)
   refine⟨fun x=>?_,fun h=>h2 (by split;exact jG h;exact h)⟩
   rw[h1 x]
   by_cases c:f p=true
   · rw [if_pos c,zH]
     constructor
     · rintro ((h|h)|⟨q,hq,h⟩)
       · exact Or.inl h
       · exact Or.inr ⟨p,by simp,c,h⟩
       · exact Or.inr ⟨q,by simp[hq],h⟩
     · rintro (h|⟨q,hq,hf,h⟩)
       · exact Or.inl (Or.inl h)
       · rcases List.mem_cons.1 hq with rfl|hq
         · exact Or.inl (Or.inr h)
         · exact Or.inr ⟨q,hq,hf,h⟩
   · rw [if_neg c]
     constructor
     · rintro (h|⟨q,hq,h⟩)
       · exact Or.inl h
       · exact Or.inr ⟨q,by simp[hq],h⟩
     · rintro (h|⟨q,hq,hf,h⟩)
       · exact Or.inl h
       · rcases List.mem_cons.1 hq with rfl|hq
         · exact absurd hf c
         · exact Or.inr ⟨q,hq,hf,h⟩
theorem RMv.filt {l:List (Int×Int)} (h:(l.map (·.1)).Pairwise (· < ·)) (f:Int×Int→Bool):((l.filter f).map (·.1)).Pairwise (· < ·):=by
 rw[List.pairwise_map]at h ⊢
 exact h.filter f
theorem YR {m:List Sta} (h: ∀q∈m,RMv q) (q:Int):((xB m q).map (·.1)).Pairwise (· < ·):=by
 unfold xB
 cases hq:m[q.toNat]? with
 |none=>exact List.Pairwise.nil
 |some x=>exact h x (List.mem_of_getElem? hq)
def qcP (m:List Sta) (t:Int×Int):List Int:=(if (1:Int)∈zx m (goS m t.1 t.2).toNat then[0]else[])++((xB m (goS m t.1 t.2)).filter fun p=>decide (p.1<1000)).map (·.1)
theorem qfG {q s:Int}: ∀(T:List (Int×Int)) (n i:Nat),qcc q s T n=((n+i:Nat):Int)→T[i]?=some (q,s)
 |[],n,i,h=>by simp[qcc]at h;omega
 | p ::T,n,i,h=>by
   unfold qcc at h
   split at h
   · rename_i c
     have:i=0:=o_
     subst this
     obtain ⟨p1,p2⟩:=p
     simp only at c
     simp[c.1,c.2]
   · cases i with
     | zero=>
       rcases ZT T (n+1) (q:=q) (s:=s)with e|⟨j,e,_⟩<;>rw[e]at h<;>omega
     | succ i=>
       rw[show n+(i+1)=(n+1)+i by omega]at h
       simpa using qfG T (n+1) i h
theorem JJ {T:List (Int×Int)} {q s:Int} {i:Nat} (h:Ze T q s=(i:Int)):T[i]?=some (q,s):=qfG T 0 i (by rw[Nat.zero_add];exact h)
theorem qBf {T:List (Int×Int)} (hT:T.Pairwise qdI) {i j:Nat} {a b:Int×Int} (hi:T[i]?=some a) (hj:T[j]?=some b) (h:qdI a b):i<j:=by
 rcases Nat.lt_trichotomy i j with h1|h1|h1
 · exact h1
 · subst h1
   rw[hi]at hj;cases hj
   unfold qdI at h;omega
 · obtain ⟨li,ei⟩:=List.getElem?_eq_some_iff.1 hi
   obtain ⟨lj,ej⟩:=List.getElem?_eq_some_iff.1 hj
   have:=List.pairwise_iff_getElem.1 hT j i lj li h1
   rw[ei,ej]at this
   unfold qdI at h this;omega
theorem qd2 {T:List (Int×Int)} (hT:T.Pairwise qdI) {i:Nat} {q s:Int} (hi:T[i]?=some (q,s)):Ze T q s=(i:Int):=by
 obtain ⟨j,e,_⟩:=VF (List.mem_of_getElem? hi)
 rw[e]
 have:=qaP hT (JJ e) hi
 omega
def qck (E:Nat→Bool) (m:List Sta) (t:Int×Int):List Int:=((xB m (goS m t.1 t.2)).filter fun p=>decide (1000≤p.1∧E (p.1 - 1000).toNat=true)).map fun p=>Ze (qg m) (goS m t.1 t.2) p.1
theorem qfu {g:Grammar} {m:List Sta} (hM:MOk g m) (h: ∀q∈m,RMv q) (E:Nat→Bool) {t:Int×Int} (ht:t∈qg m):xD (qck E m t):=by
 obtain ⟨r,hr,hrl⟩:=hM.trans_go (q:=t.1) (s:=t.2) ht
 unfold qck
 rw[hr]
 show List.Pairwise _ _
 rw[List.pairwise_map]
 have hp:=YR h (r:Int)
 rw[List.pairwise_map]at hp
 refine List.Pairwise.imp_of_mem ?_ (hp.filter _)
 intro a b ha hb hab
 have ha':=List.mem_filter.1 ha
 have hb':=List.mem_filter.1 hb
 simp only[decide_eq_true_eq]at ha' hb'
 have mem: ∀p:Int×Int,p∈xB m (r:Int)→1000≤p.1→((r:Int),p.1)∈qg m:=fun p hp h1=>by
  obtain ⟨q,hq,hm⟩:=hM.movAt_mem hp
  exact K8 hq h1 (t:=p.2) hm
 obtain ⟨i,ei,_⟩:=VF (mem a ha'.1 ha'.2.1)
 obtain ⟨j,ej,_⟩:=VF (mem b hb'.1 hb'.2.1)
 have:=qBf (Q8 h) (JJ ei) (JJ ej) (Or.inr ⟨rfl,hab⟩)
 rw[ei,ej];omega

theorem qbb {cls:Cls} {id:Nat} {s:St} {K:V→St→Prop} {z bytes:Nat} {vx vy:V} {xs ys:List V} {H:Nat→Option MObj} {base next:Nat} (hcl:(cls == .t)=false)
 (hg:GrM H base next z xs vx) (hH:s.H=H) (hs:qP s.H z ys vy) (hb:(xs.length+ys.length) *bytes≤140737488355328) (hl:xs.length+ys.length≤maxLen)
 (hk: ∀H',H' id=some (.own z (xs++ys) false)→(∀j,j<base→j≠id→H' j=s.H j)→K (.msl id z 0 (xs++ys).length) {s with H:=H'}):Kh cls id s K true z bytes vx vy:=by
 unfold Kh
 rw[hs.1 s rfl]
 refine⟨fun e=>(by subst e;cases hcl),?_⟩
 rcases hg with ⟨rfl,rfl⟩|⟨i,rfl,h1,h2,h3⟩
 · have e:qE id s true z (.sl z true []) ys=some (.msl id z 0 ys.length,s.setO id (some (.own z ys false)),ys.length):=by simp[qE]
   rw[e]
   refine⟨by simpa using hb,by simpa using hl,?_⟩
   exact hk (fun i=>if i=id then some (.own z ys false)else s.H i) (by simp) (fun j _ hj=>by simp[hj])
 · rw[← hH]at h1
   have e:qE id s true z (.msl i z 0 xs.length) ys=some (.msl id z 0 (xs.length+ys.length),(s.setO i none).setO id (some (.own z (xs++ys) false)),xs.length+ys.length):=by simp[qE,h1]
   rw[e]
   refine⟨hb,hl,?_⟩
   have:=hk (fun j=>if j=id then some (.own z (xs++ys) false)else if j=i then none else s.H j) (by simp) (fun j hj hne=>by simp[hne,show j≠i by omega])
   rw[List.length_append]at this
   exact this
@[reducible] def QA (g:Grammar) (m:List Sta) (E:Nat→Bool):V:= .agg [.sl 6 false (g.toks.map Tok.V),.sl 2 false (g.nons.map Non.V),.sl 6 false (g.prods.map GPr.V),.str g.pro,.str g.tail,.sl 2 false (m.map Sta.V),.sl 2 false ((qg m).map prV),.mp (VA (qg m) (qg m).length),.sl 1 false (vV g.nons.length E)]
theorem Qq {b:Bool} {H:Nat→Option MObj} {g:Grammar} {m:List Sta} {E:Nat→Bool}:Er b H (.iptr 9 (QA g m E) 0) (.iptr 9 (QA g m E) 0):=
 .iptr _ _ _ _ (ErL.agg (.cons qf (.cons qf (.cons qf (.cons (.str _) (.cons (.str _) (.cons qf (.cons qf (.cons (.mp _) (.cons (@jv _ _ _ _ _ (Y2 _ _)) .nil))))))))))
theorem vF {g:Grammar} {m:List Sta} {E:Nat→Bool} {q:Nat} {sy:Int} (hM:MOk g m) (hq:q<m.length):Pure Tryz.prog 91 [.iptr 9 (QA g m E) 0,prV ((q:Int),sy)] (vi (goS m q sy)):=by
 refine pure_intro Tryz.func91 nm_ qjB (by show 2≤14;decide) ?_
 show ewp _ qPn _ _
 have hml:=hM.len
 have hst:=KJ (m:=m) (q:=q) (sy:=sy) hq o_ (fun q h=>by have:=hM.mvl q h;omega)
 repeat' with_reducible first
  |refine s_ ?_
  |simp -implicitDefEqProofs only[wZZ,seval]
  |refine cq3 hst qf qf qf ?_
  |refine t_ ?_
 all_goals refine qx rfl (Or.inr rfl) ?_
 all_goals(try simp -implicitDefEqProofs only[wL,seval])
 all_goals refine er_ ?_
 all_goals(try(with_reducible rfl))
def qhb (x:Int):List Int→Nat→Int
 |[],_=> -1
 |y::l,i=>if x=y then(i:Int)else qhb x l (i+1)
theorem qiw {l:List Int} {x y:Int} {i n:Nat} (h:l[i]?=some y):qhb x (l.drop i) n=if x=y then(n:Int)else qhb x (l.drop (i+1)) (n+1):=by
 have hi:=(List.getElem?_eq_some_iff.1 h)
 rw[List.drop_eq_getElem_cons hi.1,hi.2];rfl
theorem qcf {x:Int}: ∀(l:List Int) (n:Nat),0≤qhb x l n↔x∈l
 |[],n=>by simp[qhb]
 | y::l,n=>by
   unfold qhb
   split
   · rename_i h;subst h;simp
   · rename_i h;rw[qcf l (n+1),List.mem_cons];exact⟨Or.inr,fun h'=>h'.elim (fun e=>absurd e h) id⟩
theorem jD {l:List Int} {x:Int} (hl:l.length≤1000000):Pure Tryz.prog 123 [.sl 2 false (l.map itV),itV x] (vi (qhb x l 0)):=by
 refine pure_intro Tryz.func123 nm_ qfK (by show 2≤19;decide) ?_
 show ewp _ qgt _ _
 repeat' with_reducible first
  |refine s_ ?_
  |simp -implicitDefEqProofs only[wZZ,seval]
  |refine t_ ?_
 refine qc ?nx1 (fun(i:Nat) s=>s.f 0=?v1_0∧s.f 3=?v1_3∧s.f 7=?v1_7∧s.H 0=some (.own 2 [itV x] false)∧s.f 8=vi i∧(i≤l.length)∧(qhb x l 0=qhb x (l.drop i) i)) (fun i=>l.length - i) (0) wj_ (by refine⟨?_,?_,?_,?_,?_,wo_,(by rfl)⟩<;>first|(simp -implicitDefEqProofs only[wL,wM,wN,wX,seval,Option.some.injEq]<;>exact wt_)|rfl|exact⟨_,rfl⟩) ?_
 intro i s hnx ⟨g0,g3,g7,o0,g8,k1_0,k1_1⟩
 have hz:=w1_ i
 by_cases hi:i<l.length
 · have hgi:l[i]?=some l[i]:=ge_ hi
   have hst:=qiw (x:=x) (n:=i) hgi
   generalize l[i]=y at *
   by_cases hc:x=y
   · rw[if_pos hc]at hst
     rw[k1_1,hst]
     repeat' with_reducible first
      |refine s_ ?_
      |simp -implicitDefEqProofs only[wZZ,seval,g0,g3,g7,g8,o0,hz]
      |apply qa<;>intro h h_<;>(try simp only[wD,reduceCtorEq]at h_)<;>(try exact wb_)<;>(try simp only[h])
      |refine t_ ?_
      |(refine qx4 ?_)
     all_goals refine qx rfl (Or.inr rfl) ?_
     all_goals(try simp -implicitDefEqProofs only[wL,seval,g0,g3,g7,g8])
     all_goals refine er_ ?_
     all_goals(try(with_reducible rfl))
   · rw[if_neg hc]at hst
     repeat' with_reducible first
      |refine s_ ?_
      |simp -implicitDefEqProofs only[wZZ,seval,g0,g3,g7,g8,o0,hz]
      |apply qa<;>intro h h_<;>(try simp only[wD,reduceCtorEq]at h_)<;>(try exact wb_)<;>(try simp only[h])
      |refine t_ ?_
      |(refine qx4 ?_)
     refine⟨wk_,i+1,o_,?_⟩
     refine⟨?_,?_,?_,?_,?_,?_,?_⟩
     iterate 5 (focus(first|(simp -implicitDefEqProofs only[wL,wM,wN,wX,seval,Option.some.injEq,g0,g3,g7,g8,o0]<;>exact wt_)|rfl|exact⟨_,rfl⟩))
     all_goals try omega
 · have e:l.drop i=[]:=List.drop_of_length_le o_
   rw[e]at k1_1
   rw[k1_1]
   repeat' with_reducible first
    |refine s_ ?_
    |simp -implicitDefEqProofs only[wZZ,seval,g0,g3,g7,g8,o0,hz]
    |apply qa<;>intro h h_<;>(try simp only[wD,reduceCtorEq]at h_)<;>(try exact wb_)<;>(try simp only[h])
   all_goals refine qx rfl (Or.inr rfl) ?_
   all_goals(try simp -implicitDefEqProofs only[wL,seval,g0,g3,g7,g8])
   all_goals refine er_ ?_
   all_goals(try(with_reducible rfl))
   all_goals rfl
theorem jl {l:List Int} {x:Int} (hl:l.length≤1000000):Pure Tryz.prog 92 [.sl 2 false (l.map itV),itV x] (.bool (decide (x∈l))):=by
 refine pure_intro Tryz.func92 nm_ qkg (by show 2≤9;decide) ?_
 show ewp _ qyU _ _
 have hix:=jD (x:=x) hl
 have hif:=qcf (x:=x) l 0
 have e:decide (x∈l)=decide (0≤qhb x l 0):=by rw[Bool.eq_iff_iff];simp only[decide_eq_true_eq];exact hif.symm
 rw[e]
 repeat' with_reducible first
  |refine s_ ?_
  |simp -implicitDefEqProofs only[wZZ,seval]
  |refine cq2 hix qf qf ?_
  |refine t_ ?_
 all_goals refine qx rfl (Or.inr rfl) ?_
 all_goals(try simp -implicitDefEqProofs only[wL,seval])
 all_goals refine er_ ?_
 all_goals(try(with_reducible rfl))
theorem qao {α β:Type} (f:α→Bool) (k:α→β) {l:List α} {i:Nat} {x:α} (h:l[i]?=some x):((l.take (i+1)).filter f).map k=((l.take i).filter f).map k++(if f x=true then[k x]else[]):=by
 rw[List.take_add_one,h,List.filter_append,List.map_append]
 cases hf:f x<;>simp[hf]
def GrN (H:Nat→Option MObj) (base next z:Nat) (es:List V) (v:V):Prop:=(es=[]∧v=.sl z true [])∨(es≠[]∧ ∃id,v=.msl id z 0 es.length∧H id=some (.own z es false)∧base≤id∧id<next)
theorem GrN.m {H:Nat→Option MObj} {base next z:Nat} {es:List V} {v:V} (h:GrN H base next z es v):GrM H base next z es v:=h.imp id And.right
theorem GrN.keep' {H H':Nat→Option MObj} {base base' next next' z:Nat} {es es':List V} {v:V} (h:GrN H base next z es v) (e:es=es') (hb:base'≤base) (hn:next≤next') (hH: ∀j,base≤j→j<next→H' j=H j):GrN H' base' next' z es' v:=by
 subst e
 rcases h with h|⟨h0,id,rfl,h1,h2,h3⟩
 · exact Or.inl h
 · exact Or.inr ⟨h0,id,rfl,by rw[hH id h2 h3];exact h1,o_,o_⟩
theorem GrN.keep {H H':Nat→Option MObj} {base next next' z:Nat} {es es':List V} {v:V} (h:GrN H base next z es v) (e:es=es') (hn:next≤next') (hH: ∀j,base≤j→j<next→H' j=H j):GrN H' base next' z es' v:=h.keep' e (Nat.le_refl _) hn hH
theorem qBM {s0:St} {a:Nat} {xk:V} {xm:List (Int×Int)} {L0:List Int} {w:V} {Q:Exit→St→Prop} (f5:s0.f 5=w) (f6:s0.f 6=.ptr a 0 0) (ha:s0.H a=some (.own 2 [.agg [xk,.sl 2 false (xm.map prV)]] false)) (han:a<s0.next) (hxl:xm.length≤64) (hLl:L0.length≤1) (hw:GrN s0.H (a+1) s0.next 1 (L0.map (V.int .i64)) w)
 (hQ: ∀s' v,s'.f 4=v→s0.next≤s'.next→(∀j,j≤a→s'.H j=s0.H j)→GrN s'.H (a+1) s'.next 1 ((L0++(xm.filter fun p=>decide (p.1<1000)).map (·.1)).map (V.int .i64)) v→Q .ret s'):ewp Tryz.prog qfg Q s0:=by
 repeat' with_reducible first
  |refine s_ ?_
  |simp -implicitDefEqProofs only[wZZ,seval,f5,f6,ha]
  |refine t_ ?_
 refine qc ?nx1 (fun(k:Nat) s=>s.f 26=?v1_26∧s.f 27=?v1_27∧s.f 28=vi k∧(k≤xm.length)∧(s0.next≤s.next)∧((∀j,j≤a→s.H j=s0.H j))∧((∃v,s.f 5=v∧GrN s.H (a+1) s.next 1 ((L0++((xm.take k).filter fun p=>decide (p.1<1000)).map (·.1)).map (V.int .i64)) v))) (fun k=>xm.length - k) (0) wj_ (by refine⟨?_,?_,?_,wo_,wg_,(by intro j hj;((try simp only[wM]);(repeat first|rw[if_pos trivial]|rw[if_pos rfl]|rw[if_neg o_]))),(by exact⟨w,(by(simp -implicitDefEqProofs only[wL,seval]);exact f5),hw.keep (by simp) wg_ (fun j h1 h2=>hh_)⟩)⟩<;>first|(simp -implicitDefEqProofs only[wL,wM,wN,wX,seval,Option.some.injEq]<;>exact wt_)|rfl|exact⟨_,rfl⟩) ?_
 intro k s hnx ⟨g26,g27,g28,k1_0,k1_1,k1_2,k1_3⟩
 obtain ⟨v5,g5,hG⟩:=k1_3
 have hz:=w1_ k
 have hfl:(((xm.take k).filter fun p=>decide (p.1<1000)).map (·.1)).length≤k:=by
  rw[List.length_map]
  exact Nat.le_trans (List.length_filter_le _ _) (by rw[List.length_take];omega)
 by_cases hk:k<xm.length
 · have hgk:xm[k]?=some xm[k]:=ge_ hk
   have hst:=qao (fun p:Int×Int=>decide (p.1<1000)) (·.1) hgk
   generalize ((xm.take k).filter fun p=>decide (p.1<1000)).map (·.1)=U at *
   generalize xm[k]=p at *
   obtain ⟨p1,p2⟩:=p
   dsimp only at hst
   by_cases hp:p1<1000
   · rw[decide_eq_true hp,if_pos rfl]at hst
     repeat' with_reducible first
      |refine s_ ?_
      |simp -implicitDefEqProofs only[wZZ,seval,g26,g27,g28,hz,g5]
      |apply qa<;>intro h h_<;>(try simp only[wD,reduceCtorEq]at h_)<;>(try exact wb_)<;>(try simp only[h])
      |refine t_ ?_
     refine qbb rfl (hG.m.keep (next':=s.next) rfl (Nat.le_refl _) (fun j h1 h2=>hh_)) rfl qP.sl (by simp only[wZ]<;>omega) (by unfold maxLen;simp only[wZ]<;>omega) ?_
     intro H1 q1 q2
     repeat' with_reducible first
      |refine s_ ?_
      |simp -implicitDefEqProofs only[wZZ,seval,g26,g27,g28]
      |simp -implicitDefEqProofs (disch:=omega) only[w64,if_neg]
     exact⟨wg_,k+1,o_,trivial,trivial,rfl,o_,wg_,(fun j hj=>by rw[q2 j o_ o_];((try simp only[wM]);(repeat first|rw[if_pos trivial]|rw[if_pos rfl]|rw[if_neg o_]));exact k1_2 j hj),_,rfl,by rw[hst,← List.append_assoc,List.map_append];exact Or.inr ⟨by simp,_,by simp,q1,o_,wg_⟩⟩
   · rw[decide_eq_false hp,if_neg (by simp),List.append_nil]at hst
     repeat' with_reducible first
      |refine s_ ?_
      |simp -implicitDefEqProofs only[wZZ,seval,g26,g27,g28,hz,g5]
      |apply qa<;>intro h h_<;>(try simp only[wD,reduceCtorEq]at h_)<;>(try exact wb_)<;>(try simp only[h])
      |refine t_ ?_
      |simp -implicitDefEqProofs (disch:=omega) only[w64,if_neg]
     exact⟨wg_,k+1,o_,trivial,trivial,rfl,o_,wg_,(fun j hj=>by rw[if_neg o_];exact k1_2 j hj),v5,rfl,by rw[hst];exact hG.keep rfl wg_ (fun j h1 h2=>hh_)⟩
 · have e:xm.take k=xm:=List.take_of_length_le o_
   rw[e]at hG
   repeat' with_reducible first
    |refine s_ ?_
    |simp -implicitDefEqProofs only[wZZ,seval,g26,g27,g28,hz,g5]
    |apply qa<;>intro h h_<;>(try simp only[wD,reduceCtorEq]at h_)<;>(try exact wb_)<;>(try simp only[h])
   exact hQ _ v5 (by(simp -implicitDefEqProofs only[wL,seval])) wg_ k1_2 (hG.keep rfl wg_ (fun _ _ _=>rfl))
theorem qdi {H:Nat→Option MObj} {next:Nat} {g:Grammar} {m:List Sta} {E:Nat→Bool} {q:Nat} {sy:Int} (hg:GOk g) (hM:MOk g m) (ht:((q:Int),sy)∈qg m):zl Tryz.prog 53 [.iptr 9 (QA g m E) 0,prV ((q:Int),sy)] H next (fun v H' n'=>next≤n'∧GrN H' next n' 1 ((qcP m ((q:Int),sy)).map (V.int .i64)) v∧ ∀j,j<next→H' j=H j):=by
 refine zh Tryz.func53 nm_ qkq (by show 2≤42;decide) ?_
 show ewp _ qeT _ _
 have hml:=hM.len
 have hpl:=hg.pl2
 obtain ⟨n,y,e,hy,_⟩:=xW ht
 have hqm:q<m.length:=by have:=(List.getElem?_eq_some_iff.1 hy).1;omega
 obtain ⟨r,hr,hrm⟩:=hM.trans_go ht
 have hend:=vF (E:=E) (sy:=sy) hM hqm
 rw[hr,show prV ((q:Int),sy)=.agg [vi q,vi sy] from rfl]at hend
 have hgr:m[r]?=some m[r]:=ge_ hrm
 have hxl:=hM.mvl _ (List.getElem_mem hrm)
 have hkl:=hM.kl hpl _ (List.getElem_mem hrm)
 have hcn:=jl (l:=m[r].ker) (x:=1) o_
 have hF:qcP m ((q:Int),sy)=(if (1:Int)∈m[r].ker then[0]else[])++((m[r].mov).filter fun p=>decide (p.1<1000)).map (·.1):=by
  unfold qcP xB zx
  rw[hr,show ((r:Int)).toNat=r from rfl,hgr];rfl
 rw[hF]
 have hV1:itV 1=.agg [vi 0,vi 1]:=rfl
 rw[hV1]at hcn
 generalize m[r]=x at *
 obtain ⟨xk,xm⟩:=x
 dsimp only at hxl hkl hcn
 dsimp only
 generalize hL0:(if (1:Int)∈xk then([0]:List Int)else[])=L0 at *
 have W:= @qBM
 unfold qeT qjF qjO qj6
 generalize qfg=ES at W ⊢
 by_cases hc:(1:Int)∈xk
 · rw[decide_eq_true hc]at hcn;rw[if_pos hc]at hL0
   subst hL0
   repeat' with_reducible first
    |refine s_ ?_
    |simp -implicitDefEqProofs only[wZZ,seval]
    |apply qI (hp:=hend);exact Qq;exact qf;exact wu_;exact Flat.int _ _
    |refine t_ ?_
    |refine cq2 hcn qf qf ?_
   refine qbb (base:=next+2+1+9+1) (next:=0) rfl (Or.inl ⟨rfl,rfl⟩) rfl qP.sl (by simp) (by unfold maxLen;simp) ?_
   intro H1 q1 q2
   repeat' with_reducible first
    |refine qx2 ?_
    |simp -implicitDefEqProofs only[wZZ,seval]
   refine W (a:=next+2+1+9) (xk:= .sl 2 false (xk.map itV)) (xm:=xm) (L0:=[0]) (by(simp -implicitDefEqProofs only[wL,seval])<;>rfl) (by(simp -implicitDefEqProofs only[wL,seval])) (by(try simp only[wM]);rw[q2 _ o_ o_];((try simp only[wM]);(repeat first|rw[if_pos trivial]|rw[if_pos rfl]|rw[if_neg o_]))) wg_ hxl (Nat.le_refl _) (Or.inr ⟨by simp,_,rfl,q1,o_,wg_⟩) ?_
   intro s' v q0 qn qH qG
   (try simp only[wN]at qn)
   exact Yr (t:=4) rfl (Or.inr rfl) ⟨o_,by rw[q0];exact qG.keep' rfl o_ (Nat.le_refl _) (fun _ _ _=>rfl),fun j hj=>by rw[qH j o_];(try simp only[wM]);rw[q2 j o_ o_];((try simp only[wM]);(repeat first|rw[if_pos trivial]|rw[if_pos rfl]|rw[if_neg o_]))⟩
 · rw[decide_eq_false hc]at hcn;rw[if_neg hc]at hL0
   subst hL0
   repeat' with_reducible first
    |refine s_ ?_
    |simp -implicitDefEqProofs only[wZZ,seval]
    |apply qI (hp:=hend);exact Qq;exact qf;exact wu_;exact Flat.int _ _
    |refine t_ ?_
    |refine cq2 hcn qf qf ?_
   refine W (a:=next+2+1+9) (xk:= .sl 2 false (xk.map itV)) (xm:=xm) (L0:=[]) (by(simp -implicitDefEqProofs only[wL,seval])<;>rfl) (by(simp -implicitDefEqProofs only[wL,seval])) hh_ wg_ hxl (Nat.zero_le _) (Or.inl ⟨rfl,rfl⟩) ?_
   intro s' v q0 qn qH qG
   (try simp only[wN]at qn)
   exact Yr (t:=4) rfl (Or.inr rfl) ⟨o_,by rw[q0];exact qG.keep' rfl o_ (Nat.le_refl _) (fun _ _ _=>rfl),fun j hj=>by rw[qH j o_];((try simp only[wM]);(repeat first|rw[if_pos trivial]|rw[if_pos rfl]|rw[if_neg o_]))⟩

theorem qgA {T:List (Int×Int)} (hT:T.Pairwise qdI) {i:Nat} {a b:Int} (h:T[i]?=some (a,b)):(VA T T.length).find? (fun e=>e.1 == a && e.2.1 == b)=some (a,b,(i:Int)):=by
 have hi:=(List.getElem?_eq_some_iff.1 h).1
 have hmem:(a,b,(i:Int))∈VA T T.length:=by
  unfold VA
  exact List.mem_map.2 ⟨i,List.mem_range.2 hi,by simp[List.getD,h]⟩
 cases hf:(VA T T.length).find? (fun e=>e.1 == a && e.2.1 == b)with
 |none=>exact absurd (List.find?_eq_none.1 hf _ hmem) (by simp)
 | some e=>
   have h1:=List.find?_some hf
   have h2:=List.mem_of_find?_eq_some hf
   unfold VA at h2
   obtain ⟨k,hk,rfl⟩:=List.mem_map.1 h2
   rw[List.mem_range]at hk
   have hg:T[k]?=some T[k]:=ge_ hk
   simp only[List.getD,hg,Option.getD_some,Bool.and_eq_true,beq_iff_eq]at h1
   have e2:T[k]=(a,b):=by rw[← h1.1,← h1.2]
   have:=qaP hT (by rw[hg,e2]) h
   subst this
   simp[List.getD,h]
theorem qgC {T:List (Int×Int)} (hT:T.Pairwise qdI) {a b:Int} (h:(a,b)∈T) (ok:Bool):JE ok (VA T T.length) a b=if ok then .tup [vi (Ze T a b),.bool true]else vi (Ze T a b):=by
 obtain ⟨i,hi,e⟩:=List.getElem_of_mem h
 have hg:T[i]?=some (a,b):=by rw[ge_ hi,e]
 unfold JE
 rw[qgA hT hg,qd2 hT hg]
theorem qgm {z n c:Nat} {b:Bool} {E:Nat→Bool} {k:IntKind} {K:V→Prop} (hc:c<n) (hk:K (.iptr z (.bool (E c)) 0)):onS (zF z (.sl z b (vV n E)) (.int k (c:Int))) K:=
 qlk (f:=fun k=>V.bool (E k)) (l:=List.range n) o_ (List.getElem?_range hc) hk
theorem qd3 {H:Nat→Option MObj} {next:Nat} {g:Grammar} {m:List Sta} {E:Nat→Bool} {q:Nat} {sy:Int} (hg:GOk g) (hM:MOk g m) (hR: ∀q∈m,RMv q) (ht:((q:Int),sy)∈qg m):zl Tryz.prog 56 [.iptr 9 (QA g m E) 0,prV ((q:Int),sy)] H next (fun v H' n'=>next≤n'∧GrN H' next n' 1 ((qck E m ((q:Int),sy)).map (V.int .i64)) v∧ ∀j,j<next→H' j=H j):=by
 refine zh Tryz.func56 nm_ qiD (by show 2≤53;decide) ?_
 show ewp _ qiO _ _
 have hml:=hM.len
 have hnn:=hg.nn2
 have htk:=hg.tk2
 have hlx:=Q8 hR
 obtain ⟨n,y,e,hy,_⟩:=xW ht
 have hqm:q<m.length:=by have:=(List.getElem?_eq_some_iff.1 hy).1;omega
 obtain ⟨r,hr,hrm⟩:=hM.trans_go ht
 have hend:=vF (E:=E) (sy:=sy) hM hqm
 rw[hr,show prV ((q:Int),sy)=.agg [vi q,vi sy] from rfl]at hend
 have hgr:m[r]?=some m[r]:=ge_ hrm
 have hxl:=hM.mvl _ (List.getElem_mem hrm)
 have hmv:=hM.mv _ (List.getElem_mem hrm)
 have hin: ∀p∈m[r].mov,1000≤p.1→((r:Int),p.1)∈qg m:=fun p hp h=>K8 hgr h (t:=p.2) hp
 have hF:qck E m ((q:Int),sy)=((m[r].mov).filter fun p=>decide (1000≤p.1∧E (p.1 - 1000).toNat=true)).map fun p=>Ze (qg m) r p.1:=by
  unfold qck xB
  rw[hr,show ((r:Int)).toNat=r from rfl,hgr];rfl
 rw[hF]
 generalize m[r]=x at *
 obtain ⟨xk,xm⟩:=x
 dsimp only at hxl hmv hin ⊢
 repeat' with_reducible first
  |refine s_ ?_
  |simp -implicitDefEqProofs only[wZZ,seval]
  |apply qI (hp:=hend);exact Qq;exact qf;exact wu_;exact Flat.int _ _
  |refine t_ ?_
 have hfd: ∀p∈xm,1000≤p.1→JE false (VA (qg m) (qg m).length) r p.1=vi (Ze (qg m) r p.1):=fun p hp h=>qgC hlx (hin p hp h) false
 refine qc ?nx1 (fun(k:Nat) s=>s.f 0=?v1_0∧s.f 6=?v1_6∧s.f 19=?v1_19∧s.f 20=?v1_20∧s.f 21=vi k∧(k≤xm.length)∧((∀j,j<next→s.H j=H j))∧((∃v,s.f 5=v∧GrN s.H next s.next 1 ((((xm.take k).filter fun p=>decide (1000≤p.1∧E (p.1 - 1000).toNat=true)).map fun p=>Ze (qg m) r p.1).map (V.int .i64)) v))) (fun k=>xm.length - k) (0) wj_ (by refine⟨?_,?_,?_,?_,?_,wo_,(by intro j hj;((try simp only[wM]);(repeat first|rw[if_pos trivial]|rw[if_pos rfl]|rw[if_neg o_]))),(by exact⟨_,(by(simp -implicitDefEqProofs only[wL,seval])<;>rfl),Or.inl ⟨rfl,rfl⟩⟩)⟩<;>first|(simp -implicitDefEqProofs only[wL,wM,wN,wX,seval,Option.some.injEq]<;>exact wt_)|rfl|exact⟨_,rfl⟩) ?_
 intro k s hnx ⟨g0,g6,g19,g20,g21,k1_0,k1_1,k1_2⟩
 obtain ⟨v5,g5,hG⟩:=k1_2
 have hz:=w1_ k
 have hfl:(((xm.take k).filter fun p=>decide (1000≤p.1∧E (p.1 - 1000).toNat=true)).map fun p=>Ze (qg m) r p.1).length≤k:=by
  rw[List.length_map]
  exact Nat.le_trans (List.length_filter_le _ _) (by rw[List.length_take];omega)
 by_cases hk:k<xm.length
 · have hgk:xm[k]?=some xm[k]:=ge_ hk
   have hst:=qao (fun p:Int×Int=>decide (1000≤p.1∧E (p.1 - 1000).toNat=true)) (fun p=>Ze (qg m) r p.1) hgk
   have hsy:=(hmv _ (List.getElem_mem hk)).1
   have hfd:=hfd _ (List.getElem_mem hk)
   generalize ((xm.take k).filter fun p=>decide (1000≤p.1∧E (p.1 - 1000).toNat=true)).map (fun p=>Ze (qg m) r p.1)=U at *
   generalize xm[k]=p at *
   obtain ⟨p1,p2⟩:=p
   dsimp only at hst hsy hfd
   rcases hsy with ⟨t,rfl,htl⟩|⟨c,rfl,hc⟩
   · rw[decide_eq_false (fun h=>by omega),if_neg (by simp),List.append_nil]at hst
     have hlt: ¬ (1000≤(t:Int)):=o_
     repeat' with_reducible first
      |refine s_ ?_
      |simp -implicitDefEqProofs only[wZZ,seval,g0,g6,g19,g20,g21,hz,g5,hlt]
      |apply qa<;>intro h h_<;>(try simp only[wD,reduceCtorEq]at h_)<;>(try exact wb_)<;>(try simp only[h])
      |refine t_ ?_
      |simp -implicitDefEqProofs (disch:=omega) only[w64,if_neg]
     all_goals exact⟨wg_,k+1,o_,trivial,trivial,trivial,trivial,rfl,o_,(fun j hj=>by rw[if_neg o_];exact k1_1 j hj),v5,rfl,by rw[hst];exact hG.keep rfl wg_ (fun j h1 h2=>hh_)⟩
   · have hz1:IntKind.i64.wrap (1000+(c:Int) - 1000)=(c:Int):=by rw[wrap64 o_ o_];omega
     have hge:(1000:Int)≤1000+(c:Int):=o_
     have hfd:=hfd hge
     rw[show (1000+(c:Int) - 1000).toNat=c by omega]at hst
     cases hb:E c with
     | true=>
       rw[hb,decide_eq_true ⟨hge,rfl⟩,if_pos rfl]at hst
       repeat' with_reducible first
        |refine s_ ?_
        |simp -implicitDefEqProofs only[wZZ,seval,g0,g6,g19,g20,g21,hz,hz1,hb,g5,hge,Vs]
        |apply qa<;>intro h h_<;>(try simp only[wD,reduceCtorEq]at h_)<;>(try exact wb_)<;>(try simp only[h])
        |refine t_ ?_
        |apply qgm;exact hc
        |apply qhA;exact hfd
       refine qbb rfl (hG.m.keep (next':=s.next) rfl (Nat.le_refl _) (fun j h1 h2=>hh_)) rfl qP.sl (by simp only[wZ]<;>omega) (by unfold maxLen;simp only[wZ]<;>omega) ?_
       intro H1 q1 q2
       repeat' with_reducible first
        |refine s_ ?_
        |simp -implicitDefEqProofs only[wZZ,seval,g0,g6,g19,g20,g21]
        |simp -implicitDefEqProofs (disch:=omega) only[w64,if_neg]
       exact⟨wg_,k+1,o_,trivial,trivial,trivial,trivial,rfl,o_,(fun j hj=>by rw[q2 j o_ o_];((try simp only[wM]);(repeat first|rw[if_pos trivial]|rw[if_pos rfl]|rw[if_neg o_]));exact k1_1 j hj),_,rfl,by rw[hst,List.map_append];exact Or.inr ⟨by simp,_,by simp,q1,o_,wg_⟩⟩
     | false=>
       rw[hb,decide_eq_false (fun h=>by cases h.2),if_neg (by simp),List.append_nil]at hst
       repeat' with_reducible first
        |refine s_ ?_
        |simp -implicitDefEqProofs only[wZZ,seval,g0,g6,g19,g20,g21,hz,hz1,hb,g5,hge]
        |apply qa<;>intro h h_<;>(try simp only[wD,reduceCtorEq]at h_)<;>(try exact wb_)<;>(try simp only[h])
        |refine t_ ?_
        |apply qgm;exact hc
        |simp -implicitDefEqProofs (disch:=omega) only[w64,if_neg]
       all_goals exact⟨wg_,k+1,o_,trivial,trivial,trivial,trivial,rfl,o_,(fun j hj=>by rw[if_neg o_];exact k1_1 j hj),v5,rfl,by rw[hst];exact hG.keep rfl wg_ (fun j h1 h2=>hh_)⟩
 · have e:xm.take k=xm:=List.take_of_length_le o_
   rw[e]at hG
   repeat' with_reducible first
    |refine s_ ?_
    |simp -implicitDefEqProofs only[wZZ,seval,g0,g6,g19,g20,g21,hz,g5]
    |apply qa<;>intro h h_<;>(try simp only[wD,reduceCtorEq]at h_)<;>(try exact wb_)<;>(try simp only[h])
   exact Yr (t:=4) rfl (Or.inr rfl) ⟨wg_,by(simp -implicitDefEqProofs only[wL,seval]);exact hG.keep rfl wg_ (fun _ _ _=>rfl),k1_1⟩
end Go.Proofs
