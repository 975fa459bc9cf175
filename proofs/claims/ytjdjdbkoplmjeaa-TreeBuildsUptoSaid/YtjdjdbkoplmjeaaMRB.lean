/- Part of a proof that a law of the given program answers true. -/
import Derived.Test.YtjdjdbkoplmjeaaMNC
import Derived.Test.YtjdjdbkoplmjeaaMCB
set_option maxRecDepth 20000
set_option linter.unusedSimpArgs false
set_option linter.unusedVariables false
set_option maxHeartbeats 4000000
namespace Go.Proofs
open Go.E
def JV (v:V) (P:List Int):Prop:=(∃id fin,v=.asl id fin 1 (P.map (V.int .i64)))∨ ∃c,v=.sl 1 c (P.map (V.int .i64))
theorem JV.len {v:V} {P:List Int} (h:JV v P):ZM v=some (vi (P.length:Int)):=by
 rcases h with ⟨_,_,rfl⟩|⟨_,rfl⟩<;>simp[ZM,qj2]
theorem JV.ok {v:V} {P:List Int} (h:JV v P):v.cells=[v]∧v.okCell=true∧v.isAgg=false:=by
 rcases h with ⟨_,_,rfl⟩|⟨_,rfl⟩<;>exact⟨rfl,rfl,rfl⟩
theorem JV.ia {v:V} {P:List Int} {K:V→Prop} {k:IntKind} {i x:Int} (h:JV v P) (h0:0≤i) (hx:P[i.toNat]?=some x) (hk:K (.iptr 1 (vi x) 0)):onS (jc 1 v (.int k i)) K:=by
 rcases h with ⟨_,_,rfl⟩|⟨_,rfl⟩
 · exact Za h0 hx hk
 · exact Qx h0 hx hk
theorem JV.slc {v:V} {P:List Int} {K:V→Prop} {n:Nat} (h:JV v P) (hn:n+1=P.length) (hk: ∀v',JV v' (P.take n)→K v'):onS (jT 1 v none (some (vi (n:Int))) none) K:=by
 have h1:n≤P.length:=o_
 have h2: ¬ n=P.length:=o_
 rcases h with ⟨id,fin,rfl⟩|⟨c,rfl⟩
 · have e:jT 1 (.asl id fin 1 (P.map (V.int .i64))) none (some (vi (n:Int))) none=some (.sl 1 false ((P.take n).map (V.int .i64))):=by
    simp[jT,jm,idxOf,h1,h2,List.map_take]
   rw[e];exact hk _ (Or.inr ⟨_,rfl⟩)
 · have e:jT 1 (.sl 1 c (P.map (V.int .i64))) none (some (vi (n:Int))) none=some (.sl 1 false ((P.take n).map (V.int .i64))):=by
    simp[jT,jm,idxOf,h1,h2,List.map_take]
   rw[e];exact hk _ (Or.inr ⟨_,rfl⟩)
theorem YI {f:Int→List Int→List Int→Nat→qgC} (hf: ∀s P T n t P' T' m,f s P T n=some (t,P',T',m)→T' <+: T): ∀(l P T:List Int) (n:Nat) ks P' T' m,kS f l P T n=some (ks,P',T',m)→T' <+: T
 |[],P,T,n,ks,P',T',m,h=>by rw[kS]at h;cases h;exact List.prefix_refl _
 | s ::l,P,T,n,ks,P',T',m,h=>by
   rw[kS]at h
   cases h1:f s P T n with
   |none=>rw[h1]at h;cases h
   | some q=>
     obtain ⟨k,P1,T1,n1⟩:=q
     rw[h1]at h
     dsimp only at h
     cases h2:kS f l P1 T1 n1 with
     |none=>rw[h2]at h;cases h
     | some q=>
       obtain ⟨ks2,P2,T2,n2⟩:=q
       rw[h2]at h
       cases h
       exact(YI hf l P1 T1 n1 _ _ _ _ h2).trans (hf _ _ _ _ _ _ _ _ h1)
theorem qcb {g : Grammar}: ∀(d:Nat) s P T n t P' T' m,bld g d s P T n=some (t,P',T',m)→T' <+: T
 |0,s,P,T,n,t,P',T',m,h=>by rw[bld]at h;cases h
 | d + 1, s, P,T,n,t,P',T',m,h=>by
   rw[bld]at h
   split at h
   · cases h
   · split at h
     · split at h
       · cases h
       · split at h
         · cases h
           exact List.dropLast_prefix _
         · cases h
     · split at h
       · cases h
       · split at h
         · cases h
         · split at h
           · cases h
           · split at h
             · split at h
               · cases h
               · rename_i h5
                 cases h
                 exact YI (qcb d) _ _ _ _ _ _ _ _ h5
             · cases h
theorem qeP {T W:List Int} (h:T <+: W):W.take T.length=T:=by obtain ⟨r,rfl⟩:=h;simp
abbrev bdR (g:Grammar) (pv:V) (tk:Int) (W:List Int) (nd:Int):V:= .agg [.sl 6 false (g.toks.map Tok.V),.sl 2 false (g.nons.map Non.V),.sl 6 false (g.prods.map GPr.V),.str g.pro,.str g.tail,pv,vi tk,.sl 1 false (W.map (V.int .i64)),vi nd]
def qGB (g:Grammar) (W:List Int) (H:Nat→Option MObj) (next bi:Nat) (r:qgC):V→(Nat→Option MObj)→Nat→Prop:=fun v H' n'=>next≤n'∧(∀j,j<next→j≠bi→H' j=H j)∧match r with
 |none=>v=.tup [ndZ,.bool false]∧ ∃x,H' bi=some (.own 9 [x] false)
 |some (t,P',T',m)=> ∃tv pv',v=.tup [tv,.bool true]∧zW H' (fun j=>next≤j∧j<n') t tv∧JV pv' P'∧H' bi=some (.own 9 [bdR g pv' T'.length W (3000 - m:Int)] false)
structure RIn (g:Grammar) (W:List Int) (H:Nat→Option MObj) (next bi:Nat) (pv:V) (P T:List Int) (n:Nat):Prop where
 hb:H bi=some (.own 9 [bdR g pv T.length W (3000 - n:Int)] false)
 lb:bi<next
 pv:JV pv P
 hP:P.length≤1000000000
 hT:T <+: W
 hW:W.length≤1000000000
 hn:n≤3000
theorem qBz {K:St→Prop} {s:St} {bi:Nat} {g:Grammar} {pv pv2:V} {tk nd:Int} {W P:List Int} (h:JV pv2 P) (hk:K (s.setO bi (some (.own 9 [bdR g pv2 tk W nd] false)))):
 onS (stQ s (some (.own 9 [bdR g pv tk W nd] false)) 1 bi 0 5 pv2) K:=by
 rcases h with ⟨_,_,rfl⟩|⟨_,rfl⟩<;>exact hk
structure KidR (s:St) (g:Grammar) (W:List Int) (d bi mi r9 lo:Nat) (right P0 T0:List Int) (n0 i:Nat) (y p:Int) (P T:List Int) (n:Nat) (ks:List Nd) (pv:V) (es:List V):Prop where
 hb:s.H bi=some (.own 9 [bdR g pv T.length W (3000 - n:Int)] false)
 o9:s.H r9=some (.own 4 [.agg [vi y,vi p,vi (-1),.msl mi 4 0 right.length]] false)
 hm:s.H mi=some (.own 4 es false)
 le:es.length=right.length
 i4: ∀e∈es,Is4 e
 bl:kS (bld g d) (right.reverse.take i) P0 T0 n0=some (ks,P,T,n)
 pv:JV pv P
 nd:qI s.H (fun j=>lo≤j∧j<s.next) ks (es.drop (right.length - i)).reverse
 ln:ks.length=i
theorem QW {α:Type}: ∀(l:List α) (k:Nat) (x:α),k<l.length→(l.set k x).drop k=x::l.drop (k+1)
 |[],k,x,h=>by simp at h
 |a::r,0,x,h=>rfl
 | a::r,k+1,x,h=>by
   rw[List.set_cons_succ,List.drop_succ_cons,List.drop_succ_cons]
   exact QW r k x (by simpa using h)
theorem qjD (n:Nat): ∀e∈List.replicate n ndZ,Is4 e:=fun e he=>by
 rw[List.eq_of_mem_replicate he];exact⟨rfl,rfl,rfl⟩

set_option maxHeartbeats 8000000
theorem XG {H : Nat→Option MObj} {next bi d n:Nat} {g:Grammar} {W P T:List Int} {pv:V} {y:Int} (hg:GOk g) (IH: ∀(H:Nat→Option MObj) (next n1:Nat) (pv:V) (P T:List Int) (s:Int),n1<n→RIn g W H next bi pv P T n1→qO Try.prog 63 [.ptr bi 0 0,vi s] H next (qGB g W H next bi (bld g d s P T n1))) (hI:RIn g W H next bi pv P T n):qO Try.prog 63 [.ptr bi 0 0,vi y] H next (qGB g W H next bi (bld g (d+1) y P T n)):=by
 refine qK Try.func63 nm_ qg3 (by show 2≤154;decide) ?_
 show ewp _ qdx _ _
 obtain ⟨hb,hlb,hpv,hP,hT,hW,hn⟩:=hI
 have hTl:=hT.length_le
 have hTw:=qeP hT
 obtain ⟨hv1,hv2,hv3⟩:=hpv.ok
 have hvl:=hpv.len
 have hzT:IntKind.i64.wrap ((T.length:Int) - 1)=(T.length:Int) - 1:=wrap64 o_ o_
 have hzP:IntKind.i64.wrap ((P.length:Int) - 1)=((P.length:Int) - 1):=wrap64 o_ o_
 have hz:IntKind.i64.wrap (3000 - (n:Int)+1)=3000 - (n:Int)+1:=wrap64 o_ o_
 rw[bld]
 by_cases h0:n=0
 · rw[if_pos h0]
   repeat' with_reducible first
    |refine s_ ?_
    |simp -implicitDefEqProofs only[wZZ,seval,hb,hz]
    |apply qa<;>intro h h_<;>(try simp only[wD,reduceCtorEq]at h_)<;>(try exact wb_)<;>(try simp only[h])
    |refine t_ ?_
    |simp -implicitDefEqProofs (disch:=omega) only[w64,if_neg]
   all_goals first|(exfalso;omega)|exact ja (t:=4) (u:=5) (id:=next) (ro:=false) rfl (Or.inr rfl) (by(simp -implicitDefEqProofs only[wL,seval])) hh_ rfl (by(simp -implicitDefEqProofs only[wL,seval])) ⟨wg_,fun j h1 h2=>hh_,rfl,_,hh_⟩
 · rw [if_neg h0]
   replace hz:IntKind.i64.wrap (3000 - (n:Int)+1)=3000 - ((n - 1:Nat):Int):=by rw[hz];omega
   by_cases hy:y<1000
   · rw [if_pos hy,List.getLast?_eq_getElem?,List.dropLast_eq_take]
     cases hx:T[T.length - 1]? with
     | none=>
       have hT0:T.length=0:=by have:=List.getElem?_eq_none_iff.1 hx;omega
       repeat' with_reducible first
        |refine s_ ?_
        |simp -implicitDefEqProofs only[wZZ,seval,hb,hz,hzT]
        |(first|apply qa|apply qh|apply qi)<;>intro h h_<;>(try simp only[wD,reduceCtorEq]at h_)<;>(try exact wb_)<;>(try simp only[h])
        |refine t_ ?_
        |simp -implicitDefEqProofs (disch:=omega) only[w64,if_neg]
       all_goals first|(exfalso;omega)|(exact ja (t:=4) (u:=5) (id:=next) (ro:=false) rfl (Or.inr rfl) (by(simp -implicitDefEqProofs only[wL,seval])) hh_ rfl (by(simp -implicitDefEqProofs only[wL,seval])) ⟨wg_,fun j h1 h2=>hh_,rfl,_,hh_⟩)
     | some x=>
       have hTl2:=(List.getElem?_eq_some_iff.1 hx).1
       have hx':W[((T.length:Int) - 1).toNat]?=some x:=by
        have e:=List.getElem?_take_of_lt (l:=W) hTl2
        rw[hTw,hx]at e
        rw[show ((T.length:Int) - 1).toNat=T.length - 1 by omega];exact e.symm
       dsimp only
       by_cases hxy:x=y
       · rw[if_pos hxy]
         repeat' with_reducible first
          |refine s_ ?_
          |simp -implicitDefEqProofs only[wZZ,seval,hb,hz,hzT]
          |(first|apply qa|apply qh|apply qi)<;>intro h h_<;>(try simp only[wD,reduceCtorEq]at h_)<;>(try exact wb_)<;>(try simp only[h])
          |refine t_ ?_
          |simp -implicitDefEqProofs (disch:=omega) only[w64,if_neg]
         all_goals first|(exfalso;omega)|(exact ja (t:=4) (u:=5) (id:=next) (ro:=false) rfl (Or.inr rfl) (by(simp -implicitDefEqProofs only[wL,seval])) hh_ rfl (by(simp -implicitDefEqProofs only[wL,seval])) ⟨wg_,fun j h1 h2=>hh_,_,pv,rfl,by rw[zW];exact⟨_,rfl,Or.inl ⟨rfl,rfl⟩⟩,hpv,by((try simp only[wM]);(repeat first|rw[if_pos trivial]|rw[if_pos rfl]|rw[if_neg o_]));rw[List.length_take,show ((min (T.length - 1) T.length:Nat):Int)=(T.length:Int) - 1 by omega]⟩)
       · rw[if_neg hxy]
         repeat' with_reducible first
          |refine s_ ?_
          |simp -implicitDefEqProofs only[wZZ,seval,hb,hz,hzT]
          |(first|apply qa|apply qh|apply qi)<;>intro h h_<;>(try simp only[wD,reduceCtorEq]at h_)<;>(try exact wb_)<;>(try simp only[h])
          |refine t_ ?_
          |simp -implicitDefEqProofs (disch:=omega) only[w64,if_neg]
         all_goals first|(exfalso;omega)|(exact ja (t:=4) (u:=5) (id:=next) (ro:=false) rfl (Or.inr rfl) (by(simp -implicitDefEqProofs only[wL,seval])) hh_ rfl (by(simp -implicitDefEqProofs only[wL,seval])) ⟨wg_,fun j h1 h2=>hh_,rfl,_,hh_⟩)
   · rw [if_neg hy,List.getLast?_eq_getElem?,List.dropLast_eq_take]
     cases hx:P[P.length - 1]? with
     | none=>
       have hP0:P.length=0:=by have:=List.getElem?_eq_none_iff.1 hx;omega
       repeat' with_reducible first
        |refine s_ ?_
        |simp -implicitDefEqProofs only[wZZ,seval,hb,hz,hvl]
        |apply qa<;>intro h h_<;>(try simp only[wD,reduceCtorEq]at h_)<;>(try exact wb_)<;>(try simp only[h])
        |refine t_ ?_
        |simp -implicitDefEqProofs (disch:=omega) only[w64,if_neg]
       all_goals first|(exfalso;omega)|(exact ja (t:=4) (u:=5) (id:=next) (ro:=false) rfl (Or.inr rfl) (by(simp -implicitDefEqProofs only[wL,seval])) hh_ rfl (by(simp -implicitDefEqProofs only[wL,seval])) ⟨wg_,fun j h1 h2=>hh_,rfl,_,hh_⟩)
     | some p =>
       have hPl:=(List.getElem?_eq_some_iff.1 hx).1
       have hzP:IntKind.i64.wrap ((P.length:Int) - 1)=((P.length - 1:Nat):Int):=by rw[wrap64 o_ o_];omega
       have hn1:P.length - 1+1=P.length:=o_
       have hx':P[(((P.length - 1:Nat):Int)).toNat]?=some p:=by rw[Int.toNat_natCast];exact hx
       dsimp only
       by_cases hp0:p<0
       · rw[if_pos hp0]
         repeat' with_reducible first
          |refine s_ ?_
          |simp -implicitDefEqProofs only[wZZ,seval,hb,hz,hvl,hzP]
          |(first|apply qa|apply qh|apply qi)<;>intro h h_<;>(try simp only[wD,reduceCtorEq]at h_)<;>(try exact wb_)<;>(try simp only[h])
          |(refine JV.ia hpv o_ hx' ?_)
          |(refine JV.slc hpv hn1 (fun pv2 hpv2=>?_);obtain ⟨hw1,hw2,hw3⟩:=hpv2.ok)
          |(refine qBz (by assumption) ?_)
          |refine t_ ?_
          |simp -implicitDefEqProofs (disch:=omega) only[w64,if_neg]
         all_goals first|(exfalso;omega)|(exact ja (t:=4) (u:=5) (id:=next) (ro:=false) rfl (Or.inr rfl) (by(simp -implicitDefEqProofs only[wL,seval])) hh_ rfl (by(simp -implicitDefEqProofs only[wL,seval])) ⟨wg_,fun j h1 h2=>hh_,rfl,_,hh_⟩)
       · rw [if_neg hp0]
         obtain ⟨m,rfl⟩: ∃m:Nat,p=m:=⟨p.toNat,o_⟩
         rw[Int.toNat_natCast]
         cases hpr:g.prods[m]? with
         | none=>
           have hml:=List.getElem?_eq_none_iff.1 hpr
           repeat' with_reducible first
            |refine s_ ?_
            |simp -implicitDefEqProofs only[wZZ,seval,hb,hz,hvl,hzP]
            |(first|apply qa|apply qh|apply qi)<;>intro h h_<;>(try simp only[wD,reduceCtorEq]at h_)<;>(try exact wb_)<;>(try simp only[h])
            |(refine JV.ia hpv o_ hx' ?_)
            |(refine JV.slc hpv hn1 (fun pv2 hpv2=>?_);obtain ⟨hw1,hw2,hw3⟩:=hpv2.ok)
            |(refine qBz (by assumption) ?_)
            |refine t_ ?_
            |simp -implicitDefEqProofs (disch:=omega) only[w64,if_neg]
           all_goals first|(exfalso;omega)|(exact ja (t:=4) (u:=5) (id:=next) (ro:=false) rfl (Or.inr rfl) (by(simp -implicitDefEqProofs only[wL,seval])) hh_ rfl (by(simp -implicitDefEqProofs only[wL,seval])) ⟨wg_,fun j h1 h2=>hh_,rfl,_,hh_⟩)
         | some pr =>
           have hml:=(List.getElem?_eq_some_iff.1 hpr).1
           have hmem:=List.mem_of_getElem? hpr
           obtain ⟨lf,hlf,hln⟩:=hg.left pr hmem
           have hrl:=hg.rlen pr hmem
           have hnl:=hg.nn2
           obtain ⟨pl,prr,pc,pco,pa,pat⟩:=pr
           dsimp only at hlf hrl ⊢
           subst hlf
           have hzl:IntKind.i64.wrap (1000+(lf:Int))=1000+(lf:Int):=wrap64 o_ o_
           by_cases hy2:1000+(lf:Int)≠y
           · rw[if_neg hy2]
             repeat' with_reducible first
              |refine s_ ?_
              |simp -implicitDefEqProofs only[wZZ,seval,hb,hz,hvl,hzP,hzl]
              |(first|apply qa|apply qh|apply qi)<;>intro h h_<;>(try simp only[wD,reduceCtorEq]at h_)<;>(try exact wb_)<;>(try simp only[h])
              |(refine JV.ia hpv o_ hx' ?_)
              |(refine JV.slc hpv hn1 (fun pv2 hpv2=>?_);obtain ⟨hw1,hw2,hw3⟩:=hpv2.ok)
              |(refine qBz (by assumption) ?_)
              |refine t_ ?_
              |simp -implicitDefEqProofs (disch:=omega) only[w64,if_neg]
             all_goals first|(exfalso;omega)|(exact ja (t:=4) (u:=5) (id:=next) (ro:=false) rfl (Or.inr rfl) (by(simp -implicitDefEqProofs only[wL,seval])) hh_ rfl (by(simp -implicitDefEqProofs only[wL,seval])) ⟨wg_,fun j h1 h2=>hh_,rfl,_,hh_⟩)
           · replace hy2:=Classical.not_not.1 hy2
             rw[if_pos hy2]
             have hzr:IntKind.i64.wrap ((prr.length:Int) - 1)=(prr.length:Int) - 1:=wrap64 o_ o_
             repeat' with_reducible first
              |refine s_ ?_
              |simp -implicitDefEqProofs only[wZZ,seval,hb,hz,hvl,hzP,hzl,hzr]
              |(first|apply qa|apply qh|apply qi)<;>intro h h_<;>(try simp only[wD,reduceCtorEq]at h_)<;>(try exact wb_)<;>(try simp only[h])
              |(refine JV.ia hpv o_ hx' ?_)
              |(refine JV.slc hpv hn1 (fun pv2 hpv2=>?_);obtain ⟨hw1,hw2,hw3⟩:=hpv2.ok)
              |(refine qBz (by assumption) ?_)
              |refine t_ ?_
              |apply qdo;exact wf_;exact wf_;(focus(unfold maxLen;first|omega|(simp only[wZ]<;>omega)))
              |simp -implicitDefEqProofs (disch:=omega) only[w64,if_neg]
             refine qg ?nx1 (fun(i:Nat) s=>s.f 0=?v1_0∧s.f 4=?v1_4∧s.f 8=?v1_8∧s.f 9=?v1_9∧s.f 10=vi ((prr.length:Int) - ((i+1:Nat):Int))∧(i≤prr.length)∧(next+93≤s.next)∧((∃P1 T1 n1 ks pv1 es,KidR s g W d bi (next+85) (next+87) (next+88) prr (P.take (P.length - 1)) T (n - 1) i y m P1 T1 n1 ks pv1 es))∧((∀j,j<next→j≠bi→s.H j=H j))∧((s.H next=some (.own 4 [ndZ] false)))) (fun i=>prr.length - i) (0) wj_ (by refine⟨?_,?_,?_,?_,?_,wo_,wg_,(by exact⟨P.take (P.length - 1),T,n - 1,[],pv2,_,⟨by(simp only[wM];(repeat first|rw[if_pos trivial]|rw[if_pos rfl]|rw[if_neg o_])),by(simp only[wM];(repeat first|rw[if_pos trivial]|rw[if_pos rfl]|rw[if_neg o_])),by(simp only[wM];(repeat first|rw[if_pos trivial]|rw[if_pos rfl]|rw[if_neg o_])),by simp,qjD _,rfl,hpv2,by rw[qI];simp,rfl⟩⟩),(by intro j h1 h2;(simp only[wM];(repeat first|rw[if_pos trivial]|rw[if_pos rfl]|rw[if_neg o_]))),wc_⟩<;>first|(simp -implicitDefEqProofs only[wL,wM,wN,wX,seval,Option.some.injEq]<;>exact wt_)|rfl|exact⟨_,rfl⟩) ?_
             intro i s hnx ⟨g0,g4,g8,g9,g10,k1_0,k1_1,k1_2,k1_3,k1_4⟩
             obtain ⟨P1,T1,n1,ks,pv1,es,kb,k9,km,kle,ki4,kbl,kpv,knd,kln⟩:=k1_2
             have hbd:=YT (qcd d) _ _ _ _ _ _ _ _ kbl
             have hbp:=(YI (qcb d) _ _ _ _ _ _ _ _ kbl).trans hT
             rw[List.length_take]at hbd
             by_cases hi:i<prr.length
             · have hgi:prr[prr.length - 1 - i]?=some prr[prr.length - 1 - i]:=ge_ o_
               generalize prr[prr.length - 1 - i]=sy at *
               have hgi':prr[((prr.length:Int) - ((i+1:Nat):Int)).toNat]?=some sy:=by rw[← hgi];congr 1;omega
               have htk:prr.reverse.take (i+1)=prr.reverse.take i++[sy]:=by rw[List.take_add_one,List.getElem?_reverse hi,hgi];rfl
               have hzi:IntKind.i64.wrap ((prr.length:Int) - ((i+1:Nat):Int) - 1)=(prr.length:Int) - ((i+1+1:Nat):Int):=by rw[wrap64 o_ o_];omega
               have hsr:prr.reverse=(prr.reverse.take i++[sy])++prr.reverse.drop (i+1):=by rw[← htk,List.take_append_drop]
               cases hr:bld g d sy P1 T1 n1 with
               | none=>
                 have IH2: ∀(H:Nat→Option MObj) (next:Nat),RIn g W H next bi pv1 P1 T1 n1→qO Try.prog 63 [.ptr bi 0 0,vi sy] H next (fun v H' n'=>next≤n'∧(∀j,j<next→j≠bi→H' j=H j)∧v=.tup [ndZ,.bool false]∧ ∃x,H' bi=some (.own 9 [x] false)):=fun H next h=>by
                  have:=IH H next n1 pv1 P1 T1 sy o_ h
                  rw[hr]at this;exact this
                 have hall:kS (bld g d) prr.reverse (P.take (P.length - 1)) T (n - 1)=none:=by
                  rw[hsr,yD,yD,kbl]
                  dsimp only
                  rw[kS,hr]
                 rw[hall]
                 dsimp only
                 repeat' with_reducible first
                  |refine s_ ?_
                  |simp -implicitDefEqProofs only[wZZ,seval,g0,g4,g8,g9,g10,hzi,kb,k9]
                  |apply qa<;>intro h h_<;>(try simp only[wD,reduceCtorEq]at h_)<;>(try exact wb_)<;>(try simp only[h])
                  |refine t_ ?_
                  |(refine qU rfl rfl rfl ((IH2 _ _ ⟨(by first|exact kb|(((try simp only[wM]);(repeat first|rw[if_pos trivial]|rw[if_pos rfl]|rw[if_neg o_]));exact kb)),wg_,kpv,o_,hbp,hW,o_⟩).mono ?_);rintro v1 H1 n1' ⟨q1,q2,rfl,xv,q3⟩;(try simp only[wN]at q1))
                  |simp -implicitDefEqProofs (disch:=omega) only[w64,if_neg]
                 have q2': ∀j,j<s.next→j≠bi→H1 j=s.H j:=fun j h1 h2=>(q2 j wg_ h2).trans (by first|rfl|((try simp only[wM]);(repeat first|rw[if_pos trivial]|rw[if_pos rfl]|rw[if_neg o_])))
                 have o4:H1 next=some (.own 4 [ndZ] false):=(q2' next o_ o_).trans k1_4
                 repeat' with_reducible first
                  |refine s_ ?_
                  |simp -implicitDefEqProofs only[wZZ,seval,g0,g4,g8,g9,g10,o4]
                  |refine t_ ?_
                 exact ja (t:=4) (u:=5) (id:=next) (ro:=false) rfl (Or.inr rfl) (by(simp -implicitDefEqProofs only[wL,seval,g4])) hh_ rfl (by(simp -implicitDefEqProofs only[wL,seval])) ⟨wg_,fun j h1 h2=>by((try simp only[wM]);(repeat first|rw[if_pos trivial]|rw[if_pos rfl]|rw[if_neg o_]));rw[q2' j o_ h2];exact k1_3 j h1 h2,rfl,xv,by((try simp only[wM]);(repeat first|rw[if_pos trivial]|rw[if_pos rfl]|rw[if_neg o_]));exact q3⟩
               | some q=>
                 obtain ⟨t,P2,T2,n2⟩:=q
                 have IH2: ∀(H:Nat→Option MObj) (next:Nat),RIn g W H next bi pv1 P1 T1 n1→qO Try.prog 63 [.ptr bi 0 0,vi sy] H next (fun v H' n'=>next≤n'∧(∀j,j<next→j≠bi→H' j=H j)∧ ∃tv pv',v=.tup [tv,.bool true]∧zW H' (fun j=>next≤j∧j<n') t tv∧JV pv' P2∧H' bi=some (.own 9 [bdR g pv' T2.length W (3000 - n2:Int)] false)):=fun H next h=>by
                  have:=IH H next n1 pv1 P1 T1 sy o_ h
                  rw[hr]at this;exact this
                 repeat' with_reducible first
                  |refine s_ ?_
                  |simp -implicitDefEqProofs only[wZZ,seval,g0,g4,g8,g9,g10,hzi,kb,k9]
                  |apply qa<;>intro h h_<;>(try simp only[wD,reduceCtorEq]at h_)<;>(try exact wb_)<;>(try simp only[h])
                  |refine t_ ?_
                  |(refine qU rfl rfl rfl ((IH2 _ _ ⟨(by first|exact kb|(((try simp only[wM]);(repeat first|rw[if_pos trivial]|rw[if_pos rfl]|rw[if_neg o_]));exact kb)),wg_,kpv,o_,hbp,hW,o_⟩).mono ?_);rintro v1 H1 n1' ⟨q1,q2,tv,pv3,rfl,q3,q5,q4⟩;(try simp only[wN]at q1);obtain ⟨kv2,rfl,w1,w2,w3⟩:=q3.shape)
                  |simp -implicitDefEqProofs (disch:=omega) only[w64,if_neg]
                 have q2': ∀j,j<s.next→j≠bi→H1 j=s.H j:=fun j h1 h2=>(q2 j wg_ h2).trans (by first|rfl|((try simp only[wM]);(repeat first|rw[if_pos trivial]|rw[if_pos rfl]|rw[if_neg o_])))
                 have o9:H1 (next+87)=some (.own 4 [.agg [vi y,vi m,vi (-1),.msl (next+85) 4 0 prr.length]] false):=(q2' _ o_ o_).trans k9
                 have om:H1 (next+85)=some (.own 4 es false):=(q2' _ o_ o_).trans km
                 have hlt:(prr.length - (i+1))<es.length:=o_
                 have i4':=q3.is4
                 repeat' with_reducible first
                  |refine s_ ?_
                  |simp -implicitDefEqProofs only[wZZ,seval,g0,g4,g8,g9,g10,o9,om,hzi]
                  |apply yL;omega;omega
                  |(refine qaY rfl o_ i4' ki4 ?_)
                  |refine t_ ?_
                  |simp -implicitDefEqProofs (disch:=omega) only[w64,if_neg]
                 have hdr:(es.set ((prr.length:Int) - ((i+1:Nat):Int)).toNat (.agg [vi t.sym,vi t.prod,vi t.at_,kv2])).drop (prr.length - (i+1))=.agg [vi t.sym,vi t.prod,vi t.at_,kv2]::es.drop (prr.length - i):=by
                  rw[show ((prr.length:Int) - ((i+1:Nat):Int)).toNat=prr.length - (i+1) by omega,QW _ _ _ hlt,show prr.length - (i+1)+1=prr.length - i by omega]
                 refine⟨wg_,i+1,o_,?_⟩;(repeat refine⟨True.intro,?_⟩)
                 refine⟨rfl,o_,wg_,⟨P2,T2,n2,ks++[t],pv3,es.set ((prr.length:Int) - ((i+1:Nat):Int)).toNat (.agg [vi t.sym,vi t.prod,vi t.at_,kv2]),⟨?_,?_,?_,?_,Is4.set ki4 i4',?_,q5,?_,by simp;omega⟩⟩,fun j h1 h2=>?_,?_⟩
                 · ((try simp only[wM]);(repeat first|rw[if_pos trivial]|rw[if_pos rfl]|rw[if_neg o_]));exact q4
                 · ((try simp only[wM]);(repeat first|rw[if_pos trivial]|rw[if_pos rfl]|rw[if_neg o_]));exact o9
                 · ((try simp only[wM]);(repeat first|rw[if_pos trivial]|rw[if_pos rfl]|rw[if_neg o_]))
                 · rw[List.length_set];exact kle
                 · rw[htk,yD,kbl];dsimp only;rw[kS,hr];dsimp only;rw[kS]
                 · rw[hdr,List.reverse_cons]
                   refine qI.snoc (zW.mono (fun j ⟨a,b⟩=>⟨⟨by(try simp only[wN]at a);omega,wg_⟩,?_⟩) _ _ q3) (qI.mono (fun j ⟨a,b⟩=>⟨⟨a,wg_⟩,?_⟩) _ _ knd)
                   · (try simp only[wN]at a);((try simp only[wM]);(repeat first|rw[if_pos trivial]|rw[if_pos rfl]|rw[if_neg o_]))
                   · ((try simp only[wM]);(repeat first|rw[if_pos trivial]|rw[if_pos rfl]|rw[if_neg o_]));exact q2' j b o_
                 · ((try simp only[wM]);(repeat first|rw[if_pos trivial]|rw[if_pos rfl]|rw[if_neg o_]));rw[q2' j o_ h2];exact k1_3 j h1 h2
                 · exact(q2' next o_ o_).trans k1_4
             · have et:prr.reverse.take i=prr.reverse:=List.take_of_length_le (by rw[List.length_reverse];omega)
               rw[et]at kbl
               rw[kbl]
               dsimp only
               rw[show prr.length - i=0 by omega,List.drop_zero]at knd
               have knd2:=knd.rev
               rw[List.reverse_reverse]at knd2
               repeat' with_reducible first
                |refine s_ ?_
                |simp -implicitDefEqProofs only[wZZ,seval,g0,g4,g8,g9,g10,kb,k9,k1_4]
                |apply qa<;>intro h h_<;>(try simp only[wD,reduceCtorEq]at h_)<;>(try exact wb_)<;>(try simp only[h])
                |refine t_ ?_
               exact ja (t:=4) (u:=5) (id:=next) (ro:=false) rfl (Or.inr rfl) (by(simp -implicitDefEqProofs only[wL,seval,g4])) hh_ rfl (by(simp -implicitDefEqProofs only[wL,seval])) ⟨wg_,fun j h1 h2=>by((try simp only[wM]);(repeat first|rw[if_pos trivial]|rw[if_pos rfl]|rw[if_neg o_]));exact k1_3 j h1 h2,_,pv1,rfl,by rw[zW];exact⟨_,rfl,Or.inr ⟨next+85,es,by rw[kle],⟨o_,wg_⟩,by((try simp only[wM]);(repeat first|rw[if_pos trivial]|rw[if_pos rfl]|rw[if_neg o_]));exact km,qI.mono (fun j ⟨a,b⟩=>⟨⟨o_,wg_⟩,hh_⟩) _ _ knd2⟩⟩,kpv,by((try simp only[wM]);(repeat first|rw[if_pos trivial]|rw[if_pos rfl]|rw[if_neg o_]));exact kb⟩
theorem Vg {g:Grammar} {W:List Int} (hg:GOk g) (bi:Nat): ∀(d:Nat) (H:Nat→Option MObj) (next n:Nat) (pv:V) (P T:List Int) (s:Int),n≤d→RIn g W H next bi pv P T n→qO Try.prog 63 [.ptr bi 0 0,vi s] H next (qGB g W H next bi (bld g (d+1) s P T n))
 |0,H,next,n,pv,P,T,s,hn,hI=>XG hg (fun _ _ n1 _ _ _ _ h _=>by omega) hI
 |d+1,H,next,n,pv,P,T,s,hn,hI=>XG hg (fun H next n1 pv P T s h hI=>Vg hg bi d H next n1 pv P T s o_ hI) hI
end Go.Proofs
