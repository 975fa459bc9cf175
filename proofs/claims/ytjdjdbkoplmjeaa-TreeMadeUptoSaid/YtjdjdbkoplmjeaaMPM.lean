/- Part of a proof that a law of the given program answers true. -/
import Derived.Test.YtjdjdbkoplmjeaaMNS
import Derived.Test.YtjdjdbkoplmjeaaMPA
import Derived.Test.YtjdjdbkoplmjeaaMYB
import Derived.Test.YtjdjdbkoplmjeaaMRA
set_option maxRecDepth 20000
set_option linter.unusedSimpArgs false
set_option linter.unusedVariables false
set_option maxHeartbeats 4000000
namespace Go.Proofs
open Go.E
theorem fst_and {R:Int→Nat→Nat→Nd→Prop} {P:Int→Prop}: ∀{l:List Int} {i b:Nat} {ks:List Nd},Fst R l i b ks→(∀s∈l,P s)→Fst (fun s i j t=>R s i j t∧P s) l i b ks
 |[],i,b,ks,h,_=>h
 | s::l,i,b,ks,h,hp=>by
   obtain ⟨a,k,r,e,h1,h2⟩:=h
   exact⟨a,k,r,e,⟨h1,hp s (by simp)⟩,fst_and h2 (fun x hx=>hp x (List.mem_cons_of_mem _ hx))⟩
theorem Ji {g:Grammar} (hg:GOk g): ∀(d:Nat) {s:Int} {i j:Nat} {t:Nd},Xo g.toks.length g.nons.length s→Qk g qjh d s i j t→t.whole g=true∧t.sym=s
 |0,s,i,j,t,_,h=>h.elim
 | d +1,s,i,j,t,hs,h=>by
   rcases h with ⟨h1,rfl,_,rfl⟩|⟨m,p,ks,hp,rfl,rfl,h⟩
   · refine⟨?_,rfl⟩
     rw[Nd.whole,if_pos rfl]
     rcases hs with ⟨t,e,ht⟩|⟨k,e,_⟩
     · exact decide_eq_true ⟨o_,o_,o_,rfl⟩
     · omega
   · refine⟨?_,rfl⟩
     have hr:=hg.right p (List.mem_of_getElem? hp)
     have h2:=Ka (g:=g) (fun s i j t hh=>Ji hg d hh.2 hh.1) (fst_and h hr)
     rw[Nd.whole,if_neg o_,Int.toNat_natCast,hp,decide_eq_true o_]
     dsimp only
     rw[h2];simp
theorem Qt {x:Source} {P w:List Int} {how v:Int} (hf:x.Fits) (hP:P.length≤1000000000) (hw:w.length≤1000000000):Pure Try.prog 4 [x.V,.sl 1 false (P.map (V.int .i64)),.sl 1 false (w.map (V.int .i64)),vi how,vi v] (.bool true):=by
 refine pure_intro Try.func4 nm_ qDP (by show 5≤69;decide) ?_
 show ewp _ qkV _ _
 have hwk:=yV
 have hs:=YU hf
 have hgr:=jo (src:=Va x) (qd0 x) (X7 x)
 have hi1:=zZ (l:=P) (n:=30) o_ o_
 have hi2:=zZ (l:=w) (n:=12) o_ o_
 simp only[Int.cast_ofNat_Int]at hi1 hi2
 cases hb:VU (Va x)with
 | false=>
   rw[hb]at hgr
   generalize yo (Va x)=g at *
   generalize Va x=sr at *
   repeat' with_reducible first
    |refine s_ ?_
    |simp -implicitDefEqProofs only[wZZ,seval]
    |refine cq0 hwk ?_
    |refine cq1 hs (ve _) ?_
    |refine cq1 hgr (ve _) ?_
    |refine t_ ?_
   all_goals refine qA rfl (Or.inr rfl) ?_
   all_goals(try simp -implicitDefEqProofs only[wL,seval])
   all_goals refine er_ ?_
   all_goals(try(with_reducible rfl))
 | true =>
   rw[hb]at hgr
   have hg:=gok hb
   have hn:=qbh x
   have hIl:(yg P 30).length≤1099511627776:=by unfold yg;split<;>(try rw[List.length_take])<;>omega
   have hWl:(yg w 12).length≤1000000000:=by unfold yg;split<;>(try rw[List.length_take])<;>omega
   generalize yo (Va x)=g at *
   generalize Va x=sr at *
   generalize yg P 30=P1 at *
   generalize yg w 12=w1 at *
   obtain ⟨p0,r0,hp0,_,k,hpr,hkn⟩:=hg.head
   obtain ⟨gv,⟨t,ok,rfl,hok⟩,hgw⟩:=qdC (k:=k) hg hIl ⟨p0,r0,hp0,hpr⟩ hkn
   have hkV:t.V=.agg [vi t.sym,vi t.prod,vi t.at_,.sl 4 false (t.kids.map Nd.V)]:=by obtain ⟨q1,q2,q3,q4⟩:=t;rw[Nd.V_mk]
   cases ok with
   | false=>
     rw[hkV]at hgw
     repeat' with_reducible first
      |refine s_ ?_
      |simp -implicitDefEqProofs only[wZZ,seval]
      |refine cq0 hwk ?_
      |refine cq1 hs (ve _) ?_
      |refine cq1 hgr (ve _) ?_
      |refine cq2 hi1 qc qc ?_
      |refine cq2 hgw qc qc ?_
      |refine t_ ?_
     all_goals refine qA rfl (Or.inr rfl) ?_
     all_goals(try simp -implicitDefEqProofs only[wL,seval])
     all_goals refine er_ ?_
     all_goals(try(with_reducible rfl))
   | true=>
     obtain ⟨hsz,d,j,hT⟩:=hok rfl
     have hwh:=(Ji hg d (Or.inr ⟨k,rfl,hkn⟩) hT).1
     have hpos:=t.size_pos
     have h1:=Jv t.size t (Nat.le_refl _) o_
     have h2:=Qy (t:=t) hg o_
     have hm:t.z8 g 3000=decide (t.size≤3000):=by unfold Nd.z8;rw[hwh,Bool.and_true]
     rw[hm]at h2
     have h3:=YC t.size t (Nat.le_refl _) o_
     have h4:=Kh how v w1 t hWl o_
     have hsp:=Xa how v w1 t
     generalize xL how v w1 t=u at *
     have h5:=ZP (t:=u) hg hn o_
     have hkU:u.V=.agg [vi u.sym,vi u.prod,vi u.at_,.sl 4 false (u.kids.map Nd.V)]:=by obtain ⟨q1,q2,q3,q4⟩:=u;rw[Nd.V_mk]
     have hsR:=t.sizeR_eq
     have hsL:=t.sizeR_le
     rw[hkU]at h4 h5
     rw[hkV]at hgw h1 h2 h3 h4
     by_cases h30:t.size≤3000
     · rw[hsR o_]at h3
       have hd:decide ((t.size:Int)≤3000)=true:=decide_eq_true o_
       rw[decide_eq_true h30]at h2
       generalize t.size=n at *
       repeat' with_reducible first
        |refine s_ ?_
        |simp -implicitDefEqProofs only[wZZ,seval]
        |(first|apply qh|apply qi)<;>intro h h_<;>(try simp only[wD,reduceCtorEq]at h_)<;>(try exact wb_)<;>(try simp only[h])
        |refine cq0 hwk ?_
        |refine cq1 hs (ve _) ?_
        |refine cq1 hgr (ve _) ?_
        |refine cq2 hi1 qc qc ?_
        |refine cq2 hgw qc qc ?_
        |refine cq1 h1 qc ?_
        |refine cq2 h2 qc qc ?_
        |refine cq1 h3 qc ?_
        |refine cq2 hi2 qc qc ?_
        |refine cq4 h4 qc qc qc qc ?_
        |refine cq2 h5 qc qc ?_
        |refine t_ ?_
       all_goals refine qA rfl (Or.inr rfl) ?_
       all_goals(try simp -implicitDefEqProofs only[wL,seval])
       all_goals refine er_ ?_
       all_goals(try(with_reducible rfl))
       all_goals(exfalso;rw[hd]at h_;exact absurd h_ (by decide))
     · rw[decide_eq_false h30]at h2
       have hd:decide ((t.size:Int)≤3000)=false:=decide_eq_false o_
       generalize t.size=n at *
       repeat' with_reducible first
        |refine s_ ?_
        |simp -implicitDefEqProofs only[wZZ,seval]
        |(first|apply qh|apply qi)<;>intro h h_<;>(try simp only[wD,reduceCtorEq]at h_)<;>(try exact wb_)<;>(try simp only[h])
        |refine cq0 hwk ?_
        |refine cq1 hs (ve _) ?_
        |refine cq1 hgr (ve _) ?_
        |refine cq2 hi1 qc qc ?_
        |refine cq2 hgw qc qc ?_
        |refine cq1 h1 qc ?_
        |refine cq2 h2 qc qc ?_
        |refine t_ ?_
       all_goals refine qA rfl (Or.inr rfl) ?_
       all_goals(try simp -implicitDefEqProofs only[wL,seval])
       all_goals refine er_ ?_
       all_goals(try(with_reducible rfl))
       all_goals(exfalso;rw[hd]at h_;exact absurd h_ (by decide))
end Go.Proofs
