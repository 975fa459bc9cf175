/- Part of a proof that a law of the given program answers true. -/
import Derived.Test.YtjdjdbkoplmjeaaDoorVVEC
import Derived.Test.YtjdjdbkoplmjeaaDoorVCAC
set_option linter.unusedSimpArgs false
set_option linter.unusedVariables false
set_option maxRecDepth 100000
set_option maxHeartbeats 0
namespace Go.Proofs
open Go.E
def vcR (w i:Nat):List (List Nat):=[List.replicate w (i+1)]
def vcL (n w:Nat):List (List (List Nat)):=(List.range n).map (vcR w)++[[[]]]
def JP (w:Nat) (v:Int):Int:=if 3000<(if 0<v then 1+(w:Int) *v else v)then -1 else(if 0<v then 1+(w:Int) *v else v)
def x9 (w:Nat):Nat→List Int
 |0=>[1]
 |n+1=>JP w ((x9 w n).headD 0)::x9 w n
def qah (l:List Int):List Int:=(if l.headD 0<0∨3000<1+l.headD 0 then -1 else 1+l.headD 0)::l
def vcB (g:Grammar) (n w:Nat):Bool:=decide (g.nons.length=n+2) && qb4 g.prods false (qaF g.prods false) && upB g.prods (n+2) (qaF g.prods false) && qra g.prods (n+2) (qaF g.prods false) (fun _=>false) (qah (x9 w n))
def qCv (n w:Nat):Bool:=Z9 (QB (vcL n w)) && vcB (Qv (QB (vcL n w))) n w
theorem qqm:((List.range 20).all fun n=>(List.range 8).all fun w=>qCv (n+1) (w+1))=true:=by decide+kernel
theorem qy0 {n w:Nat} (h1:1≤n) (h2:n≤20) (h3:1≤w) (h4:w≤8):Z9 (QB (vcL n w))=true∧vcB (Qv (QB (vcL n w))) n w=true:=by
 have h:=List.all_eq_true.1 (List.all_eq_true.1 qqm (n - 1) (List.mem_range.2 o_)) (w - 1) (List.mem_range.2 o_)
 rw[show n - 1+1=n by omega,show w - 1+1=w by omega]at h
 unfold qCv at h
 rwa [Bool.and_eq_true]at h
theorem qvG {n w:Nat} (h2:n≤20) (h4:w≤8):Sml (vcL n w):=by
 have hm: ∀a∈vcL n w,(∃i,i<n∧a=[List.replicate w (i+1)])∨a=[[]]:=fun a ha=>by
  rcases List.mem_append.1 ha with ha|ha
  · obtain ⟨i,hi,rfl⟩:=List.mem_map.1 ha
    exact Or.inl ⟨i,List.mem_range.1 hi,rfl⟩
  · exact Or.inr (List.mem_singleton.1 ha)
 refine⟨by simp[vcL];omega,fun a ha=>?_,fun a ha b hb=>?_,fun a ha b hb x hx=>?_⟩
 · rcases hm a ha with ⟨i,_,rfl⟩|rfl<;>simp
 · rcases hm a ha with ⟨i,_,rfl⟩|rfl
   · rw[List.mem_singleton]at hb;subst hb;rw[List.length_replicate];omega
   · rw[List.mem_singleton]at hb;subst hb;simp
 · rcases hm a ha with ⟨i,hi,rfl⟩|rfl
   · rw[List.mem_singleton]at hb;subst hb
     have:=(List.mem_replicate.1 hx).2
     omega
   · rw[List.mem_singleton]at hb;subst hb;cases hx
theorem qcu (w n:Nat):(x9 w n).length=n+1:=by
 induction n with
 |zero=>rfl
 |succ n ih=>rw[x9,List.length_cons,ih]
theorem Vy (w:Nat): ∀n m,m≤n→(x9 w n)[n - m]?=some ((x9 w m).headD 0)
 | 0,m,h=>by
   have:m=0:=o_
   subst this;rfl
 | n +1,m,h=>by
   by_cases e:m=n+1
   · subst e;rw[Nat.sub_self,x9];rfl
   · have hh:=Vy w n m o_
     rw[show n+1 - m=(n - m)+1 by omega,x9,List.getElem?_cons_succ]
     exact hh
theorem qcU {w:Nat} {v:Int} (h: -1≤v): -1≤JP w v∧JP w v≤3000:=by
 unfold JP
 by_cases h0:0<v
 · have h1:0≤(w:Int) *v:=Int.mul_nonneg o_ o_
   rw[if_pos h0]
   generalize (w:Int) *v=x at *
   split<;>omega
 · rw[if_neg h0]
   split<;>omega
theorem Vk (w:Nat): ∀m,-1≤(x9 w m).headD 0∧(x9 w m).headD 0≤3000
 |0=>by simp[x9]
 | m+1=>by
   rw[x9,List.headD_cons]
   exact qcU (Vk w m).1

set_option maxRecDepth 20000
set_option maxHeartbeats 8000000
theorem qdW (n w i:Nat) (h:i<n):(List.range (i+1)).map (vcR w)=(List.range i).map (vcR w)++[vcR w i]:=by rw[List.range_succ,List.map_append];rfl
theorem quJ (k x:Nat):List.replicate (k+1) x=List.replicate k x++[x]:=by rw[List.replicate_succ']
theorem Qe {n0 w0:Int}:Pure Tryd.prog 4 [vi n0,vi w0] (.bool true):=by
 refine pure_intro Tryd.func4 nm_ qBX (by show 2≤91;decide) ?_
 show ewp _ qsj _ _
 have hw:=qE
 have hw1:=jH (i:=n0) (n:=20) o_ o_
 have hw2:=jH (i:=w0) (n:=8) o_ o_
 obtain ⟨n,hn⟩: ∃n:Nat,n=(1+n0 % 20).toNat:=⟨_,rfl⟩
 obtain ⟨w,hw'⟩: ∃w:Nat,w=(1+w0 % 8).toNat:=⟨_,rfl⟩
 have hzn:IntKind.i64.wrap (1+n0 % 20)=(n:Int):=by rw[wrap64 o_ o_];omega
 have hzw:IntKind.i64.wrap (1+w0 % 8)=(w:Int):=by rw[wrap64 o_ o_];omega
 have a1:1≤n:=o_
 have a2:n≤20:=o_
 have a3:1≤w:=o_
 have a4:w≤8:=o_
 obtain ⟨v1,v2⟩:=qy0 a1 a2 a3 a4
 have hch:=Ky (qvG a2 a4) v1
 have hg:=gok v1
 generalize Qv (QB (vcL n w))=g at *
 unfold vcB at v2
 simp only[Bool.and_eq_true,decide_eq_true_eq]at v2
 obtain ⟨⟨⟨b1,b2⟩,b3⟩,b4⟩:=v2
 rw[← b1]at b3 b4
 have he:=KW hg (Q6 b2) (qfn b3) b4
 generalize n0 % 20=n1 at *
 generalize w0 % 8=w1 at *
 repeat' with_reducible first
  |refine s_ ?_
  |refine s_ ?_
  |refine s_ ?_
  |simp -implicitDefEqProofs only[wS,wT,wU,wV,wW,wX,wY,wC,wF,wG,wL,wM,wN,seval,Int.cast_ofNat_Int,Int.reduceLT,Int.reduceLE,Int.reduceEq,Int.reduceToNat,decide_true,decide_false,Bool.false_eq_true,hzn,hzw]
  |(refine qc (fun h h_=>?_) (fun h h_=>?_)<;>(try simp only[wD,reduceCtorEq]at h_)<;>(try(exfalso;first|omega|exact absurd (Eq.trans (Eq.symm h_) (by assumption):false=true) (by decide)|exact absurd (Eq.trans (Eq.symm h_) (by assumption):true=false) (by decide)|(refine absurd ?_ h_;focus assumption)|(refine absurd h_ ?_;focus assumption)))<;>(try simp only[h]))
  |((first|refine qH (fun h=>?_) (fun h=>?_)|refine qG (fun h=>?_) (fun h=>?_))<;>have h_:=h<;>(try simp only[wD,reduceCtorEq]at h_)<;>(try(exfalso;first|omega|exact absurd (Eq.trans (Eq.symm h_) (by assumption):false=true) (by decide)|exact absurd (Eq.trans (Eq.symm h_) (by assumption):true=false) (by decide)|(refine absurd ?_ h_;focus assumption)|(refine absurd h_ ?_;focus assumption)))<;>(try simp only[h]))
  |refine cq0 hw ?_
  |refine cq2 hw1 qI qI ?_
  |refine cq2 hw2 qI qI ?_
  |refine t_ ?_
  |apply qj;omega;exact wd_
  |apply qJ;(focus(first|exact qd.sl|exact qd.asl|exact qd.str));exact wf_;(focus(unfold maxLen;first|omega|(simp only[wZ]<;>omega)))
  |(refine qD ?_;simp -implicitDefEqProofs only[wM,wN,seval,hzn,hzw];apply qM;(focus(first|exact qd.sl|exact qd.asl|exact qd.str));(exact wf_);(focus(unfold maxLen;first|omega|(simp only[wZ]<;>omega))))
  |apply qy;(focus(first|omega|(simp only[wZ]<;>omega)))
  |apply qf;exact wu_;exact wu_;(focus((try simp -implicitDefEqProofs only[wE,Nat.reduceAdd]);rfl))
  |apply qg;exact wd_;exact wu_
  |apply qh;exact wu_
  |apply qm;exact wf_;exact wu_;exact wu_;(focus(intro _;with_unfolding_all rfl))
  |apply qp;exact wu_;exact wu_;exact wu_
  |refine cq0 qE ?_
  |refine qN we_ (qF wf_ wf_ wf_ wf_ wf_) ?_
  |refine qN we_ (za wf_ wf_ wf_) ?_
  |simp -implicitDefEqProofs (disch:=omega) only[w64,if_neg]
 refine qw ?nx1 (fun(q:Nat×List V) s=>s.f 0=?v1_0∧s.f 1=?v1_1∧(∃v,s.f 5=v∧Gr s.H s.next 1 q.2 v)∧s.f 6=vi q.1∧(q.1≤n)∧(QR q.2 (((List.range q.1).map (vcR w)).map nnV))) (fun q=>n - q.1) ((0,[])) wj_ (by refine⟨?_,?_,?_,?_,wo_,(by exact .nil)⟩<;>first|(simp -implicitDefEqProofs only[wL,wM,wN,wX,seval,Option.some.injEq]<;>exact wt_)|rfl|exact⟨_,rfl⟩) ?_
 intro q s hnx ⟨g0,g1,⟨v5,g5,G5⟩,g6,k1_0,k1_1⟩
 obtain ⟨i,es⟩:=q
 dsimp only at *
 have hel:es.length=i:=by have:=k1_1.len;rw[List.length_map,List.length_map,List.length_range]at this;omega
 have hz:=w1_ i
 have hz1:IntKind.i64.wrap ((i:Int)+1)=((i+1:Nat):Int):=wrap64 o_ o_
 by_cases hi:i<n
 · have hst:=qdW n w i hi
   repeat' with_reducible first
    |refine s_ ?_
    |refine s_ ?_
    |refine s_ ?_
    |simp -implicitDefEqProofs only[wS,wT,wU,wV,wW,wX,wY,wC,wF,wG,wL,wM,wN,seval,Int.cast_ofNat_Int,Int.reduceLT,Int.reduceLE,Int.reduceEq,Int.reduceToNat,decide_true,decide_false,Bool.false_eq_true,g0,g1,g5,g6,G5.len]
    |(refine qc (fun h h_=>?_) (fun h h_=>?_)<;>(try simp only[wD,reduceCtorEq]at h_)<;>(try(exfalso;first|omega|exact absurd (Eq.trans (Eq.symm h_) (by assumption):false=true) (by decide)|exact absurd (Eq.trans (Eq.symm h_) (by assumption):true=false) (by decide)|(refine absurd ?_ h_;focus assumption)|(refine absurd h_ ?_;focus assumption)))<;>(try simp only[h]))
    |((first|refine qH (fun h=>?_) (fun h=>?_)|refine qG (fun h=>?_) (fun h=>?_))<;>have h_:=h<;>(try simp only[wD,reduceCtorEq]at h_)<;>(try(exfalso;first|omega|exact absurd (Eq.trans (Eq.symm h_) (by assumption):false=true) (by decide)|exact absurd (Eq.trans (Eq.symm h_) (by assumption):true=false) (by decide)|(refine absurd ?_ h_;focus assumption)|(refine absurd h_ ?_;focus assumption)))<;>(try simp only[h]))
    |refine t_ ?_
    |apply Gr.iaQ G5;omega;exact wd_
    |apply qj;omega;exact wd_
    |apply zy (hg:=G5);(focus(first|rfl|(simp -implicitDefEqProofs only[wM];done)));(focus(first|exact qd.sl|exact qd.asl|exact qd.gr G5|exact qd.str));exact wf_;(focus(unfold maxLen;first|omega|(simp only[wZ]<;>omega)))
    |apply qJ;(focus(first|exact qd.sl|exact qd.asl|exact qd.gr G5|exact qd.str));exact wf_;(focus(unfold maxLen;first|omega|(simp only[wZ]<;>omega)))
    |(refine qD ?_;simp -implicitDefEqProofs only[wM,wN,seval,g0,g1,g5,g6];apply qM;(focus(first|exact qd.sl|exact qd.asl|exact qd.gr G5|exact qd.str));(exact wf_);(focus(unfold maxLen;first|omega|(simp only[wZ]<;>omega))))
    |apply qy;(focus(first|omega|(simp only[wZ]<;>omega)))
    |apply qf;exact wu_;exact wu_;(focus((try simp -implicitDefEqProofs only[wE,Nat.reduceAdd]);rfl))
    |apply qg;exact wd_;exact wu_
    |apply qh;exact wu_
    |apply qm;exact wf_;exact wu_;exact wu_;(focus(intro _;with_unfolding_all rfl))
    |apply qp;exact wu_;exact wu_;exact wu_
    |refine cq0 qE ?_
    |apply qN (hp:=qF ?_ ?_ ?_ ?_ ?_);(focus(first|exact zx|exact qI|exact jW|exact zZ|exact G5.er rfl));rotate_left;exact wf_;exact wf_;exact wf_;exact wf_;exact wf_
    |apply qN (hp:=za ?_ ?_ ?_);(focus(first|exact zx|exact qI|exact jW|exact zZ|exact G5.er rfl));rotate_left;exact wf_;exact wf_;exact wf_
    |simp -implicitDefEqProofs (disch:=omega) only[w64,if_neg]
   refine qw ?nx2 (fun(k:Nat) s=>s.f 0=?v2_0∧s.f 1=?v2_1∧s.f 6=?v2_6∧(∃v,s.f 5=v∧Gr s.H s.next 1 es v)∧(∃v,s.f 7=v∧Gr s.H s.next 1 ((List.replicate k (i+1)).map fun x:Nat=>V.int .i64 (x:Int)) v)∧s.f 8=vi k∧(k≤w)∧(Sep (s.f 5) (s.f 7))) (fun k=>w - k) (0) wj_ (by refine⟨?_,?_,?_,?_,?_,?_,wo_,(by(try simp -implicitDefEqProofs only[wL,wM,wN,seval,g0,g1,g5,g6]);first|exact Sep.slL|exact Sep.slR|exact Sep.ids o_)⟩<;>first|(simp -implicitDefEqProofs only[wL,wM,wN,wX,seval,Option.some.injEq,g0,g1,g5,g6]<;>first|rfl|exact⟨_,rfl⟩|exact⟨_,rfl,by first|assumption|exact Gr.nil|exact Gr.tok rfl o_|exact Gr.tok (by simp -implicitDefEqProofs only[wM,seval]<;>rfl) o_|exact Gr.clip|exact G5.to (by first|rfl|(simp[*];done)) o_ rfl⟩)|rfl|exact⟨_,rfl⟩|exact⟨_,rfl,by first|assumption|exact G5.to (by first|rfl|(simp[*];done)) o_ rfl⟩) ?_
   intro k s hnx ⟨g0,g1,g6,⟨v5,g5,G5⟩,⟨v7,g7,G7⟩,g8,k2_0,S5_7⟩
   rw[g5,g7]at S5_7
   have hzk:=w1_ k
   have hrl:(List.replicate k (i+1)).length=k:=List.length_replicate
   by_cases hk:k<w
   · have hrs:(List.replicate (k+1) (i+1)).map (fun x:Nat=>V.int .i64 (x:Int))=(List.replicate k (i+1)).map (fun x:Nat=>V.int .i64 (x:Int))++[V.int .i64 ((i+1:Nat):Int)]:=by rw[quJ,List.map_append];rfl
     repeat' with_reducible first
      |refine s_ ?_
      |refine s_ ?_
      |refine s_ ?_
      |simp -implicitDefEqProofs only[wS,wT,wU,wV,wW,wX,wY,wC,wF,wG,wL,wM,wN,seval,Int.cast_ofNat_Int,Int.reduceLT,Int.reduceLE,Int.reduceEq,Int.reduceToNat,decide_true,decide_false,Bool.false_eq_true,g0,g1,g6,g5,g7,g8,hzk,hz1,hrl,G5.len,G7.len]
      |(refine qc (fun h h_=>?_) (fun h h_=>?_)<;>(try simp only[wD,reduceCtorEq]at h_)<;>(try(exfalso;first|omega|exact absurd (Eq.trans (Eq.symm h_) (by assumption):false=true) (by decide)|exact absurd (Eq.trans (Eq.symm h_) (by assumption):true=false) (by decide)|(refine absurd ?_ h_;focus assumption)|(refine absurd h_ ?_;focus assumption)))<;>(try simp only[h]))
      |((first|refine qH (fun h=>?_) (fun h=>?_)|refine qG (fun h=>?_) (fun h=>?_))<;>have h_:=h<;>(try simp only[wD,reduceCtorEq]at h_)<;>(try(exfalso;first|omega|exact absurd (Eq.trans (Eq.symm h_) (by assumption):false=true) (by decide)|exact absurd (Eq.trans (Eq.symm h_) (by assumption):true=false) (by decide)|(refine absurd ?_ h_;focus assumption)|(refine absurd h_ ?_;focus assumption)))<;>(try simp only[h]))
      |apply zy rfl (G7.mono (Nat.le_refl _) (fun id h1 h2=>by(try simp only[wM]);(repeat rw[if_neg o_])));(focus(first|exact qd.sl|exact qd.asl));(focus(simp only[wZ,hrl];omega));(focus(unfold maxLen;simp only[wZ,hrl];omega))
      |refine t_ ?_
      |apply Gr.iaQ G5;omega;exact wd_
      |apply Gr.iaQ G7;omega;exact wd_
      |apply qj;omega;exact wd_
      |apply zy (hg:=G5);(focus(first|rfl|(simp -implicitDefEqProofs only[wM];done)));(focus(first|exact qd.sl|exact qd.asl|exact qd.gr G5|exact qd.gr G7|exact qd.str));exact wf_;(focus(unfold maxLen;first|omega|(simp only[wZ]<;>omega)))
      |apply zy (hg:=G7);(focus(first|rfl|(simp -implicitDefEqProofs only[wM];done)));(focus(first|exact qd.sl|exact qd.asl|exact qd.gr G5|exact qd.gr G7|exact qd.str));exact wf_;(focus(unfold maxLen;first|omega|(simp only[wZ]<;>omega)))
      |apply qJ;(focus(first|exact qd.sl|exact qd.asl|exact qd.gr G5|exact qd.gr G7|exact qd.str));exact wf_;(focus(unfold maxLen;first|omega|(simp only[wZ]<;>omega)))
      |(refine qD ?_;simp -implicitDefEqProofs only[wM,wN,seval,g0,g1,g6,g5,g7,g8,hzk,hz1,hrl];apply qM;(focus(first|exact qd.sl|exact qd.asl|exact qd.gr G5|exact qd.gr G7|exact qd.str));(exact wf_);(focus(unfold maxLen;first|omega|(simp only[wZ]<;>omega))))
      |apply qy;(focus(first|omega|(simp only[wZ]<;>omega)))
      |apply qf;exact wu_;exact wu_;(focus((try simp -implicitDefEqProofs only[wE,Nat.reduceAdd]);rfl))
      |apply qg;exact wd_;exact wu_
      |apply qh;exact wu_
      |apply qm;exact wf_;exact wu_;exact wu_;(focus(intro _;with_unfolding_all rfl))
      |apply qp;exact wu_;exact wu_;exact wu_
      |refine cq0 qE ?_
      |apply qN (hp:=qF ?_ ?_ ?_ ?_ ?_);(focus(first|exact zx|exact qI|exact jW|exact zZ|exact G5.er rfl|exact G7.er rfl));rotate_left;exact wf_;exact wf_;exact wf_;exact wf_;exact wf_
      |apply qN (hp:=za ?_ ?_ ?_);(focus(first|exact zx|exact qI|exact jW|exact zZ|exact G5.er rfl|exact G7.er rfl));rotate_left;exact wf_;exact wf_;exact wf_
      |simp -implicitDefEqProofs (disch:=omega) only[w64,if_neg]
     refine⟨wk_,k+1,o_,?_⟩
     refine⟨?_,?_,?_,?_,?_,?_,?_,?_⟩
     iterate 6 (focus(first|(simp -implicitDefEqProofs only[wL,wM,wN,wX,seval,Option.some.injEq,g0,g1,g6,g5,g7,g8,hrs]<;>first|rfl|exact⟨_,rfl⟩|exact⟨_,rfl,by first|assumption|exact Gr.nil|exact Gr.tok rfl o_|(refine Gr.tok ?_ ?_;(focus(simp only[wM,Qc];(repeat(first|rw[if_pos trivial]|rw[if_pos rfl]|rw[if_neg o_]|rw[if_neg (fun e=>absurd (Gr.lt G5 e) o_)]|rw[if_neg (fun e=>absurd (Gr.lt G7 e) o_)]));done));(focus omega))|exact Gr.tok (by simp -implicitDefEqProofs only[wM,seval]<;>rfl) o_|exact Gr.clip|exact G5.to (by first|rfl|(simp[*];done)) o_ rfl|exact G7.to (by first|rfl|(simp[*];done)) o_ rfl|exact G5.mono' rfl o_ (fun j hj hl=>by simp only[wM,Qc];repeat(first|rfl|rw[if_neg o_]|rw[if_neg (fun e=>S5_7 _ e hj)]|rw[if_neg (fun e=>S5_7 _ hj e)]))|exact G7.mono' rfl o_ (fun j hj hl=>by simp only[wM,Qc];repeat(first|rfl|rw[if_neg o_]|rw[if_neg (fun e=>S5_7 _ e hj)]|rw[if_neg (fun e=>S5_7 _ hj e)]))⟩)|rfl|exact⟨_,rfl⟩|exact⟨_,rfl,by first|assumption|exact G5.to (by first|rfl|(simp[*];done)) o_ rfl|exact G7.to (by first|rfl|(simp[*];done)) o_ rfl|exact G5.mono' rfl o_ (fun j hj hl=>by simp only[wM,Qc];repeat(first|rfl|rw[if_neg o_]|rw[if_neg (fun e=>S5_7 _ e hj)]|rw[if_neg (fun e=>S5_7 _ hj e)]))|exact G7.mono' rfl o_ (fun j hj hl=>by simp only[wM,Qc];repeat(first|rfl|rw[if_neg o_]|rw[if_neg (fun e=>S5_7 _ e hj)]|rw[if_neg (fun e=>S5_7 _ hj e)]))⟩))
     all_goals try omega
     all_goals try((try simp -implicitDefEqProofs only[wL,seval,g0,g1,g6,g5,g7,g8,hrs]);focus(first|assumption|exact Sep.newL G5 o_|exact Sep.newR G5 o_|exact Sep.newL G7 o_|exact Sep.newR G7 o_))
     all_goals try simp -implicitDefEqProofs only[wL,wM,wN,wX,seval,g0,g1,g6,g5,g7,g8,hrs]
   · have ek:k=w:=o_
     rw[ek]at G7
     repeat' with_reducible first
      |refine s_ ?_
      |refine s_ ?_
      |refine s_ ?_
      |simp -implicitDefEqProofs only[wS,wT,wU,wV,wW,wX,wY,wC,wF,wG,wL,wM,wN,seval,Int.cast_ofNat_Int,Int.reduceLT,Int.reduceLE,Int.reduceEq,Int.reduceToNat,decide_true,decide_false,Bool.false_eq_true,g0,g1,g6,g5,g7,g8,hz,hel,G5.len,G7.len]
      |(refine qc (fun h h_=>?_) (fun h h_=>?_)<;>(try simp only[wD,reduceCtorEq]at h_)<;>(try(exfalso;first|omega|exact absurd (Eq.trans (Eq.symm h_) (by assumption):false=true) (by decide)|exact absurd (Eq.trans (Eq.symm h_) (by assumption):true=false) (by decide)|(refine absurd ?_ h_;focus assumption)|(refine absurd h_ ?_;focus assumption)))<;>(try simp only[h]))
      |((first|refine qH (fun h=>?_) (fun h=>?_)|refine qG (fun h=>?_) (fun h=>?_))<;>have h_:=h<;>(try simp only[wD,reduceCtorEq]at h_)<;>(try(exfalso;first|omega|exact absurd (Eq.trans (Eq.symm h_) (by assumption):false=true) (by decide)|exact absurd (Eq.trans (Eq.symm h_) (by assumption):true=false) (by decide)|(refine absurd ?_ h_;focus assumption)|(refine absurd h_ ?_;focus assumption)))<;>(try simp only[h]))
      |(refine qaW (Go.Proofs.Gr.fl1 G7) (Go.Proofs.Gr.fl2 G7) (Go.Proofs.Gr.fl3 G7) rfl ?_)
      |apply zy rfl (G5.mono (Nat.le_refl _) (fun id h1 h2=>by(try simp only[wM]);(repeat rw[if_neg o_])));(focus(first|exact qd.sl|exact qd.asl));(focus(simp only[wZ,hel];omega));(focus(unfold maxLen;simp only[wZ,hel];omega))
      |refine t_ ?_
      |apply Gr.iaQ G5;omega;exact wd_
      |apply Gr.iaQ G7;omega;exact wd_
      |apply qj;omega;exact wd_
      |apply zy (hg:=G5);(focus(first|rfl|(simp -implicitDefEqProofs only[wM];done)));(focus(first|exact qd.sl|exact qd.asl|exact qd.gr G5|exact qd.gr G7|exact qd.str));exact wf_;(focus(unfold maxLen;first|omega|(simp only[wZ]<;>omega)))
      |apply zy (hg:=G7);(focus(first|rfl|(simp -implicitDefEqProofs only[wM];done)));(focus(first|exact qd.sl|exact qd.asl|exact qd.gr G5|exact qd.gr G7|exact qd.str));exact wf_;(focus(unfold maxLen;first|omega|(simp only[wZ]<;>omega)))
      |apply qJ;(focus(first|exact qd.sl|exact qd.asl|exact qd.gr G5|exact qd.gr G7|exact qd.str));exact wf_;(focus(unfold maxLen;first|omega|(simp only[wZ]<;>omega)))
      |(refine qD ?_;simp -implicitDefEqProofs only[wM,wN,seval,g0,g1,g6,g5,g7,g8,hz,hel];apply qM;(focus(first|exact qd.sl|exact qd.asl|exact qd.gr G5|exact qd.gr G7|exact qd.str));(exact wf_);(focus(unfold maxLen;first|omega|(simp only[wZ]<;>omega))))
      |apply qy;(focus(first|omega|(simp only[wZ]<;>omega)))
      |apply qf;exact wu_;exact wu_;(focus((try simp -implicitDefEqProofs only[wE,Nat.reduceAdd]);rfl))
      |apply qg;exact wd_;exact wu_
      |apply qh;exact wu_
      |apply qm;exact wf_;exact wu_;exact wu_;(focus(intro _;with_unfolding_all rfl))
      |apply qp;exact wu_;exact wu_;exact wu_
      |refine cq0 qE ?_
      |apply qN (hp:=qF ?_ ?_ ?_ ?_ ?_);(focus(first|exact zx|exact qI|exact jW|exact zZ|exact G5.er rfl|exact G7.er rfl));rotate_left;exact wf_;exact wf_;exact wf_;exact wf_;exact wf_
      |apply qN (hp:=za ?_ ?_ ?_);(focus(first|exact zx|exact qI|exact jW|exact zZ|exact G5.er rfl|exact G7.er rfl));rotate_left;exact wf_;exact wf_;exact wf_
      |simp -implicitDefEqProofs (disch:=omega) only[w64,if_neg]
     refine⟨wk_,(i+1,es++[.sl 1 true [v7]]),o_,?_⟩
     refine⟨?_,?_,?_,?_,?_,?_⟩
     iterate 4 (focus(first|(simp -implicitDefEqProofs only[wL,wM,wN,wX,seval,Option.some.injEq,g0,g1,g6,g5,g7,g8]<;>first|rfl|exact⟨_,rfl⟩|exact⟨_,rfl,by first|assumption|exact Gr.nil|exact Gr.tok rfl o_|(refine Gr.tok ?_ ?_;(focus(simp only[wM,Qc];(repeat(first|rw[if_pos trivial]|rw[if_pos rfl]|rw[if_neg o_]|rw[if_neg (fun e=>absurd (Gr.lt G5 e) o_)]|rw[if_neg (fun e=>absurd (Gr.lt G7 e) o_)]));done));(focus omega))|exact Gr.tok (by simp -implicitDefEqProofs only[wM,seval]<;>rfl) o_|exact Gr.clip|exact G5.to (by first|rfl|(simp[*];done)) o_ rfl|exact G7.to (by first|rfl|(simp[*];done)) o_ rfl|exact G5.mono' rfl o_ (fun j hj hl=>by simp only[wM,Qc];repeat(first|rfl|rw[if_neg o_]|rw[if_neg (fun e=>S5_7 _ e hj)]|rw[if_neg (fun e=>S5_7 _ hj e)]))|exact G7.mono' rfl o_ (fun j hj hl=>by simp only[wM,Qc];repeat(first|rfl|rw[if_neg o_]|rw[if_neg (fun e=>S5_7 _ e hj)]|rw[if_neg (fun e=>S5_7 _ hj e)]))⟩)|rfl|exact⟨_,rfl⟩|exact⟨_,rfl,by first|assumption|exact G5.to (by first|rfl|(simp[*];done)) o_ rfl|exact G7.to (by first|rfl|(simp[*];done)) o_ rfl|exact G5.mono' rfl o_ (fun j hj hl=>by simp only[wM,Qc];repeat(first|rfl|rw[if_neg o_]|rw[if_neg (fun e=>S5_7 _ e hj)]|rw[if_neg (fun e=>S5_7 _ hj e)]))|exact G7.mono' rfl o_ (fun j hj hl=>by simp only[wM,Qc];repeat(first|rfl|rw[if_neg o_]|rw[if_neg (fun e=>S5_7 _ e hj)]|rw[if_neg (fun e=>S5_7 _ hj e)]))⟩))
     all_goals try omega
     all_goals(try(rw[hst,List.map_append];exact k1_1.snoc (ErL.sl (.cons (G7.er rfl) .nil))))
 · skip
   have ei:i=n:=o_
   rw[ei]at k1_1
   have hEr:QR (es++[.sl 1 true [.sl 1 true []]]) ((vcL n w).map nnV):=by
    unfold vcL;rw[List.map_append]
    exact k1_1.snoc (ErL.sl (.cons (ErL.sl .nil) .nil))
   have hWl:=qcu w n
   have hEl:(qah (x9 w n)).length=n+2:=by unfold qah;rw[List.length_cons,hWl]
   have hEg: ∀m,m≤n→(qah (x9 w n))[n - m+1]?=some ((x9 w m).headD 0):=fun m hm=>by
    unfold qah;rw[List.getElem?_cons_succ];exact Vy w n m hm
   have hEn:(qah (x9 w n))[n+1]?=some 1:=hEg 0 o_
   have hz2:IntKind.i64.wrap ((n:Int)+2)=((n+2:Nat):Int):=by rw[wrap64 o_ o_];omega
   have hz3:IntKind.i64.wrap ((n:Int)+1)=((n+1:Nat):Int):=by rw[wrap64 o_ o_];omega
   have hz4:IntKind.i64.wrap ((n:Int) - 1)=(n:Int) - 1:=wrap64 o_ o_
   generalize qah (x9 w n)=W at *
   repeat' with_reducible first
    |refine s_ ?_
    |refine s_ ?_
    |refine s_ ?_
    |simp -implicitDefEqProofs only[wS,wT,wU,wV,wW,wX,wY,wC,wF,wG,wL,wM,wN,seval,Int.cast_ofNat_Int,Int.reduceLT,Int.reduceLE,Int.reduceEq,Int.reduceToNat,decide_true,decide_false,Bool.false_eq_true,g0,g1,g5,g6,hel,hEl,hz2,hz3,hz4,G5.len]
    |(refine qc (fun h h_=>?_) (fun h h_=>?_)<;>(try simp only[wD,reduceCtorEq]at h_)<;>(try(exfalso;first|omega|exact absurd (Eq.trans (Eq.symm h_) (by assumption):false=true) (by decide)|exact absurd (Eq.trans (Eq.symm h_) (by assumption):true=false) (by decide)|(refine absurd ?_ h_;focus assumption)|(refine absurd h_ ?_;focus assumption)))<;>(try simp only[h]))
    |((first|refine qH (fun h=>?_) (fun h=>?_)|refine qG (fun h=>?_) (fun h=>?_))<;>have h_:=h<;>(try simp only[wD,reduceCtorEq]at h_)<;>(try(exfalso;first|omega|exact absurd (Eq.trans (Eq.symm h_) (by assumption):false=true) (by decide)|exact absurd (Eq.trans (Eq.symm h_) (by assumption):true=false) (by decide)|(refine absurd ?_ h_;focus assumption)|(refine absurd h_ ?_;focus assumption)))<;>(try simp only[h]))
    |apply zy rfl (G5.mono (Nat.le_refl _) (fun id h1 h2=>by(try simp only[wM]);(repeat rw[if_neg o_])));(focus(first|exact qd.sl|exact qd.asl));(focus(simp only[wZ,hel];omega));(focus(unfold maxLen;simp only[wZ,hel];omega))
    |refine cq1 hch (ErL.asl hEr.up) ?_
    |refine cq1 he qI ?_
    |refine t_ ?_
    |apply Gr.iaQ G5;omega;exact wd_
    |apply qj;omega;exact wd_
    |apply zy (hg:=G5);(focus(first|rfl|(simp -implicitDefEqProofs only[wM];done)));(focus(first|exact qd.sl|exact qd.asl|exact qd.gr G5|exact qd.str));exact wf_;(focus(unfold maxLen;first|omega|(simp only[wZ]<;>omega)))
    |apply qJ;(focus(first|exact qd.sl|exact qd.asl|exact qd.gr G5|exact qd.str));exact wf_;(focus(unfold maxLen;first|omega|(simp only[wZ]<;>omega)))
    |(refine qD ?_;simp -implicitDefEqProofs only[wM,wN,seval,g0,g1,g5,g6,hel,hEl,hz2,hz3,hz4];apply qM;(focus(first|exact qd.sl|exact qd.asl|exact qd.gr G5|exact qd.str));(exact wf_);(focus(unfold maxLen;first|omega|(simp only[wZ]<;>omega))))
    |apply qy;(focus(first|omega|(simp only[wZ]<;>omega)))
    |apply qf;exact wu_;exact wu_;(focus((try simp -implicitDefEqProofs only[wE,Nat.reduceAdd]);rfl))
    |apply qg;exact wd_;exact wu_
    |apply qh;exact wu_
    |apply qm;exact wf_;exact wu_;exact wu_;(focus(intro _;with_unfolding_all rfl))
    |apply qp;exact wu_;exact wu_;exact wu_
    |refine cq0 qE ?_
    |apply qN (hp:=qF ?_ ?_ ?_ ?_ ?_);(focus(first|exact zx|exact qI|exact jW|exact zZ|exact G5.er rfl));rotate_left;exact wf_;exact wf_;exact wf_;exact wf_;exact wf_
    |apply qN (hp:=za ?_ ?_ ?_);(focus(first|exact zx|exact qI|exact jW|exact zZ|exact G5.er rfl));rotate_left;exact wf_;exact wf_;exact wf_
    |simp -implicitDefEqProofs (disch:=omega) only[w64,if_neg]
   clear hn hw' hzn hzw hz hz1 hz2 hz3 hz4 hel hWl hEl a1 a3 k1_0
   skip
   refine qw ?nx3 (fun(m:Nat) s=>s.f 1=?v3_1∧s.f 11=?v3_11∧(m≤n)∧(s.f 13=V.int .i64 ((n:Int) - 1 - (m:Int)))∧(s.f 12=vi ((x9 w m).headD 0))) (fun m=>n - m) (0) wj_ (by refine⟨?_,?_,wo_,(by(try simp -implicitDefEqProofs only[wL,wM,wN,seval,g0,g1,g5,g6]);exact congrArg (V.int .i64) o_),(by(try simp -implicitDefEqProofs only[wL,wM,wN,seval,g0,g1,g5,g6]);rfl)⟩<;>first|(simp -implicitDefEqProofs only[wL,wM,wN,wX,seval,Option.some.injEq,g0,g1,g5,g6]<;>first|rfl|exact⟨_,rfl⟩|exact⟨_,rfl,by first|assumption|exact Gr.nil|exact Gr.tok rfl o_|exact Gr.tok (by simp -implicitDefEqProofs only[wM,seval]<;>rfl) o_|exact Gr.clip|exact G5.to (by first|rfl|(simp[*];done)) o_ rfl⟩)|rfl|exact⟨_,rfl⟩|exact⟨_,rfl,by first|assumption|exact G5.to (by first|rfl|(simp[*];done)) o_ rfl⟩) ?_
   intro m s hnx ⟨g1,g11,k3_0,g13,g12⟩
   by_cases hm:m<n
   · obtain ⟨v,hv⟩: ∃v,v=(x9 w m).headD 0:=⟨_,rfl⟩
     have hvr:=Vk w m
     have hnx:(x9 w (m+1)).headD 0=JP w v:=by rw[x9,List.headD_cons,hv]
     have hgm:=hEg (m+1) o_
     rw[hnx]at hgm
     rw[← hv]at hvr g12
     obtain ⟨j,hj⟩: ∃j:Nat,(n:Int) - 1 - (m:Int)=(j:Int):=⟨n - 1 - m,o_⟩
     rw[hj]at g13
     rw[show n - (m+1)+1=j+1 by omega]at hgm
     have hx1:IntKind.i64.wrap ((j:Int)+1)=((j+1:Nat):Int):=by rw[wrap64 o_ o_];omega
     have hx2:IntKind.i64.wrap ((j:Int) - 1)=(n:Int) - 1 - ((m+1:Nat):Int):=by rw[wrap64 o_ o_];omega
     by_cases hv0:0<v
     · have hb1:0≤(w:Int) *v:=Int.mul_nonneg o_ o_
       have hb2:(w:Int) *v≤8 *3000:=Int.mul_le_mul o_ hvr.2 o_ o_
       have hst:JP w v=if 3000<1+(w:Int) *v then -1 else 1+(w:Int) *v:=by unfold JP;rw[if_pos hv0]
       obtain ⟨pv,hpv⟩: ∃pv,(w:Int) *v=pv:=⟨_,rfl⟩
       rw[hpv]at hb1 hb2 hst
       have hx3:IntKind.i64.wrap pv=pv:=wrap64 o_ o_
       have hx4:IntKind.i64.wrap (1+pv)=1+pv:=wrap64 o_ o_
       have hx5:=hpv
       have hx6:True:=trivial
       by_cases hb:3000<1+pv
       · have e:JP w v= -1:=by rw[hst,if_pos hb]
         rw[e]at hgm hnx
         repeat' with_reducible first
          |refine s_ ?_
          |refine s_ ?_
          |refine s_ ?_
          |simp -implicitDefEqProofs only[wS,wT,wU,wV,wW,wX,wY,wC,wF,wG,wL,wM,wN,seval,Int.cast_ofNat_Int,Int.reduceLT,Int.reduceLE,Int.reduceEq,Int.reduceToNat,decide_true,decide_false,Bool.false_eq_true,g1,g11,g13,g12,hx1,hx2,hx3,hx4,hx5,hx6]
          |(refine qc (fun h h_=>?_) (fun h h_=>?_)<;>(try simp only[wD,reduceCtorEq]at h_)<;>(try(exfalso;first|omega|exact absurd (Eq.trans (Eq.symm h_) (by assumption):false=true) (by decide)|exact absurd (Eq.trans (Eq.symm h_) (by assumption):true=false) (by decide)|(refine absurd ?_ h_;focus assumption)|(refine absurd h_ ?_;focus assumption)))<;>(try simp only[h]))
          |((first|refine qH (fun h=>?_) (fun h=>?_)|refine qG (fun h=>?_) (fun h=>?_))<;>have h_:=h<;>(try simp only[wD,reduceCtorEq]at h_)<;>(try(exfalso;first|omega|exact absurd (Eq.trans (Eq.symm h_) (by assumption):false=true) (by decide)|exact absurd (Eq.trans (Eq.symm h_) (by assumption):true=false) (by decide)|(refine absurd ?_ h_;focus assumption)|(refine absurd h_ ?_;focus assumption)))<;>(try simp only[h]))
          |refine t_ ?_
          |apply qj;omega;exact wd_
          |apply qJ;(focus(first|exact qd.sl|exact qd.asl|exact qd.str));exact wf_;(focus(unfold maxLen;first|omega|(simp only[wZ]<;>omega)))
          |(refine qD ?_;simp -implicitDefEqProofs only[wM,wN,seval,g1,g11,g13,g12,hx1,hx2,hx3,hx4,hx5,hx6];apply qM;(focus(first|exact qd.sl|exact qd.asl|exact qd.str));(exact wf_);(focus(unfold maxLen;first|omega|(simp only[wZ]<;>omega))))
          |apply qy;(focus(first|omega|(simp only[wZ]<;>omega)))
          |apply qf;exact wu_;exact wu_;(focus((try simp -implicitDefEqProofs only[wE,Nat.reduceAdd]);rfl))
          |apply qg;exact wd_;exact wu_
          |apply qh;exact wu_
          |apply qm;exact wf_;exact wu_;exact wu_;(focus(intro _;with_unfolding_all rfl))
          |apply qp;exact wu_;exact wu_;exact wu_
          |refine cq0 qE ?_
          |refine qN we_ (qF wf_ wf_ wf_ wf_ wf_) ?_
          |refine qN we_ (za wf_ wf_ wf_) ?_
          |simp -implicitDefEqProofs (disch:=omega) only[w64,if_neg]
         refine⟨wg_,m+1,o_,?_⟩;(repeat refine⟨True.intro,?_⟩)
         exact⟨o_,rfl,by rw[hnx]⟩
       · have e:JP w v=1+pv:=by rw[hst,if_neg hb]
         rw[e]at hgm hnx
         repeat' with_reducible first
          |refine s_ ?_
          |refine s_ ?_
          |refine s_ ?_
          |simp -implicitDefEqProofs only[wS,wT,wU,wV,wW,wX,wY,wC,wF,wG,wL,wM,wN,seval,Int.cast_ofNat_Int,Int.reduceLT,Int.reduceLE,Int.reduceEq,Int.reduceToNat,decide_true,decide_false,Bool.false_eq_true,g1,g11,g13,g12,hx1,hx2,hx3,hx4,hx5,hx6]
          |(refine qc (fun h h_=>?_) (fun h h_=>?_)<;>(try simp only[wD,reduceCtorEq]at h_)<;>(try(exfalso;first|omega|exact absurd (Eq.trans (Eq.symm h_) (by assumption):false=true) (by decide)|exact absurd (Eq.trans (Eq.symm h_) (by assumption):true=false) (by decide)|(refine absurd ?_ h_;focus assumption)|(refine absurd h_ ?_;focus assumption)))<;>(try simp only[h]))
          |((first|refine qH (fun h=>?_) (fun h=>?_)|refine qG (fun h=>?_) (fun h=>?_))<;>have h_:=h<;>(try simp only[wD,reduceCtorEq]at h_)<;>(try(exfalso;first|omega|exact absurd (Eq.trans (Eq.symm h_) (by assumption):false=true) (by decide)|exact absurd (Eq.trans (Eq.symm h_) (by assumption):true=false) (by decide)|(refine absurd ?_ h_;focus assumption)|(refine absurd h_ ?_;focus assumption)))<;>(try simp only[h]))
          |refine t_ ?_
          |apply qj;omega;exact wd_
          |apply qJ;(focus(first|exact qd.sl|exact qd.asl|exact qd.str));exact wf_;(focus(unfold maxLen;first|omega|(simp only[wZ]<;>omega)))
          |(refine qD ?_;simp -implicitDefEqProofs only[wM,wN,seval,g1,g11,g13,g12,hx1,hx2,hx3,hx4,hx5,hx6];apply qM;(focus(first|exact qd.sl|exact qd.asl|exact qd.str));(exact wf_);(focus(unfold maxLen;first|omega|(simp only[wZ]<;>omega))))
          |apply qy;(focus(first|omega|(simp only[wZ]<;>omega)))
          |apply qf;exact wu_;exact wu_;(focus((try simp -implicitDefEqProofs only[wE,Nat.reduceAdd]);rfl))
          |apply qg;exact wd_;exact wu_
          |apply qh;exact wu_
          |apply qm;exact wf_;exact wu_;exact wu_;(focus(intro _;with_unfolding_all rfl))
          |apply qp;exact wu_;exact wu_;exact wu_
          |refine cq0 qE ?_
          |refine qN we_ (qF wf_ wf_ wf_ wf_ wf_) ?_
          |refine qN we_ (za wf_ wf_ wf_) ?_
          |simp -implicitDefEqProofs (disch:=omega) only[w64,if_neg]
         refine⟨wg_,m+1,o_,?_⟩;(repeat refine⟨True.intro,?_⟩)
         exact⟨o_,rfl,by rw[hnx]⟩
     · have e:JP w v=v:=by unfold JP;rw[if_neg hv0,if_neg o_]
       rw[e]at hgm hnx
       have hx3:True:=trivial
       have hx4:True:=trivial
       have hx5:True:=trivial
       have hx6:True:=trivial
       repeat' with_reducible first
        |refine s_ ?_
        |refine s_ ?_
        |refine s_ ?_
        |simp -implicitDefEqProofs only[wS,wT,wU,wV,wW,wX,wY,wC,wF,wG,wL,wM,wN,seval,Int.cast_ofNat_Int,Int.reduceLT,Int.reduceLE,Int.reduceEq,Int.reduceToNat,decide_true,decide_false,Bool.false_eq_true,g1,g11,g13,g12,hx1,hx2,hx3,hx4,hx5,hx6]
        |(refine qc (fun h h_=>?_) (fun h h_=>?_)<;>(try simp only[wD,reduceCtorEq]at h_)<;>(try(exfalso;first|omega|exact absurd (Eq.trans (Eq.symm h_) (by assumption):false=true) (by decide)|exact absurd (Eq.trans (Eq.symm h_) (by assumption):true=false) (by decide)|(refine absurd ?_ h_;focus assumption)|(refine absurd h_ ?_;focus assumption)))<;>(try simp only[h]))
        |((first|refine qH (fun h=>?_) (fun h=>?_)|refine qG (fun h=>?_) (fun h=>?_))<;>have h_:=h<;>(try simp only[wD,reduceCtorEq]at h_)<;>(try(exfalso;first|omega|exact absurd (Eq.trans (Eq.symm h_) (by assumption):false=true) (by decide)|exact absurd (Eq.trans (Eq.symm h_) (by assumption):true=false) (by decide)|(refine absurd ?_ h_;focus assumption)|(refine absurd h_ ?_;focus assumption)))<;>(try simp only[h]))
        |refine t_ ?_
        |apply qj;omega;exact wd_
        |apply qJ;(focus(first|exact qd.sl|exact qd.asl|exact qd.str));exact wf_;(focus(unfold maxLen;first|omega|(simp only[wZ]<;>omega)))
        |(refine qD ?_;simp -implicitDefEqProofs only[wM,wN,seval,g1,g11,g13,g12,hx1,hx2,hx3,hx4,hx5,hx6];apply qM;(focus(first|exact qd.sl|exact qd.asl|exact qd.str));(exact wf_);(focus(unfold maxLen;first|omega|(simp only[wZ]<;>omega))))
        |apply qy;(focus(first|omega|(simp only[wZ]<;>omega)))
        |apply qf;exact wu_;exact wu_;(focus((try simp -implicitDefEqProofs only[wE,Nat.reduceAdd]);rfl))
        |apply qg;exact wd_;exact wu_
        |apply qh;exact wu_
        |apply qm;exact wf_;exact wu_;exact wu_;(focus(intro _;with_unfolding_all rfl))
        |apply qp;exact wu_;exact wu_;exact wu_
        |refine cq0 qE ?_
        |refine qN we_ (qF wf_ wf_ wf_ wf_ wf_) ?_
        |refine qN we_ (za wf_ wf_ wf_) ?_
        |simp -implicitDefEqProofs (disch:=omega) only[w64,if_neg]
       refine⟨wg_,m+1,o_,?_⟩;(repeat refine⟨True.intro,?_⟩)
       exact⟨o_,rfl,by rw[hnx]⟩
   · have em:m=n:=o_
     rw[em]at g13
     have hneg:decide (0≤(n:Int) - 1 - (n:Int))=false:=decide_eq_false o_
     rw[show (n:Int) - 1 - (n:Int)= -1 by omega]at g13
     repeat' with_reducible first
      |refine s_ ?_
      |refine s_ ?_
      |refine s_ ?_
      |simp -implicitDefEqProofs only[wS,wT,wU,wV,wW,wX,wY,wC,wF,wG,wL,wM,wN,seval,Int.cast_ofNat_Int,Int.reduceLT,Int.reduceLE,Int.reduceEq,Int.reduceToNat,decide_true,decide_false,Bool.false_eq_true,g1,g11,g13,g12]
      |(refine qc (fun h h_=>?_) (fun h h_=>?_)<;>(try simp only[wD,reduceCtorEq]at h_)<;>(try(exfalso;first|omega|exact absurd (Eq.trans (Eq.symm h_) (by assumption):false=true) (by decide)|exact absurd (Eq.trans (Eq.symm h_) (by assumption):true=false) (by decide)|(refine absurd ?_ h_;focus assumption)|(refine absurd h_ ?_;focus assumption)))<;>(try simp only[h]))
      |((first|refine qH (fun h=>?_) (fun h=>?_)|refine qG (fun h=>?_) (fun h=>?_))<;>have h_:=h<;>(try simp only[wD,reduceCtorEq]at h_)<;>(try(exfalso;first|omega|exact absurd (Eq.trans (Eq.symm h_) (by assumption):false=true) (by decide)|exact absurd (Eq.trans (Eq.symm h_) (by assumption):true=false) (by decide)|(refine absurd ?_ h_;focus assumption)|(refine absurd h_ ?_;focus assumption)))<;>(try simp only[h]))
      |refine t_ ?_
      |apply qj;omega;exact wd_
      |apply qJ;(focus(first|exact qd.sl|exact qd.asl|exact qd.str));exact wf_;(focus(unfold maxLen;first|omega|(simp only[wZ]<;>omega)))
      |(refine qD ?_;simp -implicitDefEqProofs only[wM,wN,seval,g1,g11,g13,g12];apply qM;(focus(first|exact qd.sl|exact qd.asl|exact qd.str));(exact wf_);(focus(unfold maxLen;first|omega|(simp only[wZ]<;>omega))))
      |apply qy;(focus(first|omega|(simp only[wZ]<;>omega)))
      |apply qf;exact wu_;exact wu_;(focus((try simp -implicitDefEqProofs only[wE,Nat.reduceAdd]);rfl))
      |apply qg;exact wd_;exact wu_
      |apply qh;exact wu_
      |apply qm;exact wf_;exact wu_;exact wu_;(focus(intro _;with_unfolding_all rfl))
      |apply qp;exact wu_;exact wu_;exact wu_
      |refine cq0 qE ?_
      |refine qN we_ (qF wf_ wf_ wf_ wf_ wf_) ?_
      |refine qN we_ (za wf_ wf_ wf_) ?_
      |simp -implicitDefEqProofs (disch:=omega) only[w64,if_neg]
     all_goals refine qP rfl (Or.inr rfl) ?_
     all_goals(try simp -implicitDefEqProofs only[wL,seval,g1,g11,g13,g12])
     all_goals refine er_ ?_
     all_goals(try(with_reducible rfl))
end Go.Proofs
