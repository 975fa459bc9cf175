/- Part of a proof that a law of the given program answers true. -/
import Derived.Test.YtjdjdbkoplmjeaaGreatDoorQCA
import Derived.Test.YtjdjdbkoplmjeaaGreatDoorQEC
import Derived.Lib.TrailingZeros
set_option linter.unusedSimpArgs false
set_option linter.unusedVariables false
namespace Go.Proofs
open Go.E
theorem vB {a:List Int} {x:Int} (ha:a.length≤4611686018427387903):Pure Tryz.prog 26 [ints a,vi x] (.bool (decide (x∈a))):=by
 refine pure_intro Tryz.func26 nm_ qub (by show 2≤18;decide) ?_
 show ewp _ qif _ _
 repeat' with_reducible first
  |refine s_ ?_
  |simp -implicitDefEqProofs only[wZZ,seval]
 refine qb ?nx1 (fun(k:Nat) s=>s.f 0=?v1_0∧s.f 1=?v1_1∧s.f 5=vi k∧(k≤a.length)∧(x ∉ a.take k)) (fun k=>a.length - k) (0) wj_ (by refine⟨?_,?_,?_,wo_,wo_⟩<;>first|(simp -implicitDefEqProofs only[wL,wM,wN,wX,seval,Option.some.injEq]<;>exact wt_)|rfl|exact⟨_,rfl⟩) ?_
 intro k s hnx ⟨g0,g1,g5,k1_0,k1_1⟩
 repeat' with_reducible first
  |refine s_ ?_
  |simp -implicitDefEqProofs only[wZZ,seval,g0,g1,g5]
  |apply qa<;>intro h h_<;>(try simp only[wD,reduceCtorEq]at h_)<;>(try exact wb_)<;>(try simp only[h])
  |refine t_ ?_
  |simp -implicitDefEqProofs (disch:=omega) only[w64,if_neg]
 · refine qD rfl (Or.inr rfl) ?_
   simp -implicitDefEqProofs only[wL,seval,g0,g1,g5]
   refine er_ ?_
   try(with_reducible rfl)
   rw[eq_comm,decide_eq_true_eq,← h_];exact List.getElem_mem _
 · refine⟨wk_,k+1,o_,?_⟩
   refine⟨?_,?_,?_,?_,?_⟩
   iterate 3 (focus(first|(simp -implicitDefEqProofs only[wL,wM,wN,wX,seval,Option.some.injEq,g0,g1,g5]<;>exact wt_)|rfl|exact⟨_,rfl⟩))
   all_goals try omega
   rw[List.take_add_one,ge_ o_]
   simp only[Option.toList_some,List.mem_append,List.mem_singleton,not_or]
   exact⟨k1_1,fun e=>h_ e.symm⟩
 · refine qD rfl (Or.inr rfl) ?_
   simp -implicitDefEqProofs only[wL,seval,g0,g1,g5]
   refine er_ ?_
   try(with_reducible rfl)
   rw[eq_comm,decide_eq_false_iff_not]
   rwa [List.take_of_length_le o_]at k1_1
theorem qdL {α:Type} {a b:List α} {k:Nat} (hk: ∀i,i<k→a[i]?=b[i]?) (h1:a.length≤k) (h2:b.length≤k):a=b:=by
 refine List.ext_getElem? fun i=>?_
 by_cases hi:i<k
 · exact hk i hi
 · rw[List.getElem?_eq_none o_,List.getElem?_eq_none o_]
theorem qnA {α:Type} {a b:List α} {k:Nat} (hk: ∀i,i<k→a[i]?=b[i]?) (h1:k<a.length) (h2:k<b.length) (e:a[k]=b[k]): ∀i,i<k+1→a[i]?=b[i]?:=by
 intro i hi
 by_cases he:i=k
 · subst he;rw[ge_ h1,ge_ h2,e]
 · exact hk i o_
theorem xg {a b:List Int} (ha:a.length≤4611686018427387903) (hb:b.length≤4611686018427387903):Pure Tryz.prog 10 [ints a,ints b] (.bool (decide (a=b))):=by
 refine pure_intro Tryz.func10 nm_ qEk (by show 2≤26;decide) ?_
 show ewp _ qg2 _ _
 repeat' with_reducible first
  |refine s_ ?_
  |simp -implicitDefEqProofs only[wZZ,seval]
  |apply qa<;>intro h h_<;>(try simp only[wD,reduceCtorEq]at h_)<;>(try exact wb_)<;>(try simp only[h])
 · refine qD rfl (Or.inr rfl) ?_
   simp -implicitDefEqProofs only[wL,seval]
   refine er_ ?_
   try(with_reducible rfl)
   rw[eq_comm,decide_eq_false_iff_not]
   intro e;subst e;exact h_ rfl
 refine qb ?nx1 (fun(k:Nat) s=>s.f 0=?v1_0∧s.f 1=?v1_1∧s.f 5=vi k∧(k≤a.length)∧(∀i,i<k→a[i]?=b[i]?)) (fun k=>a.length - k) (0) wj_ (by refine⟨?_,?_,?_,wo_,wo_⟩<;>first|(simp -implicitDefEqProofs only[wL,wM,wN,wX,seval,Option.some.injEq]<;>exact wt_)|rfl|exact⟨_,rfl⟩) ?_
 intro k s hnx ⟨g0,g1,g5,k1_0,k1_1⟩
 repeat' with_reducible first
  |refine s_ ?_
  |simp -implicitDefEqProofs only[wZZ,seval,g0,g1,g5]
  |apply qa<;>intro h h_<;>(try simp only[wD,reduceCtorEq]at h_)<;>(try exact wb_)<;>(try simp only[h])
  |refine t_ ?_
  |simp -implicitDefEqProofs (disch:=omega) only[w64,if_neg]
 · refine qD rfl (Or.inr rfl) ?_
   simp -implicitDefEqProofs only[wL,seval,g0,g1,g5]
   refine er_ ?_
   try(with_reducible rfl)
   rw[eq_comm,decide_eq_false_iff_not]
   intro e;subst e;exact h_ rfl
 · refine⟨wk_,k+1,o_,?_⟩
   refine⟨?_,?_,?_,?_,?_⟩
   iterate 3 (focus(first|(simp -implicitDefEqProofs only[wL,wM,wN,wX,seval,Option.some.injEq,g0,g1,g5]<;>exact wt_)|rfl|exact⟨_,rfl⟩))
   all_goals try omega
   exact qnA k1_1 o_ o_ (by simpa using h_)
 · refine qD rfl (Or.inr rfl) ?_
   simp -implicitDefEqProofs only[wL,seval,g0,g1,g5]
   refine er_ ?_
   try(with_reducible rfl)
   rw[eq_comm,decide_eq_true_eq]
   exact qdL k1_1 o_ o_

def K9 (l:List Int) (n:Int):List Int:=if n<l.length then l.take n.toNat else l

theorem Xc {x:Int}:Pure Tryz.prog 75 [vi x] (.bool (decide (0≤x) && decide (x<1024))):=by
 refine pure_intro Tryz.func75 nm_ qvl (by show 1≤9;decide) ?_
 show ewp _ qz8 _ _
 repeat' with_reducible first
  |refine s_ ?_
  |simp -implicitDefEqProofs only[wZZ,seval]
  |(first|apply qj|apply qx)<;>intro h h_<;>(try simp only[wD,reduceCtorEq]at h_)<;>(try exact wb_)<;>(try simp only[h])
 all_goals refine qD rfl (Or.inr rfl) ?_
 all_goals try simp only[jO,Nat.reduceEqDiff,↓reduceIte]
 all_goals refine ZC ?_
 all_goals simp_all
def wd (m:Nat→Bool):Nat→Nat
 |0=>0
 |n+1=>wd m n ||| (if m n then 2 ^ n else 0)
theorem qxA (m:Nat→Bool) (n i:Nat):(wd m n).testBit i=(decide (i<n) && m i):=by
 induction n with
 |zero=>simp[wd]
 | succ n ih=>
   rw[wd,Nat.testBit_or,ih]
   by_cases hi:i=n
   · subst hi;cases h:m i<;>simp[h,Nat.testBit_two_pow]
   · have e:(if m n=true then 2 ^ n else 0).testBit i=false:=by
      split
      · rw[Nat.testBit_two_pow];simp;omega
      · simp
     rw[e]
     by_cases h2:i<n
     · simp[h2,Nat.lt_succ_of_lt h2]
     · have h3: ¬ i<n+1:=o_
       simp[h2,h3]
theorem qFh (m:Nat→Bool) (n:Nat):wd m n<2 ^ n:=by
 induction n with
 |zero=>simp[wd]
 | succ n ih=>
   rw[wd]
   refine Nat.or_lt_two_pow (Nat.lt_of_lt_of_le ih (Nat.pow_le_pow_right o_ o_)) ?_
   split
   · exact Nat.pow_lt_pow_right o_ o_
   · exact Nat.two_pow_pos _
def word (m:Nat→Bool) (i:Nat):Nat:=wd (fun b=>m (64 *i+b)) 64
theorem word_lt (m:Nat→Bool) (i:Nat):word m i<18446744073709551616:=qFh _ 64
theorem jq (m:Nat→Bool) (i b:Nat) (hb:b<64):(word m i).testBit b=m (64 *i+b):=by rw[word,qxA];simp[hb]
theorem vw {m:Nat→Bool} {i x:Nat} (hx:x<18446744073709551616) (h: ∀b,b<64→x.testBit b=m (64 *i+b)):x=word m i:=by
 refine Nat.eq_of_testBit_eq fun b=>?_
 by_cases hb:b<64
 · rw[h b hb,jq m i b hb]
 · rw[Nat.testBit_lt_two_pow (Nat.lt_of_lt_of_le (show x<2 ^ 64 from hx) (Nat.pow_le_pow_right o_ o_)),
    Nat.testBit_lt_two_pow (Nat.lt_of_lt_of_le (show word m i<2 ^ 64 from word_lt m i) (Nat.pow_le_pow_right o_ o_))]
def zl (m:Nat→Bool):List V:=(List.range 16).map fun i=>V.int .u64 (word m i:Int)
abbrev kJ (m:Nat→Bool):V:= .agg (zl m)
theorem zN (m:Nat→Bool) {i:Nat} (h:i<16):(zl m)[i]?=some (.int .u64 (word m i:Int)):=by simp[zl,h]
theorem qK (m:Nat→Bool):(zl m).length=16:=by simp[zl]
theorem qdW (i:Nat):word (fun _=>false) i=0:=(vw (by decide) (fun b _=>by simp)).symm
theorem vI:zl (fun _=>false)=[.int .u64 0,.int .u64 0,.int .u64 0,.int .u64 0,.int .u64 0,.int .u64 0,.int .u64 0,.int .u64 0,.int .u64 0,.int .u64 0,.int .u64 0,.int .u64 0,.int .u64 0,.int .u64 0,.int .u64 0,.int .u64 0]:=by
 unfold zl
 simp only[qdW]
 rfl
theorem qct (m:Nat→Bool) {x:Nat} (h:x<1024):
 (zl m).set (x / 64) (.int .u64 ((word m (x / 64) ||| 2 ^ (x % 64):Nat):Int))=zl (fun y=>m y || decide (y=x)):=by
 refine List.ext_getElem? fun i=>?_
 rw[List.getElem?_set]
 by_cases hi:i<16
 · rw[zN _ hi,zN _ hi,qK]
   split
   · rename_i e
     rw[if_pos o_]
     congr 3
     subst e
     refine vw (Nat.or_lt_two_pow (n:=64) (word_lt m _) (Nat.pow_lt_pow_right o_ (Nat.mod_lt _ o_))) fun b hb=>?_
     rw[Nat.testBit_or,jq _ _ _ hb,Nat.testBit_two_pow]
     congr 1
     rw[decide_eq_decide];omega
   · rename_i e
     congr 3
     refine vw (word_lt m i) fun b hb=>?_
     rw[jq _ _ _ hb]
     have: ¬ (64 *i+b=x):=o_
     simp[this]
 · rw[if_neg o_,List.getElem?_eq_none (by rw[qK];omega),List.getElem?_eq_none (by rw[qK];omega)]
theorem V9 (n:Nat) (h:n<1024):IntKind.i64.wrap ((n:Int).tdiv 64)=((n / 64:Nat):Int):=by
 rw[Int.tdiv_eq_ediv_of_nonneg o_,wrap64 o_ o_];simp
theorem qac (n:Nat):(n:Int).tmod 64=((n % 64:Nat):Int):=by
 rw[Int.tmod_eq_emod_of_nonneg o_];simp
def Xz (l:List Int) (y:Nat):Bool:=decide (y<1024) && decide ((y:Int)∈l)
theorem qfF:Xz []=fun _=>false:=by funext y;simp[Xz]
theorem qa5 {l:List Int} (hl:l.length<4611686018427387904):Pure Tryz.prog 45 [ints l] (kJ (Xz l)):=by
 refine pure_intro Tryz.func45 nm_ qBO (by show 1≤27;decide) ?_
 show ewp _ qhW _ _
 repeat' with_reducible first
  |refine s_ ?_
  |simp -implicitDefEqProofs only[ZY,Z5,ZN,ZV,YM,QV,Q8,Zg,yY,Zf,Zk,vM,vF,Vj,Q5,ve,vg,xC,Zo,Kt,qev,zo,zn,jV,Kh,xE,qfy,Zi,QR,vG,jE,List.length_cons,List.length_nil,Nat.reduceAdd,Nat.zero_add,Nat.add_zero,Vx,Vp,Vb,Vl,Yu,YU,YG,Yt,YW,YF,YX,Yy,Vo,QZ,vW,vQ,List.length_map,ze,Bool.false_eq_true,Int.reduceEq,zo,zn,zR,zY,zU,z8,zW,zZ,zb,jO,seval,qbd]
 refine KA (fun(k:Nat) s=>k≤l.length∧s.f 6=ints l∧s.f 7=vi l.length∧s.f 8=vi k∧s.f 2=.ptr 0 0 0∧s.f 3=.ptr 1 0 0∧s.H 0=some (.own 16 [.agg (zl fun _=>false)] false)∧s.H 1=some (.own 16 [kJ (Xz (l.take k))] false)) (fun k=>l.length - k) 0 ?_ ?_
 · simp only[Kh,xE,jV,zn,jO,zo,zR,Nat.reduceEqDiff,↓reduceIte,Nat.zero_le,List.take_zero,qfF,vI]
   exact⟨trivial,trivial,trivial,rfl,trivial,trivial,trivial,(by show _=some (MObj.own 16 [.agg (zl fun _=>false)] false);rw[vI])⟩
 intro k s ⟨hk,h6,h7,h8,h2,h3,hH0,hH1⟩
 by_cases hlt:k<l.length
 · have ea:l[k]?=some l[k]:=ge_ hlt
   have et:l.take (k+1)=l.take k++[l[k]]:=by rw[List.take_add_one,ea];rfl
   generalize l[k]=x at ea et
   by_cases hx:0≤x∧x<1024
   · obtain ⟨n,rfl⟩: ∃n:Nat,x=n:=⟨x.toNat,o_⟩
     have hn:n<1024:=o_
     have hd:n / 64<16:=o_
     have hm:n % 64<64:=o_
     have hp:2 ^ (n % 64)<18446744073709551616:=(Nat.pow_lt_pow_right o_ hm:2 ^ (n % 64)<2 ^ 64)
     repeat' with_reducible first
      |refine qZ ?_ |refine xM ?_ |refine Xl ?_ |refine Vu ?_ |refine xH ?_ |refine qgt ?_ |refine qIa ?_
      |(refine qe7 (by simp -implicitDefEqProofs only[Kt,zo,zn,zR,zY,zU,z8,zW,zZ,zb,jO,seval,h2,h3,h6,h7,h8,YI,jh,VL (x9 ea),Y0,Vk,QS,Q6,yV hd,V9 n hn,qac n,Nat.mul_one,qe8 hm,add1 (show k<4611686018427387904 by omega),hH1,hH0,jP]<;>rfl) (fun h=>?_) (fun h=>?_)<;>(try simp only[Bool.not_false,Bool.not_true,Bool.not_eq_true',Bool.not_eq_false',Bool.true_eq_false,Bool.false_eq_true,reduceCtorEq]at h)<;>(try(exfalso;simp only[decide_eq_true_eq,decide_eq_false_iff_not]at h;omega))<;>(try simp only[h]))
      |refine Vt (by simp -implicitDefEqProofs only[Kt,qev,zo,zn,zR,zY,zU,z8,zW,zZ,zb,jO,seval,h2,h3,h6,h7,h8,YI,jh,VL (x9 ea),Y0,Vk,QS,Q6,yV hd,V9 n hn,qac n,Nat.mul_one,qe8 hm,add1 (show k<4611686018427387904 by omega),hH1,hH0,jP]<;>rfl) (qbC rfl) (Xc) ?_
      |refine ji (qdo (by simp -implicitDefEqProofs only[Kh,xE,jV,jE,zo,zn,zR,zY,zU,z8,zW,zZ,zb,jO,seval,h2,h3,h6,h7,h8,YI,jh,VL (x9 ea),Y0,Vk,QS,Q6,yV hd,V9 n hn,qac n,Nat.mul_one,qe8 hm,add1 (show k<4611686018427387904 by omega),hH1,hH0,jP]<;>rfl) (Or.inr trivial) (zN _ hd)) ?_
      |refine ji (qJ8 (word_lt _ _) hp) ?_
      |refine ji (qfX (by simp -implicitDefEqProofs only[Kh,xE,jV,jE,zo,zn,zR,zY,zU,z8,zW,zZ,zb,jO,seval,h2,h3,h6,h7,h8,YI,jh,VL (x9 ea),Y0,Vk,QS,Q6,yV hd,V9 n hn,qac n,Nat.mul_one,qe8 hm,add1 (show k<4611686018427387904 by omega),hH1,hH0,jP]<;>rfl) rfl rfl rfl (by rw[qK];exact hd)) ?_
      |simp -implicitDefEqProofs only[ZY,Z5,ZN,ZV,YM,QV,Q8,Zg,yY,Zf,Zk,vM,vF,Vj,Q5,ve,vg,xC,Zo,Kt,qev,zo,zn,jV,Kh,xE,qfy,Zi,QR,vG,jE,List.length_cons,List.length_nil,Nat.reduceAdd,Nat.zero_add,Nat.add_zero,Vx,Vp,Vb,Vl,Yu,YU,YG,Yt,YW,YF,YX,Yy,Vo,QZ,vW,vQ,List.length_map,ze,Bool.false_eq_true,Int.reduceEq,zo,zn,zR,zY,zU,z8,zW,zZ,zb,jO,seval,h2,h3,h6,h7,h8,YI,jh,VL (x9 ea),Y0,Vk,QS,Q6,yV hd,V9 n hn,qac n,Nat.mul_one,qe8 hm,add1 (show k<4611686018427387904 by omega),hH1,hH0,jP]
     · refine⟨k+1,o_,o_,trivial,trivial,rfl,trivial,trivial,trivial,?_⟩
       rw[qct _ hn,et]
       have hs:(fun y=>Xz (l.take k) y || decide (y=n))=Xz (l.take k++[(n:Int)]):=by
        funext y
        unfold Xz
        by_cases hy:y<1024
        · have e:decide ((y:Int)=(n:Int))=decide (y=n):=by rw[decide_eq_decide];omega
          simp only[hy,decide_true,Bool.true_and,List.mem_append,List.mem_singleton,Bool.decide_or,e]
        · have: ¬ y=n:=o_
          simp[hy,this]
       rw[hs]
     · exfalso;simp at h;omega
   · have hs:Xz (l.take (k+1))=Xz (l.take k):=by
      funext y
      rw[et];unfold Xz
      by_cases hy:y<1024
      · have: ¬ ((y:Int)=x):=o_
        simp[this]
      · simp[hy]
     repeat' with_reducible first
      |refine qZ ?_ |refine xM ?_ |refine Xl ?_ |refine Vu ?_ |refine xH ?_ |refine qgt ?_ |refine qIa ?_
      |(refine qe7 (by simp -implicitDefEqProofs only[Kt,zo,zn,zR,zY,zU,z8,zW,zZ,zb,jO,seval,h2,h3,h6,h7,h8,YI,jh,VL (x9 ea),Y0,add1 (show k<4611686018427387904 by omega)]<;>rfl) (fun h=>?_) (fun h=>?_)<;>(try simp only[Bool.not_false,Bool.not_true,Bool.not_eq_true',Bool.not_eq_false',Bool.true_eq_false,Bool.false_eq_true,reduceCtorEq]at h)<;>(try(exfalso;simp only[decide_eq_true_eq,decide_eq_false_iff_not]at h;omega))<;>(try simp only[h]))
      |refine Vt (by simp -implicitDefEqProofs only[Kt,qev,zo,zn,zR,zY,zU,z8,zW,zZ,zb,jO,seval,h2,h3,h6,h7,h8,YI,jh,VL (x9 ea),Y0,add1 (show k<4611686018427387904 by omega)]<;>rfl) (qbC rfl) (Xc) ?_
      |simp -implicitDefEqProofs only[ZY,Z5,ZN,ZV,YM,QV,Q8,Zg,yY,Zf,Zk,vM,vF,Vj,Q5,ve,vg,xC,Zo,Kt,qev,zo,zn,jV,Kh,xE,qfy,Zi,QR,vG,jE,List.length_cons,List.length_nil,Nat.reduceAdd,Nat.zero_add,Nat.add_zero,Vx,Vp,Vb,Vl,Yu,YU,YG,Yt,YW,YF,YX,Yy,Vo,QZ,vW,vQ,List.length_map,ze,Bool.false_eq_true,Int.reduceEq,zo,zn,zR,zY,zU,z8,zW,zZ,zb,jO,seval,h2,h3,h6,h7,h8,YI,jh,VL (x9 ea),Y0,add1 (show k<4611686018427387904 by omega)]
     · exfalso;simp at h;omega
     · exact⟨k+1,o_,o_,trivial,trivial,rfl,trivial,trivial,hH0,by rw[hs];exact hH1⟩
 · repeat' with_reducible first
    |refine qZ ?_ |refine xM ?_ |refine yu ?_ |refine qbN ?_ |refine qgt ?_ |refine qJ3 ?_ |refine qKc ?_
    |(refine qe7 (by simp -implicitDefEqProofs only[Kt,zo,zn,zR,zY,zU,z8,zW,zZ,zb,jO,seval,h2,h3,h6,h7,h8,hH0,hH1,jh,jP]<;>rfl) (fun h=>?_) (fun h=>?_)<;>(try simp only[Bool.not_false,Bool.not_true,Bool.not_eq_true',Bool.not_eq_false',Bool.true_eq_false,Bool.false_eq_true,reduceCtorEq]at h)<;>(try(exfalso;simp only[decide_eq_true_eq,decide_eq_false_iff_not]at h;omega))<;>(try simp only[h]))
    |refine ji (Vy (by simp -implicitDefEqProofs only[Kh,xE,jV,jE,zo,zn,zR,zY,zU,z8,zW,zZ,zb,jO,seval,h2,h3,h6,h7,h8,hH0,hH1,jh,jP]<;>rfl)) ?_
    |refine ji (qdG (by simp -implicitDefEqProofs only[Kh,xE,jV,jE,zo,zn,zR,zY,zU,z8,zW,zZ,zb,jO,seval,h2,h3,h6,h7,h8,hH0,hH1,jh,jP]<;>rfl) rfl (qK _)) ?_
    |simp -implicitDefEqProofs only[ZY,Z5,ZN,ZV,YM,QV,Q8,Zg,yY,Zf,Zk,vM,vF,Vj,Q5,ve,vg,xC,Zo,Kt,qev,zo,zn,jV,Kh,xE,qfy,Zi,QR,vG,jE,List.length_cons,List.length_nil,Nat.reduceAdd,Nat.zero_add,Nat.add_zero,Vx,Vp,Vb,Vl,Yu,YU,YG,Yt,YW,YF,YX,Yy,Vo,QZ,vW,vQ,List.length_map,ze,Bool.false_eq_true,Int.reduceEq,zo,zn,zR,zY,zU,z8,zW,zZ,zb,jO,seval,h2,h3,h6,h7,h8,hH0,hH1,jh,jP]
   rw[List.take_of_length_le o_]
   refine qiF (t:=2) rfl (Or.inr rfl) (v:=kJ (Xz l)) ?_ (quJ fun x hx=>?_)
   · simp only[zb,jO,zo,zn,h2,Nat.reduceEqDiff,↓reduceIte]
     refine Vy (ro:=false) ?_
     simp only[Kh,jV,↓reduceIte]
   · obtain ⟨i,_,rfl⟩:=List.mem_map.1 hx
     exact .int _ _

instance (m:Nat→Bool):Cls' (zl m):=inferInstanceAs (Cls' (List.map _ _))
theorem qcK {m m':Nat→Bool} {i x:Nat} (hi:i<16) (hx:x<18446744073709551616) (h1: ∀b,b<64→x.testBit b=m' (64 *i+b)) (h2: ∀y,y / 64≠i→m' y=m y):
 (zl m).set i (.int .u64 (x:Int))=zl m':=by
 refine List.ext_getElem? fun j=>?_
 rw[List.getElem?_set]
 by_cases hj:j<16
 · rw[zN _ hj,zN _ hj,qK]
   split
   · rename_i e
     subst e
     rw[vw hx h1]
   · rename_i e
     have:word m j=word m' j:=vw (word_lt m j) fun b hb=>by rw[jq _ _ _ hb,h2 _ o_]
     rw[this]
 · rw[if_neg o_,List.getElem?_eq_none (by rw[qK];omega),List.getElem?_eq_none (by rw[qK];omega)]
theorem qfv {m m':Nat→Bool} (h: ∀y,y<1024→m y=m' y):kJ m=kJ m':=by
 have e:zl m=zl m':=by
  refine List.ext_getElem? fun j=>?_
  by_cases hj:j<16
  · have:word m j=word m' j:=vw (word_lt m j) fun b hb=>by rw[jq _ _ _ hb,h _ o_]
    rw[zN _ hj,zN _ hj,this]
  · rw[List.getElem?_eq_none (by rw[qK];omega),List.getElem?_eq_none (by rw[qK];omega)]
 show V.agg _=V.agg _
 rw[e]
theorem qjV {b:Bool} {H:Nat→Option MObj} {m m':Nat→Bool} (h: ∀y,y<1024→m y=m' y):Er b H (kJ m) (kJ m'):=qFJ (qfv h)
theorem Yz {a b:Nat→Bool}:Pure Tryz.prog 44 [kJ a,kJ b] (kJ (fun y=>a y || b y)):=by
 refine pure_intro Tryz.func44 nm_ qtD (by show 2≤22;decide) ?_
 show ewp _ qh1 _ _
 repeat' with_reducible first
  |refine s_ ?_
  |simp -implicitDefEqProofs only[wZZ,seval]
  |apply qbm;with_unfolding_all exact qK _;exact wu_
 refine qb ?nx1 (fun(k:Nat) s=>s.f 2=?v1_2∧s.f 3=?v1_3∧s.f 4=?v1_4∧s.H 1=some (.own 16 [kJ b] false)∧s.H 2=?o1_1∧s.f 6=vi k∧(k≤16)∧(s.H 0=some (.own 16 [kJ (fun y=>if y<64 *k then a y || b y else a y)] false))) (fun k=>16 - k) (0) wj_ (by refine⟨?_,?_,?_,?_,?_,?_,wo_,(by(try simp -implicitDefEqProofs only[wL,wM,wN,seval]);first|rfl|(simp;done))⟩<;>first|(simp -implicitDefEqProofs only[wL,wM,wN,wX,seval,Option.some.injEq]<;>exact wt_)|rfl|exact⟨_,rfl⟩) ?_
 intro k s hnx ⟨g2,g3,g4,o0,o1,g6,k1_0,o100⟩
 by_cases hk:k<16
 · repeat' with_reducible first
    |refine s_ ?_
    |simp -implicitDefEqProofs only[wZZ,seval,g2,g3,g4,g6,o0,o1,o100]
    |apply qa<;>intro h h_<;>(try simp only[wD,reduceCtorEq]at h_)<;>(try exact wb_)<;>(try simp only[h])
    |apply qgv;omega
    |apply qbe;exact zN _ o_
    |refine ji (qJ8 (word_lt _ _) (word_lt _ _)) ?_
    |apply qbc;exact wu_;exact wu_;exact wu_;(focus(rw[qK];omega))
    |simp -implicitDefEqProofs (disch:=omega) only[w64,if_neg]
   refine⟨wk_,k+1,o_,?_⟩
   refine⟨?_,?_,?_,?_,?_,?_,?_,?_⟩
   iterate 6 (focus(first|(simp -implicitDefEqProofs only[wL,wM,wN,wX,seval,Option.some.injEq,g2,g3,g4,g6,o0,o1,o100]<;>exact wt_)|rfl|exact⟨_,rfl⟩))
   all_goals try omega
   all_goals try simp -implicitDefEqProofs only[wL,wM,wN,wX,seval,g2,g3,g4,g6,o0,o1,o100]
   rw[qcK (m':=fun y=>if y<64 *(k+1)then a y || b y else a y) hk]
   · exact Nat.or_lt_two_pow (n:=64) (word_lt _ _) (word_lt _ _)
   · intro y hy
     rw[Nat.testBit_or,jq _ _ _ hy,jq _ _ _ hy]
     have e1: ¬ (64 *k+y<64 *k):=o_
     have e2:64 *k+y<64 *(k+1):=o_
     simp[e1,e2]
   · intro y hy
     by_cases hl:y<64 *k
     · have e2:y<64 *(k+1):=o_
       simp[hl,e2]
     · have e2: ¬ y<64 *(k+1):=o_
       simp[hl,e2]
 · obtain rfl:k=16:=o_
   repeat' with_reducible first
    |refine s_ ?_
    |simp -implicitDefEqProofs only[wZZ,seval,g2,g3,g4,g6,o0,o1,o100]
    |refine t_ ?_
    |apply jH;exact wu_;exact qK _
   refine qiF (t:=4) rfl (Or.inr rfl) (v:=kJ (fun y=>if y<64 *16 then a y || b y else a y)) ?_ (qjV ?_)
   · simp -implicitDefEqProofs only[wL,seval,g2,g3,g4,g6]
     refine Vy (ro:=false) ?_
     simp only[Kh,jV,↓reduceIte]
   · intro y hy
     simp[show y<1024 from hy]

def eqS (a b:Nat→Bool):Bool:=(List.range 1024).all fun y=>a y == b y
theorem qaC (a b:Nat→Bool):eqS a b=true↔ ∀y,y<1024→a y=b y:=by simp[eqS,List.all_eq_true]
theorem Xe: ∀(l m:List Nat),l.length=m.length→qE (List.replicate l.length 1) (l.map fun(x:Nat)=>V.int .u64 (x:Int)) (m.map fun(x:Nat)=>V.int .u64 (x:Int))=some (decide (l=m))
 |[],[],_=>by simp[qE]
 | x::l,y::m,h=>by
   have ih:=Xe l m (by simpa using h)
   simp only[List.length_cons,List.replicate_succ,List.map_cons,qE,ih]
   simp[qaV,eq1]
   rw[Bool.eq_iff_iff];simp;omega
 |[],_::_,h=>by simp at h
 | _::_,[],h=>by simp at h
theorem qaQ (a b:Nat→Bool):qE [1,1,1,1,1,1,1,1,1,1,1,1,1,1,1,1] (zl a) (zl b)=some (eqS a b):=by
 have h:=Xe ((List.range 16).map (word a)) ((List.range 16).map (word b)) (by simp)
 have e: ∀c,((List.range 16).map (word c)).map (fun(x:Nat)=>V.int .u64 (x:Int))=zl c:=fun c=>by simp[zl]
 rw[e,e]at h
 refine h.trans (congrArg some ?_)
 rw[Bool.eq_iff_iff,decide_eq_true_eq,qaC]
 constructor
 · intro h y hy
   have h1: ∀i,i<16→word a i=word b i:=by
    intro i hi
    have:=congrArg (fun l=>l[i]?) h
    simpa[hi]using this
   have h2:=h1 (y / 64) o_
   have h3:=jq a (y / 64) (y % 64) o_
   have h4:=jq b (y / 64) (y % 64) o_
   rw[h2,h4,show 64 *(y / 64)+y % 64=y by omega]at h3
   exact h3.symm
 · intro h
   refine List.map_congr_left fun i hi=>?_
   rw[List.mem_range]at hi
   exact vw (word_lt a i) fun c hc=>by rw[jq _ _ _ hc,h _ o_]
theorem qgF {u:Nat} (h0:u≠0) (h:u<18446744073709551616):Lib.ctz 64 u<64∧u.testBit (Lib.ctz 64 u)=true∧(∀b,b<Lib.ctz 64 u→u.testBit b=false)∧1≤u∧
 ∀b,(u &&& (u - 1)).testBit b=(decide (b≠Lib.ctz 64 u) && u.testBit b):=by
 obtain ⟨m,hm,hk⟩:=Lib.ctzFrom_spec 64 u o_ h
 have e:Lib.ctz 64 u=Lib.ctzFrom 64 u:=by simp[Lib.ctz,h0]
 rw[e]
 generalize Lib.ctzFrom 64 u=t at hm hk
 have hb: ∀b,u.testBit b=if b<t then false else(2 *m+1).testBit (b - t):=by
  intro b
  have:=Nat.testBit_two_pow_mul_add (2 *m+1) (Nat.two_pow_pos t) b
  rw[Nat.add_zero,← hm]at this
  rw[this];simp
 have hp:1≤2 ^ t:=Nat.one_le_two_pow
 have hb': ∀b,(u - 1).testBit b=if b<t then true else(2 *m).testBit (b - t):=by
  intro b
  have hu:u - 1=2 ^ t *(2 *m)+(2 ^ t - 1):=by rw[hm,Nat.mul_add,Nat.mul_one];omega
  have:=Nat.testBit_two_pow_mul_add (2 *m) (show 2 ^ t - 1<2 ^ t by omega) b
  rw[← hu]at this
  rw[this]
  split
  · rw[Nat.testBit_two_pow_sub_one];simpa
  · rfl
 refine⟨hk,by rw[hb];simp,fun b hbt=>by rw[hb];simp[hbt],o_,fun b=>?_⟩
 rw[Nat.testBit_and,hb,hb']
 by_cases h1:b<t
 · simp[h1]
 · by_cases h2:b=t
   · subst h2;simp
   · obtain ⟨c,hc⟩: ∃c,b - t=c+1:=⟨b - t - 1,o_⟩
     simp only[h1,↓reduceIte,hc,Nat.testBit_succ]
     have e1:(2 *m+1) / 2=m:=o_
     have e2:2 *m / 2=m:=o_
     simp[h2,e1,e2]
theorem qmM {x y p q i k:Nat} {T:List V} (h0: ¬ (x:Int)=0) (hn:unV .neg (.int .u64 (x:Int))=some (.int .u64 (y:Int))) (hand:xh .and (.int .u64 (x:Int)) (.int .u64 (y:Int))=some (.int .u64 (p:Int))) (hmul:IntKind.u64.wrap ((p:Int) *285870213051353865)=(q:Int)) (hshr:xh .shr (.int .u64 (q:Int)) (.int .u64 58)=some (.int .u64 (i:Int))) (hi:i<64) (hT:Glob.G Tryz.prog 0=.iptr 64 (.agg T) 0) (hc:T[i]?=some (.int .u8 (k:Int))) (hk:k<64):Pure Tryz.prog 84 [.int .u64 (x:Int)] (vi (k:Int)):=by
 refine pure_intro Tryz.func84 nm_ qtw (by show 1≤14;decide) ?_
 show ewp _ qAR _ _
 repeat' with_reducible first
  |refine s_ ?_
  |simp -implicitDefEqProofs only[wZZ,seval,hn,hand,hmul,hshr,hT]
  |apply qa<;>intro h h_<;>(try simp only[wD,reduceCtorEq]at h_)<;>(try exact wb_)<;>(try simp only[h])
  |refine ji (qfK hi) ?_
  |refine ji (qCM (by simpa using hc)) ?_
  |simp -implicitDefEqProofs (disch:=omega) only[w64,if_neg]
 refine qD rfl (Or.inr rfl) ?_
 simp -implicitDefEqProofs only[wL,seval]
 refine er_ ?_
 try(with_reducible rfl)
theorem p64:(2:Nat) ^ 64=18446744073709551616:=by decide
theorem p58:(2:Nat) ^ 58=288230376151711744:=by decide
theorem qwN (C:Nat) {x y p q i k M D c:Nat} (hM:M=18446744073709551616) (hD:D=288230376151711744) (hc:c=285870213051353865) (h0:x≠0) (hx:x<M) (hy:M - x=y) (hlow:x &&& y=p) (hq:p *c % M=q) (hi:q / D=i) (hi64:i<64) (hk:k<64)
 (htab:Lib.deBruijn64tab.getD i 0=k):Pure Tryz.prog 84 [.int .u64 (x:Int)] (vi (k:Int)):=by
 have hn:unV .neg (.int .u64 (x:Int))=some (.int .u64 (y:Int)):=by
  show some (V.int .u64 (IntKind.u64.wrap (0 - (x:Int))))=_
  rw[qia];congr 2;omega
 have hand:=qcR (x:=x) (y:=y) o_ o_
 rw[hlow]at hand
 have hmul:IntKind.u64.wrap ((p:Int) *285870213051353865)=(q:Int):=by
  rw[hc,hM]at hq
  rw[qia];omega
 have hshr:=qge (x:=q) (y:=58) o_
 rw[p58,← hD,hi]at hshr
 refine qmM (T:=Lib.deBruijn64tab.map fun(n:Nat)=>V.int .u8 (n:Int)) o_ hn hand hmul hshr hi64 rfl ?_ hk
 have hl:Lib.deBruijn64tab.length=64:=by decide
 rw[List.getD_eq_getElem?_getD,ge_ (by rw[hl];exact hi64)]at htab
 rw[List.getElem?_map,ge_ (by rw[hl];exact hi64)]
 simp only[Option.getD_some]at htab
 rw[htab];rfl
theorem yo {x:Nat} (h0:x≠0) (hx:x<18446744073709551616):Pure Tryz.prog 84 [.int .u64 (x:Int)] (vi (Lib.ctz 64 x)):=by
 have hx':x<2 ^ 64:=by rw[p64];exact hx
 have h:=Lib.lowest_bit 64 x h0 hx'
 rw[p64]at h
 have ht:=Lib.deBruijn64_at _ h.2
 exact qwN 0 (M:=18446744073709551616) (D:=288230376151711744) (c:=285870213051353865) rfl rfl rfl h0 hx rfl rfl rfl rfl (by rw[h.1];exact ht.1) h.2 (by rw[h.1];exact ht.2)

def lst (m:Nat→Bool) (n:Nat):List Int:=((List.range n).filter m).map Int.ofNat
theorem qaw (m:Nat→Bool) (n:Nat):(lst m n).length≤n:=by
 simp only[lst,List.length_map]
 exact Nat.le_trans (List.length_filter_le _ _) (by simp)
theorem qjI {m:Nat→Bool} {n:Nat} {x:Int}:x∈lst m n↔ ∃y:Nat,y<n∧m y=true∧x=y:=by
 simp only[lst,List.mem_map,List.mem_filter,List.mem_range]
 constructor
 · rintro ⟨y,⟨h1,h2⟩,rfl⟩;exact⟨y,h1,h2,rfl⟩
 · rintro ⟨y,h1,h2,rfl⟩;exact⟨y,⟨h1,h2⟩,rfl⟩
theorem qb4 {m:Nat→Bool} (a d:Nat) (h: ∀y,a≤y→y<a+d→m y=false):lst m (a+d)=lst m a:=by
 induction d with
 |zero=>rfl
 | succ d ih=>
   have e:lst m (a+(d+1))=lst m (a+d):=by
    unfold lst
    rw[← Nat.add_assoc,List.range_succ,List.filter_append]
    simp[h (a+d) o_ o_]
   rw[e,ih fun y h1 h2=>h y h1 o_]
theorem qnj {m:Nat→Bool} {n:Nat} (h:m n=true):lst m (n+1)=lst m n++[(n:Int)]:=by
 unfold lst
 rw[List.range_succ,List.filter_append]
 simp[h]
theorem qB6 {u:Nat} (h1:1≤u) (h2:u<18446744073709551616):IntKind.u64.wrap ((u:Int) - 1)=((u - 1:Nat):Int):=by
 rw[qaJ o_ o_];omega
theorem YO {m:Nat→Bool}:Pure Tryz.prog 58 [kJ m] (ints (lst m 1024)):=by
 refine pure_intro Tryz.func58 nm_ qoN (by show 1≤28;decide) ?_
 show ewp _ qhS _ _
 repeat' with_reducible first
  |refine s_ ?_
  |simp -implicitDefEqProofs only[wZZ,seval]
  |apply qbm;with_unfolding_all exact qK _;exact wu_
  |refine t_ ?_
 refine qb ?nx1 (fun(k:Nat) s=>s.f 7=?v1_7∧(∃v,s.f 3=v∧Gr s.H s.next 1 ((lst m (64 *k)).map (V.int .i64)) v)∧s.f 8=vi k∧(k≤16)) (fun k=>16 - k) (0) wj_ (by refine⟨?_,?_,?_,wo_⟩<;>first|(simp -implicitDefEqProofs only[wL,wM,wN,wX,seval,Option.some.injEq]<;>exact wt_)|rfl|exact⟨_,rfl⟩) ?_
 intro k s hnx ⟨g7,⟨v3,g3,G3⟩,g8,k1_0⟩
 by_cases hk:k<16
 · have hw :=word_lt m k
   have hlk:=qaw m (64 *k)
   repeat' with_reducible first
    |refine s_ ?_
    |simp -implicitDefEqProofs only[wZZ,seval,g7,g3,g8,G3.len]
    |apply qa<;>intro h h_<;>(try simp only[wD,reduceCtorEq]at h_)<;>(try exact wb_)<;>(try simp only[h])
    |refine ji (qIj o_ (zN _ o_)) ?_
   refine qb ?nx2 (fun(p:Nat×Nat) s=>s.f 4=?v2_4∧s.f 7=?v2_7∧s.f 8=?v2_8∧(∃v,s.f 3=v∧Gr s.H s.next 1 ((lst m (64 *k+p.1)).map (V.int .i64)) v)∧s.f 5=.int .u64 (p.2:Int)∧(p.1≤64)∧(p.2<18446744073709551616)∧((∀b,b<64→p.2.testBit b=(decide (p.1≤b) && m (64 *k+b))))) (fun p=>64 - p.1) ((0,word m k)) wj_ (by refine⟨?_,?_,?_,?_,?_,wo_,wo_,(by intro b hb;rw[jq _ _ _ hb];simp)⟩<;>first|(simp -implicitDefEqProofs only[wL,wM,wN,wX,seval,Option.some.injEq,g7,g3,g8]<;>first|rfl|exact⟨_,rfl⟩|exact⟨_,rfl,by first|assumption|exact Gr.nil|exact Gr.tok rfl o_|exact Gr.tok (by simp -implicitDefEqProofs only[wM,seval]<;>rfl) o_|exact Gr.clip|exact G3.to (by first|rfl|(simp[*];done)) o_ rfl⟩)|rfl|exact⟨_,rfl⟩) ?_
   intro p s hnx ⟨g4,g7,g8,⟨v3,g3,G3⟩,g5,k2_0,k2_1,k2_2⟩
   obtain ⟨c,u⟩:=p
   dsimp only at g5 G3 k2_0 k2_1 k2_2
   have hlc:=qaw m (64 *k+c)
   by_cases hu:u=0
   · have hn:lst m (64 *(k+1))=lst m (64 *k+c):=by
      have:=qb4 (m:=m) (64 *k+c) (64 - c) (fun y h1 h2=>by
       have:=k2_2 (y - 64 *k) o_
       simp only[hu,Nat.zero_testBit]at this
       have e:64 *k+(y - 64 *k)=y:=o_
       rw[e]at this
       have h3:c≤y - 64 *k:=o_
       simpa[h3]using this.symm)
      rw[show 64 *k+c+(64 - c)=64 *(k+1) by omega]at this
      exact this
     subst hu
     repeat' with_reducible first
      |refine s_ ?_
      |simp -implicitDefEqProofs only[wZZ,seval,g4,g7,g8,g3,g5,G3.len]
      |simp -implicitDefEqProofs (disch:=omega) only[w64,if_neg]
     refine⟨wk_,k+1,o_,?_⟩
     refine⟨?_,?_,?_,?_⟩
     iterate 3 (focus(first|(simp -implicitDefEqProofs only[wL,wM,wN,wX,seval,Option.some.injEq,g4,g7,g8,g3,g5,hn]<;>first|rfl|exact⟨_,rfl⟩|exact⟨_,rfl,by first|assumption|exact Gr.nil|exact Gr.tok rfl o_|exact Gr.tok (by simp -implicitDefEqProofs only[wM,seval]<;>rfl) o_|exact Gr.clip|exact G3.to (by first|rfl|(simp[*];done)) o_ rfl⟩)|rfl|exact⟨_,rfl⟩))
     all_goals try omega
   · have ht:=qgF hu k2_1
     generalize hT:Lib.ctz 64 u=t at ht
     obtain ⟨t1,t2,t3,t4,t5⟩:=ht
     have hc:c≤t:=by
      rcases Nat.lt_or_ge t c with h|h
      · have:=k2_2 t t1
        rw[t2]at this
        simp[Nat.not_le.2 h]at this
      · exact h
     have hmt:m (64 *k+t)=true:=by
      have:=k2_2 t t1
      rw[t2]at this
      simpa[hc]using this.symm
     have hn:lst m (64 *k+(t+1))=lst m (64 *k+c)++[((64 *k+t:Nat):Int)]:=by
      rw[← Nat.add_assoc,qnj hmt]
      congr 1
      have:=qb4 (m:=m) (64 *k+c) (t - c) (fun y h1 h2=>by
       have:=k2_2 (y - 64 *k) o_
       rw[t3 _ o_]at this
       have e:64 *k+(y - 64 *k)=y:=o_
       rw[e]at this
       have h3:c≤y - 64 *k:=o_
       simpa[h3]using this.symm)
      rw[show 64 *k+c+(t - c)=64 *k+t by omega]at this
      exact this
     have hlt:(u &&& (u - 1))<18446744073709551616:=Nat.and_lt_two_pow (n:=64) _ o_
     have hz:((k:Int) *64+(t:Int))=((64 *k+t:Nat):Int):=o_
     have hsub:=qB6 t4 k2_1
     repeat' with_reducible first
      |refine s_ ?_
      |simp -implicitDefEqProofs only[wZZ,seval,g4,g7,g8,g3,g5,hT,hz,hsub,G3.len]
      |apply qa<;>intro h h_<;>(try simp only[wD,reduceCtorEq]at h_)<;>(try exact wb_)<;>(try simp only[h])
      |refine ji (qcR o_ o_) ?_
      |apply jg (hg:=G3);(focus(first|rfl|(simp -implicitDefEqProofs only[wM];done)));(focus(first|exact jk.sl|exact jk.asl|exact jk.gr G3|exact jk.str));exact wf_;(focus(unfold maxLen;first|omega|(simp only[wZ]<;>omega)))
      |apply kz (hp:=yo ?_ ?_);(focus(first|exact qbS|exact qg|exact VD|exact ZX|exact G3.er rfl));rotate_left;exact wf_;exact wf_
      |simp -implicitDefEqProofs (disch:=omega) only[w64,if_neg]
     refine⟨wk_,(t+1,u &&& (u - 1)),o_,?_⟩
     refine⟨?_,?_,?_,?_,?_,?_,?_,?_⟩
     iterate 5 (focus(first|(simp -implicitDefEqProofs only[wL,wM,wN,wX,seval,Option.some.injEq,g4,g7,g8,g3,g5,hn]<;>first|rfl|exact⟨_,rfl⟩|exact⟨_,rfl,by first|assumption|exact Gr.nil|exact Gr.tok rfl o_|exact Gr.tok (by simp -implicitDefEqProofs only[wM,seval]<;>rfl) o_|exact Gr.clip|exact G3.to (by first|rfl|(simp[*];done)) o_ rfl⟩)|rfl|exact⟨_,rfl⟩))
     all_goals try omega
     · intro b hb
       rw[t5,k2_2 b hb]
       by_cases h1:b=t
       · subst h1;simp;omega
       · by_cases h2:t+1≤b
         · simp[h1,h2,show c≤b by omega]
         · have h3:=t3 b o_
           rw[k2_2 b hb]at h3
           simp[h1,h2,h3]
 · skip
   obtain rfl:k=16:=o_
   repeat' with_reducible first
    |refine s_ ?_
    |simp -implicitDefEqProofs only[wZZ,seval,g7,g3,g8,G3.len]
   refine qD rfl (Or.inr rfl) ?_
   simp -implicitDefEqProofs only[wL,seval,g7,g3,g8]
   first|refine er_ ?_ |refine G3.er ?_
   try(with_reducible rfl)

abbrev qmj (l:List Int):Prop:=l.Pairwise (· < ·)
theorem qbj: ∀{a b:List Int},qmj a→qmj b→(∀x,x∈a↔x∈b)→a=b
 |[],[],_,_,_=>rfl
 |[],y::b,_,_,h=>absurd ((h y).2 (List.mem_cons_self ..)) (by simp)
 |x::a,[],_,_,h=>absurd ((h x).1 (List.mem_cons_self ..)) (by simp)
 | x ::a,y::b,ha,hb,h=>by
   have ha':=List.pairwise_cons.1 ha
   have hb':=List.pairwise_cons.1 hb
   have hxy:x=y:=by
    have h1:=(h x).1 (List.mem_cons_self ..)
    have h2:=(h y).2 (List.mem_cons_self ..)
    rcases List.mem_cons.1 h1 with e|e
    · exact e
    · rcases List.mem_cons.1 h2 with e2|e2
      · exact e2.symm
      · have:=hb'.1 x e;have:=ha'.1 y e2;omega
   subst hxy
   congr 1
   refine qbj ha'.2 hb'.2 fun z=>?_
   have hz:=h z
   simp only[List.mem_cons]at hz
   constructor
   · intro hm
     rcases hz.1 (Or.inr hm)with e|e
     · subst e;have:=ha'.1 z hm;omega
     · exact e
   · intro hm
     rcases hz.2 (Or.inr hm)with e|e
     · subst e;have:=hb'.1 z hm;omega
     · exact e

set_option maxHeartbeats 4000000
set_option maxRecDepth 20000
theorem XF {l:List Int} {n:Int} (hl:l.length≤1099511627776) (hn:0≤n):Pure Tryz.prog 21 [ints l,vi n] (ints (K9 l n)):=by
 refine pure_intro Tryz.func21 nm_ qzO (by show 2≤13;decide) ?_
 show ewp _ qBE _ _
 by_cases h:n<l.length
 · have e:K9 l n=l.take n.toNat:=by unfold K9;rw[if_pos h]
   rw[e]
   repeat' with_reducible first
    |refine s_ ?_
    |simp -implicitDefEqProofs only[wZZ,seval]
    |apply qa<;>intro h h_<;>(try simp only[wD,reduceCtorEq]at h_)<;>(try exact wb_)<;>(try simp only[h])
    |apply qaS;omega;exact wf_
   refine qD rfl (Or.inr rfl) ?_
   simp -implicitDefEqProofs only[wL,seval]
   refine er_ ?_
   try(with_reducible rfl)
 · have e:K9 l n=l:=by unfold K9;rw[if_neg h]
   rw[e]
   repeat' with_reducible first
    |refine s_ ?_
    |simp -implicitDefEqProofs only[wZZ,seval]
    |apply qa<;>intro h h_<;>(try simp only[wD,reduceCtorEq]at h_)<;>(try exact wb_)<;>(try simp only[h])
   refine qD rfl (Or.inr rfl) ?_
   simp -implicitDefEqProofs only[wL,seval]
   refine er_ ?_
   try(with_reducible rfl)

theorem qlW {a b:Nat→Bool}:Pure Tryz.prog 83 [kJ a,kJ b] (.bool (eqS a b)):=by
 refine pure_intro Tryz.func83 nm_ qtb (by show 2≤8;decide) ?_
 show ewp _ qs3 _ _
 repeat' with_reducible first
  |refine s_ ?_
  |simp -implicitDefEqProofs only[wZZ,seval]
  |apply qbm;with_unfolding_all exact qK _;exact wu_
  |refine t_ ?_
  |(apply qgr (h:=qaQ _ _))
 refine qD rfl (Or.inr rfl) ?_
 simp -implicitDefEqProofs only[wL,seval]
 refine er_ ?_
 try(with_reducible rfl)
end Go.Proofs
