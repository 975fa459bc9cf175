/- Part of a proof that a law of the given program answers true. -/
import Derived.Test.YtjdjdbkoplmjeaaDoorVCAC
import Derived.Test.YtjdjdbkoplmjeaaDoorXECC
import Derived.Lib.TrailingZeros
set_option linter.unusedSimpArgs false
set_option linter.unusedVariables false
namespace Go.Proofs
open Go.E
theorem qb7 {α:Type} {a b:List α} {k:Nat} (hk: ∀i,i<k→a[i]?=b[i]?) (h1:a.length≤k) (h2:b.length≤k):a=b:=by
 refine List.ext_getElem? fun i=>?_
 by_cases hi:i<k
 · exact hk i hi
 · rw[List.getElem?_eq_none o_,List.getElem?_eq_none o_]
theorem qij {α:Type} {a b:List α} {k:Nat} (hk: ∀i,i<k→a[i]?=b[i]?) (h1:k<a.length) (h2:k<b.length) (e:a[k]=b[k]): ∀i,i<k+1→a[i]?=b[i]?:=by
 intro i hi
 by_cases he:i=k
 · subst he;rw[ge_ h1,ge_ h2,e]
 · exact hk i o_
theorem xB {a b:List Int} (ha:a.length≤4611686018427387903) (hb:b.length≤4611686018427387903):Pure Tryd.prog 16 [ints a,ints b] (.bool (decide (a=b))):=by
 refine pure_intro Tryd.func16 nm_ qot (by show 2≤26;decide) ?_
 show ewp _ qeO _ _
 repeat' with_reducible first
  |refine s_ ?_
  |simp -implicitDefEqProofs only[wZZ,seval]
  |apply qc<;>intro h h_<;>(try simp only[wD,reduceCtorEq]at h_)<;>(try exact wb_)<;>(try simp only[h])
 · refine qP rfl (Or.inr rfl) ?_
   simp -implicitDefEqProofs only[wL,seval]
   refine er_ ?_
   try(with_reducible rfl)
   rw[eq_comm,decide_eq_false_iff_not]
   intro e;subst e;exact h_ rfl
 refine qw ?nx1 (fun(k:Nat) s=>s.f 0=?v1_0∧s.f 1=?v1_1∧s.f 5=vi k∧(k≤a.length)∧(∀i,i<k→a[i]?=b[i]?)) (fun k=>a.length - k) (0) wj_ (by refine⟨?_,?_,?_,wo_,wo_⟩<;>first|(simp -implicitDefEqProofs only[wL,wM,wN,wX,seval,Option.some.injEq]<;>exact wt_)|rfl|exact⟨_,rfl⟩) ?_
 intro k s hnx ⟨g0,g1,g5,k1_0,k1_1⟩
 repeat' with_reducible first
  |refine s_ ?_
  |simp -implicitDefEqProofs only[wZZ,seval,g0,g1,g5]
  |apply qc<;>intro h h_<;>(try simp only[wD,reduceCtorEq]at h_)<;>(try exact wb_)<;>(try simp only[h])
  |refine t_ ?_
  |simp -implicitDefEqProofs (disch:=omega) only[w64,if_neg]
 · refine qP rfl (Or.inr rfl) ?_
   simp -implicitDefEqProofs only[wL,seval,g0,g1,g5]
   refine er_ ?_
   try(with_reducible rfl)
   rw[eq_comm,decide_eq_false_iff_not]
   intro e;subst e;exact h_ rfl
 · refine⟨wk_,k+1,o_,?_⟩
   refine⟨?_,?_,?_,?_,?_⟩
   iterate 3 (focus(first|(simp -implicitDefEqProofs only[wL,wM,wN,wX,seval,Option.some.injEq,g0,g1,g5]<;>exact wt_)|rfl|exact⟨_,rfl⟩))
   all_goals try omega
   exact qij k1_1 o_ o_ (by simpa using h_)
 · refine qP rfl (Or.inr rfl) ?_
   simp -implicitDefEqProofs only[wL,seval,g0,g1,g5]
   refine er_ ?_
   try(with_reducible rfl)
   rw[eq_comm,decide_eq_true_eq]
   exact qb7 k1_1 o_ o_
def Xb (l:List Int) (x:Int):Nat→Nat
 |0=>0
 |k+1=>if x<l.getD k 0 then Xb l x k else k+1
theorem V3 (l:List Int) (x:Int) (k:Nat):Xb l x (k+1)=if x<l.getD k 0 then Xb l x k else k+1:=rfl
theorem KP (l:List Int) (x:Int) (k:Nat):Xb l x k≤k:=by
 induction k with
 |zero=>exact Nat.le_refl _
 |succ k ih=>unfold Xb;split<;>omega
def qaM (l:List Int) (x:Int):List Int:=
 if 0<Xb l x l.length∧l.getD (Xb l x l.length - 1) 0=x then l else l.take (Xb l x l.length)++[x]++l.drop (Xb l x l.length)
theorem getD_eq {l:List Int} {k:Nat} (h:k<l.length):l.getD k 0=l[k]:=by simp[List.getD,h]


theorem Jc {x:Int}:Pure Tryd.prog 46 [vi x] (.bool (decide (0≤x) && decide (x<1024))):=by
 refine pure_intro Tryd.func46 nm_ qrV (by show 1≤9;decide) ?_
 show ewp _ qry _ _
 repeat' with_reducible first
  |refine s_ ?_
  |simp -implicitDefEqProofs only[wZZ,seval]
  |(first|apply zu|apply zo)<;>intro h h_<;>(try simp only[wD,reduceCtorEq]at h_)<;>(try exact wb_)<;>(try simp only[h])
 all_goals refine qP rfl (Or.inr rfl) ?_
 all_goals try simp only[jD,Nat.reduceEqDiff,↓reduceIte]
 all_goals refine Yh ?_
 all_goals simp_all
def wd (m:Nat→Bool):Nat→Nat
 |0=>0
 |n+1=>wd m n ||| (if m n then 2 ^ n else 0)
theorem qqJ (m:Nat→Bool) (n i:Nat):(wd m n).testBit i=(decide (i<n) && m i):=by
 induction n with
 |zero=>simp[wd]
 | succ n ih=>
   rw[wd,Nat.testBit_or,ih]
   by_cases hi:i=n
   · subst hi;cases h:m i<;>simp[h,Nat.testBit_two_pow]
   · have e:(if m n=true then 2 ^ n else 0).testBit i=false:=by
      split
      · rw[Nat.testBit_two_pow];simp;omega
      · simp
     rw[e]
     by_cases h2:i<n
     · simp[h2,Nat.lt_succ_of_lt h2]
     · have h3: ¬ i<n+1:=o_
       simp[h2,h3]
theorem qzX (m:Nat→Bool) (n:Nat):wd m n<2 ^ n:=by
 induction n with
 |zero=>simp[wd]
 | succ n ih=>
   rw[wd]
   refine Nat.or_lt_two_pow (Nat.lt_of_lt_of_le ih (Nat.pow_le_pow_right o_ o_)) ?_
   split
   · exact Nat.pow_lt_pow_right o_ o_
   · exact Nat.two_pow_pos _
def word (m:Nat→Bool) (i:Nat):Nat:=wd (fun b=>m (64 *i+b)) 64
theorem word_lt (m:Nat→Bool) (i:Nat):word m i<18446744073709551616:=qzX _ 64
theorem xK (m:Nat→Bool) (i b:Nat) (hb:b<64):(word m i).testBit b=m (64 *i+b):=by rw[word,qqJ];simp[hb]
theorem kZ {m:Nat→Bool} {i x:Nat} (hx:x<18446744073709551616) (h: ∀b,b<64→x.testBit b=m (64 *i+b)):x=word m i:=by
 refine Nat.eq_of_testBit_eq fun b=>?_
 by_cases hb:b<64
 · rw[h b hb,xK m i b hb]
 · rw[Nat.testBit_lt_two_pow (Nat.lt_of_lt_of_le (show x<2 ^ 64 from hx) (Nat.pow_le_pow_right o_ o_)),
    Nat.testBit_lt_two_pow (Nat.lt_of_lt_of_le (show word m i<2 ^ 64 from word_lt m i) (Nat.pow_le_pow_right o_ o_))]
def zK (m:Nat→Bool):List V:=(List.range 16).map fun i=>V.int .u64 (word m i:Int)
abbrev Ze (m:Nat→Bool):V:= .agg (zK m)
theorem jh (m:Nat→Bool) {i:Nat} (h:i<16):(zK m)[i]?=some (.int .u64 (word m i:Int)):=by simp[zK,h]
theorem zb (m:Nat→Bool):(zK m).length=16:=by simp[zK]
theorem qcD (i:Nat):word (fun _=>false) i=0:=(kZ (by decide) (fun b _=>by simp)).symm
theorem vz:zK (fun _=>false)=[.int .u64 0,.int .u64 0,.int .u64 0,.int .u64 0,.int .u64 0,.int .u64 0,.int .u64 0,.int .u64 0,.int .u64 0,.int .u64 0,.int .u64 0,.int .u64 0,.int .u64 0,.int .u64 0,.int .u64 0,.int .u64 0]:=by
 unfold zK
 simp only[qcD]
 rfl
theorem qbH (m:Nat→Bool) {x:Nat} (h:x<1024):
 (zK m).set (x / 64) (.int .u64 ((word m (x / 64) ||| 2 ^ (x % 64):Nat):Int))=zK (fun y=>m y || decide (y=x)):=by
 refine List.ext_getElem? fun i=>?_
 rw[List.getElem?_set]
 by_cases hi:i<16
 · rw[jh _ hi,jh _ hi,zb]
   split
   · rename_i e
     rw[if_pos o_]
     congr 3
     subst e
     refine kZ (Nat.or_lt_two_pow (n:=64) (word_lt m _) (Nat.pow_lt_pow_right o_ (Nat.mod_lt _ o_))) fun b hb=>?_
     rw[Nat.testBit_or,xK _ _ _ hb,Nat.testBit_two_pow]
     congr 1
     rw[decide_eq_decide];omega
   · rename_i e
     congr 3
     refine kZ (word_lt m i) fun b hb=>?_
     rw[xK _ _ _ hb]
     have: ¬ (64 *i+b=x):=o_
     simp[this]
 · rw[if_neg o_,List.getElem?_eq_none (by rw[zb];omega),List.getElem?_eq_none (by rw[zb];omega)]
theorem Yp (n:Nat) (h:n<1024):IntKind.i64.wrap ((n:Int).tdiv 64)=((n / 64:Nat):Int):=by
 rw[Int.tdiv_eq_ediv_of_nonneg o_,wrap64 o_ o_];simp
theorem Yt (n:Nat):(n:Int).tmod 64=((n % 64:Nat):Int):=by
 rw[Int.tmod_eq_emod_of_nonneg o_];simp
def JZ (l:List Int) (y:Nat):Bool:=decide (y<1024) && decide ((y:Int)∈l)
theorem qan:JZ []=fun _=>false:=by funext y;simp[JZ]
theorem qbU {l:List Int} (hl:l.length<4611686018427387904):Pure Tryd.prog 30 [ints l] (Ze (JZ l)):=by
 refine pure_intro Tryd.func30 nm_ qwN (by show 1≤27;decide) ?_
 show ewp _ qf1 _ _
 repeat' with_reducible first
  |refine s_ ?_
  |simp -implicitDefEqProofs only[ZK,ZH,ZM,ZN,Yl,Q8,QN,QW,yZ,Zb,QY,vD,vM,YK,Q7,yX,vQ,xL,QX,X4,qch,zq,zm,xh,V6,xS,qdH,QF,Zc,ve,jS,List.length_cons,List.length_nil,Nat.reduceAdd,Nat.zero_add,Nat.add_zero,XZ,YJ,Yq,YA,Yd,Ya,X0,YM,Yg,YD,XW,XR,X3,Q5,vw,vF,List.length_map,zw,Bool.false_eq_true,Int.reduceEq,zq,zm,zN,zW,zV,zY,zS,zX,qV,jD,seval,qax]
 refine VI (fun(k:Nat) s=>k≤l.length∧s.f 6=ints l∧s.f 7=vi l.length∧s.f 8=vi k∧s.f 2=.ptr 0 0 0∧s.f 3=.ptr 1 0 0∧s.H 0=some (.own 16 [.agg (zK fun _=>false)] false)∧s.H 1=some (.own 16 [Ze (JZ (l.take k))] false)) (fun k=>l.length - k) 0 ?_ ?_
 · simp only[V6,xS,xh,zm,jD,zq,zN,Nat.reduceEqDiff,↓reduceIte,Nat.zero_le,List.take_zero,qan,vz]
   exact⟨trivial,trivial,trivial,rfl,trivial,trivial,trivial,(by show _=some (MObj.own 16 [.agg (zK fun _=>false)] false);rw[vz])⟩
 intro k s ⟨hk,h6,h7,h8,h2,h3,hH0,hH1⟩
 by_cases hlt:k<l.length
 · have ea:l[k]?=some l[k]:=ge_ hlt
   have et:l.take (k+1)=l.take k++[l[k]]:=by rw[List.take_add_one,ea];rfl
   generalize l[k]=x at ea et
   by_cases hx:0≤x∧x<1024
   · obtain ⟨n,rfl⟩: ∃n:Nat,x=n:=⟨x.toNat,o_⟩
     have hn:n<1024:=o_
     have hd:n / 64<16:=o_
     have hm:n % 64<64:=o_
     have hp:2 ^ (n % 64)<18446744073709551616:=(Nat.pow_lt_pow_right o_ hm:2 ^ (n % 64)<2 ^ 64)
     repeat' with_reducible first
      |refine zI ?_ |refine jR ?_ |refine vK ?_ |refine vG ?_ |refine jy ?_ |refine qcj ?_ |refine qgZ ?_
      |(refine Jr (by simp -implicitDefEqProofs only[X4,zq,zm,zN,zW,zV,zY,zS,zX,qV,jD,seval,h2,h3,h6,h7,h8,Yv,jv,Vb (yh ea),X7,Xa,Qi,Qj,yB hd,Yp n hn,Yt n,Nat.mul_one,qb2 hm,add1 (show k<4611686018427387904 by omega),hH1,hH0,xg]<;>rfl) (fun h=>?_) (fun h=>?_)<;>(try simp only[Bool.not_false,Bool.not_true,Bool.not_eq_true',Bool.not_eq_false',Bool.true_eq_false,Bool.false_eq_true,reduceCtorEq]at h)<;>(try(exfalso;simp only[decide_eq_true_eq,decide_eq_false_iff_not]at h;omega))<;>(try simp only[h]))
      |refine Yw (by simp -implicitDefEqProofs only[X4,qch,zq,zm,zN,zW,zV,zY,zS,zX,qV,jD,seval,h2,h3,h6,h7,h8,Yv,jv,Vb (yh ea),X7,Xa,Qi,Qj,yB hd,Yp n hn,Yt n,Nat.mul_one,qb2 hm,add1 (show k<4611686018427387904 by omega),hH1,hH0,xg]<;>rfl) (qaG rfl) (Jc) ?_
      |refine jE (qdq (by simp -implicitDefEqProofs only[V6,xS,xh,jS,zq,zm,zN,zW,zV,zY,zS,zX,qV,jD,seval,h2,h3,h6,h7,h8,Yv,jv,Vb (yh ea),X7,Xa,Qi,Qj,yB hd,Yp n hn,Yt n,Nat.mul_one,qb2 hm,add1 (show k<4611686018427387904 by omega),hH1,hH0,xg]<;>rfl) (Or.inr trivial) (jh _ hd)) ?_
      |refine jE (qCj (word_lt _ _) hp) ?_
      |refine jE (qeC (by simp -implicitDefEqProofs only[V6,xS,xh,jS,zq,zm,zN,zW,zV,zY,zS,zX,qV,jD,seval,h2,h3,h6,h7,h8,Yv,jv,Vb (yh ea),X7,Xa,Qi,Qj,yB hd,Yp n hn,Yt n,Nat.mul_one,qb2 hm,add1 (show k<4611686018427387904 by omega),hH1,hH0,xg]<;>rfl) rfl rfl rfl (by rw[zb];exact hd)) ?_
      |simp -implicitDefEqProofs only[ZK,ZH,ZM,ZN,Yl,Q8,QN,QW,yZ,Zb,QY,vD,vM,YK,Q7,yX,vQ,xL,QX,X4,qch,zq,zm,xh,V6,xS,qdH,QF,Zc,ve,jS,List.length_cons,List.length_nil,Nat.reduceAdd,Nat.zero_add,Nat.add_zero,XZ,YJ,Yq,YA,Yd,Ya,X0,YM,Yg,YD,XW,XR,X3,Q5,vw,vF,List.length_map,zw,Bool.false_eq_true,Int.reduceEq,zq,zm,zN,zW,zV,zY,zS,zX,qV,jD,seval,h2,h3,h6,h7,h8,Yv,jv,Vb (yh ea),X7,Xa,Qi,Qj,yB hd,Yp n hn,Yt n,Nat.mul_one,qb2 hm,add1 (show k<4611686018427387904 by omega),hH1,hH0,xg]
     · refine⟨k+1,o_,o_,trivial,trivial,rfl,trivial,trivial,trivial,?_⟩
       rw[qbH _ hn,et]
       have hs:(fun y=>JZ (l.take k) y || decide (y=n))=JZ (l.take k++[(n:Int)]):=by
        funext y
        unfold JZ
        by_cases hy:y<1024
        · have e:decide ((y:Int)=(n:Int))=decide (y=n):=by rw[decide_eq_decide];omega
          simp only[hy,decide_true,Bool.true_and,List.mem_append,List.mem_singleton,Bool.decide_or,e]
        · have: ¬ y=n:=o_
          simp[hy,this]
       rw[hs]
     · exfalso;simp at h;omega
   · have hs:JZ (l.take (k+1))=JZ (l.take k):=by
      funext y
      rw[et];unfold JZ
      by_cases hy:y<1024
      · have: ¬ ((y:Int)=x):=o_
        simp[this]
      · simp[hy]
     repeat' with_reducible first
      |refine zI ?_ |refine jR ?_ |refine vK ?_ |refine vG ?_ |refine jy ?_ |refine qcj ?_ |refine qgZ ?_
      |(refine Jr (by simp -implicitDefEqProofs only[X4,zq,zm,zN,zW,zV,zY,zS,zX,qV,jD,seval,h2,h3,h6,h7,h8,Yv,jv,Vb (yh ea),X7,add1 (show k<4611686018427387904 by omega)]<;>rfl) (fun h=>?_) (fun h=>?_)<;>(try simp only[Bool.not_false,Bool.not_true,Bool.not_eq_true',Bool.not_eq_false',Bool.true_eq_false,Bool.false_eq_true,reduceCtorEq]at h)<;>(try(exfalso;simp only[decide_eq_true_eq,decide_eq_false_iff_not]at h;omega))<;>(try simp only[h]))
      |refine Yw (by simp -implicitDefEqProofs only[X4,qch,zq,zm,zN,zW,zV,zY,zS,zX,qV,jD,seval,h2,h3,h6,h7,h8,Yv,jv,Vb (yh ea),X7,add1 (show k<4611686018427387904 by omega)]<;>rfl) (qaG rfl) (Jc) ?_
      |simp -implicitDefEqProofs only[ZK,ZH,ZM,ZN,Yl,Q8,QN,QW,yZ,Zb,QY,vD,vM,YK,Q7,yX,vQ,xL,QX,X4,qch,zq,zm,xh,V6,xS,qdH,QF,Zc,ve,jS,List.length_cons,List.length_nil,Nat.reduceAdd,Nat.zero_add,Nat.add_zero,XZ,YJ,Yq,YA,Yd,Ya,X0,YM,Yg,YD,XW,XR,X3,Q5,vw,vF,List.length_map,zw,Bool.false_eq_true,Int.reduceEq,zq,zm,zN,zW,zV,zY,zS,zX,qV,jD,seval,h2,h3,h6,h7,h8,Yv,jv,Vb (yh ea),X7,add1 (show k<4611686018427387904 by omega)]
     · exfalso;simp at h;omega
     · exact⟨k+1,o_,o_,trivial,trivial,rfl,trivial,trivial,hH0,by rw[hs];exact hH1⟩
 · repeat' with_reducible first
    |refine zI ?_ |refine jR ?_ |refine Zj ?_ |refine kV ?_ |refine qcj ?_ |refine qi7 ?_ |refine qi6 ?_
    |(refine Jr (by simp -implicitDefEqProofs only[X4,zq,zm,zN,zW,zV,zY,zS,zX,qV,jD,seval,h2,h3,h6,h7,h8,hH0,hH1,jv,xg]<;>rfl) (fun h=>?_) (fun h=>?_)<;>(try simp only[Bool.not_false,Bool.not_true,Bool.not_eq_true',Bool.not_eq_false',Bool.true_eq_false,Bool.false_eq_true,reduceCtorEq]at h)<;>(try(exfalso;simp only[decide_eq_true_eq,decide_eq_false_iff_not]at h;omega))<;>(try simp only[h]))
    |refine jE (Yi (by simp -implicitDefEqProofs only[V6,xS,xh,jS,zq,zm,zN,zW,zV,zY,zS,zX,qV,jD,seval,h2,h3,h6,h7,h8,hH0,hH1,jv,xg]<;>rfl)) ?_
    |refine jE (qcA (by simp -implicitDefEqProofs only[V6,xS,xh,jS,zq,zm,zN,zW,zV,zY,zS,zX,qV,jD,seval,h2,h3,h6,h7,h8,hH0,hH1,jv,xg]<;>rfl) rfl (zb _)) ?_
    |simp -implicitDefEqProofs only[ZK,ZH,ZM,ZN,Yl,Q8,QN,QW,yZ,Zb,QY,vD,vM,YK,Q7,yX,vQ,xL,QX,X4,qch,zq,zm,xh,V6,xS,qdH,QF,Zc,ve,jS,List.length_cons,List.length_nil,Nat.reduceAdd,Nat.zero_add,Nat.add_zero,XZ,YJ,Yq,YA,Yd,Ya,X0,YM,Yg,YD,XW,XR,X3,Q5,vw,vF,List.length_map,zw,Bool.false_eq_true,Int.reduceEq,zq,zm,zN,zW,zV,zY,zS,zX,qV,jD,seval,h2,h3,h6,h7,h8,hH0,hH1,jv,xg]
   rw[List.take_of_length_le o_]
   refine qo8 (t:=2) rfl (Or.inr rfl) (v:=Ze (JZ l)) ?_ (qvp fun x hx=>?_)
   · simp only[qV,jD,zq,zm,h2,Nat.reduceEqDiff,↓reduceIte]
     refine Yi (ro:=false) ?_
     simp only[V6,xh,↓reduceIte]
   · obtain ⟨i,_,rfl⟩:=List.mem_map.1 hx
     exact .int _ _

instance (m:Nat→Bool):Cls' (zK m):=inferInstanceAs (Cls' (List.map _ _))
theorem qbI {m m':Nat→Bool} {i x:Nat} (hi:i<16) (hx:x<18446744073709551616) (h1: ∀b,b<64→x.testBit b=m' (64 *i+b)) (h2: ∀y,y / 64≠i→m' y=m y):
 (zK m).set i (.int .u64 (x:Int))=zK m':=by
 refine List.ext_getElem? fun j=>?_
 rw[List.getElem?_set]
 by_cases hj:j<16
 · rw[jh _ hj,jh _ hj,zb]
   split
   · rename_i e
     subst e
     rw[kZ hx h1]
   · rename_i e
     have:word m j=word m' j:=kZ (word_lt m j) fun b hb=>by rw[xK _ _ _ hb,h2 _ o_]
     rw[this]
 · rw[if_neg o_,List.getElem?_eq_none (by rw[zb];omega),List.getElem?_eq_none (by rw[zb];omega)]
theorem qdS {m m':Nat→Bool} (h: ∀y,y<1024→m y=m' y):Ze m=Ze m':=by
 have e:zK m=zK m':=by
  refine List.ext_getElem? fun j=>?_
  by_cases hj:j<16
  · have:word m j=word m' j:=kZ (word_lt m j) fun b hb=>by rw[xK _ _ _ hb,h _ o_]
    rw[jh _ hj,jh _ hj,this]
  · rw[List.getElem?_eq_none (by rw[zb];omega),List.getElem?_eq_none (by rw[zb];omega)]
 show V.agg _=V.agg _
 rw[e]
theorem qgT {b:Bool} {H:Nat→Option MObj} {m m':Nat→Bool} (h: ∀y,y<1024→m y=m' y):Er b H (Ze m) (Ze m'):=qAi (qdS h)
theorem KX {a b:Nat→Bool}:Pure Tryd.prog 29 [Ze a,Ze b] (Ze (fun y=>a y || b y)):=by
 refine pure_intro Tryd.func29 nm_ qkL (by show 2≤22;decide) ?_
 show ewp _ qe4 _ _
 repeat' with_reducible first
  |refine s_ ?_
  |simp -implicitDefEqProofs only[wZZ,seval]
  |apply qcN;with_unfolding_all exact zb _;exact wu_
 refine qw ?nx1 (fun(k:Nat) s=>s.f 2=?v1_2∧s.f 3=?v1_3∧s.f 4=?v1_4∧s.H 1=some (.own 16 [Ze b] false)∧s.H 2=?o1_1∧s.f 6=vi k∧(k≤16)∧(s.H 0=some (.own 16 [Ze (fun y=>if y<64 *k then a y || b y else a y)] false))) (fun k=>16 - k) (0) wj_ (by refine⟨?_,?_,?_,?_,?_,?_,wo_,(by(try simp -implicitDefEqProofs only[wL,wM,wN,seval]);first|rfl|(simp;done))⟩<;>first|(simp -implicitDefEqProofs only[wL,wM,wN,wX,seval,Option.some.injEq]<;>exact wt_)|rfl|exact⟨_,rfl⟩) ?_
 intro k s hnx ⟨g2,g3,g4,o0,o1,g6,k1_0,o100⟩
 by_cases hk:k<16
 · repeat' with_reducible first
    |refine s_ ?_
    |simp -implicitDefEqProofs only[wZZ,seval,g2,g3,g4,g6,o0,o1,o100]
    |apply qc<;>intro h h_<;>(try simp only[wD,reduceCtorEq]at h_)<;>(try exact wb_)<;>(try simp only[h])
    |apply qeh;omega
    |apply qaK;exact jh _ o_
    |refine jE (qCj (word_lt _ _) (word_lt _ _)) ?_
    |apply qaJ;exact wu_;exact wu_;exact wu_;(focus(rw[zb];omega))
    |simp -implicitDefEqProofs (disch:=omega) only[w64,if_neg]
   refine⟨wk_,k+1,o_,?_⟩
   refine⟨?_,?_,?_,?_,?_,?_,?_,?_⟩
   iterate 6 (focus(first|(simp -implicitDefEqProofs only[wL,wM,wN,wX,seval,Option.some.injEq,g2,g3,g4,g6,o0,o1,o100]<;>exact wt_)|rfl|exact⟨_,rfl⟩))
   all_goals try omega
   all_goals try simp -implicitDefEqProofs only[wL,wM,wN,wX,seval,g2,g3,g4,g6,o0,o1,o100]
   rw[qbI (m':=fun y=>if y<64 *(k+1)then a y || b y else a y) hk]
   · exact Nat.or_lt_two_pow (n:=64) (word_lt _ _) (word_lt _ _)
   · intro y hy
     rw[Nat.testBit_or,xK _ _ _ hy,xK _ _ _ hy]
     have e1: ¬ (64 *k+y<64 *k):=o_
     have e2:64 *k+y<64 *(k+1):=o_
     simp[e1,e2]
   · intro y hy
     by_cases hl:y<64 *k
     · have e2:y<64 *(k+1):=o_
       simp[hl,e2]
     · have e2: ¬ y<64 *(k+1):=o_
       simp[hl,e2]
 · obtain rfl:k=16:=o_
   repeat' with_reducible first
    |refine s_ ?_
    |simp -implicitDefEqProofs only[wZZ,seval,g2,g3,g4,g6,o0,o1,o100]
    |refine t_ ?_
    |apply V7;exact wu_;exact zb _
   refine qo8 (t:=4) rfl (Or.inr rfl) (v:=Ze (fun y=>if y<64 *16 then a y || b y else a y)) ?_ (qgT ?_)
   · simp -implicitDefEqProofs only[wL,seval,g2,g3,g4,g6]
     refine Yi (ro:=false) ?_
     simp only[V6,xh,↓reduceIte]
   · intro y hy
     simp[show y<1024 from hy]

theorem qd5 {u:Nat} (h0:u≠0) (h:u<18446744073709551616):Lib.ctz 64 u<64∧u.testBit (Lib.ctz 64 u)=true∧(∀b,b<Lib.ctz 64 u→u.testBit b=false)∧1≤u∧
 ∀b,(u &&& (u - 1)).testBit b=(decide (b≠Lib.ctz 64 u) && u.testBit b):=by
 obtain ⟨m,hm,hk⟩:=Lib.ctzFrom_spec 64 u o_ h
 have e:Lib.ctz 64 u=Lib.ctzFrom 64 u:=by simp[Lib.ctz,h0]
 rw[e]
 generalize Lib.ctzFrom 64 u=t at hm hk
 have hb: ∀b,u.testBit b=if b<t then false else(2 *m+1).testBit (b - t):=by
  intro b
  have:=Nat.testBit_two_pow_mul_add (2 *m+1) (Nat.two_pow_pos t) b
  rw[Nat.add_zero,← hm]at this
  rw[this];simp
 have hp:1≤2 ^ t:=Nat.one_le_two_pow
 have hb': ∀b,(u - 1).testBit b=if b<t then true else(2 *m).testBit (b - t):=by
  intro b
  have hu:u - 1=2 ^ t *(2 *m)+(2 ^ t - 1):=by rw[hm,Nat.mul_add,Nat.mul_one];omega
  have:=Nat.testBit_two_pow_mul_add (2 *m) (show 2 ^ t - 1<2 ^ t by omega) b
  rw[← hu]at this
  rw[this]
  split
  · rw[Nat.testBit_two_pow_sub_one];simpa
  · rfl
 refine⟨hk,by rw[hb];simp,fun b hbt=>by rw[hb];simp[hbt],o_,fun b=>?_⟩
 rw[Nat.testBit_and,hb,hb']
 by_cases h1:b<t
 · simp[h1]
 · by_cases h2:b=t
   · subst h2;simp
   · obtain ⟨c,hc⟩: ∃c,b - t=c+1:=⟨b - t - 1,o_⟩
     simp only[h1,↓reduceIte,hc,Nat.testBit_succ]
     have e1:(2 *m+1) / 2=m:=o_
     have e2:2 *m / 2=m:=o_
     simp[h2,e1,e2]
theorem qhs {x y p q i k:Nat} {T:List V} (h0: ¬ (x:Int)=0) (hn:unV .neg (.int .u64 (x:Int))=some (.int .u64 (y:Int))) (hand:xw .and (.int .u64 (x:Int)) (.int .u64 (y:Int))=some (.int .u64 (p:Int))) (hmul:IntKind.u64.wrap ((p:Int) *285870213051353865)=(q:Int)) (hshr:xw .shr (.int .u64 (q:Int)) (.int .u64 58)=some (.int .u64 (i:Int))) (hi:i<64) (hT:Glob.G Tryd.prog 0=.iptr 64 (.agg T) 0) (hc:T[i]?=some (.int .u8 (k:Int))) (hk:k<64):Pure Tryd.prog 55 [.int .u64 (x:Int)] (vi (k:Int)):=by
 refine pure_intro Tryd.func55 nm_ qwo (by show 1≤14;decide) ?_
 show ewp _ qrc _ _
 repeat' with_reducible first
  |refine s_ ?_
  |simp -implicitDefEqProofs only[wZZ,seval,hn,hand,hmul,hshr,hT]
  |apply qc<;>intro h h_<;>(try simp only[wD,reduceCtorEq]at h_)<;>(try exact wb_)<;>(try simp only[h])
  |refine jE (qeA hi) ?_
  |refine jE (qja (by simpa using hc)) ?_
  |simp -implicitDefEqProofs (disch:=omega) only[w64,if_neg]
 refine qP rfl (Or.inr rfl) ?_
 simp -implicitDefEqProofs only[wL,seval]
 refine er_ ?_
 try(with_reducible rfl)
theorem p64:(2:Nat) ^ 64=18446744073709551616:=by decide
theorem p58:(2:Nat) ^ 58=288230376151711744:=by decide
theorem qqR (C:Nat) {x y p q i k M D c:Nat} (hM:M=18446744073709551616) (hD:D=288230376151711744) (hc:c=285870213051353865) (h0:x≠0) (hx:x<M) (hy:M - x=y) (hlow:x &&& y=p) (hq:p *c % M=q) (hi:q / D=i) (hi64:i<64) (hk:k<64)
 (htab:Lib.deBruijn64tab.getD i 0=k):Pure Tryd.prog 55 [.int .u64 (x:Int)] (vi (k:Int)):=by
 have hn:unV .neg (.int .u64 (x:Int))=some (.int .u64 (y:Int)):=by
  show some (V.int .u64 (IntKind.u64.wrap (0 - (x:Int))))=_
  rw[qeM];congr 2;omega
 have hand:=KY (x:=x) (y:=y) o_ o_
 rw[hlow]at hand
 have hmul:IntKind.u64.wrap ((p:Int) *285870213051353865)=(q:Int):=by
  rw[hc,hM]at hq
  rw[qeM];omega
 have hshr:=qcg (x:=q) (y:=58) o_
 rw[p58,← hD,hi]at hshr
 refine qhs (T:=Lib.deBruijn64tab.map fun(n:Nat)=>V.int .u8 (n:Int)) o_ hn hand hmul hshr hi64 rfl ?_ hk
 have hl:Lib.deBruijn64tab.length=64:=by decide
 rw[List.getD_eq_getElem?_getD,ge_ (by rw[hl];exact hi64)]at htab
 rw[List.getElem?_map,ge_ (by rw[hl];exact hi64)]
 simp only[Option.getD_some]at htab
 rw[htab];rfl
theorem yC {x:Nat} (h0:x≠0) (hx:x<18446744073709551616):Pure Tryd.prog 55 [.int .u64 (x:Int)] (vi (Lib.ctz 64 x)):=by
 have hx':x<2 ^ 64:=by rw[p64];exact hx
 have h:=Lib.lowest_bit 64 x h0 hx'
 rw[p64]at h
 have ht:=Lib.deBruijn64_at _ h.2
 exact qqR 0 (M:=18446744073709551616) (D:=288230376151711744) (c:=285870213051353865) rfl rfl rfl h0 hx rfl rfl rfl rfl (by rw[h.1];exact ht.1) h.2 (by rw[h.1];exact ht.2)

def lst (m:Nat→Bool) (n:Nat):List Int:=((List.range n).filter m).map Int.ofNat
theorem K4 (m:Nat→Bool) (n:Nat):(lst m n).length≤n:=by
 simp only[lst,List.length_map]
 exact Nat.le_trans (List.length_filter_le _ _) (by simp)
theorem YF {m:Nat→Bool} {n:Nat} {x:Int}:x∈lst m n↔ ∃y:Nat,y<n∧m y=true∧x=y:=by
 simp only[lst,List.mem_map,List.mem_filter,List.mem_range]
 constructor
 · rintro ⟨y,⟨h1,h2⟩,rfl⟩;exact⟨y,h1,h2,rfl⟩
 · rintro ⟨y,h1,h2,rfl⟩;exact⟨y,⟨h1,h2⟩,rfl⟩
theorem qaI {m:Nat→Bool} (a d:Nat) (h: ∀y,a≤y→y<a+d→m y=false):lst m (a+d)=lst m a:=by
 induction d with
 |zero=>rfl
 | succ d ih=>
   have e:lst m (a+(d+1))=lst m (a+d):=by
    unfold lst
    rw[← Nat.add_assoc,List.range_succ,List.filter_append]
    simp[h (a+d) o_ o_]
   rw[e,ih fun y h1 h2=>h y h1 o_]
theorem qin {m:Nat→Bool} {n:Nat} (h:m n=true):lst m (n+1)=lst m n++[(n:Int)]:=by
 unfold lst
 rw[List.range_succ,List.filter_append]
 simp[h]
theorem qsO {u:Nat} (h1:1≤u) (h2:u<18446744073709551616):IntKind.u64.wrap ((u:Int) - 1)=((u - 1:Nat):Int):=by
 rw[KA o_ o_];omega
theorem Yf {m:Nat→Bool}:Pure Tryd.prog 42 [Ze m] (ints (lst m 1024)):=by
 refine pure_intro Tryd.func42 nm_ qvK (by show 1≤28;decide) ?_
 show ewp _ qeZ _ _
 repeat' with_reducible first
  |refine s_ ?_
  |simp -implicitDefEqProofs only[wZZ,seval]
  |apply qcN;with_unfolding_all exact zb _;exact wu_
  |refine t_ ?_
 refine qw ?nx1 (fun(k:Nat) s=>s.f 7=?v1_7∧(∃v,s.f 3=v∧Gr s.H s.next 1 ((lst m (64 *k)).map (V.int .i64)) v)∧s.f 8=vi k∧(k≤16)) (fun k=>16 - k) (0) wj_ (by refine⟨?_,?_,?_,wo_⟩<;>first|(simp -implicitDefEqProofs only[wL,wM,wN,wX,seval,Option.some.injEq]<;>exact wt_)|rfl|exact⟨_,rfl⟩) ?_
 intro k s hnx ⟨g7,⟨v3,g3,G3⟩,g8,k1_0⟩
 by_cases hk:k<16
 · have hw :=word_lt m k
   have hlk:=K4 m (64 *k)
   repeat' with_reducible first
    |refine s_ ?_
    |simp -implicitDefEqProofs only[wZZ,seval,g7,g3,g8,G3.len]
    |apply qc<;>intro h h_<;>(try simp only[wD,reduceCtorEq]at h_)<;>(try exact wb_)<;>(try simp only[h])
    |refine jE (qBm o_ (jh _ o_)) ?_
   refine qw ?nx2 (fun(p:Nat×Nat) s=>s.f 4=?v2_4∧s.f 7=?v2_7∧s.f 8=?v2_8∧(∃v,s.f 3=v∧Gr s.H s.next 1 ((lst m (64 *k+p.1)).map (V.int .i64)) v)∧s.f 5=.int .u64 (p.2:Int)∧(p.1≤64)∧(p.2<18446744073709551616)∧((∀b,b<64→p.2.testBit b=(decide (p.1≤b) && m (64 *k+b))))) (fun p=>64 - p.1) ((0,word m k)) wj_ (by refine⟨?_,?_,?_,?_,?_,wo_,wo_,(by intro b hb;rw[xK _ _ _ hb];simp)⟩<;>first|(simp -implicitDefEqProofs only[wL,wM,wN,wX,seval,Option.some.injEq,g7,g3,g8]<;>first|rfl|exact⟨_,rfl⟩|exact⟨_,rfl,by first|assumption|exact Gr.nil|exact Gr.tok rfl o_|exact Gr.tok (by simp -implicitDefEqProofs only[wM,seval]<;>rfl) o_|exact Gr.clip|exact G3.to (by first|rfl|(simp[*];done)) o_ rfl⟩)|rfl|exact⟨_,rfl⟩) ?_
   intro p s hnx ⟨g4,g7,g8,⟨v3,g3,G3⟩,g5,k2_0,k2_1,k2_2⟩
   obtain ⟨c,u⟩:=p
   dsimp only at g5 G3 k2_0 k2_1 k2_2
   have hlc:=K4 m (64 *k+c)
   by_cases hu:u=0
   · have hn:lst m (64 *(k+1))=lst m (64 *k+c):=by
      have:=qaI (m:=m) (64 *k+c) (64 - c) (fun y h1 h2=>by
       have:=k2_2 (y - 64 *k) o_
       simp only[hu,Nat.zero_testBit]at this
       have e:64 *k+(y - 64 *k)=y:=o_
       rw[e]at this
       have h3:c≤y - 64 *k:=o_
       simpa[h3]using this.symm)
      rw[show 64 *k+c+(64 - c)=64 *(k+1) by omega]at this
      exact this
     subst hu
     repeat' with_reducible first
      |refine s_ ?_
      |simp -implicitDefEqProofs only[wZZ,seval,g4,g7,g8,g3,g5,G3.len]
      |simp -implicitDefEqProofs (disch:=omega) only[w64,if_neg]
     refine⟨wk_,k+1,o_,?_⟩
     refine⟨?_,?_,?_,?_⟩
     iterate 3 (focus(first|(simp -implicitDefEqProofs only[wL,wM,wN,wX,seval,Option.some.injEq,g4,g7,g8,g3,g5,hn]<;>first|rfl|exact⟨_,rfl⟩|exact⟨_,rfl,by first|assumption|exact Gr.nil|exact Gr.tok rfl o_|exact Gr.tok (by simp -implicitDefEqProofs only[wM,seval]<;>rfl) o_|exact Gr.clip|exact G3.to (by first|rfl|(simp[*];done)) o_ rfl⟩)|rfl|exact⟨_,rfl⟩))
     all_goals try omega
   · have ht:=qd5 hu k2_1
     generalize hT:Lib.ctz 64 u=t at ht
     obtain ⟨t1,t2,t3,t4,t5⟩:=ht
     have hc:c≤t:=by
      rcases Nat.lt_or_ge t c with h|h
      · have:=k2_2 t t1
        rw[t2]at this
        simp[Nat.not_le.2 h]at this
      · exact h
     have hmt:m (64 *k+t)=true:=by
      have:=k2_2 t t1
      rw[t2]at this
      simpa[hc]using this.symm
     have hn:lst m (64 *k+(t+1))=lst m (64 *k+c)++[((64 *k+t:Nat):Int)]:=by
      rw[← Nat.add_assoc,qin hmt]
      congr 1
      have:=qaI (m:=m) (64 *k+c) (t - c) (fun y h1 h2=>by
       have:=k2_2 (y - 64 *k) o_
       rw[t3 _ o_]at this
       have e:64 *k+(y - 64 *k)=y:=o_
       rw[e]at this
       have h3:c≤y - 64 *k:=o_
       simpa[h3]using this.symm)
      rw[show 64 *k+c+(t - c)=64 *k+t by omega]at this
      exact this
     have hlt:(u &&& (u - 1))<18446744073709551616:=Nat.and_lt_two_pow (n:=64) _ o_
     have hz:((k:Int) *64+(t:Int))=((64 *k+t:Nat):Int):=o_
     have hsub:=qsO t4 k2_1
     repeat' with_reducible first
      |refine s_ ?_
      |simp -implicitDefEqProofs only[wZZ,seval,g4,g7,g8,g3,g5,hT,hz,hsub,G3.len]
      |apply qc<;>intro h h_<;>(try simp only[wD,reduceCtorEq]at h_)<;>(try exact wb_)<;>(try simp only[h])
      |refine jE (KY o_ o_) ?_
      |apply zy (hg:=G3);(focus(first|rfl|(simp -implicitDefEqProofs only[wM];done)));(focus(first|exact qd.sl|exact qd.asl|exact qd.gr G3|exact qd.str));exact wf_;(focus(unfold maxLen;first|omega|(simp only[wZ]<;>omega)))
      |apply qN (hp:=yC ?_ ?_);(focus(first|exact zx|exact qI|exact jW|exact zZ|exact G3.er rfl));rotate_left;exact wf_;exact wf_
      |simp -implicitDefEqProofs (disch:=omega) only[w64,if_neg]
     refine⟨wk_,(t+1,u &&& (u - 1)),o_,?_⟩
     refine⟨?_,?_,?_,?_,?_,?_,?_,?_⟩
     iterate 5 (focus(first|(simp -implicitDefEqProofs only[wL,wM,wN,wX,seval,Option.some.injEq,g4,g7,g8,g3,g5,hn]<;>first|rfl|exact⟨_,rfl⟩|exact⟨_,rfl,by first|assumption|exact Gr.nil|exact Gr.tok rfl o_|exact Gr.tok (by simp -implicitDefEqProofs only[wM,seval]<;>rfl) o_|exact Gr.clip|exact G3.to (by first|rfl|(simp[*];done)) o_ rfl⟩)|rfl|exact⟨_,rfl⟩))
     all_goals try omega
     · intro b hb
       rw[t5,k2_2 b hb]
       by_cases h1:b=t
       · subst h1;simp;omega
       · by_cases h2:t+1≤b
         · simp[h1,h2,show c≤b by omega]
         · have h3:=t3 b o_
           rw[k2_2 b hb]at h3
           simp[h1,h2,h3]
 · skip
   obtain rfl:k=16:=o_
   repeat' with_reducible first
    |refine s_ ?_
    |simp -implicitDefEqProofs only[wZZ,seval,g7,g3,g8,G3.len]
   refine qP rfl (Or.inr rfl) ?_
   simp -implicitDefEqProofs only[wL,seval,g7,g3,g8]
   first|refine er_ ?_ |refine G3.er ?_
   try(with_reducible rfl)

abbrev Jf (l:List Int):Prop:=l.Pairwise (· < ·)
theorem YN: ∀{a b:List Int},Jf a→Jf b→(∀x,x∈a↔x∈b)→a=b
 |[],[],_,_,_=>rfl
 |[],y::b,_,_,h=>absurd ((h y).2 (List.mem_cons_self ..)) (by simp)
 |x::a,[],_,_,h=>absurd ((h x).1 (List.mem_cons_self ..)) (by simp)
 | x ::a,y::b,ha,hb,h=>by
   have ha':=List.pairwise_cons.1 ha
   have hb':=List.pairwise_cons.1 hb
   have hxy:x=y:=by
    have h1:=(h x).1 (List.mem_cons_self ..)
    have h2:=(h y).2 (List.mem_cons_self ..)
    rcases List.mem_cons.1 h1 with e|e
    · exact e
    · rcases List.mem_cons.1 h2 with e2|e2
      · exact e2.symm
      · have:=hb'.1 x e;have:=ha'.1 y e2;omega
   subst hxy
   congr 1
   refine YN ha'.2 hb'.2 fun z=>?_
   have hz:=h z
   simp only[List.mem_cons]at hz
   constructor
   · intro hm
     rcases hz.1 (Or.inr hm)with e|e
     · subst e;have:=ha'.1 z hm;omega
     · exact e
   · intro hm
     rcases hz.2 (Or.inr hm)with e|e
     · subst e;have:=hb'.1 z hm;omega
     · exact e
theorem qg6 (l:List Int) (x:Int) (n:Nat): ∀i,Xb l x n≤i→i<n→x<l.getD i 0:=by
 induction n with
 |zero=>intro i _ h;omega
 | succ n ih=>
   intro i h1 h2
   rw[V3]at h1
   split at h1
   · rename_i hlt
     by_cases hi:i=n
     · subst hi;exact hlt
     · exact ih i h1 o_
   · omega
theorem qgj (l:List Int) (x:Int) (n:Nat):0<Xb l x n→l.getD (Xb l x n - 1) 0≤x:=by
 induction n with
 |zero=>intro h;simp[Xb]at h
 | succ n ih=>
   rw[V3]
   split
   · exact ih
   · rename_i h;intro _;simpa using h
theorem qaB {l:List Int} {x y:Int}:y∈qaM l x↔y∈l∨y=x:=by
 have hk:=KP l x l.length
 unfold qaM
 split
 · rename_i h
   constructor
   · exact Or.inl
   · rintro (h1|h1)
     · exact h1
     · subst h1
       rw[← h.2,getD_eq o_]
       exact List.getElem_mem _
 · have e: ∀y,y∈l↔y∈l.take (Xb l x l.length)∨y∈l.drop (Xb l x l.length):=by
    intro y
    conv=>lhs;rw[← List.take_append_drop (Xb l x l.length) l]
    rw[List.mem_append]
   simp only[List.mem_append,List.mem_singleton,e y]
   constructor
   · rintro ((h|h)|h)
     · exact Or.inl (Or.inl h)
     · exact Or.inr h
     · exact Or.inl (Or.inr h)
   · rintro ((h|h)|h)
     · exact Or.inl (Or.inl h)
     · exact Or.inr h
     · exact Or.inl (Or.inr h)
theorem qej {l:List Int} (h:Jf l) {i j:Nat} (hij:i<j) (hj:j<l.length):l.getD i 0<l.getD j 0:=by
 rw[getD_eq o_,getD_eq hj]
 exact(List.pairwise_iff_getElem.1 h) i j o_ hj hij
theorem Y6 {l:List Int} {x:Int} (h:Jf l):Jf (qaM l x):=by
 have hk:=KP l x l.length
 have hhi:=qg6 l x l.length
 have hlo:=qgj l x l.length
 unfold qaM
 split
 · exact h
 · rename_i hn
   generalize Xb l x l.length=k at *
   have h1: ∀y∈l.take k,y<x:=by
    intro y hy
    obtain ⟨i,hi,rfl⟩:=List.getElem_of_mem hy
    simp only[List.length_take]at hi
    rw[List.getElem_take,← getD_eq o_]
    have h0:=hlo o_
    have hne:l.getD (k - 1) 0≠x:=fun e=>hn ⟨o_,e⟩
    by_cases hik:i=k - 1
    · subst hik;omega
    · have:=qej h (show i<k - 1 by omega) o_;omega
   have h2: ∀y∈l.drop k,x<y:=by
    intro y hy
    obtain ⟨i,hi,rfl⟩:=List.getElem_of_mem hy
    simp only[List.length_drop]at hi
    rw[List.getElem_drop,← getD_eq o_]
    exact hhi (k+i) o_ o_
   rw[Jf,List.append_assoc,List.pairwise_append]
   refine⟨h.sublist (List.take_sublist _ _),?_,?_⟩
   · rw[List.singleton_append,List.pairwise_cons]
     exact⟨h2,h.sublist (List.drop_sublist _ _)⟩
   · intro a ha b hb
     have h3:=h1 a ha
     rw[List.singleton_append]at hb
     rcases List.mem_cons.1 hb with e|e
     · subst e;exact h3
     · have:=h2 b e;omega
theorem qar (m:Nat→Bool) (n:Nat):Jf (lst m n):=by
 unfold lst Jf
 rw[List.pairwise_map]
 refine List.Pairwise.imp (fun h=>?_) ((List.pairwise_lt_range (n:=n)).filter _)
 exact Int.ofNat_lt.2 h

structure Sym where
 name:List UInt8:=[]
 lit:Bool:=false
 num:Int:=0
 at_:Int:=0
 deriving DecidableEq,Inhabited
structure Part where
 sym:Sym:={}
 code:List UInt8:=[]
 at_:Int:=0
 deriving DecidableEq,Inhabited
structure Alt where
 parts:List Part:=[]
 prec:Sym:={}
 at_:Int:=0
 deriving DecidableEq,Inhabited
structure Rule where
 left:List UInt8:=[]
 alts:List Alt:=[]
 at_:Int:=0
 deriving DecidableEq,Inhabited
structure Decl where
 kind:Int:=0
 tag:List UInt8:=[]
 syms:List Sym:=[]
 at_:Int:=0
 deriving DecidableEq,Inhabited
structure Source where
 pro:List UInt8:=[]
 decls:List Decl:=[]
 rules:List Rule:=[]
 tail:List UInt8:=[]
 deriving DecidableEq,Inhabited
@[reducible] def Sym.V (x:Sym):V:= .agg [.str x.name,.bool x.lit,vi x.num,vi x.at_]
@[reducible] def Part.V (x:Part):V:= .agg [.str x.sym.name,.bool x.sym.lit,vi x.sym.num,vi x.sym.at_,.str x.code,vi x.at_]
@[reducible] def Alt.V (x:Alt):V:= .agg [.sl 6 false (x.parts.map Part.V),.str x.prec.name,.bool x.prec.lit,vi x.prec.num,vi x.prec.at_,vi x.at_]
@[reducible] def Rule.V (x:Rule):V:= .agg [.str x.left,.sl 6 false (x.alts.map Alt.V),vi x.at_]
@[reducible] def Decl.V (x:Decl):V:= .agg [vi x.kind,.str x.tag,.sl 4 false (x.syms.map Sym.V),vi x.at_]
@[reducible] def Source.V (x:Source):V:= .agg [.str x.pro,.sl 4 false (x.decls.map Decl.V),.sl 3 false (x.rules.map Rule.V),.str x.tail]
theorem Vg {i n:Int} (hn:0<n) (h:n≤4611686018427387904):(if i.tmod n<0 then IntKind.i64.wrap (i.tmod n+n)else i.tmod n)=i % n:=by
 have h1:=Int.tmod_lt_of_pos i hn
 have h2: - n<i.tmod n:=by
  have:=Int.tmod_lt_of_pos (-i) hn
  rw[Int.neg_tmod]at this;omega
 have e:i.tmod n=i % n∨i.tmod n+n=i % n:=by
  rw[Int.tmod_eq_emod]
  have:=Int.emod_lt_of_pos i hn
  have:=Int.emod_nonneg i (show n≠0 by omega)
  split
  · left;omega
  · right;omega
 have h3:=Int.emod_nonneg i (show n≠0 by omega)
 have h4:=Int.emod_lt_of_pos i hn
 split
 · rw[wrap64 o_ o_];omega
 · omega
theorem jH {i n:Int} (hn:0<n) (hm:n≤4611686018427387904):Pure Tryd.prog 13 [vi i,vi n] (vi (i % n)):=by
 refine pure_intro Tryd.func13 nm_ qud (by show 2≤15;decide) ?_
 show ewp _ qfC _ _
 have e:=Vg (i:=i) hn hm
 by_cases h:i.tmod n<0
 · rw[if_pos h]at e
   have hne: ¬ (n=0):=o_
   repeat' with_reducible first
    |refine s_ ?_
    |simp only[wZZ,seval,hne,e]
    |apply qc<;>intro h h_<;>(try simp only[wD,reduceCtorEq]at h_)<;>(try exact wb_)<;>(try simp only[h])
   refine qP rfl (Or.inr rfl) ?_
   simp only[wL,seval]
   refine er_ ?_
   try(with_reducible rfl)
 · rw[if_neg h]at e
   have hne: ¬ (n=0):=o_
   repeat' with_reducible first
    |refine s_ ?_
    |simp only[wZZ,seval,hne,e]
    |apply qc<;>intro h h_<;>(try simp only[wD,reduceCtorEq]at h_)<;>(try exact wb_)<;>(try simp only[h])
   refine qP rfl (Or.inr rfl) ?_
   simp only[wL,seval]
   refine er_ ?_
   try(with_reducible rfl)

def Yb (c:UInt8):Bool:=(decide (97≤c.toNat) && decide (c.toNat≤122)) || (decide (65≤c.toNat) && decide (c.toNat≤90)) || decide (c.toNat=95)
def qaO (c:UInt8):Bool:=decide (48≤c.toNat) && decide (c.toNat≤57)
theorem ZW {c:UInt8}:Pure Tryd.prog 75 [.int .u8 c.toNat] (.bool (Yb c)):=by
 refine pure_intro Tryd.func75 nm_ qjH (by show 1≤21;decide) ?_
 show ewp _ qsd _ _
 repeat' with_reducible first
  |refine s_ ?_
  |simp only[wZZ,seval]
  |(first|apply zu|apply zo)<;>intro h h_<;>(try simp only[wD,reduceCtorEq]at h_)<;>(try exact wb_)<;>(try simp only[h])
 all_goals refine qP rfl (Or.inr rfl) ?_
 all_goals(try simp only[wL,seval])
 all_goals refine er_ ?_
 all_goals(try(with_reducible rfl))
 all_goals(rw[Bool.eq_iff_iff];simp[Yb];omega)
theorem Jm {c:UInt8}:Pure Tryd.prog 76 [.int .u8 c.toNat] (.bool (qaO c)):=by
 refine pure_intro Tryd.func76 nm_ qrs (by show 1≤9;decide) ?_
 show ewp _ qwz _ _
 repeat' with_reducible first
  |refine s_ ?_
  |simp only[wZZ,seval]
  |(first|apply zu|apply zo)<;>intro h h_<;>(try simp only[wD,reduceCtorEq]at h_)<;>(try exact wb_)<;>(try simp only[h])
 all_goals refine qP rfl (Or.inr rfl) ?_
 all_goals(try simp only[wL,seval])
 all_goals refine er_ ?_
 all_goals(try(with_reducible rfl))
 all_goals(rw[Bool.eq_iff_iff];simp[qaO];omega)
def qd1:List UInt8:=[112,113,114,115]
def xC (s:List UInt8) (at_:Int) (w:List UInt8):Bool:=decide (at_+w.length≤s.length) && decide ((s.take (at_+w.length).toNat).drop at_.toNat=w)
theorem jI {s w:List UInt8} {at_:Int} (hs:s.length≤1099511627776) (hw:w.length≤1099511627776) (ha:0≤at_) (hb:at_≤1099511627776):Pure Tryd.prog 86 [.str s,vi at_,.str w] (.bool (xC s at_ w)):=by
 refine pure_intro Tryd.func86 nm_ qvr (by show 3≤25;decide) ?_
 show ewp _ qpg _ _
 have h1:IntKind.i64.wrap ((s.length:Int) - at_)=(s.length:Int) - at_:=wrap64 o_ o_
 repeat' with_reducible first
  |refine s_ ?_
  |simp only[wZZ,seval,h1]
  |(first|apply zu|apply zo)<;>intro h h_<;>(try simp only[wD,reduceCtorEq]at h_)<;>(try exact wb_)<;>(try simp only[h])
  |apply qaZ;omega;omega;omega
  |simp(disch:=omega) only[w64,if_neg]
 all_goals refine qP rfl (Or.inr rfl) ?_
 all_goals(try simp only[wL,seval])
 all_goals refine er_ ?_
 all_goals(try(with_reducible rfl))
 · unfold xC
   have e:decide (at_+(w.length:Int)≤(s.length:Int))=true:=by rw[decide_eq_true_eq];omega
   rw[e];rfl
 · unfold xC
   have e:decide (at_+(w.length:Int)≤(s.length:Int))=false:=by rw[decide_eq_false_iff_not];omega
   rw[e];rfl
def KC (c:UInt8):Bool:=decide (c.toNat=10) || decide (c.toNat=9) || decide (c.toNat=13) || decide (c.toNat=92) || decide (c.toNat=39) || (decide (32≤c.toNat) && decide (c.toNat≤126))
def qfM (c:UInt8):UInt8:=if c.toNat=10 then 110 else if c.toNat=9 then 116 else if c.toNat=13 then 114 else if c.toNat=92 then c else if c.toNat=39 then c else 0
theorem ZV {c:UInt8}:Pure Tryd.prog 74 [.int .u8 c.toNat] (.tup [.int .u8 (qfM c).toNat,.bool (KC c)]):=by
 refine pure_intro Tryd.func74 nm_ qsD (by show 1≤21;decide) ?_
 show ewp _ qfg _ _
 repeat' with_reducible first
  |refine s_ ?_
  |simp only[wZZ,seval]
  |(first|apply qc|apply zu|apply zo)<;>intro h h_<;>(try simp only[wD,reduceCtorEq]at h_)<;>(try exact wb_)<;>(try simp only[h])
 all_goals refine qyb rfl (Or.inr rfl) ?_
 all_goals(try simp only[wL,seval])
 all_goals(refine qie ?_ ?_<;>refine er_ ?_<;>(try(with_reducible rfl)))
 all_goals first
  |(unfold qfM;(repeat' split)<;>first|(exfalso;omega)|rfl)
  |(rw[Bool.eq_iff_iff];simp[KC];omega)
@[reducible] def qCf (k:Int):List UInt8:=[UInt8.ofNat (97+k).toNat]
@[reducible] def qbm (k:Int):Sym:={name:=(qd1.take (k % 4+1).toNat).drop (k % 4).toNat,lit:=true}

def Zz:List UInt8→Bool→Nat
 |[],_=>0
 |c::r,more=>if Yb c || (more && (qaO c || decide (c.toNat=46)))then Zz r true+1 else 0
theorem KI (c:UInt8) (r:List UInt8) (more:Bool):Zz (c::r) more=if Yb c || (more && (qaO c || decide (c.toNat=46)))then Zz r true+1 else 0:=rfl
theorem ZY {tx:List UInt8} (hs:tx.length≤1099511627776):Pure Tryd.prog 60 [.str tx,vi 0] (vi (Zz tx false)):=by
 refine pure_intro Tryd.func60 nm_ qpm (by show 2≤43;decide) ?_
 show ewp _ qeX _ _
 repeat' with_reducible first
  |refine s_ ?_
  |simp only[wZZ,seval]
 refine qw ?nx1 (fun(n:Nat) s=>s.f 0=?v1_0∧s.f 1=?v1_1∧s.f 5=vi n∧(n≤tx.length)∧(Zz tx false=n+Zz (tx.drop n) (decide (0<n)))) (fun n=>tx.length - n) (0) wj_ (by refine⟨?_,?_,?_,wo_,wo_⟩<;>first|(simp only[wL,wM,wN,wX,seval,Option.some.injEq]<;>exact wt_)|rfl|exact⟨_,rfl⟩) ?_
 intro n s hnx ⟨g0,g1,g5,k1_0,k1_1⟩
 have hz:IntKind.i64.wrap (0+(n:Int))=n:=by rw[Int.zero_add];exact wrap64 o_ o_
 by_cases hn:n<tx.length
 · have hd:tx.drop n=tx[n]::tx.drop (n+1):=List.drop_eq_getElem_cons hn
   rw[hd,KI]at k1_1
   have h0:decide (0<n+1)=true:=by simp
   repeat' with_reducible first
    |refine s_ ?_
    |simp only[wZZ,seval,g0,g1,g5,hz]
    |(first|apply qc|apply zu|apply zo)<;>intro h h_<;>(try simp only[wD,reduceCtorEq]at h_)<;>(try exact wb_)<;>(try simp only[h])
    |refine t_ ?_
    |refine cq1 ZW we_ ?_
    |refine cq1 Jm we_ ?_
    |simp(disch:=omega) only[w64,if_neg]
   · refine⟨wk_,n+1,o_,?_⟩
     refine⟨?_,?_,?_,?_,?_⟩
     iterate 3 (focus(first|(simp only[wL,wM,wN,wX,seval,Option.some.injEq,g0,g1,g5]<;>exact wt_)|rfl|exact⟨_,rfl⟩))
     all_goals try omega
     rw[k1_1,h0,if_pos (by rw[Bool.or_eq_true,Bool.and_eq_true,Bool.or_eq_true,decide_eq_true_eq,decide_eq_true_eq];first|exact Or.inl (by assumption)|exact Or.inr ⟨o_,Or.inl (by assumption)⟩|exact Or.inr ⟨o_,Or.inr o_⟩)];omega
   · refine qP rfl (Or.inr rfl) ?_
     simp only[wL,seval,g0,g1,g5]
     refine er_ ?_
     try(with_reducible rfl)
     rw[k1_1,if_neg (by rw[Bool.or_eq_true,Bool.and_eq_true,Bool.or_eq_true,decide_eq_true_eq,decide_eq_true_eq];rintro (h|⟨h,h|h⟩)<;>first|omega|simp_all)];rfl
   · refine⟨wk_,n+1,o_,?_⟩
     refine⟨?_,?_,?_,?_,?_⟩
     iterate 3 (focus(first|(simp only[wL,wM,wN,wX,seval,Option.some.injEq,g0,g1,g5]<;>exact wt_)|rfl|exact⟨_,rfl⟩))
     all_goals try omega
     rw[k1_1,h0,if_pos (by rw[Bool.or_eq_true,Bool.and_eq_true,Bool.or_eq_true,decide_eq_true_eq,decide_eq_true_eq];first|exact Or.inl (by assumption)|exact Or.inr ⟨o_,Or.inl (by assumption)⟩|exact Or.inr ⟨o_,Or.inr o_⟩)];omega
   · refine qP rfl (Or.inr rfl) ?_
     simp only[wL,seval,g0,g1,g5]
     refine er_ ?_
     try(with_reducible rfl)
     rw[k1_1,if_neg (by rw[Bool.or_eq_true,Bool.and_eq_true,Bool.or_eq_true,decide_eq_true_eq,decide_eq_true_eq];rintro (h|⟨h,h|h⟩)<;>first|omega|simp_all)];rfl
   · refine⟨wk_,n+1,o_,?_⟩
     refine⟨?_,?_,?_,?_,?_⟩
     iterate 3 (focus(first|(simp only[wL,wM,wN,wX,seval,Option.some.injEq,g0,g1,g5]<;>exact wt_)|rfl|exact⟨_,rfl⟩))
     all_goals try omega
     rw[k1_1,h0,if_pos (by rw[Bool.or_eq_true,Bool.and_eq_true,Bool.or_eq_true,decide_eq_true_eq,decide_eq_true_eq];first|exact Or.inl (by assumption)|exact Or.inr ⟨o_,Or.inl (by assumption)⟩|exact Or.inr ⟨o_,Or.inr o_⟩)];omega
 · repeat' with_reducible first
    |refine s_ ?_
    |simp only[wZZ,seval,g0,g1,g5,hz]
    |(first|apply zu|apply zo)<;>intro h h_<;>(try simp only[wD,reduceCtorEq]at h_)<;>(try exact wb_)<;>(try simp only[h])
   refine qP rfl (Or.inr rfl) ?_
   simp only[wL,seval,g0,g1,g5]
   refine er_ ?_
   try(with_reducible rfl)
   rw[List.drop_eq_nil_of_le o_]at k1_1
   rw[k1_1];simp[Zz]
def KJ (tx:List UInt8):Bool:=decide (1≤tx.length) && decide (tx.length≤20) && decide (Zz tx false=tx.length)
theorem yt {tx:List UInt8} (hs:tx.length≤1099511627776):Pure Tryd.prog 49 [.str tx] (.bool (KJ tx)):=by
 refine pure_intro Tryd.func49 nm_ qj0 (by show 1≤18;decide) ?_
 show ewp _ qqV _ _
 repeat' with_reducible first
  |refine s_ ?_
  |simp only[wZZ,seval]
  |(first|apply zu|apply zo)<;>intro h h_<;>(try simp only[wD,reduceCtorEq]at h_)<;>(try exact wb_)<;>(try simp only[h])
  |refine qQ we_ we_ (ZY wf_) ?_
 all_goals refine qP rfl (Or.inr rfl) ?_
 all_goals(try simp only[wL,seval])
 all_goals refine er_ ?_
 all_goals(try(with_reducible rfl))
 all_goals(rw[Bool.eq_iff_iff];simp[KJ];omega)
@[reducible] def Sym.none (x:Sym):Bool:=decide (x.name=[]) && !x.lit && decide (x.num=0)
theorem Qn {x:Sym}:Pure Tryd.prog 61 [x.V] (.bool x.none):=by
 refine pure_intro Tryd.func61 nm_ qjo (by show 1≤16;decide) ?_
 show ewp _ qtp _ _
 obtain ⟨nm,lt,nu,at_⟩:=x
 repeat' with_reducible first
  |refine s_ ?_
  |simp only[wZZ,seval]
  |(first|apply zu|apply zo)<;>intro h h_<;>(try simp only[wD,reduceCtorEq]at h_)<;>(try exact wb_)<;>(try simp only[h])
  |refine t_ ?_
 all_goals refine qP rfl (Or.inr rfl) ?_
 all_goals(try simp only[wL,seval])
 all_goals refine er_ ?_
 all_goals(try(with_reducible rfl))
 all_goals(simp_all [Sym.none])

def qdz (x:Sym) (num lit:Bool):Bool:=if x.lit then lit && decide (x.name.length=1) && KC (x.name.headD 0) && decide (x.num=0)else KJ x.name && (decide (x.num=0) || (num && decide (1≤x.num) && decide (x.num≤50000)))
theorem xH {x:Sym} {num lit:Bool} (hs:x.name.length≤1099511627776):Pure Tryd.prog 59 [x.V,.bool num,.bool lit] (.bool (qdz x num lit)):=by
 refine pure_intro Tryd.func59 nm_ qvY (by show 3≤53;decide) ?_
 show ewp _ qfY _ _
 obtain ⟨nm,lt,nu,at_⟩:=x
 repeat' with_reducible first
  |refine s_ ?_
  |simp only[wZZ,seval]
  |(first|apply qc|apply zu|apply zo)<;>intro h h_<;>(try simp only[wD,reduceCtorEq]at h_)<;>(try exact wb_)<;>(try simp only[h])
  |refine t_ ?_
  |refine cq1 ZV we_ ?_
  |refine qN we_ (yt wf_) ?_
 all_goals refine qP rfl (Or.inr rfl) ?_
 all_goals(try simp only[wL,seval])
 all_goals refine er_ ?_
 all_goals(try(with_reducible rfl))
 all_goals first
  |(simp_all [qdz];done)
  |(simp_all [qdz];omega)
  | (obtain ⟨c,hc⟩: ∃c,nm=[c]:=List.length_eq_one_iff.1 o_
     subst hc
     simp_all [qdz])

def Sym.Fits (x:Sym):Prop:=x.name.length≤1099511627776
def qpL (d:Decl):Bool:=decide (d.kind<1) || decide (6<d.kind) || decide ((d.syms.length:Int)=0) || (decide (d.kind=6) && (!decide ((d.syms.length:Int)=1) || !decide (d.tag=[]))) || (decide (d.kind=5) && decide (d.tag=[])) || (!decide (d.tag=[]) && !KJ d.tag)
def X5 (d:Decl):Bool:= !qpL d && d.syms.all fun x=>qdz x (decide (d.kind=1)) (decide (d.kind<5))
theorem Zp {d:Decl} (ht:d.tag.length≤1099511627776) (hl:d.syms.length≤1099511627776) (hs: ∀x∈d.syms,x.name.length≤1099511627776):Pure Tryd.prog 48 [d.V] (.bool (X5 d)):=by
 refine pure_intro Tryd.func48 nm_ qr3 (by show 1≤75;decide) ?_
 show ewp _ qe3 _ _
 obtain ⟨kd,tg,sy,at_⟩:=d
 dsimp only at ht hl hs
 refine yU (fun s=>s.f 1=.ptr 0 0 0∧s.H 0=some (.own 4 [Decl.V ⟨kd,tg,sy,at_⟩] false)∧1≤s.next) ?_ ?_
 · repeat' with_reducible first
    |refine s_ ?_
    |simp only[wZZ,seval]
    |refine t_ ?_
   all_goals(refine⟨?_,?_,?_⟩)
   all_goals((try simp only[wL,wM,wN,seval]);try(first|rfl|omega))
 intro s ⟨g1,o0,hnx⟩
 refine qcK ?_
 refine yU (fun s=>s.f 1=.ptr 0 0 0∧s.f 54=.bool (qpL ⟨kd,tg,sy,at_⟩)∧s.H 0=some (.own 4 [Decl.V ⟨kd,tg,sy,at_⟩] false)∧1≤s.next) ?_ ?_
 · repeat' with_reducible first
    |refine s_ ?_
    |simp only[wZZ,seval,g1,o0]
    |(first|apply zu|apply zo)<;>intro h h_<;>(try simp only[wD,reduceCtorEq]at h_)<;>(try exact wb_)<;>(try simp only[h])
    |refine t_ ?_
    |refine qN we_ (yt wf_) ?_
   all_goals(refine⟨?_,?_,?_,?_⟩)
   all_goals((try simp only[wL,wM,wN,seval,g1,o0]);try(first|rfl|omega))
   all_goals(refine congrArg V.bool ?_;simp only[qpL, *];rfl)
 intro s ⟨g1,g54,o0,hnx⟩
 by_cases hb:qpL ⟨kd,tg,sy,at_⟩=true
 · have e:X5 ⟨kd,tg,sy,at_⟩=false:=by unfold X5;rw[hb];rfl
   rw[e]
   repeat' with_reducible first
    |refine s_ ?_
    |simp only[wZZ,seval,g1,g54,o0,hb]
   refine qP rfl (Or.inr rfl) ?_
   simp only[wL,seval,g1,g54]
   refine er_ ?_
   try(with_reducible rfl)
 · have hb2:qpL ⟨kd,tg,sy,at_⟩=false:=by simpa using hb
   have e:X5 ⟨kd,tg,sy,at_⟩=sy.all fun x=>qdz x (decide (kd=1)) (decide (kd<5)):=by unfold X5;rw[hb2];rfl
   rw[e]
   repeat' with_reducible first
    |refine s_ ?_
    |simp only[wZZ,seval,g1,g54,o0,hb2]
   refine qw ?nx1 (fun(k:Nat) s=>s.f 1=?v1_1∧s.H 0=?o1_0∧s.f 3=vi k∧(k≤sy.length)∧(∀x∈sy.take k,qdz x (decide (kd=1)) (decide (kd<5))=true)) (fun k=>sy.length - k) (0) wj_ (by refine⟨?_,?_,?_,wo_,wo_⟩<;>first|(simp only[wL,wM,wN,wX,seval,Option.some.injEq,g1,g54,o0]<;>exact wt_)|rfl|exact⟨_,rfl⟩) ?_
   intro k s hnx ⟨g1,o0,g3,k1_0,k1_1⟩
   by_cases hk:k<sy.length
   · have hx:=hs sy[k] (List.getElem_mem hk)
     have ht2:sy.take (k+1)=sy.take k++[sy[k]]:=by rw[List.take_add_one,ge_ hk];rfl
     repeat' with_reducible first
      |refine s_ ?_
      |simp only[wZZ,seval,g1,g3,o0]
      |apply qc<;>intro h h_<;>(try simp only[wD,reduceCtorEq]at h_)<;>(try exact wb_)<;>(try simp only[h])
      |refine t_ ?_
      |refine ZE we_ we_ we_ (xH wf_) ?_
      |simp(disch:=omega) only[w64,if_neg]
     · refine qP rfl (Or.inr rfl) ?_
       simp only[wL,seval,g1,g3]
       refine er_ ?_
       try(with_reducible rfl)
       refine(List.all_eq_false.2 ⟨sy[k],List.getElem_mem hk,?_⟩).symm
       rw[h_];exact Bool.false_ne_true
     · refine⟨wk_,k+1,o_,?_⟩
       refine⟨?_,?_,?_,?_,?_⟩
       iterate 3 (focus(first|(simp only[wL,wM,wN,wX,seval,Option.some.injEq,g1,g3,o0]<;>exact wt_)|rfl|exact⟨_,rfl⟩))
       all_goals try omega
       rw[ht2]
       intro x hx2
       rcases List.mem_append.1 hx2 with hx2|hx2
       · exact k1_1 x hx2
       · obtain rfl:=List.mem_singleton.1 hx2
         exact h_
   · repeat' with_reducible first
      |refine s_ ?_
      |simp only[wZZ,seval,g1,g3,o0]
      |apply qc<;>intro h h_<;>(try simp only[wD,reduceCtorEq]at h_)<;>(try exact wb_)<;>(try simp only[h])
      |refine t_ ?_
     refine qP rfl (Or.inr rfl) ?_
     simp only[wL,seval,g1,g3]
     refine er_ ?_
     try(with_reducible rfl)
     rw[List.take_of_length_le o_]at k1_1
     exact(List.all_eq_true.2 k1_1).symm

def JK (q:UInt8):List UInt8→Int→Int
 |[],_=> -1
 |[c],i=>if c.toNat=10 then -1 else if c.toNat=q.toNat then i+1 else -1
 |c::d::r,i=>if c.toNat=10 then -1 else if c.toNat=q.toNat then i+1 else if c.toNat=92 then(if d.toNat=10 then -1 else JK q r (i+2))else JK q (d::r) (i+1)
theorem qbx (q c:UInt8) (r:List UInt8) (i:Int):JK q (c::r) i=if c.toNat=10 then -1 else if c.toNat=q.toNat then i+1 else if c.toNat=92 then(if (r.headD 10).toNat=10 then -1 else JK q r.tail (i+2))else JK q r (i+1):=by
 cases r with
 |nil=>simp[JK]
 |cons d r=>simp[JK]
def Xg:List UInt8→Int→Int
 |[],_=> -1
 |c::r,i=>if c.toNat=96 then i+1 else Xg r (i+1)
def XM:List UInt8→Int→Int
 |[],i=>i
 |c::r,i=>if c.toNat=10 then i else XM r (i+1)
def JE (tx:List UInt8):Nat→Int→Int
 |0,_=> -1
 |n+1,i=>if xC tx i [42,47]then i+2 else JE tx n (i+1)
def Yr (tx:List UInt8) (at_:Nat):Int:=
 let c:=tx.getD at_ 0
 if c.toNat=34∨c.toNat=39 then JK c (tx.drop (at_+1)) (at_+1)else if c.toNat=96 then Xg (tx.drop (at_+1)) (at_+1)
 else if xC tx at_ [47,47]then XM (tx.drop at_) at_ else if xC tx at_ [47,42]then JE tx (tx.length - (at_+2)) (at_+2)else at_
theorem jG {tx:List UInt8} {at_:Nat} (hs:tx.length≤1099511627776) (ha:at_<tx.length):Pure Tryd.prog 77 [.str tx,vi at_] (vi (Yr tx at_)):=by
 refine pure_intro Tryd.func77 nm_ qkx (by show 2≤114;decide) ?_
 show ewp _ qfI _ _
 have hg:tx.getD at_ 0=tx[at_]:=by simp[List.getD,ha]
 have he:Yr tx at_=if tx[at_].toNat=34∨tx[at_].toNat=39 then JK tx[at_] (tx.drop (at_+1)) (at_+1)else if tx[at_].toNat=96 then Xg (tx.drop (at_+1)) (at_+1)
  else if xC tx at_ [47,47]then XM (tx.drop at_) at_ else if xC tx at_ [47,42]then JE tx (tx.length - (at_+2)) (at_+2)else at_:=by unfold Yr;rw[hg]
 refine yU (fun s=>s.f 0=.str tx∧s.f 1=vi at_∧0≤s.next) ?_ ?_
 · repeat' with_reducible first
    |refine s_ ?_
    |simp only[wZZ,seval]
   all_goals(refine⟨?_,?_,?_⟩)
   all_goals((try simp only[wL,wM,wN,seval]);try(first|rfl|omega))
 intro s ⟨g0,g1,hnx⟩
 refine jR ?_
 refine jy ?_
 refine yU (fun s=>s.f 0=.str tx∧s.f 1=vi at_∧s.f 9=.bool (decide (tx[at_].toNat=34) || decide (tx[at_].toNat=39))∧0≤s.next) ?_ ?_
 · repeat' with_reducible first
    |refine s_ ?_
    |simp only[wZZ,seval,g0,g1]
    |(first|apply zu|apply zo)<;>intro h h_<;>(try simp only[wD,reduceCtorEq]at h_)<;>(try exact wb_)<;>(try simp only[h])
    |refine t_ ?_
   all_goals(refine⟨?_,?_,?_,?_⟩)
   all_goals((try simp only[wL,wM,wN,seval,g0,g1]);try(first|rfl|omega))
   all_goals(refine congrArg V.bool ?_;rw[Bool.eq_iff_iff];simp;omega)
 intro s ⟨g0,g1,g9,hnx⟩
 by_cases h1:tx[at_].toNat=34∨tx[at_].toNat=39
 · rw [if_pos h1]at he
   rw[he]
   generalize hR:JK tx[at_] (tx.drop (at_+1)) ((at_:Int)+1)=R
   have hb:(decide (tx[at_].toNat=34) || decide (tx[at_].toNat=39))=true:=by simpa using h1
   repeat' with_reducible first
    |refine s_ ?_
    |simp only[wZZ,seval,g0,g1,g9,hb]
    |simp(disch:=omega) only[w64,if_neg]
   refine qw ?nx1 (fun(k:Nat) s=>s.f 0=?v1_0∧s.f 1=?v1_1∧s.f 5=vi k∧(k≤tx.length+1)∧(JK tx[at_] (tx.drop k) k=R)) (fun k=>tx.length+1 - k) (at_+1) wj_ (by refine⟨?_,?_,?_,wo_,(by rw[← hR];rfl)⟩<;>first|(simp only[wL,wM,wN,wX,seval,Option.some.injEq,g0,g1,g9]<;>exact wt_)|rfl|exact⟨_,rfl⟩) ?_
   intro k s hnx ⟨g0,g1,g5,k1_0,k1_1⟩
   by_cases hk:k<tx.length
   · have hd:tx.drop k=tx[k]::tx.drop (k+1):=List.drop_eq_getElem_cons hk
     have hz:=w1_ k
     rw[hd,qbx]at k1_1
     repeat' with_reducible first
      |refine s_ ?_
      |simp only[wZZ,seval,g0,g1,g5,hz]
      |(first|apply qc|apply zu|apply zo)<;>intro h h_<;>(try simp only[wD,reduceCtorEq]at h_)<;>(try exact wb_)<;>(try simp only[h])
      |refine t_ ?_
      |simp(disch:=omega) only[w64,if_neg]
     · refine qP rfl (Or.inr rfl) ?_
       simp only[wL,seval,g0,g1,g5]
       refine er_ ?_
       try(with_reducible rfl)
       rw[← k1_1,if_neg o_,if_pos o_];rfl
     · refine qP rfl (Or.inr rfl) ?_
       simp only[wL,seval,g0,g1,g5]
       refine er_ ?_
       try(with_reducible rfl)
       rw[← k1_1,if_neg o_,if_neg o_,if_pos o_,List.drop_eq_getElem_cons (show k+1<tx.length by omega),List.headD_cons,if_pos o_]
     · refine⟨wk_,k+2,o_,?_⟩
       refine⟨?_,?_,?_,?_,?_⟩
       iterate 3 (focus(first|(simp only[wL,wM,wN,wX,seval,Option.some.injEq,g0,g1,g5]<;>exact wt_)|rfl|exact⟨_,rfl⟩))
       all_goals try omega
       rw[← k1_1,if_neg o_,if_neg o_,if_pos o_,List.drop_eq_getElem_cons (show k+1<tx.length by omega),List.headD_cons,if_neg o_];rfl
     · refine⟨wk_,k+2,o_,?_⟩
       refine⟨?_,?_,?_,?_,?_⟩
       iterate 3 (focus(first|(simp only[wL,wM,wN,wX,seval,Option.some.injEq,g0,g1,g5]<;>exact wt_)|rfl|exact⟨_,rfl⟩))
       all_goals try omega
       rw[← k1_1,if_neg o_,if_neg o_,if_pos o_,List.drop_eq_nil_of_le (show tx.length≤k+1 by omega),List.drop_eq_nil_of_le (show tx.length≤k+2 by omega)];rfl
     · refine⟨wk_,k+1,o_,?_⟩
       refine⟨?_,?_,?_,?_,?_⟩
       iterate 3 (focus(first|(simp only[wL,wM,wN,wX,seval,Option.some.injEq,g0,g1,g5]<;>exact wt_)|rfl|exact⟨_,rfl⟩))
       all_goals try omega
       rw[← k1_1,if_neg o_,if_neg o_,if_neg o_];rfl
     · refine qP rfl (Or.inr rfl) ?_
       simp only[wL,seval,g0,g1,g5]
       refine er_ ?_
       try(with_reducible rfl)
       rw[← k1_1,if_pos o_]
   · rw[List.drop_eq_nil_of_le o_]at k1_1
     repeat' with_reducible first
      |refine s_ ?_
      |simp only[wZZ,seval,g0,g1,g5]
      |(first|apply zu|apply zo)<;>intro h h_<;>(try simp only[wD,reduceCtorEq]at h_)<;>(try exact wb_)<;>(try simp only[h])
     refine qP rfl (Or.inr rfl) ?_
     simp only[wL,seval,g0,g1,g5]
     refine er_ ?_
     try(with_reducible rfl)
     rw[← k1_1];rfl
 · skip
   rw[if_neg h1]at he
   have hb:(decide (tx[at_].toNat=34) || decide (tx[at_].toNat=39))=false:=by simpa using h1
   by_cases h2:tx[at_].toNat=96
   · rw [if_pos h2]at he
     rw[he]
     generalize hR:Xg (tx.drop (at_+1)) ((at_:Int)+1)=R
     repeat' with_reducible first
      |refine s_ ?_
      |simp only[wZZ,seval,g0,g1,g9,hb]
      |apply qc<;>intro h h_<;>(try simp only[wD,reduceCtorEq]at h_)<;>(try exact wb_)<;>(try simp only[h])
      |refine t_ ?_
      |simp(disch:=omega) only[w64,if_neg]
     refine qw ?nx2 (fun(k:Nat) s=>s.f 0=?v2_0∧s.f 6=vi k∧(k≤tx.length)∧(Xg (tx.drop k) k=R)) (fun k=>tx.length - k) (at_+1) wj_ (by refine⟨?_,?_,wo_,(by rw[← hR];rfl)⟩<;>first|(simp only[wL,wM,wN,wX,seval,Option.some.injEq,g0,g1,g9]<;>exact wt_)|rfl|exact⟨_,rfl⟩) ?_
     intro k s hnx ⟨g0,g6,k2_0,k2_1⟩
     by_cases hk:k<tx.length
     · rw[List.drop_eq_getElem_cons hk,Xg]at k2_1
       repeat' with_reducible first
        |refine s_ ?_
        |simp only[wZZ,seval,g0,g6]
        |apply qc<;>intro h h_<;>(try simp only[wD,reduceCtorEq]at h_)<;>(try exact wb_)<;>(try simp only[h])
        |refine t_ ?_
        |simp(disch:=omega) only[w64,if_neg]
       · refine qP rfl (Or.inr rfl) ?_
         simp only[wL,seval,g0,g6]
         refine er_ ?_
         try(with_reducible rfl)
         rw[← k2_1,if_pos o_];rfl
       · refine⟨wk_,k+1,o_,?_⟩
         refine⟨?_,?_,?_,?_⟩
         iterate 2 (focus(first|(simp only[wL,wM,wN,wX,seval,Option.some.injEq,g0,g6]<;>exact wt_)|rfl|exact⟨_,rfl⟩))
         all_goals try omega
         rw[← k2_1,if_neg o_];rfl
     · rw[List.drop_eq_nil_of_le o_]at k2_1
       repeat' with_reducible first
        |refine s_ ?_
        |simp only[wZZ,seval,g0,g6]
        |apply qc<;>intro h h_<;>(try simp only[wD,reduceCtorEq]at h_)<;>(try exact wb_)<;>(try simp only[h])
       refine qP rfl (Or.inr rfl) ?_
       simp only[wL,seval,g0,g6]
       refine er_ ?_
       try(with_reducible rfl)
       rw[← k2_1];rfl
   · skip
     rw[if_neg h2]at he
     by_cases h3:xC tx at_ [47,47]=true
     · rw [if_pos h3]at he
       rw[he]
       generalize hR:XM (tx.drop at_) at_=R
       repeat' with_reducible first
        |refine s_ ?_
        |simp only[wZZ,seval,g0,g1,g9,hb,h3]
        |apply qc<;>intro h h_<;>(try simp only[wD,reduceCtorEq]at h_)<;>(try exact wb_)<;>(try simp only[h])
        |refine t_ ?_
        |refine ZE we_ we_ we_ (jI wf_ wf_ wf_ wf_) ?_
       refine qw ?nx3 (fun(k:Nat) s=>s.f 0=?v3_0∧s.f 7=vi k∧(k≤tx.length)∧(XM (tx.drop k) k=R)) (fun k=>tx.length - k) (at_) wj_ (by refine⟨?_,?_,wo_,(by rw[← hR])⟩<;>first|(simp only[wL,wM,wN,wX,seval,Option.some.injEq,g0,g1,g9]<;>exact wt_)|rfl|exact⟨_,rfl⟩) ?_
       intro k s hnx ⟨g0,g7,k3_0,k3_1⟩
       by_cases hk:k<tx.length
       · rw[List.drop_eq_getElem_cons hk,XM]at k3_1
         repeat' with_reducible first
          |refine s_ ?_
          |simp only[wZZ,seval,g0,g7]
          |(first|apply qc|apply zu|apply zo)<;>intro h h_<;>(try simp only[wD,reduceCtorEq]at h_)<;>(try exact wb_)<;>(try simp only[h])
          |refine t_ ?_
          |simp(disch:=omega) only[w64,if_neg]
         · refine⟨wk_,k+1,o_,?_⟩
           refine⟨?_,?_,?_,?_⟩
           iterate 2 (focus(first|(simp only[wL,wM,wN,wX,seval,Option.some.injEq,g0,g7]<;>exact wt_)|rfl|exact⟨_,rfl⟩))
           all_goals try omega
           rw[← k3_1,if_neg o_];rfl
         · refine qP rfl (Or.inr rfl) ?_
           simp only[wL,seval,g0,g7]
           refine er_ ?_
           try(with_reducible rfl)
           rw[← k3_1,if_pos o_]
       · rw[List.drop_eq_nil_of_le o_]at k3_1
         repeat' with_reducible first
          |refine s_ ?_
          |simp only[wZZ,seval,g0,g7]
          |(first|apply zu|apply zo)<;>intro h h_<;>(try simp only[wD,reduceCtorEq]at h_)<;>(try exact wb_)<;>(try simp only[h])
         refine qP rfl (Or.inr rfl) ?_
         simp only[wL,seval,g0,g7]
         refine er_ ?_
         try(with_reducible rfl)
         rw[← k3_1];rfl
     · skip
       rw[if_neg h3]at he
       have h3b:xC tx at_ [47,47]=false:=by simpa using h3
       by_cases h4:xC tx at_ [47,42]=true
       · rw [if_pos h4]at he
         rw[he]
         generalize hR:JE tx (tx.length - (at_+2)) ((at_:Int)+2)=R
         repeat' with_reducible first
          |refine s_ ?_
          |simp only[wZZ,seval,g0,g1,g9,hb,h3b,h4]
          |apply qc<;>intro h h_<;>(try simp only[wD,reduceCtorEq]at h_)<;>(try exact wb_)<;>(try simp only[h])
          |refine t_ ?_
          |refine ZE we_ we_ we_ (jI wf_ wf_ wf_ wf_) ?_
          |simp(disch:=omega) only[w64,if_neg]
         refine qw ?nx4 (fun(k:Nat) s=>s.f 0=?v4_0∧s.f 8=vi k∧(JE tx (tx.length - k) k=R)) (fun k=>tx.length - k) (at_+2) wj_ (by refine⟨?_,?_,(by rw[← hR];rfl)⟩<;>first|(simp only[wL,wM,wN,wX,seval,Option.some.injEq,g0,g1,g9]<;>exact wt_)|rfl|exact⟨_,rfl⟩) ?_
         intro k s hnx ⟨g0,g8,k4_0⟩
         by_cases hk:k<tx.length
         · rw[show tx.length - k=(tx.length - (k+1))+1 by omega,JE]at k4_0
           repeat' with_reducible first
            |refine s_ ?_
            |simp only[wZZ,seval,g0,g8]
            |apply qc<;>intro h h_<;>(try simp only[wD,reduceCtorEq]at h_)<;>(try exact wb_)<;>(try simp only[h])
            |refine ZE we_ we_ we_ (jI wf_ wf_ wf_ wf_) ?_
            |simp(disch:=omega) only[w64,if_neg]
           · refine qP rfl (Or.inr rfl) ?_
             simp only[wL,seval,g0,g8]
             refine er_ ?_
             try(with_reducible rfl)
             rw[← k4_0,if_pos (by assumption)]
           · refine⟨wk_,k+1,o_,?_⟩
             refine⟨?_,?_,?_⟩
             iterate 2 (focus(first|(simp only[wL,wM,wN,wX,seval,Option.some.injEq,g0,g8]<;>exact wt_)|rfl|exact⟨_,rfl⟩))
             all_goals try omega
             rw[← k4_0,if_neg (by simp_all)];rfl
         · rw[show tx.length - k=0 by omega,JE]at k4_0
           repeat' with_reducible first
            |refine s_ ?_
            |simp only[wZZ,seval,g0,g8]
            |apply qc<;>intro h h_<;>(try simp only[wD,reduceCtorEq]at h_)<;>(try exact wb_)<;>(try simp only[h])
           refine qP rfl (Or.inr rfl) ?_
           simp only[wL,seval,g0,g8]
           refine er_ ?_
           try(with_reducible rfl)
           exact k4_0
       · skip
         rw[if_neg h4]at he
         have h4b:xC tx at_ [47,42]=false:=by simpa using h4
         rw[he]
         repeat' with_reducible first
          |refine s_ ?_
          |simp only[wZZ,seval,g0,g1,g9,hb,h3b,h4b]
          |apply qc<;>intro h h_<;>(try simp only[wD,reduceCtorEq]at h_)<;>(try exact wb_)<;>(try simp only[h])
          |refine t_ ?_
          |refine ZE we_ we_ we_ (jI wf_ wf_ wf_ wf_) ?_
         refine qP rfl (Or.inr rfl) ?_
         simp only[wL,seval,g0,g1,g9]
         refine er_ ?_
         try(with_reducible rfl)

theorem qdJ {l:List UInt8} {k:Nat} (h:k<l.length):l.getD k 0=l[k]:=by simp[List.getD,h]
def endGo (tx:List UInt8):Nat→Int→Int→Int
 |0,_,_=> -1
 | n+1,i,d=>if i<tx.length then
  (if Yr tx i.toNat<0 then -1 else if i<Yr tx i.toNat then endGo tx n (Yr tx i.toNat) d
   else if d+(if (tx.getD i.toNat 0).toNat=123 then 1 else 0) - (if (tx.getD i.toNat 0).toNat=125 then 1 else 0)=0 then i+1
   else endGo tx n (i+1) (d+(if (tx.getD i.toNat 0).toNat=123 then 1 else 0) - (if (tx.getD i.toNat 0).toNat=125 then 1 else 0)))
   else -1
def qxI (tx:List UInt8):Int:=if (tx.headD 0).toNat=123 then endGo tx (tx.length+1) 0 0 else -1
theorem Yc {tx : List UInt8} (hs:tx.length≤1099511627776):Pure Tryd.prog 62 [.str tx,vi 0] (vi (qxI tx)):=by
 refine pure_intro Tryd.func62 nm_ qjM (by show 2≤53;decide) ?_
 show ewp _ qfs _ _
 by_cases h0:tx=[]
 · subst h0
   repeat' with_reducible first
    |refine s_ ?_
    |simp only[wZZ,seval]
   refine qP rfl (Or.inr rfl) ?_
   simp only[wL,seval]
   refine er_ ?_
   try(with_reducible rfl)
   rfl
 · have hl : 0 < tx.length:=List.length_pos_iff.2 h0
   have hh:tx.headD 0=tx[0]:=by cases tx with|nil=>exact absurd rfl h0|cons a r=>rfl
   have he:qxI tx=if tx[0].toNat=123 then endGo tx (tx.length+1) 0 0 else -1:=by unfold qxI;rw[hh]
   rw[he]
   by_cases hc:tx[0].toNat=123
   · rw [if_pos hc]
     generalize hR:endGo tx (tx.length+1) 0 0=R
     repeat' with_reducible first
      |refine s_ ?_
      |simp only[wZZ,seval]
      |(first|apply qc|apply zu|apply zo)<;>intro h h_<;>(try simp only[wD,reduceCtorEq]at h_)<;>(try exact wb_)<;>(try simp only[h])
      |refine t_ ?_
     refine qw ?nx1 (fun(p:Nat×Int) s=>s.f 0=?v1_0∧s.f 5=vi p.2∧s.f 6=vi p.1∧((-(p.1:Int)≤p.2∧p.2≤p.1))∧((∃n,tx.length<p.1+n∧endGo tx n p.1 p.2=R))) (fun p=>tx.length - p.1) ((0,0)) wj_ (by refine⟨?_,?_,?_,wo_,(by exact⟨tx.length+1,o_,hR⟩)⟩<;>first|(simp only[wL,wM,wN,wX,seval,Option.some.injEq]<;>exact wt_)|rfl|exact⟨_,rfl⟩) ?_
     intro p s hnx ⟨g0,g5,g6,k1_0,k1_1⟩
     obtain ⟨i,d⟩:=p
     dsimp only at *
     obtain ⟨n,hn,hg⟩:=k1_1
     by_cases hi:i<tx.length
     · obtain ⟨n,rfl⟩: ∃m,n=m+1:=⟨n - 1,o_⟩
       rw[endGo,if_pos o_,Int.toNat_natCast,qdJ hi]at hg
       by_cases hneg:Yr tx i<0
       · rw[if_pos hneg]at hg
         repeat' with_reducible first
          |refine s_ ?_
          |simp only[wZZ,seval,g0,g5,g6]
          |apply qc<;>intro h h_<;>(try simp only[wD,reduceCtorEq]at h_)<;>(try exact wb_)<;>(try simp only[h])
          |refine qQ we_ we_ (jG wf_ wf_) ?_
         refine qP rfl (Or.inr rfl) ?_
         simp only[wL,seval,g0,g5,g6]
         refine er_ ?_
         try(with_reducible rfl)
         exact hg
       · rw [if_neg hneg]at hg
         obtain ⟨m,hm⟩: ∃m:Nat,Yr tx i=m:=⟨(Yr tx i).toNat,o_⟩
         rw[hm]at hg
         by_cases hgt:(i:Int)<m
         · rw[if_pos hgt]at hg
           repeat' with_reducible first
            |refine s_ ?_
            |simp only[wZZ,seval,g0,g5,g6,hm]
            |apply qc<;>intro h h_<;>(try simp only[wD,reduceCtorEq]at h_)<;>(try exact wb_)<;>(try simp only[h])
            |refine qQ we_ we_ (jG wf_ wf_) ?_
           refine⟨wk_,(m,d),o_,?_⟩
           refine⟨?_,?_,?_,?_,?_⟩
           iterate 3 (focus(first|(simp only[wL,wM,wN,wX,seval,Option.some.injEq,g0,g5,g6]<;>exact wt_)|rfl|exact⟨_,rfl⟩))
           all_goals try omega
           exact⟨n,o_,hg⟩
         · rw [if_neg hgt]at hg
           by_cases h1:tx[i].toNat=123
           · have h2: ¬ tx[i].toNat=125:=o_
             have hz:IntKind.i64.wrap (d+1)=d+1:=wrap64 o_ o_
             rw[if_pos h1,if_neg h2]at hg
             repeat' with_reducible first
              |refine s_ ?_
              |simp only[wZZ,seval,g0,g5,g6,hm,hz]
              |apply qc<;>intro h h_<;>(try simp only[wD,reduceCtorEq]at h_)<;>(try exact wb_)<;>(try simp only[h])
              |refine t_ ?_
              |refine qQ we_ we_ (jG wf_ wf_) ?_
              |simp(disch:=omega) only[w64,if_neg]
             · refine qP rfl (Or.inr rfl) ?_
               simp only[wL,seval,g0,g5,g6]
               refine er_ ?_
               try(with_reducible rfl)
               rw[← hg,if_pos o_];rfl
             · refine⟨wk_,(i+1,d+1),o_,?_⟩
               refine⟨?_,?_,?_,?_,?_⟩
               iterate 3 (focus(first|(simp only[wL,wM,wN,wX,seval,Option.some.injEq,g0,g5,g6]<;>exact wt_)|rfl|exact⟨_,rfl⟩))
               all_goals try omega
               exact⟨n,o_,by rw[← hg,if_neg o_,Int.sub_zero];rfl⟩
           · by_cases h2:tx[i].toNat=125
             · have hz:IntKind.i64.wrap (d - 1)=d - 1:=wrap64 o_ o_
               rw[if_neg h1,if_pos h2,Int.add_zero]at hg
               repeat' with_reducible first
                |refine s_ ?_
                |simp only[wZZ,seval,g0,g5,g6,hm,hz]
                |apply qc<;>intro h h_<;>(try simp only[wD,reduceCtorEq]at h_)<;>(try exact wb_)<;>(try simp only[h])
                |refine t_ ?_
                |refine qQ we_ we_ (jG wf_ wf_) ?_
                |simp(disch:=omega) only[w64,if_neg]
               · refine qP rfl (Or.inr rfl) ?_
                 simp only[wL,seval,g0,g5,g6]
                 refine er_ ?_
                 try(with_reducible rfl)
                 rw[← hg,if_pos o_];rfl
               · refine⟨wk_,(i+1,d - 1),o_,?_⟩
                 refine⟨?_,?_,?_,?_,?_⟩
                 iterate 3 (focus(first|(simp only[wL,wM,wN,wX,seval,Option.some.injEq,g0,g5,g6]<;>exact wt_)|rfl|exact⟨_,rfl⟩))
                 all_goals try omega
                 exact⟨n,o_,by rw[← hg,if_neg o_];rfl⟩
             · rw[if_neg h1,if_neg h2,Int.add_zero,Int.sub_zero]at hg
               repeat' with_reducible first
                |refine s_ ?_
                |simp only[wZZ,seval,g0,g5,g6,hm]
                |apply qc<;>intro h h_<;>(try simp only[wD,reduceCtorEq]at h_)<;>(try exact wb_)<;>(try simp only[h])
                |refine t_ ?_
                |refine qQ we_ we_ (jG wf_ wf_) ?_
                |simp(disch:=omega) only[w64,if_neg]
               · refine qP rfl (Or.inr rfl) ?_
                 simp only[wL,seval,g0,g5,g6]
                 refine er_ ?_
                 try(with_reducible rfl)
                 rw[← hg,if_pos o_];rfl
               · refine⟨wk_,(i+1,d),o_,?_⟩
                 refine⟨?_,?_,?_,?_,?_⟩
                 iterate 3 (focus(first|(simp only[wL,wM,wN,wX,seval,Option.some.injEq,g0,g5,g6]<;>exact wt_)|rfl|exact⟨_,rfl⟩))
                 all_goals try omega
                 exact⟨n,o_,by rw[← hg,if_neg o_];rfl⟩
     · have hR2:R= -1:=by
        rw[← hg];cases n with
        |zero=>rfl
        |succ n=>rw[endGo,if_neg o_]
       repeat' with_reducible first
        |refine s_ ?_
        |simp only[wZZ,seval,g0,g5,g6]
        |apply qc<;>intro h h_<;>(try simp only[wD,reduceCtorEq]at h_)<;>(try exact wb_)<;>(try simp only[h])
       refine qP rfl (Or.inr rfl) ?_
       simp only[wL,seval,g0,g5,g6]
       refine er_ ?_
       try(with_reducible rfl)
       exact hR2.symm
   · skip
     rw[if_neg hc]
     repeat' with_reducible first
      |refine s_ ?_
      |simp only[wZZ,seval]
      |(first|apply qc|apply zu|apply zo)<;>intro h h_<;>(try simp only[wD,reduceCtorEq]at h_)<;>(try exact wb_)<;>(try simp only[h])
      |refine t_ ?_
     refine qP rfl (Or.inr rfl) ?_
     simp only[wL,seval]
     refine er_ ?_
     try(with_reducible rfl)

def Xf (p:Part):Bool:=if p.code=[]then qdz p.sym false true else p.sym.none && decide (qxI p.code=p.code.length)
def qdG (a:Alt):Bool:=a.parts.all Xf && (a.prec.none || qdz a.prec false true)
def Part.Fits (p:Part):Prop:=p.sym.name.length≤1099511627776∧p.code.length≤1099511627776
def Alt.Fits (a:Alt):Prop:=a.parts.length≤1099511627776∧(∀p∈a.parts,p.Fits)∧a.prec.name.length≤1099511627776
theorem ZU {a:Alt} (hf:a.Fits):Pure Tryd.prog 50 [a.V] (.bool (qdG a)):=by
 refine pure_intro Tryd.func50 nm_ qqt (by show 1≤54;decide) ?_
 show ewp _ qfO _ _
 obtain ⟨hl,hp,hn⟩:=hf
 obtain ⟨ps,pc,at_⟩:=a
 dsimp only at hl hp hn
 repeat' with_reducible first
  |refine s_ ?_
  |simp only[wZZ,seval]
  |refine t_ ?_
 refine qw ?nx1 (fun(k:Nat) s=>s.f 1=?v1_1∧s.H 0=?o1_0∧s.f 3=vi k∧(k≤ps.length)∧(∀x∈ps.take k,Xf x=true)) (fun k=>ps.length - k) (0) wj_ (by refine⟨?_,?_,?_,wo_,wo_⟩<;>first|(simp only[wL,wM,wN,wX,seval,Option.some.injEq]<;>exact wt_)|rfl|exact⟨_,rfl⟩) ?_
 intro k s hnx ⟨g1,o0,g3,k1_0,k1_1⟩
 by_cases hk:k<ps.length
 · have hx:=hp ps[k] (List.getElem_mem hk)
   have ht2:ps.take (k+1)=ps.take k++[ps[k]]:=by rw[List.take_add_one,ge_ hk];rfl
   have hbad:Xf ps[k]=false→qdG ⟨ps,pc,at_⟩=false:=fun h=>by
    unfold qdG;rw[List.all_eq_false.2 ⟨ps[k],List.getElem_mem hk,by rw[h];exact Bool.false_ne_true⟩];rfl
   have hgood:Xf ps[k]=true→ ∀x∈ps.take (k+1),Xf x=true:=fun h x hx2=>by
    rw[ht2]at hx2
    rcases List.mem_append.1 hx2 with hx2|hx2
    · exact k1_1 x hx2
    · obtain rfl:=List.mem_singleton.1 hx2
      exact h
   obtain ⟨hx1,hx2⟩:=hx
   repeat' with_reducible first
    |refine s_ ?_
    |simp only[wZZ,seval,g1,g3,o0]
    |(first|apply qc|apply zu|apply zo)<;>intro h h_<;>(try simp only[wD,reduceCtorEq]at h_)<;>(try exact wb_)<;>(try simp only[h])
    |refine t_ ?_
    |apply qf;exact wu_;exact wu_;(focus((try simp only[wE,Nat.reduceAdd]);rfl))
    |refine ZE we_ we_ we_ (xH wf_) ?_
    |refine cq1 Qn we_ ?_
    |refine qQ we_ we_ (Yc wf_) ?_
    |simp(disch:=omega) only[w64,if_neg]
   · refine⟨wk_,k+1,o_,?_⟩
     refine⟨?_,?_,?_,?_,?_⟩
     iterate 3 (focus(first|(simp only[wL,wM,wN,wX,seval,Option.some.injEq,g1,g3,o0]<;>exact wt_)|rfl|exact⟨_,rfl⟩))
     all_goals try omega
     exact hgood (by simp_all [Xf,Sym.none])
   · refine qP rfl (Or.inr rfl) ?_
     simp only[wL,seval,g1,g3]
     refine er_ ?_
     try(with_reducible rfl)
     exact(hbad (by simp_all [Xf,Sym.none])).symm
   · refine qP rfl (Or.inr rfl) ?_
     simp only[wL,seval,g1,g3]
     refine er_ ?_
     try(with_reducible rfl)
     exact(hbad (by simp_all [Xf,Sym.none])).symm
   · refine⟨wk_,k+1,o_,?_⟩
     refine⟨?_,?_,?_,?_,?_⟩
     iterate 3 (focus(first|(simp only[wL,wM,wN,wX,seval,Option.some.injEq,g1,g3,o0]<;>exact wt_)|rfl|exact⟨_,rfl⟩))
     all_goals try omega
     exact hgood (by simp_all [Xf,Sym.none])
   · refine qP rfl (Or.inr rfl) ?_
     simp only[wL,seval,g1,g3]
     refine er_ ?_
     try(with_reducible rfl)
     exact(hbad (by simp_all [Xf,Sym.none])).symm
 · rw[List.take_of_length_le o_]at k1_1
   have e:qdG ⟨ps,pc,at_⟩=(pc.none || qdz pc false true):=by unfold qdG;rw[List.all_eq_true.2 k1_1];rfl
   rw[e]
   repeat' with_reducible first
    |refine s_ ?_
    |simp only[wZZ,seval,g1,g3,o0]
    |(first|apply qc|apply zu|apply zo)<;>intro h h_<;>(try simp only[wD,reduceCtorEq]at h_)<;>(try exact wb_)<;>(try simp only[h])
    |apply qf;exact wu_;exact wu_;(focus((try simp only[wE,Nat.reduceAdd]);rfl))
    |refine t_ ?_
    |refine ZE we_ we_ we_ (xH wf_) ?_
    |refine cq1 Qn we_ ?_
   all_goals refine qP rfl (Or.inr rfl) ?_
   all_goals(try simp only[wL,seval,g1,g3])
   all_goals refine er_ ?_
   all_goals(try(with_reducible rfl))
   all_goals simp_all
def qgA:List UInt8→Bool
 |[]=>false
 |[_]=>false
 |a::b::r=>(decide (a=37) && decide (b=125)) || qgA (b::r)
def VA (r:Rule):Bool:=KJ r.left && !decide (r.alts=[]) && r.alts.all qdG
def VQ (x:Source):Bool:= !qgA x.pro && x.decls.all X5 && x.rules.all VA && !decide (x.rules=[])
def Decl.Fits (d:Decl):Prop:=d.tag.length≤1099511627776∧d.syms.length≤1099511627776∧ ∀x∈d.syms,x.name.length≤1099511627776
def Rule.Fits (r:Rule):Prop:=r.left.length≤1099511627776∧r.alts.length≤1099511627776∧ ∀a∈r.alts,a.Fits
def Source.Fits (x:Source):Prop:=x.pro.length≤1099511627776∧x.tail.length≤1099511627776∧x.decls.length≤1099511627776∧(∀d∈x.decls,d.Fits)∧x.rules.length≤1099511627776∧ ∀r∈x.rules,r.Fits
theorem YE {α:Type} {p:α→Bool} {l:List α} {k:Nat} (hk:k<l.length) (h: ∀x∈l.take k,p x=true) (hx:p l[k]=true): ∀x∈l.take (k+1),p x=true:=by
 rw[List.take_add_one,ge_ hk]
 intro x h2
 rcases List.mem_append.1 h2 with h2|h2
 · exact h x h2
 · obtain rfl:=List.mem_singleton.1 h2
   exact hx
theorem KR {α:Type} {p:α→Bool} {l:List α} {k:Nat} (hk:k<l.length) (hx:p l[k]=false):l.all p=false:=
 List.all_eq_false.2 ⟨l[k],List.getElem_mem hk,by rw[hx];exact Bool.false_ne_true⟩
theorem qb3 (a b:UInt8) (r:List UInt8):qgA (a::b::r)=((decide (a=37) && decide (b=125)) || qgA (b::r)):=rfl
theorem QD {x:Source} (hf:x.Fits):Pure Tryd.prog 32 [x.V] (.bool (VQ x)):=by
 refine pure_intro Tryd.func32 nm_ qkC (by show 1≤77;decide) ?_
 show ewp _ qfF _ _
 obtain ⟨hp,ht,hdl,hd,hrl,hr⟩:=hf
 obtain ⟨pro,ds,rs,tl⟩:=x
 dsimp only at hp ht hdl hd hrl hr
 repeat' with_reducible first
  |refine s_ ?_
  |simp only[wZZ,seval]
  |refine t_ ?_
 refine qw ?nx1 (fun(k:Nat) s=>s.f 1=?v1_1∧s.H 0=?o1_0∧s.f 3=vi k∧(k≤pro.length)∧(qgA (pro.drop k)=qgA pro)) (fun k=>pro.length - k) (0) wj_ (by refine⟨?_,?_,?_,wo_,wo_⟩<;>first|(simp only[wL,wM,wN,wX,seval,Option.some.injEq]<;>exact wt_)|rfl|exact⟨_,rfl⟩) ?_
 intro k s hnx ⟨g1,o0,g3,k1_0,k1_1⟩
 by_cases hk:k+1<pro.length
 · have hz:=w1_ k
   have hz2:IntKind.i64.wrap ((k:Int)+2)=(k:Int)+2:=wrap64 o_ o_
   have e1:pro.drop k=pro[k]::pro[k+1]::pro.drop (k+2):=by rw[List.drop_eq_getElem_cons o_,List.drop_eq_getElem_cons hk]
   have e2:pro.drop (k+1)=pro[k+1]::pro.drop (k+2):=by rw[List.drop_eq_getElem_cons hk]
   have e3:(pro.take (k+2)).drop k=[pro[k],pro[k+1]]:=by
    rw[List.drop_take,e1,show k+2 - k=2 by omega];rfl
   have e4:((pro.take ((k:Int)+2).toNat).drop k)=[pro[k],pro[k+1]]:=by
    rw[show ((k:Int)+2).toNat=k+2 by omega,e3]
   rw[e1,qb3,← e2]at k1_1
   repeat' with_reducible first
    |refine s_ ?_
    |simp only[wZZ,seval,g1,g3,o0,hz,hz2]
    |apply qc<;>intro h h_<;>(try simp only[wD,reduceCtorEq]at h_)<;>(try exact wb_)<;>(try simp only[h])
    |apply qaZ;omega;omega;omega
    |refine t_ ?_
   · refine qP rfl (Or.inr rfl) ?_
     simp only[wL,seval,g1,g3]
     refine er_ ?_
     try(with_reducible rfl)
     rw[e4]at h_
     simp at h_
     simp[h_.1,h_.2]at k1_1
     simp[VQ,k1_1]
   · refine⟨wk_,k+1,o_,?_⟩
     refine⟨?_,?_,?_,?_,?_⟩
     iterate 3 (focus(first|(simp only[wL,wM,wN,wX,seval,Option.some.injEq,g1,g3,o0]<;>exact wt_)|rfl|exact⟨_,rfl⟩))
     all_goals try omega
     rw[e4]at h_
     simp at h_
     rw[← k1_1]
     by_cases h37:pro[k]=37
     · simp[h_ h37]
     · simp[h37]
 · have hpc :qgA pro=false:=by
    rw[← k1_1]
    by_cases hk2:k<pro.length
    · rw[List.drop_eq_getElem_cons hk2,List.drop_eq_nil_of_le o_];rfl
    · rw[List.drop_eq_nil_of_le o_];rfl
   have hz:=w1_ k
   repeat' with_reducible first
    |refine s_ ?_
    |simp only[wZZ,seval,g1,g3,o0,hz]
    |apply qc<;>intro h h_<;>(try simp only[wD,reduceCtorEq]at h_)<;>(try exact wb_)<;>(try simp only[h])
    |refine t_ ?_
   refine qw ?nx2 (fun(k:Nat) s=>s.f 1=?v2_1∧s.H 0=?o2_0∧s.f 4=vi k∧(k≤ds.length)∧(∀x∈ds.take k,X5 x=true)) (fun k=>ds.length - k) (0) wj_ (by refine⟨?_,?_,?_,wo_,wo_⟩<;>first|(simp only[wL,wM,wN,wX,seval,Option.some.injEq,g1,g3,o0]<;>exact wt_)|rfl|exact⟨_,rfl⟩) ?_
   intro k s hnx ⟨g1,o0,g4,k2_0,k2_1⟩
   by_cases hk:k<ds.length
   · obtain ⟨hx1,hx2,hx3⟩:=hd ds[k] (List.getElem_mem hk)
     repeat' with_reducible first
      |refine s_ ?_
      |simp only[wZZ,seval,g1,g4,o0]
      |apply qc<;>intro h h_<;>(try simp only[wD,reduceCtorEq]at h_)<;>(try exact wb_)<;>(try simp only[h])
      |refine t_ ?_
      |refine qN we_ (Zp wf_ wf_ wf_) ?_
      |simp(disch:=omega) only[w64,if_neg]
     · refine qP rfl (Or.inr rfl) ?_
       simp only[wL,seval,g1,g4]
       refine er_ ?_
       try(with_reducible rfl)
       have:=KR hk (p:=X5) (by simpa using h_)
       simp[VQ,this]
     · refine⟨wk_,k+1,o_,?_⟩
       refine⟨?_,?_,?_,?_,?_⟩
       iterate 3 (focus(first|(simp only[wL,wM,wN,wX,seval,Option.some.injEq,g1,g4,o0]<;>exact wt_)|rfl|exact⟨_,rfl⟩))
       all_goals try omega
       exact YE hk k2_1 (by simpa using h_)
   · rw [List.take_of_length_le o_]at k2_1
     repeat' with_reducible first
      |refine s_ ?_
      |simp only[wZZ,seval,g1,g4,o0]
      |apply qc<;>intro h h_<;>(try simp only[wD,reduceCtorEq]at h_)<;>(try exact wb_)<;>(try simp only[h])
      |refine t_ ?_
     refine qw ?nx3 (fun(k:Nat) s=>s.f 1=?v3_1∧s.H 0=?o3_0∧s.f 5=vi k∧(k≤rs.length)∧(∀x∈rs.take k,VA x=true)) (fun k=>rs.length - k) (0) wj_ (by refine⟨?_,?_,?_,wo_,wo_⟩<;>first|(simp only[wL,wM,wN,wX,seval,Option.some.injEq,g1,g4,o0]<;>exact wt_)|rfl|exact⟨_,rfl⟩) ?_
     intro k s hnx ⟨g1,o0,g5,k3_0,k3_1⟩
     by_cases hk:k<rs.length
     · obtain ⟨hx1,hx2,hx3⟩:=hr rs[k] (List.getElem_mem hk)
       obtain ⟨n0,hn0⟩: ∃n0,n0=s.next:=⟨_,rfl⟩
       have hbad:VA rs[k]=false→VQ ⟨pro,ds,rs,tl⟩=false:=fun h=>by
        simp[VQ,KR hk h]
       repeat' with_reducible first
        |refine s_ ?_
        |simp only[wZZ,seval,g1,g5,o0]
        |(first|apply qc|apply zu|apply zo)<;>intro h h_<;>(try simp only[wD,reduceCtorEq]at h_)<;>(try exact wb_)<;>(try simp only[h])
        |refine t_ ?_
        |refine qN we_ (yt wf_) ?_
       · refine qP rfl (Or.inr rfl) ?_
         simp only[wL,seval,g1,g5]
         refine er_ ?_
         try(with_reducible rfl)
         refine(hbad ?_).symm
         have:rs[k].alts=[]:=List.length_eq_zero_iff.1 o_
         simp[VA,this]
       · rw [← hn0]
         refine qw ?nx4 (fun(j:Nat) s=>s.f 1=?v4_1∧s.f 5=?v4_5∧s.f 6=?v4_6∧s.H 0=?o4_0∧s.H (n0+5+5)=?o4_1∧s.f 7=vi j∧(j≤rs[k].alts.length)∧(∀x∈rs[k].alts.take j,qdG x=true)) (fun j=>rs[k].alts.length - j) (0) wj_ (by refine⟨?_,?_,?_,?_,?_,?_,wo_,wo_⟩<;>first|(simp only[wL,wM,wN,wX,seval,Option.some.injEq,g1,g5,o0]<;>exact wt_)|rfl|exact⟨_,rfl⟩) ?_
         intro j s hnx ⟨g1,g5,g6,o0,o1,g7,k4_0,k4_1⟩
         by_cases hj:j<rs[k].alts.length
         · have hx4:=hx3 rs[k].alts[j] (List.getElem_mem hj)
           repeat' with_reducible first
            |refine s_ ?_
            |simp only[wZZ,seval,g1,g5,g6,g7,o0,o1]
            |apply qc<;>intro h h_<;>(try simp only[wD,reduceCtorEq]at h_)<;>(try exact wb_)<;>(try simp only[h])
            |refine t_ ?_
            |refine qN we_ (ZU wf_) ?_
            |simp(disch:=omega) only[w64,if_neg]
           · refine qP rfl (Or.inr rfl) ?_
             simp only[wL,seval,g1,g5,g6,g7]
             refine er_ ?_
             try(with_reducible rfl)
             refine(hbad ?_).symm
             have:=KR hj (p:=qdG) (by simpa using h_)
             simp[VA,this]
           · refine⟨wk_,j+1,o_,?_⟩
             refine⟨?_,?_,?_,?_,?_,?_,?_,?_⟩
             iterate 6 (focus(first|(simp only[wL,wM,wN,wX,seval,Option.some.injEq,g1,g5,g6,g7,o0,o1]<;>exact wt_)|rfl|exact⟨_,rfl⟩))
             all_goals try omega
             exact YE hj k4_1 (by simpa using h_)
         · rw[List.take_of_length_le o_]at k4_1
           repeat' with_reducible first
            |refine s_ ?_
            |simp only[wZZ,seval,g1,g5,g6,g7,o0,o1]
            |apply qc<;>intro h h_<;>(try simp only[wD,reduceCtorEq]at h_)<;>(try exact wb_)<;>(try simp only[h])
            |refine t_ ?_
            |simp(disch:=omega) only[w64,if_neg]
           refine⟨wk_,k+1,o_,?_⟩
           refine⟨?_,?_,?_,?_,?_⟩
           iterate 3 (focus(first|(simp only[wL,wM,wN,wX,seval,Option.some.injEq,g1,g5,g6,g7,o0,o1]<;>exact wt_)|rfl|exact⟨_,rfl⟩))
           all_goals try omega
           refine YE hk k3_1 ?_
           have e1:rs[k].alts.all qdG=true:=List.all_eq_true.2 k4_1
           have e0: ¬ (rs[k].alts.length:Int)=0:=by assumption
           have e2: ¬ rs[k].alts=[]:=fun e=>by rw[e]at e0;exact e0 rfl
           have e3:KJ rs[k].left=true:=by assumption
           simp[VA,e1,e2,e3]
       · skip
         refine qP rfl (Or.inr rfl) ?_
         simp only[wL,seval,g1,g5]
         refine er_ ?_
         try(with_reducible rfl)
         refine(hbad ?_).symm
         have:KJ rs[k].left=false:=by simpa using h_
         simp[VA,this]
     · rw[List.take_of_length_le o_]at k3_1
       repeat' with_reducible first
        |refine s_ ?_
        |simp only[wZZ,seval,g1,g5,o0]
        |apply qc<;>intro h h_<;>(try simp only[wD,reduceCtorEq]at h_)<;>(try exact wb_)<;>(try simp only[h])
        |refine t_ ?_
       refine qP rfl (Or.inr rfl) ?_
       simp only[wL,seval,g1,g5]
       refine er_ ?_
       try(with_reducible rfl)
       have e1:ds.all X5=true:=List.all_eq_true.2 k2_1
       have e2:rs.all VA=true:=List.all_eq_true.2 k3_1
       by_cases e3:rs=[]
       · subst e3;simp[VQ]
       · have:0<rs.length:=List.length_pos_iff.2 e3
         simp[VQ,hpc,e1,e2,e3]
         omega
end Go.Proofs
