import Derived.Test.YtkcegflhobejmaaGreatDoorBFA
set_option maxRecDepth 20000
set_option linter.all false
namespace Go.Proofs
open Go.E
def qcs(l:List Int)(n:Int):List Int:=if n<l.length then l.take n.toNat else l
theorem VT{l:List Int}{n:Int}(hl:l.length<=1099511627776)(hn:0<=n):Pure Tryz.prog 41 [ints l,vi n] (ints (qcs l n)):=by
 refine pure_intro Tryz.func41 nm_ qup (by show 2<=13;decide) ?_
 show ewp _ qyI _ _;by_cases h:n<l.length
 . have e:qcs l n=l.take n.toNat:=(by unfold qcs;rw[if_pos h]);rw[e];repeat' with_reducible first|refine s_ ?_|simp -implicitDefEqProofs only[wZZ,seval]|apply qa<;>intro h h_<;>(try simp only[wD,reduceCtorEq]at h_)<;>(try exact wb_)<;>(try simp only[h])|apply YF;omega;exact wf_
   refine qz rfl (Or.inr rfl) ?_;simp -implicitDefEqProofs only[wL,seval];refine er_ ?_
   try(with_reducible rfl)
 . have e:qcs l n=l:=(by unfold qcs;rw[if_neg h]);rw[e];repeat' with_reducible first|refine s_ ?_|simp -implicitDefEqProofs only[wZZ,seval]|apply qa<;>intro h h_<;>(try simp only[wD,reduceCtorEq]at h_)<;>(try exact wb_)<;>(try simp only[h])
   refine qz rfl (Or.inr rfl) ?_;simp -implicitDefEqProofs only[wL,seval];refine er_ ?_
   try(with_reducible rfl)

theorem qbQ{x:Int}:Pure Tryz.prog 96 [vi x] (.bool (decide (0<=x) && decide (x<1024))):=by
 refine pure_intro Tryz.func96 nm_ qrG (by show 1<=9;decide) ?_
 show ewp _ qyB _ _;repeat' with_reducible first|refine s_ ?_|simp -implicitDefEqProofs only[wZZ,seval]|(first|apply qA|apply qB)<;>intro h h_<;>(try simp only[wD,reduceCtorEq]at h_)<;>(try exact wb_)<;>(try simp only[h])
 all_goals refine qz rfl (Or.inr rfl) ?_
 all_goals try simp only[QM,Nat.reduceEqDiff,↓reduceIte]
 all_goals refine qdM ?_
 all_goals simp_all
def wd(m:Nat->Bool):Nat->Nat
 |0=>0
 |n+1=>wd m n ||| (if m n then 2 ^ n else 0)
theorem qtS(m:Nat->Bool)(n i:Nat):(wd m n).testBit i=(decide (i<n) && m i):=by
 induction n with
 |zero=>simp[wd]
 | succ n ih=>
   rw[wd,Nat.testBit_or,ih];by_cases hi:i=n
   . subst hi;cases h:m i<;>simp[h,Nat.testBit_two_pow]
   . have e:(if m n=true then 2 ^ n else 0).testBit i=false:=by
      split
      . rw[Nat.testBit_two_pow];simp;omega
      . simp
     rw[e];by_cases h2:i<n
     . simp[h2,Nat.lt_succ_of_lt h2]
     . have h3: ¬ i<n+1:=o_;simp[h2,h3]
theorem qyS(m:Nat->Bool)(n:Nat):wd m n<2 ^ n:=by
 induction n with
 |zero=>simp[wd]
 | succ n ih=>
   rw[wd];refine Nat.or_lt_two_pow (Nat.lt_of_lt_of_le ih (Nat.pow_le_pow_right o_ o_)) ?_;split
   . exact Nat.pow_lt_pow_right o_ o_
   . exact Nat.two_pow_pos _
def word(m:Nat->Bool)(i:Nat):Nat:=wd (λb=>m (64 *i+b)) 64
theorem word_lt(m:Nat->Bool)(i:Nat):word m i<18446744073709551616:=qyS _ 64
theorem ve(m:Nat->Bool)(i b:Nat)(hb:b<64):(word m i).testBit b=m (64 *i+b):=by rw[word,qtS];simp[hb]
variable {i x:Nat}
theorem Zj{m:Nat->Bool}(hx:x<18446744073709551616)(h:∀b,b<64->x.testBit b=m (64 *i+b)):x=word m i:=by
 refine Nat.eq_of_testBit_eq λb=>?_;by_cases hb:b<64
 . rw[h b hb,ve m i b hb]
 . rw[Nat.testBit_lt_two_pow (Nat.lt_of_lt_of_le (show x<2 ^ 64 from hx) (Nat.pow_le_pow_right o_ o_)),
    Nat.testBit_lt_two_pow (Nat.lt_of_lt_of_le (show word m i<2 ^ 64 from word_lt m i) (Nat.pow_le_pow_right o_ o_))]
def jP(m:Nat->Bool):List V:=(List.range 16).map λi=>V.int .u64 (word m i:Int)
abbrev Yd(m:Nat->Bool):V:= .agg (jP m)
theorem jw(m:Nat->Bool)(h:i<16):(jP m)[i]?=some (.int .u64 (word m i:Int)):=by simp[jP,h]
theorem zx(m:Nat->Bool):(jP m).length=16:=by simp[jP]
theorem qh1(i:Nat):word (λ_=>false) i=0:=(Zj dc_ (λb _=>by simp)).symm
theorem Jf:jP (λ_=>false)=[.int .u64 0,.int .u64 0,.int .u64 0,.int .u64 0,.int .u64 0,.int .u64 0,.int .u64 0,.int .u64 0,.int .u64 0,.int .u64 0,.int .u64 0,.int .u64 0,.int .u64 0,.int .u64 0,.int .u64 0,.int .u64 0]:=by unfold jP;simp only[qh1];rfl
theorem qfs(m:Nat->Bool)(h:x<1024):
 (jP m).set (x / 64) (.int .u64 ((word m (x / 64) ||| 2 ^ (x % 64):Nat):Int))=jP (λy=>m y || decide (y=x)):=by
 refine List.ext_getElem? λi=>?_;rw[List.getElem?_set];by_cases hi:i<16
 . rw[jw _ hi,jw _ hi,zx];split
   . rename_i e;rw[if_pos o_];congr 3;subst e;refine Zj (Nat.or_lt_two_pow (n:=64) (word_lt m _) (Nat.pow_lt_pow_right o_ (Nat.mod_lt _ o_))) λb hb=>?_;rw[Nat.testBit_or,ve _ _ _ hb,Nat.testBit_two_pow];congr 1;rw[decide_eq_decide];omega
   . rename_i e;congr 3;refine Zj (word_lt m i) λb hb=>?_;rw[ve _ _ _ hb]
     have: ¬ (64 *i+b=x):=o_
     simp[this]
 . rw[if_neg o_,List.getElem?_eq_none (by rw[zx];omega),List.getElem?_eq_none (by rw[zx];omega)]
theorem qg2(n:Nat)(h:n<1024):IntKind.i64.wrap ((n:Int).tdiv 64)=((n / 64:Nat):Int):=by rw[Int.tdiv_eq_ediv_of_nonneg o_,wrap64 o_ o_];simp
theorem qhu(n:Nat):(n:Int).tmod 64=((n % 64:Nat):Int):=by rw[Int.tmod_eq_emod_of_nonneg o_];simp
def JZ(l:List Int)(y:Nat):Bool:=decide (y<1024) && decide ((y:Int)∈l)
theorem qfc:JZ []=λ_=>false:=by funext y;simp[JZ]
theorem qiU{l:List Int}(hl:l.length<4611686018427387904):Pure Tryz.prog 67 [ints l] (Yd (JZ l)):=by
 refine pure_intro Tryz.func67 nm_ qtI (by show 1<=27;decide) ?_
 show ewp _ qs5 _ _;repeat' with_reducible first|refine s_ ?_|simp -implicitDefEqProofs only[qeg,qeM,qes,qeI,qis,qbS,qbC,qbt,Y1,qbn,qcq,Yz,YZ,qiV,qcH,Vq,Ym,JG,qbu,qjO,qm1,jM,jN,Qp,qgm,Zu,qvL,qcg,qcC,Yp,Qk,List.length_cons,List.length_nil,Nat.reduceAdd,Nat.zero_add,Nat.add_zero,qij,qit,qhR,qgK,qhI,qhC,qg5,qiw,qjd,qgy,qia,qjq,qhd,qch,YT,Yj,List.length_map,zF,Bool.false_eq_true,Int.reduceEq,jM,jN,yu,yQ,vv,vz,yR,yV,zZ,QM,seval,qe8]
 refine qbN (λ(k:Nat) s=>k<=l.length/\s.f 6=ints l/\s.f 7=vi l.length/\s.f 8=vi k/\s.f 2=.ptr 0 0 0/\s.f 3=.ptr 1 0 0/\s.H 0=some (.own 16 [.agg (jP λ_=>false)] false)/\s.H 1=some (.own 16 [Yd (JZ (l.take k))] false)) (λk=>l.length - k) 0 ?_ ?_
 . simp only[qgm,Zu,Qp,jN,QM,jM,yu,Nat.reduceEqDiff,↓reduceIte,Nat.zero_le,List.take_zero,qfc,Jf];exact⟨trivial,trivial,trivial,rfl,trivial,trivial,trivial,(by show _=some (MObj.own 16 [.agg (jP λ_=>false)] false);rw[Jf])⟩
 intro k s ⟨hk,h6,h7,h8,h2,h3,hH0,hH1⟩;by_cases hlt:k<l.length
 . have ea:l[k]?=some l[k]:=ge_ hlt;have et:l.take (k+1)=l.take k++[l[k]]:=(by rw[List.take_add_one,ea];rfl);generalize l[k]=x at ea et;by_cases hx:0<=x/\x<1024
   . obtain ⟨n,rfl⟩:∃n:Nat,x=n:=⟨x.toNat,o_⟩;have hn:n<1024:=o_;have hd:n / 64<16:=o_;have hm:n % 64<64:=o_;have hp:2 ^ (n % 64)<18446744073709551616:=(Nat.pow_lt_pow_right o_ hm:2 ^ (n % 64)<2 ^ 64);repeat' with_reducible first|refine qL ?_ |refine yH ?_ |refine ZR ?_ |refine qaq ?_ |refine xJ ?_ |refine qjR ?_ |refine qyN ?_|(refine qhq (by simp -implicitDefEqProofs only[qjO,jM,jN,yu,yQ,vv,vz,yR,yV,zZ,QM,seval,h2,h3,h6,h7,h8,qaB,xg,qbX (vg ea),qbj,qfU,KT,KV,Xb hd,qg2 n hn,qhu n,Nat.mul_one,qiZ hm,add1 (show k<4611686018427387904 by omega),hH1,hH0,xB]<;>rfl) (λh=>?_) (λh=>?_)<;>(try simp only[Bool.not_false,Bool.not_true,Bool.not_eq_true',Bool.not_eq_false',Bool.true_eq_false,Bool.false_eq_true,reduceCtorEq]at h)<;>(try(exfalso;simp only[decide_eq_true_eq,decide_eq_false_iff_not]at h;omega))<;>(try simp only[h]))|refine qeL (by simp -implicitDefEqProofs only[qjO,qm1,jM,jN,yu,yQ,vv,vz,yR,yV,zZ,QM,seval,h2,h3,h6,h7,h8,qaB,xg,qbX (vg ea),qbj,qfU,KT,KV,Xb hd,qg2 n hn,qhu n,Nat.mul_one,qiZ hm,add1 (show k<4611686018427387904 by omega),hH1,hH0,xB]<;>rfl) (qif rfl) (qbQ) ?_|refine yw (qmB (by simp -implicitDefEqProofs only[qgm,Zu,Qp,Qk,jM,jN,yu,yQ,vv,vz,yR,yV,zZ,QM,seval,h2,h3,h6,h7,h8,qaB,xg,qbX (vg ea),qbj,qfU,KT,KV,Xb hd,qg2 n hn,qhu n,Nat.mul_one,qiZ hm,add1 (show k<4611686018427387904 by omega),hH1,hH0,xB]<;>rfl) (Or.inr trivial) (jw _ hd)) ?_|refine yw (qzq (word_lt _ _) hp) ?_|refine yw (qkC (by simp -implicitDefEqProofs only[qgm,Zu,Qp,Qk,jM,jN,yu,yQ,vv,vz,yR,yV,zZ,QM,seval,h2,h3,h6,h7,h8,qaB,xg,qbX (vg ea),qbj,qfU,KT,KV,Xb hd,qg2 n hn,qhu n,Nat.mul_one,qiZ hm,add1 (show k<4611686018427387904 by omega),hH1,hH0,xB]<;>rfl) rfl rfl rfl (by rw[zx];exact hd)) ?_|simp -implicitDefEqProofs only[qeg,qeM,qes,qeI,qis,qbS,qbC,qbt,Y1,qbn,qcq,Yz,YZ,qiV,qcH,Vq,Ym,JG,qbu,qjO,qm1,jM,jN,Qp,qgm,Zu,qvL,qcg,qcC,Yp,Qk,List.length_cons,List.length_nil,Nat.reduceAdd,Nat.zero_add,Nat.add_zero,qij,qit,qhR,qgK,qhI,qhC,qg5,qiw,qjd,qgy,qia,qjq,qhd,qch,YT,Yj,List.length_map,zF,Bool.false_eq_true,Int.reduceEq,jM,jN,yu,yQ,vv,vz,yR,yV,zZ,QM,seval,h2,h3,h6,h7,h8,qaB,xg,qbX (vg ea),qbj,qfU,KT,KV,Xb hd,qg2 n hn,qhu n,Nat.mul_one,qiZ hm,add1 (show k<4611686018427387904 by omega),hH1,hH0,xB]
     . refine⟨k+1,o_,o_,trivial,trivial,rfl,trivial,trivial,trivial,?_⟩;rw[qfs _ hn,et];have hs:(λy=>JZ (l.take k) y || decide (y=n))=JZ (l.take k++[(n:Int)]):=by
        funext y;unfold JZ;by_cases hy:y<1024
        . have e:decide ((y:Int)=(n:Int))=decide (y=n):=(by rw[decide_eq_decide];omega);simp only[hy,decide_true,Bool.true_and,List.mem_append,List.mem_singleton,Bool.decide_or,e]
        . have: ¬ y=n:=o_
          simp[hy,this]
       rw[hs]
     . exfalso;simp at h;omega
   . have hs:JZ (l.take (k+1))=JZ (l.take k):=by
      funext y;rw[et];unfold JZ;by_cases hy:y<1024
      . have: ¬ ((y:Int)=x):=o_
        simp[this]
      . simp[hy]
     repeat' with_reducible first|refine qL ?_ |refine yH ?_ |refine ZR ?_ |refine qaq ?_ |refine xJ ?_ |refine qjR ?_ |refine qyN ?_|(refine qhq (by simp -implicitDefEqProofs only[qjO,jM,jN,yu,yQ,vv,vz,yR,yV,zZ,QM,seval,h2,h3,h6,h7,h8,qaB,xg,qbX (vg ea),qbj,add1 (show k<4611686018427387904 by omega)]<;>rfl) (λh=>?_) (λh=>?_)<;>(try simp only[Bool.not_false,Bool.not_true,Bool.not_eq_true',Bool.not_eq_false',Bool.true_eq_false,Bool.false_eq_true,reduceCtorEq]at h)<;>(try(exfalso;simp only[decide_eq_true_eq,decide_eq_false_iff_not]at h;omega))<;>(try simp only[h]))|refine qeL (by simp -implicitDefEqProofs only[qjO,qm1,jM,jN,yu,yQ,vv,vz,yR,yV,zZ,QM,seval,h2,h3,h6,h7,h8,qaB,xg,qbX (vg ea),qbj,add1 (show k<4611686018427387904 by omega)]<;>rfl) (qif rfl) (qbQ) ?_|simp -implicitDefEqProofs only[qeg,qeM,qes,qeI,qis,qbS,qbC,qbt,Y1,qbn,qcq,Yz,YZ,qiV,qcH,Vq,Ym,JG,qbu,qjO,qm1,jM,jN,Qp,qgm,Zu,qvL,qcg,qcC,Yp,Qk,List.length_cons,List.length_nil,Nat.reduceAdd,Nat.zero_add,Nat.add_zero,qij,qit,qhR,qgK,qhI,qhC,qg5,qiw,qjd,qgy,qia,qjq,qhd,qch,YT,Yj,List.length_map,zF,Bool.false_eq_true,Int.reduceEq,jM,jN,yu,yQ,vv,vz,yR,yV,zZ,QM,seval,h2,h3,h6,h7,h8,qaB,xg,qbX (vg ea),qbj,add1 (show k<4611686018427387904 by omega)]
     . exfalso;simp at h;omega
     . exact⟨k+1,o_,o_,trivial,trivial,rfl,trivial,trivial,hH0,by rw[hs];exact hH1⟩
 . repeat' with_reducible first|refine qL ?_ |refine yH ?_ |refine vJ ?_ |refine qeG ?_ |refine qjR ?_ |refine qzg ?_ |refine qzL ?_|(refine qhq (by simp -implicitDefEqProofs only[qjO,jM,jN,yu,yQ,vv,vz,yR,yV,zZ,QM,seval,h2,h3,h6,h7,h8,hH0,hH1,xg,xB]<;>rfl) (λh=>?_) (λh=>?_)<;>(try simp only[Bool.not_false,Bool.not_true,Bool.not_eq_true',Bool.not_eq_false',Bool.true_eq_false,Bool.false_eq_true,reduceCtorEq]at h)<;>(try(exfalso;simp only[decide_eq_true_eq,decide_eq_false_iff_not]at h;omega))<;>(try simp only[h]))|refine yw (qa3 (by simp -implicitDefEqProofs only[qgm,Zu,Qp,Qk,jM,jN,yu,yQ,vv,vz,yR,yV,zZ,QM,seval,h2,h3,h6,h7,h8,hH0,hH1,xg,xB]<;>rfl)) ?_|refine yw (qjj (by simp -implicitDefEqProofs only[qgm,Zu,Qp,Qk,jM,jN,yu,yQ,vv,vz,yR,yV,zZ,QM,seval,h2,h3,h6,h7,h8,hH0,hH1,xg,xB]<;>rfl) rfl (zx _)) ?_|simp -implicitDefEqProofs only[qeg,qeM,qes,qeI,qis,qbS,qbC,qbt,Y1,qbn,qcq,Yz,YZ,qiV,qcH,Vq,Ym,JG,qbu,qjO,qm1,jM,jN,Qp,qgm,Zu,qvL,qcg,qcC,Yp,Qk,List.length_cons,List.length_nil,Nat.reduceAdd,Nat.zero_add,Nat.add_zero,qij,qit,qhR,qgK,qhI,qhC,qg5,qiw,qjd,qgy,qia,qjq,qhd,qch,YT,Yj,List.length_map,zF,Bool.false_eq_true,Int.reduceEq,jM,jN,yu,yQ,vv,vz,yR,yV,zZ,QM,seval,h2,h3,h6,h7,h8,hH0,hH1,xg,xB]
   rw[List.take_of_length_le o_];refine qoM (t:=2) rfl (Or.inr rfl) (v:=Yd (JZ l)) ?_ (qtJ λx hx=>?_)
   . simp only[zZ,QM,jM,jN,h2,Nat.reduceEqDiff,↓reduceIte];refine qa3 (ro:=false) ?_;simp only[qgm,Qp,↓reduceIte]
   . obtain ⟨i,_,rfl⟩:=List.mem_map.1 hx;exact .int _ _

instance (m:Nat->Bool):Cls' (jP m):=inferInstanceAs (Cls' (List.map _ _))
variable {m':Nat->Bool}
theorem qgd{m:Nat->Bool}(hi:i<16)(hx:x<18446744073709551616)(h1:∀b,b<64->x.testBit b=m' (64 *i+b))(h2:∀y,y / 64≠i->m' y=m y):
 (jP m).set i (.int .u64 (x:Int))=jP m':=by
 refine List.ext_getElem? λj=>?_;rw[List.getElem?_set];by_cases hj:j<16
 . rw[jw _ hj,jw _ hj,zx];split
   . rename_i e;subst e;rw[Zj hx h1]
   . rename_i e
     have:word m j=word m' j:=Zj (word_lt m j) λb hb=>by rw[ve _ _ _ hb,h2 _ o_]
     rw[this]
 . rw[if_neg o_,List.getElem?_eq_none (by rw[zx];omega),List.getElem?_eq_none (by rw[zx];omega)]
theorem qll{m:Nat->Bool}(h:∀y,y<1024->m y=m' y):Yd m=Yd m':=by
 have e:jP m=jP m':=by
  refine List.ext_getElem? λj=>?_;by_cases hj:j<16
  . have:word m j=word m' j:=Zj (word_lt m j) λb hb=>by rw[ve _ _ _ hb,h _ o_]
    rw[jw _ hj,jw _ hj,this]
  . rw[List.getElem?_eq_none (by rw[zx];omega),List.getElem?_eq_none (by rw[zx];omega)]
 show V.agg _=V.agg _;rw[e]
theorem qmN{b:Bool}{H:Nat->Option MObj}{m:Nat->Bool}(h:∀y,y<1024->m y=m' y):Er b H (Yd m) (Yd m'):=qy7 (qll h)
theorem qdo{a b:Nat->Bool}:Pure Tryz.prog 66 [Yd a,Yd b] (Yd (λy=>a y || b y)):=by
 refine pure_intro Tryz.func66 nm_ qsV (by show 2<=22;decide) ?_
 show ewp _ qua _ _;repeat' with_reducible first|refine s_ ?_|simp -implicitDefEqProofs only[wZZ,seval]|apply qjh;with_unfolding_all exact zx _;exact wu_
 refine qb ?nx1 (λ(k:Nat) s=>s.f 2=?v1_2/\s.f 3=?v1_3/\s.f 4=?v1_4/\s.H 1=some (.own 16 [Yd b] false)/\s.H 2=?o1_1/\s.f 6=vi k/\(k<=16)/\(s.H 0=some (.own 16 [Yd (λy=>if y<64 *k then a y || b y else a y)] false))) (λk=>16 - k) (0) wj_ (by refine⟨?_,?_,?_,?_,?_,?_,wo_,(by(try simp -implicitDefEqProofs only[wL,wM,wN,seval]);first|rfl|(simp;done))⟩<;>first|(simp -implicitDefEqProofs only[wL,wM,wN,wX,seval,Option.some.injEq]<;>exact wt_)|rfl|exact⟨_,rfl⟩) ?_;intro k s hnx ⟨g2,g3,g4,o0,o1,g6,k1_0,o100⟩;by_cases hk:k<16
 . repeat' with_reducible first|refine s_ ?_|simp -implicitDefEqProofs only[wZZ,seval,g2,g3,g4,g6,o0,o1,o100]|apply qa<;>intro h h_<;>(try simp only[wD,reduceCtorEq]at h_)<;>(try exact wb_)<;>(try simp only[h])|apply qky;omega|apply qeW;exact jw _ o_|refine yw (qzq (word_lt _ _) (word_lt _ _)) ?_|apply qfl;exact wu_;exact wu_;exact wu_;(focus(rw[zx];omega))|simp -implicitDefEqProofs (disch:=omega) only[w64,if_neg]
   refine⟨wk_,k+1,o_,?_⟩;refine⟨?_,?_,?_,?_,?_,?_,?_,?_⟩;iterate 6 (focus(first|(simp -implicitDefEqProofs only[wL,wM,wN,wX,seval,Option.some.injEq,g2,g3,g4,g6,o0,o1,o100]<;>exact wt_)|rfl|exact⟨_,rfl⟩))
   all_goals try omega
   all_goals try simp -implicitDefEqProofs only[wL,wM,wN,wX,seval,g2,g3,g4,g6,o0,o1,o100]
   rw[qgd (m':=λy=>if y<64 *(k+1)then a y || b y else a y) hk]
   . exact Nat.or_lt_two_pow (n:=64) (word_lt _ _) (word_lt _ _)
   . intro y hy;rw[Nat.testBit_or,ve _ _ _ hy,ve _ _ _ hy];have e1: ¬ (64 *k+y<64 *k):=o_;have e2:64 *k+y<64 *(k+1):=o_;simp[e1,e2]
   . intro y hy;by_cases hl:y<64 *k
     . have e2:y<64 *(k+1):=o_;simp[hl,e2]
     . have e2: ¬ y<64 *(k+1):=o_;simp[hl,e2]
 . obtain rfl:k=16:=o_;repeat' with_reducible first|refine s_ ?_|simp -implicitDefEqProofs only[wZZ,seval,g2,g3,g4,g6,o0,o1,o100]|refine t_ ?_|apply qco;exact wu_;exact zx _
   refine qoM (t:=4) rfl (Or.inr rfl) (v:=Yd (λy=>if y<64 *16 then a y || b y else a y)) ?_ (qmN ?_)
   . simp -implicitDefEqProofs only[wL,seval,g2,g3,g4,g6];refine qa3 (ro:=false) ?_;simp only[qgm,Qp,↓reduceIte]
   . intro y hy;simp[show y<1024 from hy]

theorem qka{u:Nat}(h0:u≠0)(h:u<18446744073709551616):Lib.ctz 64 u<64/\u.testBit (Lib.ctz 64 u)=true/\(∀b,b<Lib.ctz 64 u->u.testBit b=false)/\1<=u/\
 ∀b,(u &&& (u - 1)).testBit b=(decide (b≠Lib.ctz 64 u) && u.testBit b):=by
 obtain ⟨m,hm,hk⟩:=Lib.ctzFrom_spec 64 u o_ h;have e:Lib.ctz 64 u=Lib.ctzFrom 64 u:=by simp[Lib.ctz,h0]
 rw[e];generalize Lib.ctzFrom 64 u=t at hm hk;have hb:∀b,u.testBit b=if b<t then false else(2 *m+1).testBit (b - t):=by intro b;have:=Nat.testBit_two_pow_mul_add (2 *m+1) (Nat.two_pow_pos t) b;rw[Nat.add_zero,<- hm]at this;rw[this];simp
 have hp:1<=2 ^ t:=Nat.one_le_two_pow;have hb':∀b,(u - 1).testBit b=if b<t then true else(2 *m).testBit (b - t):=by
  intro b;have hu:u - 1=2 ^ t *(2 *m)+(2 ^ t - 1):=by rw[hm,Nat.mul_add,Nat.mul_one];omega
  have:=Nat.testBit_two_pow_mul_add (2 *m) (show 2 ^ t - 1<2 ^ t by omega) b;rw[<- hu]at this;rw[this];split
  . rw[Nat.testBit_two_pow_sub_one];simpa
  . rfl
 refine⟨hk,by rw[hb];simp,λb hbt=>by rw[hb];simp[hbt],o_,λb=>?_⟩;rw[Nat.testBit_and,hb,hb'];by_cases h1:b<t
 . simp[h1]
 . by_cases h2:b=t
   . subst h2;simp
   . obtain ⟨c,hc⟩:∃c,b - t=c+1:=⟨b - t - 1,o_⟩;simp only[h1,↓reduceIte,hc,Nat.testBit_succ];have e1:(2 *m+1) / 2=m:=o_;have e2:2 *m / 2=m:=o_;simp[h2,e1,e2]
theorem qnJ{y p q k:Nat}{T:List V}(h0: ¬ (x:Int)=0)(hn:unV .neg (.int .u64 (x:Int))=some (.int .u64 (y:Int)))(hand:xU .and (.int .u64 (x:Int)) (.int .u64 (y:Int))=some (.int .u64 (p:Int)))(hmul:IntKind.u64.wrap ((p:Int) *285870213051353865)=(q:Int))(hshr:xU .shr (.int .u64 (q:Int)) (.int .u64 58)=some (.int .u64 (i:Int)))(hi:i<64)(hT:Glob.G Tryz.prog 0=.iptr 64 (.agg T) 0)(hc:T[i]?=some (.int .u8 (k:Int)))(hk:k<64):Pure Tryz.prog 97 [.int .u64 (x:Int)] (vi (k:Int)):=by
 refine pure_intro Tryz.func97 nm_ qub (by show 1<=14;decide) ?_
 show ewp _ quU _ _;repeat' with_reducible first|refine s_ ?_|simp -implicitDefEqProofs only[wZZ,seval,hn,hand,hmul,hshr,hT]|apply qa<;>intro h h_<;>(try simp only[wD,reduceCtorEq]at h_)<;>(try exact wb_)<;>(try simp only[h])|refine yw (qkj hi) ?_|refine yw (qwM (by simpa using hc)) ?_|simp -implicitDefEqProofs (disch:=omega) only[w64,if_neg]
 refine qz rfl (Or.inr rfl) ?_;simp -implicitDefEqProofs only[wL,seval];refine er_ ?_
 try(with_reducible rfl)
theorem p64:(2:Nat) ^ 64=18446744073709551616:=dc_
theorem p58:(2:Nat) ^ 58=288230376151711744:=dc_
theorem qs2(C:Nat){y p q k M D c:Nat}(hM:M=18446744073709551616)(hD:D=288230376151711744)(hc:c=285870213051353865)(h0:x≠0)(hx:x<M)(hy:M - x=y)(hlow:x &&& y=p)(hq:p *c % M=q)(hi:q / D=i)(hi64:i<64)(hk:k<64)
(htab:Lib.deBruijn64tab.getD i 0=k):Pure Tryz.prog 97 [.int .u64 (x:Int)] (vi (k:Int)):=by
 have hn:unV .neg (.int .u64 (x:Int))=some (.int .u64 (y:Int)):=by show some (V.int .u64 (IntKind.u64.wrap (0 - (x:Int))))=_;rw[qlV];congr 2;omega
 have hand:=quP (x:=x) (y:=y) o_ o_;rw[hlow]at hand;have hmul:IntKind.u64.wrap ((p:Int) *285870213051353865)=(q:Int):=by rw[hc,hM]at hq;rw[qlV];omega
 have hshr:=qyT (x:=q) (y:=58) o_;rw[p58,<- hD,hi]at hshr;refine qnJ (T:=Lib.deBruijn64tab.map λ(n:Nat)=>V.int .u8 (n:Int)) o_ hn hand hmul hshr hi64 rfl ?_ hk;have hl:Lib.deBruijn64tab.length=64:=dc_
 rw[List.getD_eq_getElem?_getD,ge_ (by rw[hl];exact hi64)]at htab;rw[List.getElem?_map,ge_ (by rw[hl];exact hi64)];simp only[Option.getD_some]at htab;rw[htab];rfl
theorem vE(h0:x≠0)(hx:x<18446744073709551616):Pure Tryz.prog 97 [.int .u64 (x:Int)] (vi (Lib.ctz 64 x)):=by
 have hx':x<2 ^ 64:=by rw[p64];exact hx
 have h:=Lib.lowest_bit 64 x h0 hx';rw[p64]at h;have ht:=Lib.deBruijn64_at _ h.2;exact qs2 0 (M:=18446744073709551616) (D:=288230376151711744) (c:=285870213051353865) rfl rfl rfl h0 hx rfl rfl rfl rfl (by rw[h.1];exact ht.1) h.2 (by rw[h.1];exact ht.2)

def lst(m:Nat->Bool)(n:Nat):List Int:=((List.range n).filter m).map Int.ofNat
theorem qih(m:Nat->Bool)(n:Nat):(lst m n).length<=n:=by simp only[lst,List.length_map];exact Nat.le_trans (List.length_filter_le _ _) (by simp)
theorem qiB{m:Nat->Bool}{n:Nat}{x:Int}:x∈lst m n↔ ∃y:Nat,y<n/\m y=true/\x=y:=by
 simp only[lst,List.mem_map,List.mem_filter,List.mem_range];constructor
 . rintro ⟨y,⟨h1,h2⟩,rfl⟩;exact⟨y,h1,h2,rfl⟩
 . rintro ⟨y,h1,h2,rfl⟩;exact⟨y,⟨h1,h2⟩,rfl⟩
theorem qem{m:Nat->Bool}(a d:Nat)(h:∀y,a<=y->y<a+d->m y=false):lst m (a+d)=lst m a:=by
 induction d with
 |zero=>rfl
 | succ d ih=>
   have e:lst m (a+(d+1))=lst m (a+d):=by unfold lst;rw[<- Nat.add_assoc,List.range_succ,List.filter_append];simp[h (a+d) o_ o_]
   rw[e,ih λy h1 h2=>h y h1 o_]
theorem qo5{m:Nat->Bool}{n:Nat}(h:m n=true):lst m (n+1)=lst m n++[(n:Int)]:=by unfold lst;rw[List.range_succ,List.filter_append];simp[h]
theorem qvN{u:Nat}(h1:1<=u)(h2:u<18446744073709551616):IntKind.u64.wrap ((u:Int) - 1)=((u - 1:Nat):Int):=by rw[qdI o_ o_];omega
theorem Jv{m:Nat->Bool}:Pure Tryz.prog 68 [Yd m] (ints (lst m 1024)):=by
 refine pure_intro Tryz.func68 nm_ qt0 (by show 1<=28;decide) ?_
 show ewp _ qwL _ _;repeat' with_reducible first|refine s_ ?_|simp -implicitDefEqProofs only[wZZ,seval]|apply qjh;with_unfolding_all exact zx _;exact wu_|refine t_ ?_
 refine qb ?nx1 (λ(k:Nat) s=>s.f 7=?v1_7/\(∃v,s.f 3=v/\Gr s.H s.next 1 ((lst m (64 *k)).map (V.int .i64)) v)/\s.f 8=vi k/\(k<=16)) (λk=>16 - k) (0) wj_ (by refine⟨?_,?_,?_,wo_⟩<;>first|(simp -implicitDefEqProofs only[wL,wM,wN,wX,seval,Option.some.injEq]<;>exact wt_)|rfl|exact⟨_,rfl⟩) ?_;intro k s hnx ⟨g7,⟨v3,g3,G3⟩,g8,k1_0⟩;by_cases hk:k<16
 . have hw :=word_lt m k;have hlk:=qih m (64 *k);repeat' with_reducible first|refine s_ ?_|simp -implicitDefEqProofs only[wZZ,seval,g7,g3,g8,G3.len]|apply qa<;>intro h h_<;>(try simp only[wD,reduceCtorEq]at h_)<;>(try exact wb_)<;>(try simp only[h])|refine yw (qyz o_ (jw _ o_)) ?_
   refine qb ?nx2 (λ(p:Nat×Nat) s=>s.f 4=?v2_4/\s.f 7=?v2_7/\s.f 8=?v2_8/\(∃v,s.f 3=v/\Gr s.H s.next 1 ((lst m (64 *k+p.1)).map (V.int .i64)) v)/\s.f 5=.int .u64 (p.2:Int)/\(p.1<=64)/\(p.2<18446744073709551616)/\((∀b,b<64->p.2.testBit b=(decide (p.1<=b) && m (64 *k+b))))) (λp=>64 - p.1) ((0,word m k)) wj_ (by refine⟨?_,?_,?_,?_,?_,wo_,wo_,(by intro b hb;rw[ve _ _ _ hb];simp)⟩<;>first|(simp -implicitDefEqProofs only[wL,wM,wN,wX,seval,Option.some.injEq,g7,g3,g8]<;>first|rfl|exact⟨_,rfl⟩|exact⟨_,rfl,by first|assumption|exact Gr.nil|exact Gr.tok rfl o_|exact Gr.tok (by simp -implicitDefEqProofs only[wM,seval]<;>rfl) o_|exact Gr.clip|exact G3.to fs_ o_ rfl⟩)|rfl|exact⟨_,rfl⟩) ?_;intro p s hnx ⟨g4,g7,g8,⟨v3,g3,G3⟩,g5,k2_0,k2_1,k2_2⟩;obtain ⟨c,u⟩:=p;dsimp only at g5 G3 k2_0 k2_1 k2_2;have hlc:=qih m (64 *k+c);by_cases hu:u=0
   . have hn:lst m (64 *(k+1))=lst m (64 *k+c):=by
      have:=qem (m:=m) (64 *k+c) (64 - c) (λy h1 h2=>by
       have:=k2_2 (y - 64 *k) o_;simp only[hu,Nat.zero_testBit]at this;have e:64 *k+(y - 64 *k)=y:=o_;rw[e]at this;have h3:c<=y - 64 *k:=o_;simpa[h3]using this.symm)
      rw[show 64 *k+c+(64 - c)=64 *(k+1) by omega]at this;exact this
     subst hu;repeat' with_reducible first|refine s_ ?_|simp -implicitDefEqProofs only[wZZ,seval,g4,g7,g8,g3,g5,G3.len]|simp -implicitDefEqProofs (disch:=omega) only[w64,if_neg]
     refine⟨wk_,k+1,o_,?_⟩;refine⟨?_,?_,?_,?_⟩;iterate 3 (focus(first|(simp -implicitDefEqProofs only[wL,wM,wN,wX,seval,Option.some.injEq,g4,g7,g8,g3,g5,hn]<;>first|rfl|exact⟨_,rfl⟩|exact⟨_,rfl,by first|assumption|exact Gr.nil|exact Gr.tok rfl o_|exact Gr.tok (by simp -implicitDefEqProofs only[wM,seval]<;>rfl) o_|exact Gr.clip|exact G3.to fs_ o_ rfl⟩)|rfl|exact⟨_,rfl⟩))
     all_goals try omega
   . have ht:=qka hu k2_1;generalize hT:Lib.ctz 64 u=t at ht;obtain ⟨t1,t2,t3,t4,t5⟩:=ht;have hc:c<=t:=by
      rcases Nat.lt_or_ge t c with h|h
      . have:=k2_2 t t1;rw[t2]at this;simp[Nat.not_le.2 h]at this
      . exact h
     have hmt:m (64 *k+t)=true:=by have:=k2_2 t t1;rw[t2]at this;simpa[hc]using this.symm
     have hn:lst m (64 *k+(t+1))=lst m (64 *k+c)++[((64 *k+t:Nat):Int)]:=by
      rw[<- Nat.add_assoc,qo5 hmt];congr 1;have:=qem (m:=m) (64 *k+c) (t - c) (λy h1 h2=>by
       have:=k2_2 (y - 64 *k) o_;rw[t3 _ o_]at this;have e:64 *k+(y - 64 *k)=y:=o_;rw[e]at this;have h3:c<=y - 64 *k:=o_;simpa[h3]using this.symm)
      rw[show 64 *k+c+(t - c)=64 *k+t by omega]at this;exact this
     have hlt:(u &&& (u - 1))<18446744073709551616:=Nat.and_lt_two_pow (n:=64) _ o_;have hz:((k:Int) *64+(t:Int))=((64 *k+t:Nat):Int):=o_;have hsub:=qvN t4 k2_1;repeat' with_reducible first|refine s_ ?_|simp -implicitDefEqProofs only[wZZ,seval,g4,g7,g8,g3,g5,hT,hz,hsub,G3.len]|apply qa<;>intro h h_<;>(try simp only[wD,reduceCtorEq]at h_)<;>(try exact wb_)<;>(try simp only[h])|refine yw (quP o_ o_) ?_|apply zq (hg:=G3);(focus(first|rfl|(simp -implicitDefEqProofs only[wM];done)));(focus(first|exact qY.sl|exact qY.asl|exact qY.gr G3|exact qY.str));exact wf_;(focus(unfold maxLen;first|omega|(simp only[wZ]<;>omega)))|apply yY (hp:=vE ?_ ?_);(focus(first|exact qfd|exact qd|exact yN|exact Zy|exact G3.er rfl));rotate_left;exact wf_;exact wf_|simp -implicitDefEqProofs (disch:=omega) only[w64,if_neg]
     refine⟨wk_,(t+1,u &&& (u - 1)),o_,?_⟩;refine⟨?_,?_,?_,?_,?_,?_,?_,?_⟩;iterate 5 (focus(first|(simp -implicitDefEqProofs only[wL,wM,wN,wX,seval,Option.some.injEq,g4,g7,g8,g3,g5,hn]<;>first|rfl|exact⟨_,rfl⟩|exact⟨_,rfl,by first|assumption|exact Gr.nil|exact Gr.tok rfl o_|exact Gr.tok (by simp -implicitDefEqProofs only[wM,seval]<;>rfl) o_|exact Gr.clip|exact G3.to fs_ o_ rfl⟩)|rfl|exact⟨_,rfl⟩))
     all_goals try omega
     . intro b hb;rw[t5,k2_2 b hb];by_cases h1:b=t
       . subst h1;simp;omega
       . by_cases h2:t+1<=b
         . simp[h1,h2,show c<=b by omega]
         . have h3:=t3 b o_;rw[k2_2 b hb]at h3;simp[h1,h2,h3]
 . skip
   obtain rfl:k=16:=o_;repeat' with_reducible first|refine s_ ?_|simp -implicitDefEqProofs only[wZZ,seval,g7,g3,g8,G3.len]
   refine qz rfl (Or.inr rfl) ?_;simp -implicitDefEqProofs only[wL,seval,g7,g3,g8]
   first|refine er_ ?_ |refine G3.er ?_
   try(with_reducible rfl)

theorem qfh(m:Nat->Bool)(n:Nat):jq (lst m n):=by unfold lst jq;rw[List.pairwise_map];refine List.Pairwise.imp (λh=>?_) ((List.pairwise_lt_range (n:=n)).filter _);exact Int.ofNat_lt.2 h
end Go.Proofs
