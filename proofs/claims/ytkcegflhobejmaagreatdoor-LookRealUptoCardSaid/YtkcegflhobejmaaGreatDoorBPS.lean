import Derived.Test.YtkcegflhobejmaaGreatDoorBFA
set_option maxRecDepth 20000
set_option linter.all false
namespace Go.Proofs
open Go.E

theorem qbM{x:Int}:Pure Tryz.prog 96 [vi x] (.bool (decide (0<=x) && decide (x<1024))):=by
 refine pure_intro Tryz.func96 nm_ qtG (by show 1<=9;decide) ?_
 show ewp _ qw4 _ _;repeat' with_reducible first|refine s_ ?_|simp -implicitDefEqProofs only[wZZ,seval]|(first|apply qy|apply qx)<;>intro h h_<;>(try simp only[wD,reduceCtorEq]at h_)<;>(try exact wb_)<;>(try simp only[h])
 all_goals refine qw rfl (Or.inr rfl) ?_
 all_goals try simp only[QO,Nat.reduceEqDiff,↓reduceIte]
 all_goals refine qhY ?_
 all_goals simp_all
def wd(m:Nat->Bool):Nat->Nat
 |0=>0
 |n+1=>wd m n ||| (if m n then 2 ^ n else 0)
theorem qwv(m:Nat->Bool)(n i:Nat):(wd m n).testBit i=(decide (i<n) && m i):=by
 induction n with
 |zero=>simp[wd]
 | succ n ih=>
   rw[wd,Nat.testBit_or,ih];by_cases hi:i=n
   . subst hi;cases h:m i<;>simp[h,Nat.testBit_two_pow]
   . have e:(if m n=true then 2 ^ n else 0).testBit i=false:=by
      split
      . rw[Nat.testBit_two_pow];simp;omega
      . simp
     rw[e];by_cases h2:i<n
     . simp[h2,Nat.lt_succ_of_lt h2]
     . have h3: ¬ i<n+1:=o_;simp[h2,h3]
theorem qxA(m:Nat->Bool)(n:Nat):wd m n<2 ^ n:=by
 induction n with
 |zero=>simp[wd]
 | succ n ih=>
   rw[wd];refine Nat.or_lt_two_pow (Nat.lt_of_lt_of_le ih (Nat.pow_le_pow_right o_ o_)) ?_;split
   . exact Nat.pow_lt_pow_right o_ o_
   . exact Nat.two_pow_pos _
def word(m:Nat->Bool)(i:Nat):Nat:=wd (λb=>m (64 *i+b)) 64
theorem word_lt(m:Nat->Bool)(i:Nat):word m i<18446744073709551616:=qxA _ 64
theorem yT(m:Nat->Bool)(i b:Nat)(hb:b<64):(word m i).testBit b=m (64 *i+b):=by rw[word,qwv];simp[hb]
theorem Zo{m:Nat->Bool}{i x:Nat}(hx:x<18446744073709551616)(h:∀b,b<64->x.testBit b=m (64 *i+b)):x=word m i:=by
 refine Nat.eq_of_testBit_eq λb=>?_;by_cases hb:b<64
 . rw[h b hb,yT m i b hb]
 . rw[Nat.testBit_lt_two_pow (Nat.lt_of_lt_of_le (show x<2 ^ 64 from hx) (Nat.pow_le_pow_right o_ o_)),
    Nat.testBit_lt_two_pow (Nat.lt_of_lt_of_le (show word m i<2 ^ 64 from word_lt m i) (Nat.pow_le_pow_right o_ o_))]
def jS(m:Nat->Bool):List V:=(List.range 16).map λi=>V.int .u64 (word m i:Int)
abbrev YD(m:Nat->Bool):V:= .agg (jS m)
theorem jm(m:Nat->Bool){i:Nat}(h:i<16):(jS m)[i]?=some (.int .u64 (word m i:Int)):=by simp[jS,h]
theorem zn(m:Nat->Bool):(jS m).length=16:=by simp[jS]
theorem qhm(i:Nat):word (λ_=>false) i=0:=(Zo (by decide) (λb _=>by simp)).symm
theorem Je:jS (λ_=>false)=[.int .u64 0,.int .u64 0,.int .u64 0,.int .u64 0,.int .u64 0,.int .u64 0,.int .u64 0,.int .u64 0,.int .u64 0,.int .u64 0,.int .u64 0,.int .u64 0,.int .u64 0,.int .u64 0,.int .u64 0,.int .u64 0]:=by unfold jS;simp only[qhm];rfl
theorem qgn(m:Nat->Bool){x:Nat}(h:x<1024):
 (jS m).set (x / 64) (.int .u64 ((word m (x / 64) ||| 2 ^ (x % 64):Nat):Int))=jS (λy=>m y || decide (y=x)):=by
 refine List.ext_getElem? λi=>?_;rw[List.getElem?_set];by_cases hi:i<16
 . rw[jm _ hi,jm _ hi,zn];split
   . rename_i e;rw[if_pos o_];congr 3;subst e;refine Zo (Nat.or_lt_two_pow (n:=64) (word_lt m _) (Nat.pow_lt_pow_right o_ (Nat.mod_lt _ o_))) λb hb=>?_;rw[Nat.testBit_or,yT _ _ _ hb,Nat.testBit_two_pow];congr 1;rw[decide_eq_decide];omega
   . rename_i e;congr 3;refine Zo (word_lt m i) λb hb=>?_;rw[yT _ _ _ hb]
     have: ¬ (64 *i+b=x):=o_
     simp[this]
 . rw[if_neg o_,List.getElem?_eq_none (by rw[zn];omega),List.getElem?_eq_none (by rw[zn];omega)]
theorem qh0(n:Nat)(h:n<1024):IntKind.i64.wrap ((n:Int).tdiv 64)=((n / 64:Nat):Int):=by rw[Int.tdiv_eq_ediv_of_nonneg o_,wrap64 o_ o_];simp
theorem qiN(n:Nat):(n:Int).tmod 64=((n % 64:Nat):Int):=by rw[Int.tmod_eq_emod_of_nonneg o_];simp
def Xl(l:List Int)(y:Nat):Bool:=decide (y<1024) && decide ((y:Int)∈l)
theorem qd9:Xl []=λ_=>false:=by funext y;simp[Xl]
theorem qiA{l:List Int}(hl:l.length<4611686018427387904):Pure Tryz.prog 67 [ints l] (YD (Xl l)):=by
 refine pure_intro Tryz.func67 nm_ qu8 (by show 1<=27;decide) ?_
 show ewp _ qum _ _;repeat' with_reducible first|refine s_ ?_|simp -implicitDefEqProofs only[qe1,qeU,qfj,qeV,qh1,qcr,qbJ,qb8,Y5,qcB,qcx,Va,Vg,qi0,qbU,Vk,VN,J7,qbR,qjx,qpf,jR,jP,QB,qgv,Jc,qvV,qbw,qb2,VI,Qj,List.length_cons,List.length_nil,Nat.reduceAdd,Nat.zero_add,Nat.add_zero,qgV,qiK,qi9,qgL,qgF,qhP,qg6,qgP,qhb,qiE,qhd,qhQ,qhi,qcb,Vn,YX,List.length_map,zK,Bool.false_eq_true,Int.reduceEq,jR,jP,yM,yX,yV,vg,vv,y9,zW,QO,seval,qfc]
 refine qbB (λ(k:Nat) s=>k<=l.length/\s.f 6=ints l/\s.f 7=vi l.length/\s.f 8=vi k/\s.f 2=.ptr 0 0 0/\s.f 3=.ptr 1 0 0/\s.H 0=some (.own 16 [.agg (jS λ_=>false)] false)/\s.H 1=some (.own 16 [YD (Xl (l.take k))] false)) (λk=>l.length - k) 0 ?_ ?_
 . simp only[qgv,Jc,QB,jP,QO,jR,yM,Nat.reduceEqDiff,↓reduceIte,Nat.zero_le,List.take_zero,qd9,Je];exact⟨trivial,trivial,trivial,rfl,trivial,trivial,trivial,(by show _=some (MObj.own 16 [.agg (jS λ_=>false)] false);rw[Je])⟩
 intro k s ⟨hk,h6,h7,h8,h2,h3,hH0,hH1⟩;by_cases hlt:k<l.length
 . have ea:l[k]?=some l[k]:=ge_ hlt;have et:l.take (k+1)=l.take k++[l[k]]:=(by rw[List.take_add_one,ea];rfl);generalize l[k]=x at ea et;by_cases hx:0<=x/\x<1024
   . obtain ⟨n,rfl⟩:∃n:Nat,x=n:=⟨x.toNat,o_⟩;have hn:n<1024:=o_;have hd:n / 64<16:=o_;have hm:n % 64<64:=o_;have hp:2 ^ (n % 64)<18446744073709551616:=(Nat.pow_lt_pow_right o_ hm:2 ^ (n % 64)<2 ^ 64);repeat' with_reducible first|refine qF ?_ |refine vF ?_ |refine Jg ?_ |refine qaJ ?_ |refine xN ?_ |refine qlL ?_ |refine qw7 ?_|(refine qje (by simp -implicitDefEqProofs only[qjx,jR,jP,yM,yX,yV,vg,vv,y9,zW,QO,seval,h2,h3,h6,h7,h8,qbj,xG,qb7 (yY ea),qaS,qgs,KR,qak,XM hd,qh0 n hn,qiN n,Nat.mul_one,qgE hm,add1 (show k<4611686018427387904 by omega),hH1,hH0,xL]<;>rfl) (λh=>?_) (λh=>?_)<;>(try simp only[Bool.not_false,Bool.not_true,Bool.not_eq_true',Bool.not_eq_false',Bool.true_eq_false,Bool.false_eq_true,reduceCtorEq]at h)<;>(try(exfalso;simp only[decide_eq_true_eq,decide_eq_false_iff_not]at h;omega))<;>(try simp only[h]))|refine qes (by simp -implicitDefEqProofs only[qjx,qpf,jR,jP,yM,yX,yV,vg,vv,y9,zW,QO,seval,h2,h3,h6,h7,h8,qbj,xG,qb7 (yY ea),qaS,qgs,KR,qak,XM hd,qh0 n hn,qiN n,Nat.mul_one,qgE hm,add1 (show k<4611686018427387904 by omega),hH1,hH0,xL]<;>rfl) (qi5 rfl) (qbM) ?_|refine yN (ql6 (by simp -implicitDefEqProofs only[qgv,Jc,QB,Qj,jR,jP,yM,yX,yV,vg,vv,y9,zW,QO,seval,h2,h3,h6,h7,h8,qbj,xG,qb7 (yY ea),qaS,qgs,KR,qak,XM hd,qh0 n hn,qiN n,Nat.mul_one,qgE hm,add1 (show k<4611686018427387904 by omega),hH1,hH0,xL]<;>rfl) (Or.inr trivial) (jm _ hd)) ?_|refine yN (qxZ (word_lt _ _) hp) ?_|refine yN (qkd (by simp -implicitDefEqProofs only[qgv,Jc,QB,Qj,jR,jP,yM,yX,yV,vg,vv,y9,zW,QO,seval,h2,h3,h6,h7,h8,qbj,xG,qb7 (yY ea),qaS,qgs,KR,qak,XM hd,qh0 n hn,qiN n,Nat.mul_one,qgE hm,add1 (show k<4611686018427387904 by omega),hH1,hH0,xL]<;>rfl) rfl rfl rfl (by rw[zn];exact hd)) ?_|simp -implicitDefEqProofs only[qe1,qeU,qfj,qeV,qh1,qcr,qbJ,qb8,Y5,qcB,qcx,Va,Vg,qi0,qbU,Vk,VN,J7,qbR,qjx,qpf,jR,jP,QB,qgv,Jc,qvV,qbw,qb2,VI,Qj,List.length_cons,List.length_nil,Nat.reduceAdd,Nat.zero_add,Nat.add_zero,qgV,qiK,qi9,qgL,qgF,qhP,qg6,qgP,qhb,qiE,qhd,qhQ,qhi,qcb,Vn,YX,List.length_map,zK,Bool.false_eq_true,Int.reduceEq,jR,jP,yM,yX,yV,vg,vv,y9,zW,QO,seval,h2,h3,h6,h7,h8,qbj,xG,qb7 (yY ea),qaS,qgs,KR,qak,XM hd,qh0 n hn,qiN n,Nat.mul_one,qgE hm,add1 (show k<4611686018427387904 by omega),hH1,hH0,xL]
     . refine⟨k+1,o_,o_,trivial,trivial,rfl,trivial,trivial,trivial,?_⟩;rw[qgn _ hn,et];have hs:(λy=>Xl (l.take k) y || decide (y=n))=Xl (l.take k++[(n:Int)]):=by
        funext y;unfold Xl;by_cases hy:y<1024
        . have e:decide ((y:Int)=(n:Int))=decide (y=n):=(by rw[decide_eq_decide];omega);simp only[hy,decide_true,Bool.true_and,List.mem_append,List.mem_singleton,Bool.decide_or,e]
        . have: ¬ y=n:=o_
          simp[hy,this]
       rw[hs]
     . exfalso;simp at h;omega
   . have hs:Xl (l.take (k+1))=Xl (l.take k):=by
      funext y;rw[et];unfold Xl;by_cases hy:y<1024
      . have: ¬ ((y:Int)=x):=o_
        simp[this]
      . simp[hy]
     repeat' with_reducible first|refine qF ?_ |refine vF ?_ |refine Jg ?_ |refine qaJ ?_ |refine xN ?_ |refine qlL ?_ |refine qw7 ?_|(refine qje (by simp -implicitDefEqProofs only[qjx,jR,jP,yM,yX,yV,vg,vv,y9,zW,QO,seval,h2,h3,h6,h7,h8,qbj,xG,qb7 (yY ea),qaS,add1 (show k<4611686018427387904 by omega)]<;>rfl) (λh=>?_) (λh=>?_)<;>(try simp only[Bool.not_false,Bool.not_true,Bool.not_eq_true',Bool.not_eq_false',Bool.true_eq_false,Bool.false_eq_true,reduceCtorEq]at h)<;>(try(exfalso;simp only[decide_eq_true_eq,decide_eq_false_iff_not]at h;omega))<;>(try simp only[h]))|refine qes (by simp -implicitDefEqProofs only[qjx,qpf,jR,jP,yM,yX,yV,vg,vv,y9,zW,QO,seval,h2,h3,h6,h7,h8,qbj,xG,qb7 (yY ea),qaS,add1 (show k<4611686018427387904 by omega)]<;>rfl) (qi5 rfl) (qbM) ?_|simp -implicitDefEqProofs only[qe1,qeU,qfj,qeV,qh1,qcr,qbJ,qb8,Y5,qcB,qcx,Va,Vg,qi0,qbU,Vk,VN,J7,qbR,qjx,qpf,jR,jP,QB,qgv,Jc,qvV,qbw,qb2,VI,Qj,List.length_cons,List.length_nil,Nat.reduceAdd,Nat.zero_add,Nat.add_zero,qgV,qiK,qi9,qgL,qgF,qhP,qg6,qgP,qhb,qiE,qhd,qhQ,qhi,qcb,Vn,YX,List.length_map,zK,Bool.false_eq_true,Int.reduceEq,jR,jP,yM,yX,yV,vg,vv,y9,zW,QO,seval,h2,h3,h6,h7,h8,qbj,xG,qb7 (yY ea),qaS,add1 (show k<4611686018427387904 by omega)]
     . exfalso;simp at h;omega
     . exact⟨k+1,o_,o_,trivial,trivial,rfl,trivial,trivial,hH0,by rw[hs];exact hH1⟩
 . repeat' with_reducible first|refine qF ?_ |refine vF ?_ |refine vD ?_ |refine qe7 ?_ |refine qlL ?_ |refine qyo ?_ |refine qyd ?_|(refine qje (by simp -implicitDefEqProofs only[qjx,jR,jP,yM,yX,yV,vg,vv,y9,zW,QO,seval,h2,h3,h6,h7,h8,hH0,hH1,xG,xL]<;>rfl) (λh=>?_) (λh=>?_)<;>(try simp only[Bool.not_false,Bool.not_true,Bool.not_eq_true',Bool.not_eq_false',Bool.true_eq_false,Bool.false_eq_true,reduceCtorEq]at h)<;>(try(exfalso;simp only[decide_eq_true_eq,decide_eq_false_iff_not]at h;omega))<;>(try simp only[h]))|refine yN (qaN (by simp -implicitDefEqProofs only[qgv,Jc,QB,Qj,jR,jP,yM,yX,yV,vg,vv,y9,zW,QO,seval,h2,h3,h6,h7,h8,hH0,hH1,xG,xL]<;>rfl)) ?_|refine yN (qiO (by simp -implicitDefEqProofs only[qgv,Jc,QB,Qj,jR,jP,yM,yX,yV,vg,vv,y9,zW,QO,seval,h2,h3,h6,h7,h8,hH0,hH1,xG,xL]<;>rfl) rfl (zn _)) ?_|simp -implicitDefEqProofs only[qe1,qeU,qfj,qeV,qh1,qcr,qbJ,qb8,Y5,qcB,qcx,Va,Vg,qi0,qbU,Vk,VN,J7,qbR,qjx,qpf,jR,jP,QB,qgv,Jc,qvV,qbw,qb2,VI,Qj,List.length_cons,List.length_nil,Nat.reduceAdd,Nat.zero_add,Nat.add_zero,qgV,qiK,qi9,qgL,qgF,qhP,qg6,qgP,qhb,qiE,qhd,qhQ,qhi,qcb,Vn,YX,List.length_map,zK,Bool.false_eq_true,Int.reduceEq,jR,jP,yM,yX,yV,vg,vv,y9,zW,QO,seval,h2,h3,h6,h7,h8,hH0,hH1,xG,xL]
   rw[List.take_of_length_le o_];refine qm5 (t:=2) rfl (Or.inr rfl) (v:=YD (Xl l)) ?_ (quf λx hx=>?_)
   . simp only[zW,QO,jR,jP,h2,Nat.reduceEqDiff,↓reduceIte];refine qaN (ro:=false) ?_;simp only[qgv,QB,↓reduceIte]
   . obtain ⟨i,_,rfl⟩:=List.mem_map.1 hx;exact .int _ _

instance (m:Nat->Bool):Cls' (jS m):=inferInstanceAs (Cls' (List.map _ _))
theorem qfO{m m':Nat->Bool}{i x:Nat}(hi:i<16)(hx:x<18446744073709551616)(h1:∀b,b<64->x.testBit b=m' (64 *i+b))(h2:∀y,y / 64≠i->m' y=m y):
 (jS m).set i (.int .u64 (x:Int))=jS m':=by
 refine List.ext_getElem? λj=>?_;rw[List.getElem?_set];by_cases hj:j<16
 . rw[jm _ hj,jm _ hj,zn];split
   . rename_i e;subst e;rw[Zo hx h1]
   . rename_i e
     have:word m j=word m' j:=Zo (word_lt m j) λb hb=>by rw[yT _ _ _ hb,h2 _ o_]
     rw[this]
 . rw[if_neg o_,List.getElem?_eq_none (by rw[zn];omega),List.getElem?_eq_none (by rw[zn];omega)]
theorem qj8{m m':Nat->Bool}(h:∀y,y<1024->m y=m' y):YD m=YD m':=by
 have e:jS m=jS m':=by
  refine List.ext_getElem? λj=>?_;by_cases hj:j<16
  . have:word m j=word m' j:=Zo (word_lt m j) λb hb=>by rw[yT _ _ _ hb,h _ o_]
    rw[jm _ hj,jm _ hj,this]
  . rw[List.getElem?_eq_none (by rw[zn];omega),List.getElem?_eq_none (by rw[zn];omega)]
 show V.agg _=V.agg _;rw[e]
theorem qqh{b:Bool}{H:Nat->Option MObj}{m m':Nat->Bool}(h:∀y,y<1024->m y=m' y):Er b H (YD m) (YD m'):=qxF (qj8 h)
theorem qdc{a b:Nat->Bool}:Pure Tryz.prog 66 [YD a,YD b] (YD (λy=>a y || b y)):=by
 refine pure_intro Tryz.func66 nm_ qs3 (by show 2<=22;decide) ?_
 show ewp _ qvh _ _;repeat' with_reducible first|refine s_ ?_|simp -implicitDefEqProofs only[wZZ,seval]|apply qja;with_unfolding_all exact zn _;exact wu_
 refine qc ?nx1 (λ(k:Nat) s=>s.f 2=?v1_2/\s.f 3=?v1_3/\s.f 4=?v1_4/\s.H 1=some (.own 16 [YD b] false)/\s.H 2=?o1_1/\s.f 6=vi k/\(k<=16)/\(s.H 0=some (.own 16 [YD (λy=>if y<64 *k then a y || b y else a y)] false))) (λk=>16 - k) (0) wj_ (by refine⟨?_,?_,?_,?_,?_,?_,wo_,(by(try simp -implicitDefEqProofs only[wL,wM,wN,seval]);first|rfl|(simp;done))⟩<;>first|(simp -implicitDefEqProofs only[wL,wM,wN,wX,seval,Option.some.injEq]<;>exact wt_)|rfl|exact⟨_,rfl⟩) ?_;intro k s hnx ⟨g2,g3,g4,o0,o1,g6,k1_0,o100⟩;by_cases hk:k<16
 . repeat' with_reducible first|refine s_ ?_|simp -implicitDefEqProofs only[wZZ,seval,g2,g3,g4,g6,o0,o1,o100]|apply qa<;>intro h h_<;>(try simp only[wD,reduceCtorEq]at h_)<;>(try exact wb_)<;>(try simp only[h])|apply qkz;omega|apply qeS;exact jm _ o_|refine yN (qxZ (word_lt _ _) (word_lt _ _)) ?_|apply qfv;exact wu_;exact wu_;exact wu_;(focus(rw[zn];omega))|simp -implicitDefEqProofs (disch:=omega) only[w64,if_neg]
   refine⟨wk_,k+1,o_,?_⟩;refine⟨?_,?_,?_,?_,?_,?_,?_,?_⟩;iterate 6 (focus(first|(simp -implicitDefEqProofs only[wL,wM,wN,wX,seval,Option.some.injEq,g2,g3,g4,g6,o0,o1,o100]<;>exact wt_)|rfl|exact⟨_,rfl⟩))
   all_goals try omega
   all_goals try simp -implicitDefEqProofs only[wL,wM,wN,wX,seval,g2,g3,g4,g6,o0,o1,o100]
   rw[qfO (m':=λy=>if y<64 *(k+1)then a y || b y else a y) hk]
   . exact Nat.or_lt_two_pow (n:=64) (word_lt _ _) (word_lt _ _)
   . intro y hy;rw[Nat.testBit_or,yT _ _ _ hy,yT _ _ _ hy];have e1: ¬ (64 *k+y<64 *k):=o_;have e2:64 *k+y<64 *(k+1):=o_;simp[e1,e2]
   . intro y hy;by_cases hl:y<64 *k
     . have e2:y<64 *(k+1):=o_;simp[hl,e2]
     . have e2: ¬ y<64 *(k+1):=o_;simp[hl,e2]
 . obtain rfl:k=16:=o_;repeat' with_reducible first|refine s_ ?_|simp -implicitDefEqProofs only[wZZ,seval,g2,g3,g4,g6,o0,o1,o100]|refine t_ ?_|apply qbS;exact wu_;exact zn _
   refine qm5 (t:=4) rfl (Or.inr rfl) (v:=YD (λy=>if y<64 *16 then a y || b y else a y)) ?_ (qqh ?_)
   . simp -implicitDefEqProofs only[wL,seval,g2,g3,g4,g6];refine qaN (ro:=false) ?_;simp only[qgv,QB,↓reduceIte]
   . intro y hy;simp[show y<1024 from hy]

theorem qki{u:Nat}(h0:u≠0)(h:u<18446744073709551616):Lib.ctz 64 u<64/\u.testBit (Lib.ctz 64 u)=true/\(∀b,b<Lib.ctz 64 u->u.testBit b=false)/\1<=u/\
 ∀b,(u &&& (u - 1)).testBit b=(decide (b≠Lib.ctz 64 u) && u.testBit b):=by
 obtain ⟨m,hm,hk⟩:=Lib.ctzFrom_spec 64 u o_ h;have e:Lib.ctz 64 u=Lib.ctzFrom 64 u:=by simp[Lib.ctz,h0]
 rw[e];generalize Lib.ctzFrom 64 u=t at hm hk;have hb:∀b,u.testBit b=if b<t then false else(2 *m+1).testBit (b - t):=by intro b;have:=Nat.testBit_two_pow_mul_add (2 *m+1) (Nat.two_pow_pos t) b;rw[Nat.add_zero,<- hm]at this;rw[this];simp
 have hp:1<=2 ^ t:=Nat.one_le_two_pow;have hb':∀b,(u - 1).testBit b=if b<t then true else(2 *m).testBit (b - t):=by
  intro b;have hu:u - 1=2 ^ t *(2 *m)+(2 ^ t - 1):=by rw[hm,Nat.mul_add,Nat.mul_one];omega
  have:=Nat.testBit_two_pow_mul_add (2 *m) (show 2 ^ t - 1<2 ^ t by omega) b;rw[<- hu]at this;rw[this];split
  . rw[Nat.testBit_two_pow_sub_one];simpa
  . rfl
 refine⟨hk,by rw[hb];simp,λb hbt=>by rw[hb];simp[hbt],o_,λb=>?_⟩;rw[Nat.testBit_and,hb,hb'];by_cases h1:b<t
 . simp[h1]
 . by_cases h2:b=t
   . subst h2;simp
   . obtain ⟨c,hc⟩:∃c,b - t=c+1:=⟨b - t - 1,o_⟩;simp only[h1,↓reduceIte,hc,Nat.testBit_succ];have e1:(2 *m+1) / 2=m:=o_;have e2:2 *m / 2=m:=o_;simp[h2,e1,e2]
theorem qqb{x y p q i k:Nat}{T:List V}(h0: ¬ (x:Int)=0)(hn:unV .neg (.int .u64 (x:Int))=some (.int .u64 (y:Int)))(hand:yc .and (.int .u64 (x:Int)) (.int .u64 (y:Int))=some (.int .u64 (p:Int)))(hmul:IntKind.u64.wrap ((p:Int) *285870213051353865)=(q:Int))(hshr:yc .shr (.int .u64 (q:Int)) (.int .u64 58)=some (.int .u64 (i:Int)))(hi:i<64)(hT:Glob.G Tryz.prog 0=.iptr 64 (.agg T) 0)(hc:T[i]?=some (.int .u8 (k:Int)))(hk:k<64):Pure Tryz.prog 97 [.int .u64 (x:Int)] (vi (k:Int)):=by
 refine pure_intro Tryz.func97 nm_ qse (by show 1<=14;decide) ?_
 show ewp _ qrI _ _;repeat' with_reducible first|refine s_ ?_|simp -implicitDefEqProofs only[wZZ,seval,hn,hand,hmul,hshr,hT]|apply qa<;>intro h h_<;>(try simp only[wD,reduceCtorEq]at h_)<;>(try exact wb_)<;>(try simp only[h])|refine yN (qkS hi) ?_|refine yN (qtx (by simpa using hc)) ?_|simp -implicitDefEqProofs (disch:=omega) only[w64,if_neg]
 refine qw rfl (Or.inr rfl) ?_;simp -implicitDefEqProofs only[wL,seval];refine er_ ?_
 try(with_reducible rfl)
theorem p64:(2:Nat) ^ 64=18446744073709551616:=by decide
theorem p58:(2:Nat) ^ 58=288230376151711744:=by decide
theorem qqE(C:Nat){x y p q i k M D c:Nat}(hM:M=18446744073709551616)(hD:D=288230376151711744)(hc:c=285870213051353865)(h0:x≠0)(hx:x<M)(hy:M - x=y)(hlow:x &&& y=p)(hq:p *c % M=q)(hi:q / D=i)(hi64:i<64)(hk:k<64)
(htab:Lib.deBruijn64tab.getD i 0=k):Pure Tryz.prog 97 [.int .u64 (x:Int)] (vi (k:Int)):=by
 have hn:unV .neg (.int .u64 (x:Int))=some (.int .u64 (y:Int)):=by show some (V.int .u64 (IntKind.u64.wrap (0 - (x:Int))))=_;rw[qlE];congr 2;omega
 have hand:=qsD (x:=x) (y:=y) o_ o_;rw[hlow]at hand;have hmul:IntKind.u64.wrap ((p:Int) *285870213051353865)=(q:Int):=by rw[hc,hM]at hq;rw[qlE];omega
 have hshr:=qxj (x:=q) (y:=58) o_;rw[p58,<- hD,hi]at hshr;refine qqb (T:=Lib.deBruijn64tab.map λ(n:Nat)=>V.int .u8 (n:Int)) o_ hn hand hmul hshr hi64 rfl ?_ hk;have hl:Lib.deBruijn64tab.length=64:=by decide
 rw[List.getD_eq_getElem?_getD,ge_ (by rw[hl];exact hi64)]at htab;rw[List.getElem?_map,ge_ (by rw[hl];exact hi64)];simp only[Option.getD_some]at htab;rw[htab];rfl
theorem vH{x:Nat}(h0:x≠0)(hx:x<18446744073709551616):Pure Tryz.prog 97 [.int .u64 (x:Int)] (vi (Lib.ctz 64 x)):=by
 have hx':x<2 ^ 64:=by rw[p64];exact hx
 have h:=Lib.lowest_bit 64 x h0 hx';rw[p64]at h;have ht:=Lib.deBruijn64_at _ h.2;exact qqE 0 (M:=18446744073709551616) (D:=288230376151711744) (c:=285870213051353865) rfl rfl rfl h0 hx rfl rfl rfl rfl (by rw[h.1];exact ht.1) h.2 (by rw[h.1];exact ht.2)

def lst(m:Nat->Bool)(n:Nat):List Int:=((List.range n).filter m).map Int.ofNat
theorem qi1(m:Nat->Bool)(n:Nat):(lst m n).length<=n:=by simp only[lst,List.length_map];exact Nat.le_trans (List.length_filter_le _ _) (by simp)
theorem qis{m:Nat->Bool}{n:Nat}{x:Int}:x∈lst m n↔ ∃y:Nat,y<n/\m y=true/\x=y:=by
 simp only[lst,List.mem_map,List.mem_filter,List.mem_range];constructor
 . rintro ⟨y,⟨h1,h2⟩,rfl⟩;exact⟨y,h1,h2,rfl⟩
 . rintro ⟨y,h1,h2,rfl⟩;exact⟨y,⟨h1,h2⟩,rfl⟩
theorem qe2{m:Nat->Bool}(a d:Nat)(h:∀y,a<=y->y<a+d->m y=false):lst m (a+d)=lst m a:=by
 induction d with
 |zero=>rfl
 | succ d ih=>
   have e:lst m (a+(d+1))=lst m (a+d):=by unfold lst;rw[<- Nat.add_assoc,List.range_succ,List.filter_append];simp[h (a+d) o_ o_]
   rw[e,ih λy h1 h2=>h y h1 o_]
theorem qmq{m:Nat->Bool}{n:Nat}(h:m n=true):lst m (n+1)=lst m n++[(n:Int)]:=by unfold lst;rw[List.range_succ,List.filter_append];simp[h]
theorem qsv{u:Nat}(h1:1<=u)(h2:u<18446744073709551616):IntKind.u64.wrap ((u:Int) - 1)=((u - 1:Nat):Int):=by rw[qdh o_ o_];omega
theorem JM{m:Nat->Bool}:Pure Tryz.prog 68 [YD m] (ints (lst m 1024)):=by
 refine pure_intro Tryz.func68 nm_ qqM (by show 1<=28;decide) ?_
 show ewp _ qsC _ _;repeat' with_reducible first|refine s_ ?_|simp -implicitDefEqProofs only[wZZ,seval]|apply qja;with_unfolding_all exact zn _;exact wu_|refine t_ ?_
 refine qc ?nx1 (λ(k:Nat) s=>s.f 7=?v1_7/\(∃v,s.f 3=v/\Gr s.H s.next 1 ((lst m (64 *k)).map (V.int .i64)) v)/\s.f 8=vi k/\(k<=16)) (λk=>16 - k) (0) wj_ (by refine⟨?_,?_,?_,wo_⟩<;>first|(simp -implicitDefEqProofs only[wL,wM,wN,wX,seval,Option.some.injEq]<;>exact wt_)|rfl|exact⟨_,rfl⟩) ?_;intro k s hnx ⟨g7,⟨v3,g3,G3⟩,g8,k1_0⟩;by_cases hk:k<16
 . have hw :=word_lt m k;have hlk:=qi1 m (64 *k);repeat' with_reducible first|refine s_ ?_|simp -implicitDefEqProofs only[wZZ,seval,g7,g3,g8,G3.len]|apply qa<;>intro h h_<;>(try simp only[wD,reduceCtorEq]at h_)<;>(try exact wb_)<;>(try simp only[h])|refine yN (qwI o_ (jm _ o_)) ?_
   refine qc ?nx2 (λ(p:Nat×Nat) s=>s.f 4=?v2_4/\s.f 7=?v2_7/\s.f 8=?v2_8/\(∃v,s.f 3=v/\Gr s.H s.next 1 ((lst m (64 *k+p.1)).map (V.int .i64)) v)/\s.f 5=.int .u64 (p.2:Int)/\(p.1<=64)/\(p.2<18446744073709551616)/\((∀b,b<64->p.2.testBit b=(decide (p.1<=b) && m (64 *k+b))))) (λp=>64 - p.1) ((0,word m k)) wj_ (by refine⟨?_,?_,?_,?_,?_,wo_,wo_,(by intro b hb;rw[yT _ _ _ hb];simp)⟩<;>first|(simp -implicitDefEqProofs only[wL,wM,wN,wX,seval,Option.some.injEq,g7,g3,g8]<;>first|rfl|exact⟨_,rfl⟩|exact⟨_,rfl,by first|assumption|exact Gr.nil|exact Gr.tok rfl o_|exact Gr.tok (by simp -implicitDefEqProofs only[wM,seval]<;>rfl) o_|exact Gr.clip|exact G3.to (by first|rfl|(simp[*];done)) o_ rfl⟩)|rfl|exact⟨_,rfl⟩) ?_;intro p s hnx ⟨g4,g7,g8,⟨v3,g3,G3⟩,g5,k2_0,k2_1,k2_2⟩;obtain ⟨c,u⟩:=p;dsimp only at g5 G3 k2_0 k2_1 k2_2;have hlc:=qi1 m (64 *k+c);by_cases hu:u=0
   . have hn:lst m (64 *(k+1))=lst m (64 *k+c):=by
      have:=qe2 (m:=m) (64 *k+c) (64 - c) (λy h1 h2=>by
       have:=k2_2 (y - 64 *k) o_;simp only[hu,Nat.zero_testBit]at this;have e:64 *k+(y - 64 *k)=y:=o_;rw[e]at this;have h3:c<=y - 64 *k:=o_;simpa[h3]using this.symm)
      rw[show 64 *k+c+(64 - c)=64 *(k+1) by omega]at this;exact this
     subst hu;repeat' with_reducible first|refine s_ ?_|simp -implicitDefEqProofs only[wZZ,seval,g4,g7,g8,g3,g5,G3.len]|simp -implicitDefEqProofs (disch:=omega) only[w64,if_neg]
     refine⟨wk_,k+1,o_,?_⟩;refine⟨?_,?_,?_,?_⟩;iterate 3 (focus(first|(simp -implicitDefEqProofs only[wL,wM,wN,wX,seval,Option.some.injEq,g4,g7,g8,g3,g5,hn]<;>first|rfl|exact⟨_,rfl⟩|exact⟨_,rfl,by first|assumption|exact Gr.nil|exact Gr.tok rfl o_|exact Gr.tok (by simp -implicitDefEqProofs only[wM,seval]<;>rfl) o_|exact Gr.clip|exact G3.to (by first|rfl|(simp[*];done)) o_ rfl⟩)|rfl|exact⟨_,rfl⟩))
     all_goals try omega
   . have ht:=qki hu k2_1;generalize hT:Lib.ctz 64 u=t at ht;obtain ⟨t1,t2,t3,t4,t5⟩:=ht;have hc:c<=t:=by
      rcases Nat.lt_or_ge t c with h|h
      . have:=k2_2 t t1;rw[t2]at this;simp[Nat.not_le.2 h]at this
      . exact h
     have hmt:m (64 *k+t)=true:=by have:=k2_2 t t1;rw[t2]at this;simpa[hc]using this.symm
     have hn:lst m (64 *k+(t+1))=lst m (64 *k+c)++[((64 *k+t:Nat):Int)]:=by
      rw[<- Nat.add_assoc,qmq hmt];congr 1;have:=qe2 (m:=m) (64 *k+c) (t - c) (λy h1 h2=>by
       have:=k2_2 (y - 64 *k) o_;rw[t3 _ o_]at this;have e:64 *k+(y - 64 *k)=y:=o_;rw[e]at this;have h3:c<=y - 64 *k:=o_;simpa[h3]using this.symm)
      rw[show 64 *k+c+(t - c)=64 *k+t by omega]at this;exact this
     have hlt:(u &&& (u - 1))<18446744073709551616:=Nat.and_lt_two_pow (n:=64) _ o_;have hz:((k:Int) *64+(t:Int))=((64 *k+t:Nat):Int):=o_;have hsub:=qsv t4 k2_1;repeat' with_reducible first|refine s_ ?_|simp -implicitDefEqProofs only[wZZ,seval,g4,g7,g8,g3,g5,hT,hz,hsub,G3.len]|apply qa<;>intro h h_<;>(try simp only[wD,reduceCtorEq]at h_)<;>(try exact wb_)<;>(try simp only[h])|refine yN (qsD o_ o_) ?_|apply zC (hg:=G3);(focus(first|rfl|(simp -implicitDefEqProofs only[wM];done)));(focus(first|exact za.sl|exact za.asl|exact za.gr G3|exact za.str));exact wf_;(focus(unfold maxLen;first|omega|(simp only[wZ]<;>omega)))|apply jH (hp:=vH ?_ ?_);(focus(first|exact qez|exact qf|exact yP|exact XU|exact G3.er rfl));rotate_left;exact wf_;exact wf_|simp -implicitDefEqProofs (disch:=omega) only[w64,if_neg]
     refine⟨wk_,(t+1,u &&& (u - 1)),o_,?_⟩;refine⟨?_,?_,?_,?_,?_,?_,?_,?_⟩;iterate 5 (focus(first|(simp -implicitDefEqProofs only[wL,wM,wN,wX,seval,Option.some.injEq,g4,g7,g8,g3,g5,hn]<;>first|rfl|exact⟨_,rfl⟩|exact⟨_,rfl,by first|assumption|exact Gr.nil|exact Gr.tok rfl o_|exact Gr.tok (by simp -implicitDefEqProofs only[wM,seval]<;>rfl) o_|exact Gr.clip|exact G3.to (by first|rfl|(simp[*];done)) o_ rfl⟩)|rfl|exact⟨_,rfl⟩))
     all_goals try omega
     . intro b hb;rw[t5,k2_2 b hb];by_cases h1:b=t
       . subst h1;simp;omega
       . by_cases h2:t+1<=b
         . simp[h1,h2,show c<=b by omega]
         . have h3:=t3 b o_;rw[k2_2 b hb]at h3;simp[h1,h2,h3]
 . skip
   obtain rfl:k=16:=o_;repeat' with_reducible first|refine s_ ?_|simp -implicitDefEqProofs only[wZZ,seval,g7,g3,g8,G3.len]
   refine qw rfl (Or.inr rfl) ?_;simp -implicitDefEqProofs only[wL,seval,g7,g3,g8]
   first|refine er_ ?_ |refine G3.er ?_
   try(with_reducible rfl)

theorem qen(m:Nat->Bool)(n:Nat):jl (lst m n):=by unfold lst jl;rw[List.pairwise_map];refine List.Pairwise.imp (λh=>?_) ((List.pairwise_lt_range (n:=n)).filter _);exact Int.ofNat_lt.2 h
end Go.Proofs
