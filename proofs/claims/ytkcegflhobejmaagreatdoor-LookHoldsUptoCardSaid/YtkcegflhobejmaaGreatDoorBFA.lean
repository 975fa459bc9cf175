import Derived.Test.YtkcegflhobejmaaGreatDoorBCA
set_option maxRecDepth 20000
set_option linter.all false
namespace Go.Proofs
open Go.E
variable {x:Int}
theorem xX{a:List Int}(ha:a.length<=4611686018427387903):Pure Tryz.prog 38 [ints a,vi x] (.bool (decide (x∈a))):=by
 refine pure_intro Tryz.func38 nm_ qwN (by show 2<=18;decide) ?_
 show ewp _ qrC _ _;repeat' with_reducible first|refine s_ ?_|simp -implicitDefEqProofs only[wZZ,seval]
 refine qb ?nx1 (λ(k:Nat) s=>s.f 0=?v1_0/\s.f 1=?v1_1/\s.f 5=vi k/\(k<=a.length)/\(x ∉ a.take k)) (λk=>a.length - k) (0) wj_ (by refine⟨?_,?_,?_,wo_,wo_⟩<;>first|(simp -implicitDefEqProofs only[wL,wM,wN,wX,seval,Option.some.injEq]<;>exact wt_)|rfl|exact⟨_,rfl⟩) ?_;intro k s hnx ⟨g0,g1,g5,k1_0,k1_1⟩;repeat' with_reducible first|refine s_ ?_|simp -implicitDefEqProofs only[wZZ,seval,g0,g1,g5]|apply qa<;>intro h h_<;>(try simp only[wD,reduceCtorEq]at h_)<;>(try exact wb_)<;>(try simp only[h])|refine t_ ?_|simp -implicitDefEqProofs (disch:=omega) only[w64,if_neg]
 . refine qz rfl (Or.inr rfl) ?_;simp -implicitDefEqProofs only[wL,seval,g0,g1,g5];refine er_ ?_
   try(with_reducible rfl)
   rw[eq_comm,decide_eq_true_eq,<- h_];exact List.getElem_mem _
 . refine⟨wk_,k+1,o_,?_⟩;refine⟨?_,?_,?_,?_,?_⟩;iterate 3 (focus(first|(simp -implicitDefEqProofs only[wL,wM,wN,wX,seval,Option.some.injEq,g0,g1,g5]<;>exact wt_)|rfl|exact⟨_,rfl⟩))
   all_goals try omega
   rw[List.take_add_one,ge_ o_];simp only[Option.toList_some,List.mem_append,List.mem_singleton,not_or];exact⟨k1_1,λe=>h_ e.symm⟩
 . refine qz rfl (Or.inr rfl) ?_;simp -implicitDefEqProofs only[wL,seval,g0,g1,g5];refine er_ ?_
   try(with_reducible rfl)
   rw[eq_comm,decide_eq_false_iff_not];rwa [List.take_of_length_le o_]at k1_1
variable {k:Nat}
theorem qi1{α:Type}{a b:List α}(hk:∀i,i<k->a[i]?=b[i]?)(h1:a.length<=k)(h2:b.length<=k):a=b:=by
 refine List.ext_getElem? λi=>?_;by_cases hi:i<k
 . exact hk i hi
 . rw[List.getElem?_eq_none o_,List.getElem?_eq_none o_]
theorem qpG{α:Type}{a b:List α}(hk:∀i,i<k->a[i]?=b[i]?)(h1:k<a.length)(h2:k<b.length)(e:a[k]=b[k]):∀i,i<k+1->a[i]?=b[i]?:=by
 intro i hi;by_cases he:i=k
 . subst he;rw[ge_ h1,ge_ h2,e]
 . exact hk i o_
theorem xN{a b:List Int}(ha:a.length<=4611686018427387903)(hb:b.length<=4611686018427387903):Pure Tryz.prog 25 [ints a,ints b] (.bool (decide (a=b))):=by
 refine pure_intro Tryz.func25 nm_ qtG (by show 2<=26;decide) ?_
 show ewp _ qrQ _ _;repeat' with_reducible first|refine s_ ?_|simp -implicitDefEqProofs only[wZZ,seval]|apply qa<;>intro h h_<;>(try simp only[wD,reduceCtorEq]at h_)<;>(try exact wb_)<;>(try simp only[h])
 . refine qz rfl (Or.inr rfl) ?_;simp -implicitDefEqProofs only[wL,seval];refine er_ ?_
   try(with_reducible rfl)
   rw[eq_comm,decide_eq_false_iff_not];intro e;subst e;exact h_ rfl
 refine qb ?nx1 (λ(k:Nat) s=>s.f 0=?v1_0/\s.f 1=?v1_1/\s.f 5=vi k/\(k<=a.length)/\(∀i,i<k->a[i]?=b[i]?)) (λk=>a.length - k) (0) wj_ (by refine⟨?_,?_,?_,wo_,wo_⟩<;>first|(simp -implicitDefEqProofs only[wL,wM,wN,wX,seval,Option.some.injEq]<;>exact wt_)|rfl|exact⟨_,rfl⟩) ?_;intro k s hnx ⟨g0,g1,g5,k1_0,k1_1⟩;repeat' with_reducible first|refine s_ ?_|simp -implicitDefEqProofs only[wZZ,seval,g0,g1,g5]|apply qa<;>intro h h_<;>(try simp only[wD,reduceCtorEq]at h_)<;>(try exact wb_)<;>(try simp only[h])|refine t_ ?_|simp -implicitDefEqProofs (disch:=omega) only[w64,if_neg]
 . refine qz rfl (Or.inr rfl) ?_;simp -implicitDefEqProofs only[wL,seval,g0,g1,g5];refine er_ ?_
   try(with_reducible rfl)
   rw[eq_comm,decide_eq_false_iff_not];intro e;subst e;exact h_ rfl
 . refine⟨wk_,k+1,o_,?_⟩;refine⟨?_,?_,?_,?_,?_⟩;iterate 3 (focus(first|(simp -implicitDefEqProofs only[wL,wM,wN,wX,seval,Option.some.injEq,g0,g1,g5]<;>exact wt_)|rfl|exact⟨_,rfl⟩))
   all_goals try omega
   exact qpG k1_1 o_ o_ (by simpa using h_)
 . refine qz rfl (Or.inr rfl) ?_;simp -implicitDefEqProofs only[wL,seval,g0,g1,g5];refine er_ ?_
   try(with_reducible rfl)
   rw[eq_comm,decide_eq_true_eq];exact qi1 k1_1 o_ o_
def Vm(l:List Int)(x:Int):Nat->Nat
 |0=>0
 |k+1=>if x<l.getD k 0 then Vm l x k else k+1
theorem JI(l:List Int)(x:Int)(k:Nat):Vm l x (k+1)=if x<l.getD k 0 then Vm l x k else k+1:=rfl
theorem qda(l:List Int)(x:Int)(k:Nat):Vm l x k<=k:=by
 induction k with
 |zero=>exact Nat.le_refl _
 |succ k ih=>unfold Vm;split<;>omega
def xw(l:List Int)(x:Int):List Int:=
 if 0<Vm l x l.length/\l.getD (Vm l x l.length - 1) 0=x then l else l.take (Vm l x l.length)++[x]++l.drop (Vm l x l.length)
theorem qaA(l:List Int)(x:Int):(xw l x).length<=l.length+1:=by
 unfold xw;split
 . omega
 . simp;have:=qda l x l.length;omega
variable {l:List Int}
theorem getD_eq(h:k<l.length):l.getD k 0=l[k]:=by simp[List.getD,h]
theorem qa0(hl:l.length<=1099511627776):Pure Tryz.prog 37 [ints l,vi x] (ints (xw l x)):=by
 refine pure_intro Tryz.func37 nm_ qwb (by show 2<=47;decide) ?_
 show ewp _ qtO _ _;repeat' with_reducible first|refine s_ ?_|simp -implicitDefEqProofs only[wZZ,seval]
 refine qb ?nx1 (λ(k:Nat) s=>s.f 0=?v1_0/\s.f 1=?v1_1/\s.f 5=vi k/\(k<=l.length)/\(Vm l x k=Vm l x l.length)) (λk=>k) (l.length) wj_ (by refine⟨?_,?_,?_,wo_,wo_⟩<;>first|(simp -implicitDefEqProofs only[wL,wM,wN,wX,seval,Option.some.injEq]<;>exact wt_)|rfl|exact⟨_,rfl⟩) ?_;intro k s hnx ⟨g0,g1,g5,k1_0,k1_1⟩;by_cases hk:k=0
 . subst hk;have hc:Vm l x l.length=0:=k1_1.symm;have hp:xw l x=[]++[x]++l:=(by unfold xw;rw[hc];simp);rw[hp];repeat' with_reducible first|refine s_ ?_|simp -implicitDefEqProofs only[wZZ,seval,g0,g1,g5]|apply KW;(focus(first|exact qY.sl|exact qY.asl|exact qY.str));exact wf_;(focus(unfold maxLen;first|omega|(simp only[wZ]<;>omega)))|(refine VE ?_;simp -implicitDefEqProofs only[wM,wN,seval,g0,g1,g5];apply qcE;(focus(first|exact qY.sl|exact qY.asl|exact qY.str));(exact wf_);(focus(unfold maxLen;first|omega|(simp only[wZ]<;>omega))))|apply YF;omega;exact wf_|apply Jb;omega;exact wf_
   refine qz rfl (Or.inr rfl) ?_;simp -implicitDefEqProofs only[wL,seval,g0,g1,g5];refine er_ ?_
   try(with_reducible rfl)
   simp
 . obtain ⟨m,rfl⟩:∃m,k=m+1:=⟨k - 1,o_⟩;have hm:m<l.length:=o_;rw[JI,getD_eq hm]at k1_1;by_cases hgt:x<l[m]
   . rw[if_pos hgt]at k1_1;repeat' with_reducible first|refine s_ ?_|simp -implicitDefEqProofs only[wZZ,seval,g0,g1,g5]|(first|apply qa|apply qA|apply qB)<;>intro h h_<;>(try simp only[wD,reduceCtorEq]at h_)<;>(try exact wb_)<;>(try simp only[h])|refine t_ ?_|simp -implicitDefEqProofs (disch:=omega) only[w64,if_neg]
     refine⟨wk_,m,o_,?_⟩;refine⟨?_,?_,?_,?_,?_⟩;iterate 3 (focus(first|(simp -implicitDefEqProofs only[wL,wM,wN,wX,seval,Option.some.injEq,g0,g1,g5]<;>exact wt_)|rfl|exact⟨_,rfl⟩))
     all_goals try omega
   . rw [if_neg hgt]at k1_1;have hp:xw l x=if l[m]=x then l else l.take (m+1)++[x]++l.drop (m+1):=by
      unfold xw;rw[<- k1_1];simp[ge_ hm]
     by_cases hx:l[m]=x
     . rw[hp,if_pos hx];repeat' with_reducible first|refine s_ ?_|simp -implicitDefEqProofs only[wZZ,seval,g0,g1,g5]|(first|apply qa|apply qA|apply qB)<;>intro h h_<;>(try simp only[wD,reduceCtorEq]at h_)<;>(try exact wb_)<;>(try simp only[h])|refine t_ ?_|simp -implicitDefEqProofs (disch:=omega) only[w64,if_neg]
       refine qz rfl (Or.inr rfl) ?_;simp -implicitDefEqProofs only[wL,seval,g0,g1,g5];refine er_ ?_
       try(with_reducible rfl)
     . rw[hp,if_neg hx];repeat' with_reducible first|refine s_ ?_|simp -implicitDefEqProofs only[wZZ,seval,g0,g1,g5]|(first|apply qa|apply qA|apply qB)<;>intro h h_<;>(try simp only[wD,reduceCtorEq]at h_)<;>(try exact wb_)<;>(try simp only[h])|refine t_ ?_|apply KW;(focus(first|exact qY.sl|exact qY.asl|exact qY.str));exact wf_;(focus(unfold maxLen;first|omega|(simp only[wZ]<;>omega)))|(refine VE ?_;simp -implicitDefEqProofs only[wM,wN,seval,g0,g1,g5];apply qcE;(focus(first|exact qY.sl|exact qY.asl|exact qY.str));(exact wf_);(focus(unfold maxLen;first|omega|(simp only[wZ]<;>omega))))|apply YF;omega;exact wf_|apply Jb;omega;exact wf_|simp -implicitDefEqProofs (disch:=omega) only[w64,if_neg]
       refine qz rfl (Or.inr rfl) ?_;simp -implicitDefEqProofs only[wL,seval,g0,g1,g5];refine er_ ?_
       try(with_reducible rfl)

abbrev jq(l:List Int):Prop:=l.Pairwise (· < ·)
theorem vw:∀{a b:List Int},jq a->jq b->(∀x,x∈a↔x∈b)->a=b
 |[],[],_,_,_=>rfl
 |[],y::b,_,_,h=>absurd ((h y).2 (List.mem_cons_self ..)) (by simp)
 |x::a,[],_,_,h=>absurd ((h x).1 (List.mem_cons_self ..)) (by simp)
 | x ::a,y::b,ha,hb,h=>by
   have ha':=List.pairwise_cons.1 ha;have hb':=List.pairwise_cons.1 hb;have hxy:x=y:=by
    have h1:=(h x).1 (List.mem_cons_self ..);have h2:=(h y).2 (List.mem_cons_self ..);rcases List.mem_cons.1 h1 with e|e
    . exact e
    . rcases List.mem_cons.1 h2 with e2|e2
      . exact e2.symm
      . have:=hb'.1 x e;have:=ha'.1 y e2;omega
   subst hxy;congr 1;refine vw ha'.2 hb'.2 λz=>?_;have hz:=h z;simp only[List.mem_cons]at hz;constructor
   . intro hm;rcases hz.1 (Or.inr hm)with e|e
     . subst e;have:=ha'.1 z hm;omega
     . exact e
   . intro hm;rcases hz.2 (Or.inr hm)with e|e
     . subst e;have:=hb'.1 z hm;omega
     . exact e
theorem qms(l:List Int)(x:Int)(n:Nat):∀i,Vm l x n<=i->i<n->x<l.getD i 0:=by
 induction n with
 |zero=>intro i _ h;omega
 | succ n ih=>
   intro i h1 h2;rw[JI]at h1;split at h1
   . rename_i hlt;by_cases hi:i=n
     . subst hi;exact hlt
     . exact ih i h1 o_
   . omega
theorem qnn(l:List Int)(x:Int)(n:Nat):0<Vm l x n->l.getD (Vm l x n - 1) 0<=x:=by
 induction n with
 |zero=>intro h;simp[Vm]at h
 | succ n ih=>
   rw[JI];split
   . exact ih
   . rename_i h;intro _;simpa using h
theorem zL{y:Int}:y∈xw l x↔y∈l\/y=x:=by
 have hk:=qda l x l.length;unfold xw;split
 . rename_i h;constructor
   . exact Or.inl
   . rintro (h1|h1)
     . exact h1
     . subst h1;rw[<- h.2,getD_eq o_];exact List.getElem_mem _
 . have e:∀y,y∈l↔y∈l.take (Vm l x l.length)\/y∈l.drop (Vm l x l.length):=by
    intro y
    conv=>lhs;rw[<- List.take_append_drop (Vm l x l.length) l]
    rw[List.mem_append]
   simp only[List.mem_append,List.mem_singleton,e y];constructor
   . rintro ((h|h)|h)
     . exact Or.inl (Or.inl h)
     . exact Or.inr h
     . exact Or.inl (Or.inr h)
   . rintro ((h|h)|h)
     . exact Or.inl (Or.inl h)
     . exact Or.inr h
     . exact Or.inl (Or.inr h)
theorem qln(h:jq l){i j:Nat}(hij:i<j)(hj:j<l.length):l.getD i 0<l.getD j 0:=by rw[getD_eq o_,getD_eq hj];exact(List.pairwise_iff_getElem.1 h) i j o_ hj hij
theorem jU(h:jq l):jq (xw l x):=by
 have hk:=qda l x l.length;have hhi:=qms l x l.length;have hlo:=qnn l x l.length;unfold xw;split
 . exact h
 . rename_i hn;generalize Vm l x l.length=k at *;have h1:∀y∈l.take k,y<x:=by
    intro y hy;obtain ⟨i,hi,rfl⟩:=List.getElem_of_mem hy;simp only[List.length_take]at hi;rw[List.getElem_take,<- getD_eq o_];have h0:=hlo o_;have hne:l.getD (k - 1) 0≠x:=λe=>hn ⟨o_,e⟩;by_cases hik:i=k - 1
    . subst hik;omega
    . have:=qln h (show i<k - 1 by omega) o_;omega
   have h2:∀y∈l.drop k,x<y:=by intro y hy;obtain ⟨i,hi,rfl⟩:=List.getElem_of_mem hy;simp only[List.length_drop]at hi;rw[List.getElem_drop,<- getD_eq o_];exact hhi (k+i) o_ o_
   rw[jq,List.append_assoc,List.pairwise_append];refine⟨h.sublist (List.take_sublist _ _),?_,?_⟩
   . rw[List.singleton_append,List.pairwise_cons];exact⟨h2,h.sublist (List.drop_sublist _ _)⟩
   . intro a ha b hb;have h3:=h1 a ha;rw[List.singleton_append]at hb;rcases List.mem_cons.1 hb with e|e
     . subst e;exact h3
     . have:=h2 b e;omega

structure Sym where
 name:List UInt8:=[]
 lit:Bool:=false
 num:Int:=0
 at_:Int:=0
 deriving DecidableEq,Inhabited
structure Part where
 sym:Sym:={}
 code:List UInt8:=[]
 at_:Int:=0
 deriving DecidableEq,Inhabited
structure Alt where
 parts:List Part:=[]
 prec:Sym:={}
 at_:Int:=0
 deriving DecidableEq,Inhabited
structure Rule where
 left:List UInt8:=[]
 alts:List Alt:=[]
 at_:Int:=0
 deriving DecidableEq,Inhabited
structure Decl where
 kind:Int:=0
 tag:List UInt8:=[]
 syms:List Sym:=[]
 at_:Int:=0
 deriving DecidableEq,Inhabited
structure Source where
 pro:List UInt8:=[]
 decls:List Decl:=[]
 rules:List Rule:=[]
 tail:List UInt8:=[]
 deriving DecidableEq,Inhabited
@[reducible] def Sym.V(x:Sym):V:= .agg [.str x.name,.bool x.lit,vi x.num,vi x.at_]
@[reducible] def Part.V(x:Part):V:= .agg [.str x.sym.name,.bool x.sym.lit,vi x.sym.num,vi x.sym.at_,.str x.code,vi x.at_]
@[reducible] def Alt.V(x:Alt):V:= .agg [.sl 6 false (x.parts.map Part.V),.str x.prec.name,.bool x.prec.lit,vi x.prec.num,vi x.prec.at_,vi x.at_]
@[reducible] def Rule.V(x:Rule):V:= .agg [.str x.left,.sl 6 false (x.alts.map Alt.V),vi x.at_]
@[reducible] def Decl.V(x:Decl):V:= .agg [vi x.kind,.str x.tag,.sl 4 false (x.syms.map Sym.V),vi x.at_]
@[reducible] def Source.V(x:Source):V:= .agg [.str x.pro,.sl 4 false (x.decls.map Decl.V),.sl 3 false (x.rules.map Rule.V),.str x.tail]
variable {n:Int}
theorem qb8{i:Int}(hn:0<n)(h:n<=4611686018427387904):(if i.tmod n<0 then IntKind.i64.wrap (i.tmod n+n)else i.tmod n)=i % n:=by
 have h1:=Int.tmod_lt_of_pos i hn;have h2: - n<i.tmod n:=by have:=Int.tmod_lt_of_pos (-i) hn;rw[Int.neg_tmod]at this;omega
 have e:i.tmod n=i % n\/i.tmod n+n=i % n:=by
  rw[Int.tmod_eq_emod];have:=Int.emod_lt_of_pos i hn;have:=Int.emod_nonneg i (show n≠0 by omega);split
  . left;omega
  . right;omega
 have h3:=Int.emod_nonneg i (show n≠0 by omega);have h4:=Int.emod_lt_of_pos i hn;split
 . rw[wrap64 o_ o_];omega
 . omega
theorem XO{i:Int}(hn:0<n)(hm:n<=4611686018427387904):Pure Tryz.prog 24 [vi i,vi n] (vi (i % n)):=by
 refine pure_intro Tryz.func24 nm_ qwk (by show 2<=15;decide) ?_
 show ewp _ qvu _ _;have e:=qb8 (i:=i) hn hm;by_cases h:i.tmod n<0
 . rw[if_pos h]at e;have hne: ¬ (n=0):=o_;repeat' with_reducible first|refine s_ ?_|simp -implicitDefEqProofs only[wZZ,seval,hne,e]|apply qa<;>intro h h_<;>(try simp only[wD,reduceCtorEq]at h_)<;>(try exact wb_)<;>(try simp only[h])
   refine qz rfl (Or.inr rfl) ?_;simp -implicitDefEqProofs only[wL,seval];refine er_ ?_
   try(with_reducible rfl)
 . rw[if_neg h]at e;have hne: ¬ (n=0):=o_;repeat' with_reducible first|refine s_ ?_|simp -implicitDefEqProofs only[wZZ,seval,hne,e]|apply qa<;>intro h h_<;>(try simp only[wD,reduceCtorEq]at h_)<;>(try exact wb_)<;>(try simp only[h])
   refine qz rfl (Or.inr rfl) ?_;simp -implicitDefEqProofs only[wL,seval];refine er_ ?_
   try(with_reducible rfl)

@[reducible] def Zo(s:List UInt8)(n:Int):List UInt8:=s.take n.toNat
theorem jd{s:List UInt8}(hs:s.length<=1099511627776)(hn:0<=n):Pure Tryz.prog 44 [.str s,vi n] (.str (Zo s n)):=by
 refine pure_intro Tryz.func44 nm_ qvU (by show 2<=13;decide) ?_
 show ewp _ qyi _ _;by_cases h:n<s.length
 . repeat' with_reducible first|refine s_ ?_|simp -implicitDefEqProofs only[wZZ,seval]|apply qa<;>intro h h_<;>(try simp only[wD,reduceCtorEq]at h_)<;>(try exact wb_)<;>(try simp only[h])|apply qt5;omega;omega
   refine qz rfl (Or.inr rfl) ?_;simp -implicitDefEqProofs only[wL,seval];refine er_ ?_
   try(with_reducible rfl)
 . have e:Zo s n=s:=List.take_of_length_le o_;rw[e];repeat' with_reducible first|refine s_ ?_|simp -implicitDefEqProofs only[wZZ,seval]|apply qa<;>intro h h_<;>(try simp only[wD,reduceCtorEq]at h_)<;>(try exact wb_)<;>(try simp only[h])
   refine qz rfl (Or.inr rfl) ?_;simp -implicitDefEqProofs only[wL,seval];refine er_ ?_
   try(with_reducible rfl)
@[reducible] def Jh(x:Sym):Sym:=⟨Zo x.name 25,x.lit,x.num,x.at_⟩
theorem xS{x:Sym}(hs:x.name.length<=1099511627776):Pure Tryz.prog 45 [x.V] ((Jh x).V):=by
 refine pure_intro Tryz.func45 nm_ qxm (by show 1<=13;decide) ?_
 show ewp _ qxN _ _;repeat' with_reducible first|refine s_ ?_|simp -implicitDefEqProofs only[wZZ,seval]|refine t_ ?_|refine jZ we_ we_ (jd wf_ wf_) ?_
 apply quW (t:=2) rfl (Or.inr rfl);(focus(first|rfl|((try simp -implicitDefEqProofs only[wL,wM,wN,seval]);rfl)));(focus(first|rfl|((try simp -implicitDefEqProofs only[wL,wM,wN,seval]);rfl)));(exact wu_);(try exact qd)
def qbd(c:UInt8):Bool:=(decide (97<=c.toNat) && decide (c.toNat<=122)) || (decide (65<=c.toNat) && decide (c.toNat<=90)) || decide (c.toNat=95)
def qd1(c:UInt8):Bool:=decide (48<=c.toNat) && decide (c.toNat<=57)
variable {c:UInt8}
theorem XY:Pure Tryz.prog 170 [.int .u8 c.toNat] (.bool (qbd c)):=by
 refine pure_intro Tryz.func170 nm_ qn1 (by show 1<=21;decide) ?_
 show ewp _ qw5 _ _;repeat' with_reducible first|refine s_ ?_|simp -implicitDefEqProofs only[wZZ,seval]|(first|apply qA|apply qB)<;>intro h h_<;>(try simp only[wD,reduceCtorEq]at h_)<;>(try exact wb_)<;>(try simp only[h])
 all_goals refine qz rfl (Or.inr rfl) ?_
 all_goals(try simp -implicitDefEqProofs only[wL,seval])
 all_goals refine er_ ?_
 all_goals(try(with_reducible rfl))
 all_goals(rw[Bool.eq_iff_iff];simp[qbd];omega)
theorem Vt:Pure Tryz.prog 171 [.int .u8 c.toNat] (.bool (qd1 c)):=by
 refine pure_intro Tryz.func171 nm_ qpK (by show 1<=9;decide) ?_
 show ewp _ qwG _ _;repeat' with_reducible first|refine s_ ?_|simp -implicitDefEqProofs only[wZZ,seval]|(first|apply qA|apply qB)<;>intro h h_<;>(try simp only[wD,reduceCtorEq]at h_)<;>(try exact wb_)<;>(try simp only[h])
 all_goals refine qz rfl (Or.inr rfl) ?_
 all_goals(try simp -implicitDefEqProofs only[wL,seval])
 all_goals refine er_ ?_
 all_goals(try(with_reducible rfl))
 all_goals(rw[Bool.eq_iff_iff];simp[qd1];omega)
def qjY:List UInt8:=[112,113,114,115]
def xR(s:List UInt8)(at_:Int)(w:List UInt8):Bool:=decide (at_+w.length<=s.length) && decide ((s.take (at_+w.length).toNat).drop at_.toNat=w)
theorem jJ{s w:List UInt8}{at_:Int}(hs:s.length<=1099511627776)(hw:w.length<=1099511627776)(ha:0<=at_)(hb:at_<=1099511627776):Pure Tryz.prog 177 [.str s,vi at_,.str w] (.bool (xR s at_ w)):=by
 refine pure_intro Tryz.func177 nm_ qpx (by show 3<=25;decide) ?_
 show ewp _ qrg _ _;have h1:IntKind.i64.wrap ((s.length:Int) - at_)=(s.length:Int) - at_:=wrap64 o_ o_;repeat' with_reducible first|refine s_ ?_|simp -implicitDefEqProofs only[wZZ,seval,h1]|(first|apply qA|apply qB)<;>intro h h_<;>(try simp only[wD,reduceCtorEq]at h_)<;>(try exact wb_)<;>(try simp only[h])|apply qd0;omega;omega;omega|simp -implicitDefEqProofs (disch:=omega) only[w64,if_neg]
 all_goals refine qz rfl (Or.inr rfl) ?_
 all_goals(try simp -implicitDefEqProofs only[wL,seval])
 all_goals refine er_ ?_
 all_goals(try(with_reducible rfl))
 . unfold xR;have e:decide (at_+(w.length:Int)<=(s.length:Int))=true:=(by rw[decide_eq_true_eq];omega);rw[e];rfl
 . unfold xR;have e:decide (at_+(w.length:Int)<=(s.length:Int))=false:=(by rw[decide_eq_false_iff_not];omega);rw[e];rfl
def qcO(c:UInt8):Bool:=decide (c.toNat=10) || decide (c.toNat=9) || decide (c.toNat=13) || decide (c.toNat=92) || decide (c.toNat=39) || (decide (32<=c.toNat) && decide (c.toNat<=126))
def qlD(c:UInt8):UInt8:=if c.toNat=10 then 110 else if c.toNat=9 then 116 else if c.toNat=13 then 114 else if c.toNat=92 then c else if c.toNat=39 then c else 0
theorem X4:Pure Tryz.prog 169 [.int .u8 c.toNat] (.tup [.int .u8 (qlD c).toNat,.bool (qcO c)]):=by
 refine pure_intro Tryz.func169 nm_ qph (by show 1<=21;decide) ?_
 show ewp _ qpj _ _;repeat' with_reducible first|refine s_ ?_|simp -implicitDefEqProofs only[wZZ,seval]|(first|apply qa|apply qA|apply qB)<;>intro h h_<;>(try simp only[wD,reduceCtorEq]at h_)<;>(try exact wb_)<;>(try simp only[h])
 all_goals refine qft rfl (Or.inr rfl) ?_
 all_goals(try simp -implicitDefEqProofs only[wL,seval])
 all_goals(refine qmf ?_ ?_<;>refine er_ ?_<;>(try(with_reducible rfl)))
 all_goals first|(unfold qlD;(repeat' split)<;>first|(exfalso;omega)|rfl)|(rw[Bool.eq_iff_iff];simp[qcO];omega)
@[reducible] def qzu(k:Int):List UInt8:=[UInt8.ofNat (97+k).toNat]
@[reducible] def qfW(k:Int):Sym:={name:=(qjY.take (k % 4+1).toNat).drop (k % 4).toNat,lit:=true}

def XF:List UInt8->Bool->Nat
 |[],_=>0
 |c::r,more=>if qbd c || (more && (qd1 c || decide (c.toNat=46)))then XF r true+1 else 0
theorem qcT(c:UInt8)(r:List UInt8)(more:Bool):XF (c::r) more=if qbd c || (more && (qd1 c || decide (c.toNat=46)))then XF r true+1 else 0:=rfl
variable {tx:List UInt8}
theorem X0(hs:tx.length<=1099511627776):Pure Tryz.prog 150 [.str tx,vi 0] (vi (XF tx false)):=by
 refine pure_intro Tryz.func150 nm_ qqz (by show 2<=43;decide) ?_
 show ewp _ qpU _ _;repeat' with_reducible first|refine s_ ?_|simp -implicitDefEqProofs only[wZZ,seval]
 refine qb ?nx1 (λ(n:Nat) s=>s.f 0=?v1_0/\s.f 1=?v1_1/\s.f 5=vi n/\(n<=tx.length)/\(XF tx false=n+XF (tx.drop n) (decide (0<n)))) (λn=>tx.length - n) (0) wj_ (by refine⟨?_,?_,?_,wo_,wo_⟩<;>first|(simp -implicitDefEqProofs only[wL,wM,wN,wX,seval,Option.some.injEq]<;>exact wt_)|rfl|exact⟨_,rfl⟩) ?_;intro n s hnx ⟨g0,g1,g5,k1_0,k1_1⟩;have hz:IntKind.i64.wrap (0+(n:Int))=n:=by rw[Int.zero_add];exact wrap64 o_ o_
 by_cases hn:n<tx.length
 . have hd:tx.drop n=tx[n]::tx.drop (n+1):=List.drop_eq_getElem_cons hn;rw[hd,qcT]at k1_1;have h0:decide (0<n+1)=true:=(by simp);repeat' with_reducible first|refine s_ ?_|simp -implicitDefEqProofs only[wZZ,seval,g0,g1,g5,hz]|(first|apply qa|apply qA|apply qB)<;>intro h h_<;>(try simp only[wD,reduceCtorEq]at h_)<;>(try exact wb_)<;>(try simp only[h])|refine t_ ?_|refine cq1 XY we_ ?_|refine cq1 Vt we_ ?_|simp -implicitDefEqProofs (disch:=omega) only[w64,if_neg]
   . refine⟨wk_,n+1,o_,?_⟩;refine⟨?_,?_,?_,?_,?_⟩;iterate 3 (focus(first|(simp -implicitDefEqProofs only[wL,wM,wN,wX,seval,Option.some.injEq,g0,g1,g5]<;>exact wt_)|rfl|exact⟨_,rfl⟩))
     all_goals try omega
     rw[k1_1,h0,if_pos (by rw[Bool.or_eq_true,Bool.and_eq_true,Bool.or_eq_true,decide_eq_true_eq,decide_eq_true_eq];first|exact Or.inl as_|exact Or.inr ⟨o_,Or.inl as_⟩|exact Or.inr ⟨o_,Or.inr o_⟩)];omega
   . refine qz rfl (Or.inr rfl) ?_;simp -implicitDefEqProofs only[wL,seval,g0,g1,g5];refine er_ ?_
     try(with_reducible rfl)
     rw[k1_1,if_neg (by rw[Bool.or_eq_true,Bool.and_eq_true,Bool.or_eq_true,decide_eq_true_eq,decide_eq_true_eq];rintro (h|⟨h,h|h⟩)<;>first|omega|simp_all)];rfl
   . refine⟨wk_,n+1,o_,?_⟩;refine⟨?_,?_,?_,?_,?_⟩;iterate 3 (focus(first|(simp -implicitDefEqProofs only[wL,wM,wN,wX,seval,Option.some.injEq,g0,g1,g5]<;>exact wt_)|rfl|exact⟨_,rfl⟩))
     all_goals try omega
     rw[k1_1,h0,if_pos (by rw[Bool.or_eq_true,Bool.and_eq_true,Bool.or_eq_true,decide_eq_true_eq,decide_eq_true_eq];first|exact Or.inl as_|exact Or.inr ⟨o_,Or.inl as_⟩|exact Or.inr ⟨o_,Or.inr o_⟩)];omega
   . refine qz rfl (Or.inr rfl) ?_;simp -implicitDefEqProofs only[wL,seval,g0,g1,g5];refine er_ ?_
     try(with_reducible rfl)
     rw[k1_1,if_neg (by rw[Bool.or_eq_true,Bool.and_eq_true,Bool.or_eq_true,decide_eq_true_eq,decide_eq_true_eq];rintro (h|⟨h,h|h⟩)<;>first|omega|simp_all)];rfl
   . refine⟨wk_,n+1,o_,?_⟩;refine⟨?_,?_,?_,?_,?_⟩;iterate 3 (focus(first|(simp -implicitDefEqProofs only[wL,wM,wN,wX,seval,Option.some.injEq,g0,g1,g5]<;>exact wt_)|rfl|exact⟨_,rfl⟩))
     all_goals try omega
     rw[k1_1,h0,if_pos (by rw[Bool.or_eq_true,Bool.and_eq_true,Bool.or_eq_true,decide_eq_true_eq,decide_eq_true_eq];first|exact Or.inl as_|exact Or.inr ⟨o_,Or.inl as_⟩|exact Or.inr ⟨o_,Or.inr o_⟩)];omega
 . repeat' with_reducible first|refine s_ ?_|simp -implicitDefEqProofs only[wZZ,seval,g0,g1,g5,hz]|(first|apply qA|apply qB)<;>intro h h_<;>(try simp only[wD,reduceCtorEq]at h_)<;>(try exact wb_)<;>(try simp only[h])
   refine qz rfl (Or.inr rfl) ?_;simp -implicitDefEqProofs only[wL,seval,g0,g1,g5];refine er_ ?_
   try(with_reducible rfl)
   rw[List.drop_eq_nil_of_le o_]at k1_1;rw[k1_1];simp[XF]
def qc9(tx:List UInt8):Bool:=decide (1<=tx.length) && decide (tx.length<=20) && decide (XF tx false=tx.length)
theorem vD(hs:tx.length<=1099511627776):Pure Tryz.prog 127 [.str tx] (.bool (qc9 tx)):=by
 refine pure_intro Tryz.func127 nm_ qmn (by show 1<=18;decide) ?_
 show ewp _ qv4 _ _;repeat' with_reducible first|refine s_ ?_|simp -implicitDefEqProofs only[wZZ,seval]|(first|apply qA|apply qB)<;>intro h h_<;>(try simp only[wD,reduceCtorEq]at h_)<;>(try exact wb_)<;>(try simp only[h])|refine jZ we_ we_ (X0 wf_) ?_
 all_goals refine qz rfl (Or.inr rfl) ?_
 all_goals(try simp -implicitDefEqProofs only[wL,seval])
 all_goals refine er_ ?_
 all_goals(try(with_reducible rfl))
 all_goals(rw[Bool.eq_iff_iff];simp[qc9];omega)
@[reducible] def Sym.none(x:Sym):Bool:=decide (x.name=[]) && !x.lit && decide (x.num=0)
theorem Zt{x:Sym}:Pure Tryz.prog 151 [x.V] (.bool x.none):=by
 refine pure_intro Tryz.func151 nm_ qqK (by show 1<=16;decide) ?_
 show ewp _ qq4 _ _;obtain ⟨nm,lt,nu,at_⟩:=x;repeat' with_reducible first|refine s_ ?_|simp -implicitDefEqProofs only[wZZ,seval]|(first|apply qA|apply qB)<;>intro h h_<;>(try simp only[wD,reduceCtorEq]at h_)<;>(try exact wb_)<;>(try simp only[h])|refine t_ ?_
 all_goals refine qz rfl (Or.inr rfl) ?_
 all_goals(try simp -implicitDefEqProofs only[wL,seval])
 all_goals refine er_ ?_
 all_goals(try(with_reducible rfl))
 all_goals(simp_all [Sym.none])

def qgg(x:Sym)(num lit:Bool):Bool:=if x.lit then lit && decide (x.name.length=1) && qcO (x.name.headD 0) && decide (x.num=0)else qc9 x.name && (decide (x.num=0) || (num && decide (1<=x.num) && decide (x.num<=50000)))
theorem xM{x:Sym}{num lit:Bool}(hs:x.name.length<=1099511627776):Pure Tryz.prog 149 [x.V,.bool num,.bool lit] (.bool (qgg x num lit)):=by
 refine pure_intro Tryz.func149 nm_ qpP (by show 3<=53;decide) ?_
 show ewp _ qpQ _ _;obtain ⟨nm,lt,nu,at_⟩:=x;repeat' with_reducible first|refine s_ ?_|simp -implicitDefEqProofs only[wZZ,seval]|(first|apply qa|apply qA|apply qB)<;>intro h h_<;>(try simp only[wD,reduceCtorEq]at h_)<;>(try exact wb_)<;>(try simp only[h])|refine t_ ?_|refine cq1 X4 we_ ?_|refine yY we_ (vD wf_) ?_
 all_goals refine qz rfl (Or.inr rfl) ?_
 all_goals(try simp -implicitDefEqProofs only[wL,seval])
 all_goals refine er_ ?_
 all_goals(try(with_reducible rfl))
 all_goals first
  |(simp_all [qgg];done)
  |(simp_all [qgg];omega)
  | (obtain ⟨c,hc⟩:∃c,nm=[c]:=List.length_eq_one_iff.1 o_
     subst hc;simp_all [qgg])

def Sym.Fits(x:Sym):Prop:=x.name.length<=1099511627776
def qoJ(d:Decl):Bool:=decide (d.kind<1) || decide (6<d.kind) || decide ((d.syms.length:Int)=0) || (decide (d.kind=6) && (!decide ((d.syms.length:Int)=1) || !decide (d.tag=[]))) || (decide (d.kind=5) && decide (d.tag=[])) || (!decide (d.tag=[]) && !qc9 d.tag)
def V7(d:Decl):Bool:= !qoJ d && d.syms.all λx=>qgg x (decide (d.kind=1)) (decide (d.kind<5))
theorem Xf{d:Decl}(ht:d.tag.length<=1099511627776)(hl:d.syms.length<=1099511627776)(hs:∀x∈d.syms,x.name.length<=1099511627776):Pure Tryz.prog 126 [d.V] (.bool (V7 d)):=by
 refine pure_intro Tryz.func126 nm_ qnD (by show 1<=75;decide) ?_
 show ewp _ qps _ _;obtain ⟨kd,tg,sy,at_⟩:=d;dsimp only at ht hl hs;refine Qa (λs=>s.f 1=.ptr 0 0 0/\s.H 0=some (.own 4 [Decl.V ⟨kd,tg,sy,at_⟩] false)/\1<=s.next) ?_ ?_
 . repeat' with_reducible first|refine s_ ?_|simp -implicitDefEqProofs only[wZZ,seval]|refine t_ ?_
   all_goals(refine⟨?_,?_,?_⟩)
   all_goals((try simp -implicitDefEqProofs only[wL,wM,wN,seval]);try(first|rfl|omega))
 intro s ⟨g1,o0,hnx⟩;refine qhz ?_;refine Qa (λs=>s.f 1=.ptr 0 0 0/\s.f 54=.bool (qoJ ⟨kd,tg,sy,at_⟩)/\s.H 0=some (.own 4 [Decl.V ⟨kd,tg,sy,at_⟩] false)/\1<=s.next) ?_ ?_
 . repeat' with_reducible first|refine s_ ?_|simp -implicitDefEqProofs only[wZZ,seval,g1,o0]|(first|apply qA|apply qB)<;>intro h h_<;>(try simp only[wD,reduceCtorEq]at h_)<;>(try exact wb_)<;>(try simp only[h])|refine t_ ?_|refine yY we_ (vD wf_) ?_
   all_goals(refine⟨?_,?_,?_,?_⟩)
   all_goals((try simp -implicitDefEqProofs only[wL,wM,wN,seval,g1,o0]);try(first|rfl|omega))
   all_goals(refine congrArg V.bool ?_;simp only[qoJ, *];rfl)
 intro s ⟨g1,g54,o0,hnx⟩;by_cases hb:qoJ ⟨kd,tg,sy,at_⟩=true
 . have e:V7 ⟨kd,tg,sy,at_⟩=false:=(by unfold V7;rw[hb];rfl);rw[e];repeat' with_reducible first|refine s_ ?_|simp -implicitDefEqProofs only[wZZ,seval,g1,g54,o0,hb]
   refine qz rfl (Or.inr rfl) ?_;simp -implicitDefEqProofs only[wL,seval,g1,g54];refine er_ ?_
   try(with_reducible rfl)
 . have hb2:qoJ ⟨kd,tg,sy,at_⟩=false:=(by simpa using hb);have e:V7 ⟨kd,tg,sy,at_⟩=sy.all λx=>qgg x (decide (kd=1)) (decide (kd<5)):=(by unfold V7;rw[hb2];rfl);rw[e];repeat' with_reducible first|refine s_ ?_|simp -implicitDefEqProofs only[wZZ,seval,g1,g54,o0,hb2]
   refine qb ?nx1 (λ(k:Nat) s=>s.f 1=?v1_1/\s.H 0=?o1_0/\s.f 3=vi k/\(k<=sy.length)/\(∀x∈sy.take k,qgg x (decide (kd=1)) (decide (kd<5))=true)) (λk=>sy.length - k) (0) wj_ (by refine⟨?_,?_,?_,wo_,wo_⟩<;>first|(simp -implicitDefEqProofs only[wL,wM,wN,wX,seval,Option.some.injEq,g1,g54,o0]<;>exact wt_)|rfl|exact⟨_,rfl⟩) ?_;intro k s hnx ⟨g1,o0,g3,k1_0,k1_1⟩;by_cases hk:k<sy.length
   . have hx:=hs sy[k] (List.getElem_mem hk);have ht2:sy.take (k+1)=sy.take k++[sy[k]]:=(by rw[List.take_add_one,ge_ hk];rfl);repeat' with_reducible first|refine s_ ?_|simp -implicitDefEqProofs only[wZZ,seval,g1,g3,o0]|apply qa<;>intro h h_<;>(try simp only[wD,reduceCtorEq]at h_)<;>(try exact wb_)<;>(try simp only[h])|refine t_ ?_|refine XA we_ we_ we_ (xM wf_) ?_|simp -implicitDefEqProofs (disch:=omega) only[w64,if_neg]
     . refine qz rfl (Or.inr rfl) ?_;simp -implicitDefEqProofs only[wL,seval,g1,g3];refine er_ ?_
       try(with_reducible rfl)
       refine(List.all_eq_false.2 ⟨sy[k],List.getElem_mem hk,?_⟩).symm;rw[h_];exact Bool.false_ne_true
     . refine⟨wk_,k+1,o_,?_⟩;refine⟨?_,?_,?_,?_,?_⟩;iterate 3 (focus(first|(simp -implicitDefEqProofs only[wL,wM,wN,wX,seval,Option.some.injEq,g1,g3,o0]<;>exact wt_)|rfl|exact⟨_,rfl⟩))
       all_goals try omega
       rw[ht2];intro x hx2;rcases List.mem_append.1 hx2 with hx2|hx2
       . exact k1_1 x hx2
       . obtain rfl:=List.mem_singleton.1 hx2;exact h_
   . repeat' with_reducible first|refine s_ ?_|simp -implicitDefEqProofs only[wZZ,seval,g1,g3,o0]|apply qa<;>intro h h_<;>(try simp only[wD,reduceCtorEq]at h_)<;>(try exact wb_)<;>(try simp only[h])|refine t_ ?_
     refine qz rfl (Or.inr rfl) ?_;simp -implicitDefEqProofs only[wL,seval,g1,g3];refine er_ ?_
     try(with_reducible rfl)
     rw[List.take_of_length_le o_]at k1_1;exact(List.all_eq_true.2 k1_1).symm

def Vg(q:UInt8):List UInt8->Int->Int
 |[],_=> -1
 |[c],i=>if c.toNat=10 then -1 else if c.toNat=q.toNat then i+1 else -1
 |c::d::r,i=>if c.toNat=10 then -1 else if c.toNat=q.toNat then i+1 else if c.toNat=92 then(if d.toNat=10 then -1 else Vg q r (i+2))else Vg q (d::r) (i+1)
theorem qfy(q c:UInt8)(r:List UInt8)(i:Int):Vg q (c::r) i=if c.toNat=10 then -1 else if c.toNat=q.toNat then i+1 else if c.toNat=92 then(if (r.headD 10).toNat=10 then -1 else Vg q r.tail (i+2))else Vg q r (i+1):=by
 cases r with
 |nil=>simp[Vg]
 |cons d r=>simp[Vg]
def Kb:List UInt8->Int->Int
 |[],_=> -1
 |c::r,i=>if c.toNat=96 then i+1 else Kb r (i+1)
def KO:List UInt8->Int->Int
 |[],i=>i
 |c::r,i=>if c.toNat=10 then i else KO r (i+1)
def VB(tx:List UInt8):Nat->Int->Int
 |0,_=> -1
 |n+1,i=>if xR tx i [42,47]then i+2 else VB tx n (i+1)
def qaj(tx:List UInt8)(at_:Nat):Int:=
 let c:=tx.getD at_ 0
 if c.toNat=34\/c.toNat=39 then Vg c (tx.drop (at_+1)) (at_+1)else if c.toNat=96 then Kb (tx.drop (at_+1)) (at_+1)
 else if xR tx at_ [47,47]then KO (tx.drop at_) at_ else if xR tx at_ [47,42]then VB tx (tx.length - (at_+2)) (at_+2)else at_
theorem jG{at_:Nat}(hs:tx.length<=1099511627776)(ha:at_<tx.length):Pure Tryz.prog 172 [.str tx,vi at_] (vi (qaj tx at_)):=by
 refine pure_intro Tryz.func172 nm_ qnO (by show 2<=114;decide) ?_
 show ewp _ qqd _ _;have hg:tx.getD at_ 0=tx[at_]:=by simp[List.getD,ha]
 have he:qaj tx at_=if tx[at_].toNat=34\/tx[at_].toNat=39 then Vg tx[at_] (tx.drop (at_+1)) (at_+1)else if tx[at_].toNat=96 then Kb (tx.drop (at_+1)) (at_+1)
  else if xR tx at_ [47,47]then KO (tx.drop at_) at_ else if xR tx at_ [47,42]then VB tx (tx.length - (at_+2)) (at_+2)else at_:=by unfold qaj;rw[hg]
 refine Qa (λs=>s.f 0=.str tx/\s.f 1=vi at_/\0<=s.next) ?_ ?_
 . repeat' with_reducible first|refine s_ ?_|simp -implicitDefEqProofs only[wZZ,seval]
   all_goals(refine⟨?_,?_,?_⟩)
   all_goals((try simp -implicitDefEqProofs only[wL,wM,wN,seval]);try(first|rfl|omega))
 intro s ⟨g0,g1,hnx⟩;refine yH ?_;refine xJ ?_;refine Qa (λs=>s.f 0=.str tx/\s.f 1=vi at_/\s.f 9=.bool (decide (tx[at_].toNat=34) || decide (tx[at_].toNat=39))/\0<=s.next) ?_ ?_
 . repeat' with_reducible first|refine s_ ?_|simp -implicitDefEqProofs only[wZZ,seval,g0,g1]|(first|apply qA|apply qB)<;>intro h h_<;>(try simp only[wD,reduceCtorEq]at h_)<;>(try exact wb_)<;>(try simp only[h])|refine t_ ?_
   all_goals(refine⟨?_,?_,?_,?_⟩)
   all_goals((try simp -implicitDefEqProofs only[wL,wM,wN,seval,g0,g1]);try(first|rfl|omega))
   all_goals(refine congrArg V.bool ?_;rw[Bool.eq_iff_iff];simp;omega)
 intro s ⟨g0,g1,g9,hnx⟩;by_cases h1:tx[at_].toNat=34\/tx[at_].toNat=39
 . rw [if_pos h1]at he;rw[he];generalize hR:Vg tx[at_] (tx.drop (at_+1)) ((at_:Int)+1)=R;have hb:(decide (tx[at_].toNat=34) || decide (tx[at_].toNat=39))=true:=(by simpa using h1);repeat' with_reducible first|refine s_ ?_|simp -implicitDefEqProofs only[wZZ,seval,g0,g1,g9,hb]|simp -implicitDefEqProofs (disch:=omega) only[w64,if_neg]
   refine qb ?nx1 (λ(k:Nat) s=>s.f 0=?v1_0/\s.f 1=?v1_1/\s.f 5=vi k/\(k<=tx.length+1)/\(Vg tx[at_] (tx.drop k) k=R)) (λk=>tx.length+1 - k) (at_+1) wj_ (by refine⟨?_,?_,?_,wo_,(by rw[<- hR];rfl)⟩<;>first|(simp -implicitDefEqProofs only[wL,wM,wN,wX,seval,Option.some.injEq,g0,g1,g9]<;>exact wt_)|rfl|exact⟨_,rfl⟩) ?_;intro k s hnx ⟨g0,g1,g5,k1_0,k1_1⟩;by_cases hk:k<tx.length
   . have hd:tx.drop k=tx[k]::tx.drop (k+1):=List.drop_eq_getElem_cons hk;have hz:=w1_ k;rw[hd,qfy]at k1_1;repeat' with_reducible first|refine s_ ?_|simp -implicitDefEqProofs only[wZZ,seval,g0,g1,g5,hz]|(first|apply qa|apply qA|apply qB)<;>intro h h_<;>(try simp only[wD,reduceCtorEq]at h_)<;>(try exact wb_)<;>(try simp only[h])|refine t_ ?_|simp -implicitDefEqProofs (disch:=omega) only[w64,if_neg]
     . refine qz rfl (Or.inr rfl) ?_;simp -implicitDefEqProofs only[wL,seval,g0,g1,g5];refine er_ ?_
       try(with_reducible rfl)
       rw[<- k1_1,if_neg o_,if_pos o_];rfl
     . refine qz rfl (Or.inr rfl) ?_;simp -implicitDefEqProofs only[wL,seval,g0,g1,g5];refine er_ ?_
       try(with_reducible rfl)
       rw[<- k1_1,if_neg o_,if_neg o_,if_pos o_,List.drop_eq_getElem_cons (show k+1<tx.length by omega),List.headD_cons,if_pos o_]
     . refine⟨wk_,k+2,o_,?_⟩;refine⟨?_,?_,?_,?_,?_⟩;iterate 3 (focus(first|(simp -implicitDefEqProofs only[wL,wM,wN,wX,seval,Option.some.injEq,g0,g1,g5]<;>exact wt_)|rfl|exact⟨_,rfl⟩))
       all_goals try omega
       rw[<- k1_1,if_neg o_,if_neg o_,if_pos o_,List.drop_eq_getElem_cons (show k+1<tx.length by omega),List.headD_cons,if_neg o_];rfl
     . refine⟨wk_,k+2,o_,?_⟩;refine⟨?_,?_,?_,?_,?_⟩;iterate 3 (focus(first|(simp -implicitDefEqProofs only[wL,wM,wN,wX,seval,Option.some.injEq,g0,g1,g5]<;>exact wt_)|rfl|exact⟨_,rfl⟩))
       all_goals try omega
       rw[<- k1_1,if_neg o_,if_neg o_,if_pos o_,List.drop_eq_nil_of_le (show tx.length<=k+1 by omega),List.drop_eq_nil_of_le (show tx.length<=k+2 by omega)];rfl
     . refine⟨wk_,k+1,o_,?_⟩;refine⟨?_,?_,?_,?_,?_⟩;iterate 3 (focus(first|(simp -implicitDefEqProofs only[wL,wM,wN,wX,seval,Option.some.injEq,g0,g1,g5]<;>exact wt_)|rfl|exact⟨_,rfl⟩))
       all_goals try omega
       rw[<- k1_1,if_neg o_,if_neg o_,if_neg o_];rfl
     . refine qz rfl (Or.inr rfl) ?_;simp -implicitDefEqProofs only[wL,seval,g0,g1,g5];refine er_ ?_
       try(with_reducible rfl)
       rw[<- k1_1,if_pos o_]
   . rw[List.drop_eq_nil_of_le o_]at k1_1;repeat' with_reducible first|refine s_ ?_|simp -implicitDefEqProofs only[wZZ,seval,g0,g1,g5]|(first|apply qA|apply qB)<;>intro h h_<;>(try simp only[wD,reduceCtorEq]at h_)<;>(try exact wb_)<;>(try simp only[h])
     refine qz rfl (Or.inr rfl) ?_;simp -implicitDefEqProofs only[wL,seval,g0,g1,g5];refine er_ ?_
     try(with_reducible rfl)
     rw[<- k1_1];rfl
 . skip
   rw[if_neg h1]at he;have hb:(decide (tx[at_].toNat=34) || decide (tx[at_].toNat=39))=false:=(by simpa using h1);by_cases h2:tx[at_].toNat=96
   . rw [if_pos h2]at he;rw[he];generalize hR:Kb (tx.drop (at_+1)) ((at_:Int)+1)=R;repeat' with_reducible first|refine s_ ?_|simp -implicitDefEqProofs only[wZZ,seval,g0,g1,g9,hb]|apply qa<;>intro h h_<;>(try simp only[wD,reduceCtorEq]at h_)<;>(try exact wb_)<;>(try simp only[h])|refine t_ ?_|simp -implicitDefEqProofs (disch:=omega) only[w64,if_neg]
     refine qb ?nx2 (λ(k:Nat) s=>s.f 0=?v2_0/\s.f 6=vi k/\(k<=tx.length)/\(Kb (tx.drop k) k=R)) (λk=>tx.length - k) (at_+1) wj_ (by refine⟨?_,?_,wo_,(by rw[<- hR];rfl)⟩<;>first|(simp -implicitDefEqProofs only[wL,wM,wN,wX,seval,Option.some.injEq,g0,g1,g9]<;>exact wt_)|rfl|exact⟨_,rfl⟩) ?_;intro k s hnx ⟨g0,g6,k2_0,k2_1⟩;by_cases hk:k<tx.length
     . rw[List.drop_eq_getElem_cons hk,Kb]at k2_1;repeat' with_reducible first|refine s_ ?_|simp -implicitDefEqProofs only[wZZ,seval,g0,g6]|apply qa<;>intro h h_<;>(try simp only[wD,reduceCtorEq]at h_)<;>(try exact wb_)<;>(try simp only[h])|refine t_ ?_|simp -implicitDefEqProofs (disch:=omega) only[w64,if_neg]
       . refine qz rfl (Or.inr rfl) ?_;simp -implicitDefEqProofs only[wL,seval,g0,g6];refine er_ ?_
         try(with_reducible rfl)
         rw[<- k2_1,if_pos o_];rfl
       . refine⟨wk_,k+1,o_,?_⟩;refine⟨?_,?_,?_,?_⟩;iterate 2 (focus(first|(simp -implicitDefEqProofs only[wL,wM,wN,wX,seval,Option.some.injEq,g0,g6]<;>exact wt_)|rfl|exact⟨_,rfl⟩))
         all_goals try omega
         rw[<- k2_1,if_neg o_];rfl
     . rw[List.drop_eq_nil_of_le o_]at k2_1;repeat' with_reducible first|refine s_ ?_|simp -implicitDefEqProofs only[wZZ,seval,g0,g6]|apply qa<;>intro h h_<;>(try simp only[wD,reduceCtorEq]at h_)<;>(try exact wb_)<;>(try simp only[h])
       refine qz rfl (Or.inr rfl) ?_;simp -implicitDefEqProofs only[wL,seval,g0,g6];refine er_ ?_
       try(with_reducible rfl)
       rw[<- k2_1];rfl
   . skip
     rw[if_neg h2]at he;by_cases h3:xR tx at_ [47,47]=true
     . rw [if_pos h3]at he;rw[he];generalize hR:KO (tx.drop at_) at_=R;repeat' with_reducible first|refine s_ ?_|simp -implicitDefEqProofs only[wZZ,seval,g0,g1,g9,hb,h3]|apply qa<;>intro h h_<;>(try simp only[wD,reduceCtorEq]at h_)<;>(try exact wb_)<;>(try simp only[h])|refine t_ ?_|refine XA we_ we_ we_ (jJ wf_ wf_ wf_ wf_) ?_
       refine qb ?nx3 (λ(k:Nat) s=>s.f 0=?v3_0/\s.f 7=vi k/\(k<=tx.length)/\(KO (tx.drop k) k=R)) (λk=>tx.length - k) (at_) wj_ (by refine⟨?_,?_,wo_,(by rw[<- hR])⟩<;>first|(simp -implicitDefEqProofs only[wL,wM,wN,wX,seval,Option.some.injEq,g0,g1,g9]<;>exact wt_)|rfl|exact⟨_,rfl⟩) ?_;intro k s hnx ⟨g0,g7,k3_0,k3_1⟩;by_cases hk:k<tx.length
       . rw[List.drop_eq_getElem_cons hk,KO]at k3_1;repeat' with_reducible first|refine s_ ?_|simp -implicitDefEqProofs only[wZZ,seval,g0,g7]|(first|apply qa|apply qA|apply qB)<;>intro h h_<;>(try simp only[wD,reduceCtorEq]at h_)<;>(try exact wb_)<;>(try simp only[h])|refine t_ ?_|simp -implicitDefEqProofs (disch:=omega) only[w64,if_neg]
         . refine⟨wk_,k+1,o_,?_⟩;refine⟨?_,?_,?_,?_⟩;iterate 2 (focus(first|(simp -implicitDefEqProofs only[wL,wM,wN,wX,seval,Option.some.injEq,g0,g7]<;>exact wt_)|rfl|exact⟨_,rfl⟩))
           all_goals try omega
           rw[<- k3_1,if_neg o_];rfl
         . refine qz rfl (Or.inr rfl) ?_;simp -implicitDefEqProofs only[wL,seval,g0,g7];refine er_ ?_
           try(with_reducible rfl)
           rw[<- k3_1,if_pos o_]
       . rw[List.drop_eq_nil_of_le o_]at k3_1;repeat' with_reducible first|refine s_ ?_|simp -implicitDefEqProofs only[wZZ,seval,g0,g7]|(first|apply qA|apply qB)<;>intro h h_<;>(try simp only[wD,reduceCtorEq]at h_)<;>(try exact wb_)<;>(try simp only[h])
         refine qz rfl (Or.inr rfl) ?_;simp -implicitDefEqProofs only[wL,seval,g0,g7];refine er_ ?_
         try(with_reducible rfl)
         rw[<- k3_1];rfl
     . skip
       rw[if_neg h3]at he;have h3b:xR tx at_ [47,47]=false:=(by simpa using h3);by_cases h4:xR tx at_ [47,42]=true
       . rw [if_pos h4]at he;rw[he];generalize hR:VB tx (tx.length - (at_+2)) ((at_:Int)+2)=R;repeat' with_reducible first|refine s_ ?_|simp -implicitDefEqProofs only[wZZ,seval,g0,g1,g9,hb,h3b,h4]|apply qa<;>intro h h_<;>(try simp only[wD,reduceCtorEq]at h_)<;>(try exact wb_)<;>(try simp only[h])|refine t_ ?_|refine XA we_ we_ we_ (jJ wf_ wf_ wf_ wf_) ?_|simp -implicitDefEqProofs (disch:=omega) only[w64,if_neg]
         refine qb ?nx4 (λ(k:Nat) s=>s.f 0=?v4_0/\s.f 8=vi k/\(VB tx (tx.length - k) k=R)) (λk=>tx.length - k) (at_+2) wj_ (by refine⟨?_,?_,(by rw[<- hR];rfl)⟩<;>first|(simp -implicitDefEqProofs only[wL,wM,wN,wX,seval,Option.some.injEq,g0,g1,g9]<;>exact wt_)|rfl|exact⟨_,rfl⟩) ?_;intro k s hnx ⟨g0,g8,k4_0⟩;by_cases hk:k<tx.length
         . rw[show tx.length - k=(tx.length - (k+1))+1 by omega,VB]at k4_0;repeat' with_reducible first|refine s_ ?_|simp -implicitDefEqProofs only[wZZ,seval,g0,g8]|apply qa<;>intro h h_<;>(try simp only[wD,reduceCtorEq]at h_)<;>(try exact wb_)<;>(try simp only[h])|refine XA we_ we_ we_ (jJ wf_ wf_ wf_ wf_) ?_|simp -implicitDefEqProofs (disch:=omega) only[w64,if_neg]
           . refine qz rfl (Or.inr rfl) ?_;simp -implicitDefEqProofs only[wL,seval,g0,g8];refine er_ ?_
             try(with_reducible rfl)
             rw[<- k4_0,if_pos as_]
           . refine⟨wk_,k+1,o_,?_⟩;refine⟨?_,?_,?_⟩;iterate 2 (focus(first|(simp -implicitDefEqProofs only[wL,wM,wN,wX,seval,Option.some.injEq,g0,g8]<;>exact wt_)|rfl|exact⟨_,rfl⟩))
             all_goals try omega
             rw[<- k4_0,if_neg (by simp_all)];rfl
         . rw[show tx.length - k=0 by omega,VB]at k4_0;repeat' with_reducible first|refine s_ ?_|simp -implicitDefEqProofs only[wZZ,seval,g0,g8]|apply qa<;>intro h h_<;>(try simp only[wD,reduceCtorEq]at h_)<;>(try exact wb_)<;>(try simp only[h])
           refine qz rfl (Or.inr rfl) ?_;simp -implicitDefEqProofs only[wL,seval,g0,g8];refine er_ ?_
           try(with_reducible rfl)
           exact k4_0
       . skip
         rw[if_neg h4]at he;have h4b:xR tx at_ [47,42]=false:=(by simpa using h4);rw[he];repeat' with_reducible first|refine s_ ?_|simp -implicitDefEqProofs only[wZZ,seval,g0,g1,g9,hb,h3b,h4b]|apply qa<;>intro h h_<;>(try simp only[wD,reduceCtorEq]at h_)<;>(try exact wb_)<;>(try simp only[h])|refine t_ ?_|refine XA we_ we_ we_ (jJ wf_ wf_ wf_ wf_) ?_
         refine qz rfl (Or.inr rfl) ?_;simp -implicitDefEqProofs only[wL,seval,g0,g1,g9];refine er_ ?_
         try(with_reducible rfl)

theorem qle{l:List UInt8}(h:k<l.length):l.getD k 0=l[k]:=by simp[List.getD,h]
def endGo(tx:List UInt8):Nat->Int->Int->Int
 |0,_,_=> -1
 | n+1,i,d=>if i<tx.length then
  (if qaj tx i.toNat<0 then -1 else if i<qaj tx i.toNat then endGo tx n (qaj tx i.toNat) d
   else if d+(if (tx.getD i.toNat 0).toNat=123 then 1 else 0) - (if (tx.getD i.toNat 0).toNat=125 then 1 else 0)=0 then i+1
   else endGo tx n (i+1) (d+(if (tx.getD i.toNat 0).toNat=123 then 1 else 0) - (if (tx.getD i.toNat 0).toNat=125 then 1 else 0)))
   else -1
def qxE(tx:List UInt8):Int:=if (tx.headD 0).toNat=123 then endGo tx (tx.length+1) 0 0 else -1
theorem qau(hs:tx.length<=1099511627776):Pure Tryz.prog 152 [.str tx,vi 0] (vi (qxE tx)):=by
 refine pure_intro Tryz.func152 nm_ qoK (by show 2<=53;decide) ?_
 show ewp _ qmo _ _;by_cases h0:tx=[]
 . subst h0;repeat' with_reducible first|refine s_ ?_|simp -implicitDefEqProofs only[wZZ,seval]
   refine qz rfl (Or.inr rfl) ?_;simp -implicitDefEqProofs only[wL,seval];refine er_ ?_
   try(with_reducible rfl)
   rfl
 . have hl : 0 < tx.length:=List.length_pos_iff.2 h0;have hh:tx.headD 0=tx[0]:=(by cases tx with|nil=>exact absurd rfl h0|cons a r=>rfl);have he:qxE tx=if tx[0].toNat=123 then endGo tx (tx.length+1) 0 0 else -1:=(by unfold qxE;rw[hh]);rw[he];by_cases hc:tx[0].toNat=123
   . rw [if_pos hc];generalize hR:endGo tx (tx.length+1) 0 0=R;repeat' with_reducible first|refine s_ ?_|simp -implicitDefEqProofs only[wZZ,seval]|(first|apply qa|apply qA|apply qB)<;>intro h h_<;>(try simp only[wD,reduceCtorEq]at h_)<;>(try exact wb_)<;>(try simp only[h])|refine t_ ?_
     refine qb ?nx1 (λ(p:Nat×Int) s=>s.f 0=?v1_0/\s.f 5=vi p.2/\s.f 6=vi p.1/\((-(p.1:Int)<=p.2/\p.2<=p.1))/\((∃n,tx.length<p.1+n/\endGo tx n p.1 p.2=R))) (λp=>tx.length - p.1) ((0,0)) wj_ (by refine⟨?_,?_,?_,wo_,(by exact⟨tx.length+1,o_,hR⟩)⟩<;>first|(simp -implicitDefEqProofs only[wL,wM,wN,wX,seval,Option.some.injEq]<;>exact wt_)|rfl|exact⟨_,rfl⟩) ?_;intro p s hnx ⟨g0,g5,g6,k1_0,k1_1⟩;obtain ⟨i,d⟩:=p;dsimp only at *;obtain ⟨n,hn,hg⟩:=k1_1;by_cases hi:i<tx.length
     . obtain ⟨n,rfl⟩:∃m,n=m+1:=⟨n - 1,o_⟩;rw[endGo,if_pos o_,Int.toNat_natCast,qle hi]at hg;by_cases hneg:qaj tx i<0
       . rw[if_pos hneg]at hg;repeat' with_reducible first|refine s_ ?_|simp -implicitDefEqProofs only[wZZ,seval,g0,g5,g6]|apply qa<;>intro h h_<;>(try simp only[wD,reduceCtorEq]at h_)<;>(try exact wb_)<;>(try simp only[h])|refine jZ we_ we_ (jG wf_ wf_) ?_
         refine qz rfl (Or.inr rfl) ?_;simp -implicitDefEqProofs only[wL,seval,g0,g5,g6];refine er_ ?_
         try(with_reducible rfl)
         exact hg
       . rw [if_neg hneg]at hg;obtain ⟨m,hm⟩:∃m:Nat,qaj tx i=m:=⟨(qaj tx i).toNat,o_⟩;rw[hm]at hg;by_cases hgt:(i:Int)<m
         . rw[if_pos hgt]at hg;repeat' with_reducible first|refine s_ ?_|simp -implicitDefEqProofs only[wZZ,seval,g0,g5,g6,hm]|apply qa<;>intro h h_<;>(try simp only[wD,reduceCtorEq]at h_)<;>(try exact wb_)<;>(try simp only[h])|refine jZ we_ we_ (jG wf_ wf_) ?_
           refine⟨wk_,(m,d),o_,?_⟩;refine⟨?_,?_,?_,?_,?_⟩;iterate 3 (focus(first|(simp -implicitDefEqProofs only[wL,wM,wN,wX,seval,Option.some.injEq,g0,g5,g6]<;>exact wt_)|rfl|exact⟨_,rfl⟩))
           all_goals try omega
           exact⟨n,o_,hg⟩
         . rw [if_neg hgt]at hg;by_cases h1:tx[i].toNat=123
           . have h2: ¬ tx[i].toNat=125:=o_;have hz:IntKind.i64.wrap (d+1)=d+1:=wrap64 o_ o_;rw[if_pos h1,if_neg h2]at hg;repeat' with_reducible first|refine s_ ?_|simp -implicitDefEqProofs only[wZZ,seval,g0,g5,g6,hm,hz]|apply qa<;>intro h h_<;>(try simp only[wD,reduceCtorEq]at h_)<;>(try exact wb_)<;>(try simp only[h])|refine t_ ?_|refine jZ we_ we_ (jG wf_ wf_) ?_|simp -implicitDefEqProofs (disch:=omega) only[w64,if_neg]
             . refine qz rfl (Or.inr rfl) ?_;simp -implicitDefEqProofs only[wL,seval,g0,g5,g6];refine er_ ?_
               try(with_reducible rfl)
               rw[<- hg,if_pos o_];rfl
             . refine⟨wk_,(i+1,d+1),o_,?_⟩;refine⟨?_,?_,?_,?_,?_⟩;iterate 3 (focus(first|(simp -implicitDefEqProofs only[wL,wM,wN,wX,seval,Option.some.injEq,g0,g5,g6]<;>exact wt_)|rfl|exact⟨_,rfl⟩))
               all_goals try omega
               exact⟨n,o_,by rw[<- hg,if_neg o_,Int.sub_zero];rfl⟩
           . by_cases h2:tx[i].toNat=125
             . have hz:IntKind.i64.wrap (d - 1)=d - 1:=wrap64 o_ o_;rw[if_neg h1,if_pos h2,Int.add_zero]at hg;repeat' with_reducible first|refine s_ ?_|simp -implicitDefEqProofs only[wZZ,seval,g0,g5,g6,hm,hz]|apply qa<;>intro h h_<;>(try simp only[wD,reduceCtorEq]at h_)<;>(try exact wb_)<;>(try simp only[h])|refine t_ ?_|refine jZ we_ we_ (jG wf_ wf_) ?_|simp -implicitDefEqProofs (disch:=omega) only[w64,if_neg]
               . refine qz rfl (Or.inr rfl) ?_;simp -implicitDefEqProofs only[wL,seval,g0,g5,g6];refine er_ ?_
                 try(with_reducible rfl)
                 rw[<- hg,if_pos o_];rfl
               . refine⟨wk_,(i+1,d - 1),o_,?_⟩;refine⟨?_,?_,?_,?_,?_⟩;iterate 3 (focus(first|(simp -implicitDefEqProofs only[wL,wM,wN,wX,seval,Option.some.injEq,g0,g5,g6]<;>exact wt_)|rfl|exact⟨_,rfl⟩))
                 all_goals try omega
                 exact⟨n,o_,by rw[<- hg,if_neg o_];rfl⟩
             . rw[if_neg h1,if_neg h2,Int.add_zero,Int.sub_zero]at hg;repeat' with_reducible first|refine s_ ?_|simp -implicitDefEqProofs only[wZZ,seval,g0,g5,g6,hm]|apply qa<;>intro h h_<;>(try simp only[wD,reduceCtorEq]at h_)<;>(try exact wb_)<;>(try simp only[h])|refine t_ ?_|refine jZ we_ we_ (jG wf_ wf_) ?_|simp -implicitDefEqProofs (disch:=omega) only[w64,if_neg]
               . refine qz rfl (Or.inr rfl) ?_;simp -implicitDefEqProofs only[wL,seval,g0,g5,g6];refine er_ ?_
                 try(with_reducible rfl)
                 rw[<- hg,if_pos o_];rfl
               . refine⟨wk_,(i+1,d),o_,?_⟩;refine⟨?_,?_,?_,?_,?_⟩;iterate 3 (focus(first|(simp -implicitDefEqProofs only[wL,wM,wN,wX,seval,Option.some.injEq,g0,g5,g6]<;>exact wt_)|rfl|exact⟨_,rfl⟩))
                 all_goals try omega
                 exact⟨n,o_,by rw[<- hg,if_neg o_];rfl⟩
     . have hR2:R= -1:=by
        rw[<- hg];cases n with
        |zero=>rfl
        |succ n=>rw[endGo,if_neg o_]
       repeat' with_reducible first|refine s_ ?_|simp -implicitDefEqProofs only[wZZ,seval,g0,g5,g6]|apply qa<;>intro h h_<;>(try simp only[wD,reduceCtorEq]at h_)<;>(try exact wb_)<;>(try simp only[h])
       refine qz rfl (Or.inr rfl) ?_;simp -implicitDefEqProofs only[wL,seval,g0,g5,g6];refine er_ ?_
       try(with_reducible rfl)
       exact hR2.symm
   . skip
     rw[if_neg hc];repeat' with_reducible first|refine s_ ?_|simp -implicitDefEqProofs only[wZZ,seval]|(first|apply qa|apply qA|apply qB)<;>intro h h_<;>(try simp only[wD,reduceCtorEq]at h_)<;>(try exact wb_)<;>(try simp only[h])|refine t_ ?_
     refine qz rfl (Or.inr rfl) ?_;simp -implicitDefEqProofs only[wL,seval];refine er_ ?_
     try(with_reducible rfl)
end Go.Proofs
