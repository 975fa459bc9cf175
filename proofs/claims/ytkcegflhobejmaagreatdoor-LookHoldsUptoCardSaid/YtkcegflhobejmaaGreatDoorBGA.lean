import Derived.Test.YtkcegflhobejmaaGreatDoorBFA
set_option maxRecDepth 20000
set_option linter.all false
namespace Go.Proofs
open Go.E
structure Tok where
 name:List UInt8:=[]
 lit:Bool:=false
 num:Int:=0
 level:Int:=0
 assoc:Int:=0
 tag:List UInt8:=[]
 deriving DecidableEq,Inhabited
structure Non where
 name:List UInt8:=[]
 tag:List UInt8:=[]
 deriving DecidableEq,Inhabited
structure GPr where
 left:Int:=0
 right:List Int:=[]
 prec:Int:=0
 code:List UInt8:=[]
 args:List Int:=[]
 at_:Int:=0
 deriving DecidableEq,Inhabited
structure Grammar where
 toks:List Tok:=[]
 nons:List Non:=[]
 prods:List GPr:=[]
 pro:List UInt8:=[]
 tail:List UInt8:=[]
 deriving DecidableEq,Inhabited
@[reducible] def Tok.V(x:Tok):V:= .agg [.str x.name,.bool x.lit,vi x.num,vi x.level,vi x.assoc,.str x.tag]
@[reducible] def Non.V(x:Non):V:= .agg [.str x.name,.str x.tag]
@[reducible] def GPr.V(x:GPr):V:= .agg [vi x.left,.sl 1 false (x.right.map (V.int .i64)),vi x.prec,.str x.code,.sl 1 false (x.args.map (V.int .i64)),vi x.at_]
@[reducible] def Grammar.V(g:Grammar):V:= .agg [.sl 6 false (g.toks.map Tok.V),.sl 2 false (g.nons.map Non.V),.sl 6 false (g.prods.map GPr.V),.str g.pro,.str g.tail]
structure Mk where
 toks:List Tok:=[{name:=[36,101,110,100]},{name:=[101,114,114,111,114],num:= -1},{name:=[36,117,110,107],num:= -1}]
 nons:List Non:=[]
 prods:List GPr:=[]
 given:List Bool:=[false,false,false]
 types:List Non:=[]
 lefts:List (List UInt8):=[]
 e:Int:=0
 at_:Int:=0
 name:List UInt8:=[]
 level:Int:=0
 inner:Int:=0
 deriving DecidableEq,Inhabited
def zu(m:Mk)(a:Int)(n:List UInt8):Mk:=if m.e=0 then {m with e:=3,at_:=a,name:=n} else m
def Qw(x:Sym):List Tok->Nat->Int
 |[],_=> -1
 |t::r,i=>if t.name=x.name/\t.lit=x.lit/\i≠2 then i else Qw x r (i+1)
def VN(l:List Tok)(x:Sym):Int:=Qw x (l.drop 1) 1
def qcn(n:Int):List Tok->Nat->Int
 |[],_=> -1
 |t::r,i=>if t.num=n then i else qcn n r (i+1)
def qlO(l:List Tok)(n:Int):Int:=qcn n (l.drop 3) 3
def qf5(x:Sym):Int:=if x.lit then(x.name.headD 0).toNat else 0
def Jc(m:Mk)(x:Sym):Mk×Int:=
 if 0<=VN m.toks x then(m,VN m.toks x)else
 let m1:=if x.lit=true/\0<=qlO m.toks (qf5 x)then zu m x.at_ x.name else m
 ({m1 with toks:=m.toks++[{name:=x.name,lit:=x.lit,num:=qf5 x}],given:=m.given++[x.lit]},m.toks.length)
def kD(n:List UInt8):List Non->Nat->Int
 |[],_=> -1
 |t::r,i=>if t.name=n then i else kD n r (i+1)
def qD(n:List UInt8):List (List UInt8)->Nat->Int
 |[],_=> -1
 |t::r,i=>if t=n then i else qD n r (i+1)
def qa7(m:Mk)(t:Int):Tok:=m.toks.getD t.toNat {}
def Zq(m:Mk)(t:Int)(k:Tok):Mk:={m with toks:=m.toks.set t.toNat k}
def yE(m:Mk)(kind:Int)(x:Sym)(t:Int):Mk:=
 if kind=1 then m else
 let m2:=if 0<(qa7 m t).level then zu m x.at_ x.name else m
 Zq m2 t {qa7 m t with level:=m.level,assoc:=kind - 1}
def jQ(m:Mk)(x:Sym)(t:Int):Mk:=
 if 0<x.num then
  let m2:=if t=1\/m.given.getD t.toNat false=true\/0<=qlO m.toks x.num then zu m x.at_ x.name else m
  {Zq m2 t {qa7 m t with num:=x.num} with given:=m.given.set t.toNat true}
 else m
def QU(m:Mk)(tag:List UInt8)(x:Sym)(t:Int):Mk:=
 if tag≠[]then
  let m2:=if (qa7 m t).tag≠[]/\(qa7 m t).tag≠tag then zu m x.at_ x.name else m
  Zq m2 t {qa7 m t with tag:=tag}
 else m
def kS(m:Mk)(d:Decl)(x:Sym):Mk:=
 if d.kind=5 then
  (let k:=kD x.name m.types 0
   if k<0 then {m with types:=m.types++[{name:=x.name,tag:=d.tag}]}
   else if (m.types.getD k.toNat {}).tag≠d.tag then zu m x.at_ x.name else m)
 else
  let p:=Jc m x
  QU (jQ (yE p.1 d.kind x p.2) x p.2) d.tag x p.2
def yJ(m:Mk)(x:Sym):Mk×Int:=
 if x.lit then Jc m x else
 if 0<=qD x.name m.lefts 0 then(m,1001+qD x.name m.lefts 0)
 else if VN m.toks x<0 then(zu m x.at_ x.name,0)else(m,VN m.toks x)
def zR:List Part->Mk×GPr->Mk×GPr
 |[],q=>q
 | w::r,(m,p)=>
   if w.code=[]then zR r ((yJ m w.sym).1,{p with right:=p.right++[(yJ m w.sym).2]})
   else if r=[]then(m,{p with code:=w.code,at_:=w.at_})
   else zR r ({m with inner:=m.inner+1,prods:=m.prods++[{left:=m.lefts.length+(m.inner+1),prec:= -1,code:=w.code,args:=p.right,at_:=w.at_}]},
    {p with right:=p.right++[1000+m.lefts.length+(m.inner+1)]})
def yS:List Int->Int->Int
 |[],p=>p
 |x::r,p=>yS r (if x<1000 then x else p)
def Yb(m:Mk)(left:List UInt8)(a:Alt):Mk:=
 let q:=zR a.parts (m,{left:=1+qD left m.lefts 0,prec:= -1,at_:=a.at_})
 let m1:=q.1
 let p:={q.2 with prec:=yS q.2.right (-1)}
 if a.prec.name≠[]then
  (if a.prec.lit=true\/qD a.prec.name m1.lefts 0<0 then
   {(yJ m1 a.prec).1 with prods:=(yJ m1 a.prec).1.prods++[{p with prec:=(yJ m1 a.prec).2,args:=p.right}]}
   else {zu m1 a.prec.at_ a.prec.name with prods:=m1.prods++[{p with prec:= -1,args:=p.right}]})
 else {m1 with prods:=m1.prods++[{p with args:=p.right}]}
def zY(d:Decl):List Sym->Mk×List UInt8->Mk×List UInt8
 |[],q=>q
 | x::r,(m,start)=>if d.kind≠6 then zY d r (kS m d x,start)
   else zY d r (if start≠[]then zu m x.at_ x.name else m,x.name)
def jY:List Decl->Mk×List UInt8->Mk×List UInt8
 |[],q=>q
 |d::r,(m,start)=>jY r (zY d d.syms (if 2<=d.kind/\d.kind<=4 then {m with level:=m.level+1} else m,start))
def yh:List Rule->Mk->Mk
 |[],m=>m
 | r::l,m=>
   let m1:=if 0<=VN m.toks {name:=r.left} then zu m r.at_ r.left else m
   yh l (if qD r.left m.lefts 0<0 then {m1 with lefts:=m.lefts++[r.left]} else m1)
def j5(kind:Int):List Sym->Mk->Mk
 |[],m=>m
 |x::r,m=>j5 kind r (if 5<=kind/\qD x.name m.lefts 0<0 then zu m x.at_ x.name else m)
def Qv:List Decl->Mk->Mk
 |[],m=>m
 |d::r,m=>Qv r (j5 d.kind d.syms m)
def zX(left:List UInt8):List Alt->Mk->Mk
 |[],m=>m
 |a::r,m=>zX left r (Yb m left a)
def vH:List Rule->Mk->Mk
 |[],m=>m
 |r::l,m=>vH l (zX r.left r.alts m)
def vZ(types:List Non):List (List UInt8)->List Non
 |[]=>[]
 |n::r=>{name:=n,tag:=if 0<=kD n types 0 then(types.getD (kD n types 0).toNat {}).tag else[]}::vZ types r
def xG(src:Source):Mk:=
 let q:=jY src.decls ({},[])
 let m:=Qv src.decls (yh src.rules q.1)
 let start:=if q.2=[]then(src.rules.headD {}).left else q.2
 vH src.rules {m with prods:=[{left:=0,right:=[1001+qD start m.lefts 0],prec:= -1}]}

@[reducible] def Mk.V(m:Mk):V:= .agg [.sl 6 false (m.toks.map Tok.V),.sl 2 false (m.nons.map Non.V),.sl 6 false (m.prods.map GPr.V),.str [],.str [],.sl 1 false (m.given.map V.bool),.sl 2 false (m.types.map Non.V),.sl 1 false (m.lefts.map V.str),vi m.e,vi m.at_,.str m.name,vi m.level,vi m.inner]
variable {n:List UInt8}
theorem zM{m:Mk}(hl:m.types.length<=1099511627776):Pure Tryz.prog 104 [.iptr 13 m.V 0,.str n] (vi (kD n m.types 0)):=by
 refine pure_intro Tryz.func104 nm_ qnG (by show 2<=26;decide) ?_
 show ewp _ qnU _ _;generalize hR:kD n m.types 0=R;repeat' with_reducible first|refine s_ ?_|simp -implicitDefEqProofs only[wZZ,seval]
 refine qb ?nx1 (λ(k:Nat) s=>s.f 0=?v1_0/\s.f 1=?v1_1/\s.f 5=vi k/\(k<=m.types.length)/\(kD n (m.types.drop k) k=R)) (λk=>m.types.length - k) (0) wj_ (by refine⟨?_,?_,?_,wo_,(by exact hR)⟩<;>first|(simp -implicitDefEqProofs only[wL,wM,wN,wX,seval,Option.some.injEq]<;>exact wt_)|rfl|exact⟨_,rfl⟩) ?_;intro k s hnx ⟨g0,g1,g5,k1_0,k1_1⟩;by_cases hk:k<m.types.length
 . rw[List.drop_eq_getElem_cons hk,kD]at k1_1;repeat' with_reducible first|refine s_ ?_|simp -implicitDefEqProofs only[wZZ,seval,g0,g1,g5]|apply qa<;>intro h h_<;>(try simp only[wD,reduceCtorEq]at h_)<;>(try exact wb_)<;>(try simp only[h])|refine t_ ?_|simp -implicitDefEqProofs (disch:=omega) only[w64,if_neg]
   . refine qz rfl (Or.inr rfl) ?_;simp -implicitDefEqProofs only[wL,seval,g0,g1,g5];refine er_ ?_
     try(with_reducible rfl)
     rw[<- k1_1,if_pos h_]
   . refine⟨wk_,k+1,o_,?_⟩;refine⟨?_,?_,?_,?_,?_⟩;iterate 3 (focus(first|(simp -implicitDefEqProofs only[wL,wM,wN,wX,seval,Option.some.injEq,g0,g1,g5]<;>exact wt_)|rfl|exact⟨_,rfl⟩))
     all_goals try omega
     rw[<- k1_1,if_neg h_]
 . rw[List.drop_eq_nil_of_le o_]at k1_1;repeat' with_reducible first|refine s_ ?_|simp -implicitDefEqProofs only[wZZ,seval,g0,g1,g5]|apply qa<;>intro h h_<;>(try simp only[wD,reduceCtorEq]at h_)<;>(try exact wb_)<;>(try simp only[h])|refine t_ ?_
   refine qz rfl (Or.inr rfl) ?_;simp -implicitDefEqProofs only[wL,seval,g0,g1,g5];refine er_ ?_
   try(with_reducible rfl)
   rw[<- k1_1];rfl
theorem qC{m:Mk}(hl:m.lefts.length<=1099511627776):Pure Tryz.prog 102 [.iptr 13 m.V 0,.str n] (vi (qD n m.lefts 0)):=by
 refine pure_intro Tryz.func102 nm_ qqI (by show 2<=25;decide) ?_
 show ewp _ qqq _ _;generalize hR:qD n m.lefts 0=R;repeat' with_reducible first|refine s_ ?_|simp -implicitDefEqProofs only[wZZ,seval]
 refine qb ?nx1 (λ(k:Nat) s=>s.f 0=?v1_0/\s.f 1=?v1_1/\s.f 5=vi k/\(k<=m.lefts.length)/\(qD n (m.lefts.drop k) k=R)) (λk=>m.lefts.length - k) (0) wj_ (by refine⟨?_,?_,?_,wo_,(by exact hR)⟩<;>first|(simp -implicitDefEqProofs only[wL,wM,wN,wX,seval,Option.some.injEq]<;>exact wt_)|rfl|exact⟨_,rfl⟩) ?_;intro k s hnx ⟨g0,g1,g5,k1_0,k1_1⟩;by_cases hk:k<m.lefts.length
 . rw[List.drop_eq_getElem_cons hk,qD]at k1_1;repeat' with_reducible first|refine s_ ?_|simp -implicitDefEqProofs only[wZZ,seval,g0,g1,g5]|apply qa<;>intro h h_<;>(try simp only[wD,reduceCtorEq]at h_)<;>(try exact wb_)<;>(try simp only[h])|refine t_ ?_|simp -implicitDefEqProofs (disch:=omega) only[w64,if_neg]
   . refine qz rfl (Or.inr rfl) ?_;simp -implicitDefEqProofs only[wL,seval,g0,g1,g5];refine er_ ?_
     try(with_reducible rfl)
     rw[<- k1_1,if_pos h_]
   . refine⟨wk_,k+1,o_,?_⟩;refine⟨?_,?_,?_,?_,?_⟩;iterate 3 (focus(first|(simp -implicitDefEqProofs only[wL,wM,wN,wX,seval,Option.some.injEq,g0,g1,g5]<;>exact wt_)|rfl|exact⟨_,rfl⟩))
     all_goals try omega
     rw[<- k1_1,if_neg h_]
 . rw[List.drop_eq_nil_of_le o_]at k1_1;repeat' with_reducible first|refine s_ ?_|simp -implicitDefEqProofs only[wZZ,seval,g0,g1,g5]|apply qa<;>intro h h_<;>(try simp only[wD,reduceCtorEq]at h_)<;>(try exact wb_)<;>(try simp only[h])|refine t_ ?_
   refine qz rfl (Or.inr rfl) ?_;simp -implicitDefEqProofs only[wL,seval,g0,g1,g5];refine er_ ?_
   try(with_reducible rfl)
   rw[<- k1_1];rfl
theorem jg{m:Mk}{n:Int}(hl:m.toks.length<=1099511627776):Pure Tryz.prog 130 [.iptr 13 m.V 0,vi n] (vi (qlO m.toks n)):=by
 refine pure_intro Tryz.func130 nm_ qpb (by show 2<=28;decide) ?_
 show ewp _ qqe _ _;have e:qlO m.toks n=qcn n (m.toks.drop 3) 3:=rfl;rw[e];generalize hR:qcn n (m.toks.drop 3) 3=R;repeat' with_reducible first|refine s_ ?_|simp -implicitDefEqProofs only[wZZ,seval]
 refine qb ?nx1 (λ(k:Nat) s=>s.f 0=?v1_0/\s.f 1=?v1_1/\s.f 5=vi k/\(qcn n (m.toks.drop k) k=R)) (λk=>m.toks.length - k) (3) wj_ (by refine⟨?_,?_,?_,(by exact hR)⟩<;>first|(simp -implicitDefEqProofs only[wL,wM,wN,wX,seval,Option.some.injEq]<;>exact wt_)|rfl|exact⟨_,rfl⟩) ?_;intro k s hnx ⟨g0,g1,g5,k1_0⟩;by_cases hk:k<m.toks.length
 . rw[List.drop_eq_getElem_cons hk,qcn]at k1_0;repeat' with_reducible first|refine s_ ?_|simp -implicitDefEqProofs only[wZZ,seval,g0,g1,g5]|apply qa<;>intro h h_<;>(try simp only[wD,reduceCtorEq]at h_)<;>(try exact wb_)<;>(try simp only[h])|refine t_ ?_|simp -implicitDefEqProofs (disch:=omega) only[w64,if_neg]
   . refine qz rfl (Or.inr rfl) ?_;simp -implicitDefEqProofs only[wL,seval,g0,g1,g5];refine er_ ?_
     try(with_reducible rfl)
     rw[<- k1_0,if_pos h_]
   . refine⟨wk_,k+1,o_,?_⟩;refine⟨?_,?_,?_,?_⟩;iterate 3 (focus(first|(simp -implicitDefEqProofs only[wL,wM,wN,wX,seval,Option.some.injEq,g0,g1,g5]<;>exact wt_)|rfl|exact⟨_,rfl⟩))
     all_goals try omega
 . rw[List.drop_eq_nil_of_le o_]at k1_0;repeat' with_reducible first|refine s_ ?_|simp -implicitDefEqProofs only[wZZ,seval,g0,g1,g5]|apply qa<;>intro h h_<;>(try simp only[wD,reduceCtorEq]at h_)<;>(try exact wb_)<;>(try simp only[h])|refine t_ ?_
   refine qz rfl (Or.inr rfl) ?_;simp -implicitDefEqProofs only[wL,seval,g0,g1,g5];refine er_ ?_
   try(with_reducible rfl)
   rw[<- k1_0];rfl
variable {x:Sym}
theorem zk{m:Mk}(hl:m.toks.length<=1099511627776):Pure Tryz.prog 101 [.iptr 13 m.V 0,x.V] (vi (VN m.toks x)):=by
 refine pure_intro Tryz.func101 nm_ qqM (by show 2<=47;decide) ?_
 show ewp _ qnN _ _;have e:VN m.toks x=Qw x (m.toks.drop 1) 1:=rfl;rw[e];generalize hR:Qw x (m.toks.drop 1) 1=R;obtain ⟨xn,xl,xu,xa⟩:=x;repeat' with_reducible first|refine s_ ?_|simp -implicitDefEqProofs only[wZZ,seval]|refine t_ ?_
 refine qb ?nx1 (λ(k:Nat) s=>s.f 0=?v1_0/\s.f 3=?v1_3/\s.H 0=?o1_0/\s.f 5=vi k/\(Qw ⟨xn,xl,xu,xa⟩ (m.toks.drop k) k=R)) (λk=>m.toks.length - k) (1) wj_ (by refine⟨?_,?_,?_,?_,(by exact hR)⟩<;>first|(simp -implicitDefEqProofs only[wL,wM,wN,wX,seval,Option.some.injEq]<;>exact wt_)|rfl|exact⟨_,rfl⟩) ?_;intro k s hnx ⟨g0,g3,o0,g5,k1_0⟩;by_cases hk:k<m.toks.length
 . rw [List.drop_eq_getElem_cons hk,Qw]at k1_0;dsimp only at k1_0;by_cases h1:m.toks[k].name=xn
   . by_cases h2:m.toks[k].lit=xl
     . by_cases h3:k=2
       . subst h3;rw[if_neg (by simp)]at k1_0;repeat' with_reducible first|refine s_ ?_|simp -implicitDefEqProofs only[wZZ,seval,g0,g3,g5,o0,h1,h2]|apply qa<;>intro h h_<;>(try simp only[wD,reduceCtorEq]at h_)<;>(try exact wb_)<;>(try simp only[h])|refine t_ ?_|simp -implicitDefEqProofs (disch:=omega) only[w64,if_neg]
         refine⟨wk_,3,o_,?_⟩;refine⟨?_,?_,?_,?_,?_⟩;iterate 4 (focus(first|(simp -implicitDefEqProofs only[wL,wM,wN,wX,seval,Option.some.injEq,g0,g3,g5,o0]<;>exact wt_)|rfl|exact⟨_,rfl⟩))
         all_goals try omega
       . rw[if_pos ⟨h1,h2,h3⟩]at k1_0;repeat' with_reducible first|refine s_ ?_|simp -implicitDefEqProofs only[wZZ,seval,g0,g3,g5,o0,h1,h2]|apply qa<;>intro h h_<;>(try simp only[wD,reduceCtorEq]at h_)<;>(try exact wb_)<;>(try simp only[h])|refine t_ ?_
         refine qz rfl (Or.inr rfl) ?_;simp -implicitDefEqProofs only[wL,seval,g0,g3,g5];refine er_ ?_
         try(with_reducible rfl)
         rw[<- k1_0]
     . rw[if_neg (by simp[h2])]at k1_0;have hb:(m.toks[k].lit == xl)=false:=(by simpa using h2);repeat' with_reducible first|refine s_ ?_|simp -implicitDefEqProofs only[wZZ,seval,g0,g3,g5,o0,h1,hb]|apply qa<;>intro h h_<;>(try simp only[wD,reduceCtorEq]at h_)<;>(try exact wb_)<;>(try simp only[h])|refine t_ ?_|simp -implicitDefEqProofs (disch:=omega) only[w64,if_neg]
       refine⟨wk_,k+1,o_,?_⟩;refine⟨?_,?_,?_,?_,?_⟩;iterate 4 (focus(first|(simp -implicitDefEqProofs only[wL,wM,wN,wX,seval,Option.some.injEq,g0,g3,g5,o0]<;>exact wt_)|rfl|exact⟨_,rfl⟩))
       all_goals try omega
   . rw[if_neg (by simp[h1])]at k1_0;repeat' with_reducible first|refine s_ ?_|simp -implicitDefEqProofs only[wZZ,seval,g0,g3,g5,o0]|(first|apply qa|apply qA|apply qB)<;>intro h h_<;>(try simp only[wD,reduceCtorEq]at h_)<;>(try exact wb_)<;>(try simp only[h])|refine t_ ?_|simp -implicitDefEqProofs (disch:=omega) only[w64,if_neg]
     refine⟨wk_,k+1,o_,?_⟩;refine⟨?_,?_,?_,?_,?_⟩;iterate 4 (focus(first|(simp -implicitDefEqProofs only[wL,wM,wN,wX,seval,Option.some.injEq,g0,g3,g5,o0]<;>exact wt_)|rfl|exact⟨_,rfl⟩))
     all_goals try omega
 . rw[List.drop_eq_nil_of_le o_]at k1_0;repeat' with_reducible first|refine s_ ?_|simp -implicitDefEqProofs only[wZZ,seval,g0,g3,g5,o0]|apply qa<;>intro h h_<;>(try simp only[wD,reduceCtorEq]at h_)<;>(try exact wb_)<;>(try simp only[h])|refine t_ ?_
   refine qz rfl (Or.inr rfl) ?_;simp -implicitDefEqProofs only[wL,seval,g0,g3,g5];refine er_ ?_
   try(with_reducible rfl)
   rw[<- k1_0];rfl

@[reducible] def mkC(ti gi:Nat)(vN vP vT vL:V)(M:Mk):V:= .agg [.msl ti 6 0 M.toks.length,vN,vP,.str [],.str [],.msl gi 1 0 M.given.length,vT,vL,vi M.e,vi M.at_,.str M.name,vi M.level,vi M.inner]
structure MkAt(H:Nat->Option MObj)(next m ti gi:Nat)(vN vP vT vL:V)(M:Mk):Prop where
 hm:H m=some (.own 13 [mkC ti gi vN vP vT vL M] false)
 ht:H ti=some (.own 6 (M.toks.map Tok.V) false)
 hg:H gi=some (.own 1 (M.given.map V.bool) false)
 eN:ErP vN (.sl 2 false (M.nons.map Non.V))
 eP:ErP vP (.sl 6 false (M.prods.map GPr.V))
 eT:ErP vT (.sl 2 false (M.types.map Non.V))
 eL:ErP vL (.sl 1 false (M.lefts.map V.str))
 lm:m<next
 lt:ti<next
 lg:gi<next
 len:M.given.length=M.toks.length
 len3:3<=M.toks.length
variable {H:Nat->Option MObj} {ti gi:Nat} {vN vP vT vL:Go.E.V} {M:Mk}
theorem MkAt.mt{next m:Nat}(h:MkAt H next m ti gi vN vP vT vL M):ti≠m/\gi≠m/\gi≠ti:=by
 refine⟨λe=>?_,λe=>?_,λe=>?_⟩
 . have:=h.ht;rw[e,h.hm]at this;cases this
 . have:=h.hg;rw[e,h.hm]at this;cases this
 . have:=h.hg;rw[e,h.ht]at this;cases this
theorem MkAt.er{next m:Nat}(h:MkAt H next m ti gi vN vP vT vL M):Er true H (.ptr m 0 0) (.iptr 13 M.V 0):=by
 refine .ptr m 0 0 13 _ false _ _ rfl h.hm rfl ?_;refine ErL.agg (.cons ?_ (.cons h.eN.er (.cons h.eP.er (.cons (.str _) (.cons (.str _) (.cons ?_ (.cons h.eT.er (.cons h.eL.er (.cons (.int _ _) (.cons (.int _ _) (.cons (.str _) (.cons (.int _ _) (.cons (.int _ _) .nil)))))))))))))
 . exact xD h.ht (by simp) (by rw[List.drop_zero];exact List.take_of_length_le (by simp))
 . exact xD h.hg (by simp) (by rw[List.drop_zero];exact List.take_of_length_le (by simp))
variable {H':Nat->Option MObj} {n':Nat} {M':Mk}
theorem MkAt.keep{next m:Nat}(h:MkAt H next m ti gi vN vP vT vL M)(hn:next<=n')(hm:H' m=some (.own 13 [mkC ti gi vN vP vT vL M'] false))
(hf:∀j,j<next->j≠m->H' j=H j)(e:M'.toks=M.toks/\M'.given=M.given/\M'.nons=M.nons/\M'.prods=M.prods/\M'.types=M.types/\M'.lefts=M.lefts):
 next<=n'/\MkAt H' n' m ti gi vN vP vT vL M'/\∀j,j<next->j≠m->H' j=H j:=by
 obtain ⟨e1,e2,e3,e4,e5,e6⟩:=e;obtain ⟨n1,n2,n3⟩:=h.mt;have:=h.lm;have:=h.lt;have:=h.lg;refine⟨hn,⟨hm,?_,?_,e3 ▸ h.eN,e4 ▸ h.eP,e5 ▸ h.eT,e6 ▸ h.eL,o_,o_,o_,e1 ▸ e2 ▸ h.len,e1 ▸ h.len3⟩,hf⟩
 . rw[hf ti h.lt n1,e1];exact h.ht
 . rw[hf gi h.lg n2,e2];exact h.hg
theorem MkAt.mono{next m:Nat}(h:MkAt H next m ti gi vN vP vT vL M)(hn:next<=n')(hf:∀j,j<next->H' j=H j):MkAt H' n' m ti gi vN vP vT vL M:=by have:=h.lm;have:=h.lt;have:=h.lg;exact⟨by rw[hf m h.lm];exact h.hm,by rw[hf ti h.lt];exact h.ht,by rw[hf gi h.lg];exact h.hg,h.eN,h.eP,h.eT,h.eL,o_,o_,o_,h.len,h.len3⟩
variable {cls:Cls} {s:St} {K:Go.E.V->St->Prop} {z:Nat} {es:List Go.E.V}
theorem JO{id:Nat}{bytes n:Nat}{vy:V}{ys:List V}(hcl:(cls == .t)=false)(hH:s.H ti=some (.own z es false))(hn:n=es.length)(hs:qY s.H z ys vy)
(hb:(es.length+ys.length) *bytes<=140737488355328)(hl:es.length+ys.length<=maxLen)
(hk:K (.msl id z 0 (es.length+ys.length)) ((s.setO ti none).setO id (some (.own z (es++ys) false)))):VK cls id s K true z bytes (.msl ti z 0 n) vy:=by
 subst hn;unfold VK;rw[hs.1 s rfl];refine⟨λe=>(by subst e;cases hcl),?_⟩;have e:qO id s true z (.msl ti z 0 es.length) ys=some (.msl id z 0 (es.length+ys.length),(s.setO ti none).setO id (some (.own z (es++ys) false)),es.length+ys.length):=by simp[qO,hH]
 rw[e];exact⟨hb,hl,hk⟩
variable {vs:List Go.E.V}
theorem qR{P:Program}[Glob P]{id:Nat}{f:FuncId}{N:Nat}(hc:(cls == .w || cls == .any)=true)(hH:s.H=H)(hN:s.next=N)
(h:zh P f vs H N λv H' next'=>K v {s with H:=H',next:=next'}):yL P cls id s K f vs:=by
 subst hN;subst hH;have hk:∀H' n',qcr cls s.next s.H H' n':=by
  intro H' n';cases cls with
  |w=>trivial
  |any=>trivial
  |v z=>exact absurd hc (by simp)
  | _=>cases hc
 have hw:qxl cls=true:=by
  cases cls with
  |w=>rfl
  |any=>rfl
  |v z=>exact absurd hc (by simp)
  | _=>cases hc
 refine Or.inr ⟨hw,?_⟩;rw[List.append_nil];exact h.mono λ_ _ _ h1=>⟨hk _ _,h1⟩
theorem VU{next m:Nat}{a:Int}(h:MkAt H next m ti gi vN vP vT vL M):zh Tryz.prog 100 [.ptr m 0 0,vi a,.str n] H next (λ_ H' next'=>next<=next'/\MkAt H' next' m ti gi vN vP vT vL (zu M a n)/\∀j,j<next->j≠m->H' j=H j):=by
 refine zb Tryz.func100 nm_ qmd (by show 3<=22;decide) ?_
 show ewp _ qvh _ _;have hm:=h.hm;obtain ⟨n1,n2,n3⟩:=h.mt;by_cases he:M.e=0
 . have hz:zu M a n={M with e:=3,at_:=a,name:=n}:=(by unfold zu;rw[if_pos he]);rw[hz];repeat' with_reducible first|refine s_ ?_|simp -implicitDefEqProofs only[wZZ,seval,hm,he]|refine t_ ?_
   refine V3 rfl (Or.inl rfl) ?_;refine h.keep wh_ (by simp only[wM,↓reduceIte]) (λj h1 h2=>?_) ⟨rfl,rfl,rfl,rfl,rfl,rfl⟩;simp only[wM,if_neg h2]
 . have hz:zu M a n=M:=(by unfold zu;rw[if_neg he]);rw[hz];repeat' with_reducible first|refine s_ ?_|simp -implicitDefEqProofs only[wZZ,seval,hm]|apply qa<;>intro h h_<;>(try simp only[wD,reduceCtorEq]at h_)<;>(try exact wb_)<;>(try simp only[h])|refine t_ ?_
   refine V3 rfl (Or.inl rfl) ?_;exact MkAt.keep ‹_› wh_ (by simp only[wM,hm]) (λj h1 h2=>mm_) ⟨rfl,rfl,rfl,rfl,rfl,rfl⟩

theorem qzn{next m:Nat}(hM:MkAt H next m ti gi vN vP vT vL M)(hb:M.toks.length<=1099511627776)(hx:x.lit=true->x.name≠[]):zh Tryz.prog 129 [.ptr m 0 0,x.V] H next (λv H' next'=>next<=next'/\v=vi (Jc M x).2/\(∃ti' gi',(ti'=ti\/next<=ti')/\(gi'=gi\/next<=gi')/\MkAt H' next' m ti' gi' vN vP vT vL (Jc M x).1)/\∀j,j<next->j≠m->j≠ti->j≠gi->H' j=H j):=by
 refine zb Tryz.func129 nm_ qne (by show 2<=66;decide) ?_
 show ewp _ qi2 _ _;have hm:=hM.hm;have lm:=hM.lm;have lt:=hM.lt;have lg:=hM.lg;obtain ⟨n1,n2,n3⟩:=hM.mt;generalize hR:Jc M x=R;unfold Jc at hR;by_cases ht:0<=VN M.toks x
 . rw[if_pos ht]at hR;subst hR;repeat' with_reducible first|refine s_ ?_|simp -implicitDefEqProofs only[wZZ,seval,hm]|apply qa<;>intro h h_<;>(try simp only[wD,reduceCtorEq]at h_)<;>(try exact wb_)<;>(try simp only[h])|apply qM (hp:=zk ?_);(focus(refine(hM.mono (Nat.le_refl _) (λj hj=>?_)).er;(try simp only[wM]);(repeat rw[if_neg o_])));exact qd;exact wu_;exact Flat.int _ _;rotate_left;exact wf_|refine t_ ?_
   refine JU rfl (Or.inr rfl) ?_;simp -implicitDefEqProofs only[wL,seval];refine⟨wg_,trivial,⟨ti,gi,Or.inl rfl,Or.inl rfl,hM.mono wh_ (λj hj=>?_)⟩,λj hj _ _ _=>?_⟩
   . simp only[wM];rw[if_neg o_]
   . simp only[wM];rw[if_neg o_]
 . rw [if_neg ht]at hR;have tail:∀(s:St) (M1:Mk) (b:Nat),next<s.next->next<=b->b<s.next->s.f 0=.ptr m 0 0->s.f 3=.ptr next 0 0->s.f 6=.ptr b 0 0->s.H next=some (.own 4 [x.V] false)->s.H b=some (.own 6 [Tok.V {name:=x.name,lit:=x.lit,num:=qf5 x}] false)->
    MkAt s.H s.next m ti gi vN vP vT vL M1->M1.toks=M.toks->M1.given=M.given->(∀j,j<next->j≠m->s.H j=H j)->R=({M1 with toks:=M.toks++[{name:=x.name,lit:=x.lit,num:=qf5 x}],given:=M.given++[x.lit]},(M.toks.length:Int))->
    ewp Tryz.prog qds (xW e129 λv H' next'=>next<=next'/\v=vi R.2/\(∃ti' gi',(ti'=ti\/next<=ti')/\(gi'=gi\/next<=gi')/\MkAt H' next' m ti' gi' vN vP vT vL R.1)/\∀j,j<next->j≠m->j≠ti->j≠gi->H' j=H j) s:=by
    intro s M1 b l1 l2 l3 g0 g3 g6 o1 o2 hM1 e1 e2 hf eR;have hm1:=hM1.hm;have ht1:=hM1.ht;have hg1:=hM1.hg;have lm1:=hM1.lm;have lt1:=hM1.lt;have lg1:=hM1.lg;have hl:=hM1.len;rw[e1,e2]at hl;repeat' with_reducible first|refine s_ ?_|simp -implicitDefEqProofs only[wZZ,seval,g0,g3,g6,o1,o2,hm1,ht1,hg1]|apply JO;exact wu_;(focus((try simp only[wM]);(repeat rw[if_neg o_]);exact ht1));simp only[List.length_map];(focus(first|exact qY.sl|exact qY.asl));(focus(simp only[wZ,e1,e2];omega));(focus(unfold maxLen;simp only[wZ,e1,e2];omega))|apply JO;exact wu_;(focus((try simp only[wM]);(repeat rw[if_neg o_]);exact hg1));simp only[List.length_map];(focus(first|exact qY.sl|exact qY.asl));(focus(simp only[wZ,e1,e2];omega));(focus(unfold maxLen;simp only[wZ,e1,e2];omega))|refine t_ ?_|simp -implicitDefEqProofs (disch:=omega) only[w64,if_neg]
    refine JU rfl (Or.inr rfl) ?_;simp -implicitDefEqProofs only[wL,seval];rw[eR];refine⟨wg_,by rw[e1,wrap64 o_ o_],⟨s.next+8,s.next+13+8,Or.inr o_,Or.inr o_,?_⟩,λj hj h1 h2 h3=>?_⟩
    . refine⟨?_,?_,?_,hM1.eN,hM1.eP,hM1.eT,hM1.eL,wg_,wg_,wg_,by simp[hl],by have:=hM.len3;simp;omega⟩
      . simp only[wM,↓reduceIte];simp[e1,e2]
      . simp only[wM];repeat first|rw[if_pos trivial]|rw[if_pos rfl]|rw[if_neg o_]
        simp[e1]
      . simp only[wM];repeat first|rw[if_pos trivial]|rw[if_pos rfl]|rw[if_neg o_]
        simp[e2]
    . simp only[wM];repeat rw[if_neg o_]
      exact hf j hj h1
   have show27:∀Q s,ewp Tryz.prog (.seq (.reg quR) (.seq (.reg qrp) (.seq qu1 (.seq (.reg qrU) (.seq qqo qds))))) Q s->ewp Tryz.prog qi2 Q s:=λQ s h=>h;refine show27 _ _ ?_;have hR2:∀M1,(if x.lit=true/\0<=qlO M.toks (qf5 x)then zu M x.at_ x.name else M)=M1->R=({M1 with toks:=M.toks++[{name:=x.name,lit:=x.lit,num:=qf5 x}],given:=M.given++[x.lit]},(M.toks.length:Int)):=λM1 h=>by subst h;exact hR.symm
   generalize qds=E at tail;have hlit:x.lit=true->∃c,x.name[(0:Int).toNat]?=some c/\qf5 x=c.toNat:=λh=>by
    have:=hx h;cases hn:x.name with
    |nil=>exact absurd hn this
    |cons c r=>exact⟨c,rfl,by unfold qf5;rw[if_pos h,hn];rfl⟩
   by_cases hlt:x.lit=true
   . obtain ⟨c,hc,hc2⟩:=hlit hlt;have hcl:=c.toNat_lt;have hz:IntKind.i64.wrap (c.toNat:Int)=(c.toNat:Int):=wrap64 o_ o_;repeat' with_reducible first|refine s_ ?_|simp -implicitDefEqProofs only[wZZ,seval,hm,hz]|apply qa<;>intro h h_<;>(try simp only[wD,reduceCtorEq]at h_)<;>(try exact wb_)<;>(try simp only[h])|apply qM (hp:=zk ?_);(focus(refine(hM.mono (Nat.le_refl _) (λj hj=>?_)).er;(try simp only[wM]);(repeat rw[if_neg o_])));exact qd;exact wu_;exact Flat.int _ _;rotate_left;exact wf_|apply qM (hp:=jg ?_);(focus(refine(hM.mono (Nat.le_refl _) (λj hj=>?_)).er;(try simp only[wM]);(repeat rw[if_neg o_])));exact qd;exact wu_;exact Flat.int _ _;rotate_left;exact wf_|(refine qR rfl rfl rfl ((VU (hM.mono wh_ (λj hj=>by(try simp only[wM]);(repeat rw[if_neg o_])))).mono ?_);rintro v1 H1 n1 ⟨q1,q2,q3⟩;(try simp only[wN]at q1);(try simp only[wM]at q3))|refine t_ ?_|simp -implicitDefEqProofs (disch:=omega) only[w64,if_neg]
     . have hg:∀j,j<next+2+4+2+7->j≠m->H1 j=if j=next+2+4+2+5 then some (.own 6 [.agg [.str x.name,.bool true,vi c.toNat,vi 0,vi 0,.str []]] false)else if j=next then some (.own 4 [x.V] false)else H j:=λj h1 h2=>by
        rw[q3 j wg_ h2];(try simp only[wM]);by_cases e1:j=next+2+4+2+5
        . simp only[if_pos e1]
        . simp only[if_neg e1]
       refine tail _ (zu M x.at_ x.name) (next+2+4+2+5) (by show next<n1;omega) o_ (by show _<n1;omega) wl_ wl_ wl_ ?_ ?_ q2 ?_ ?_ (λj h1 h2=>?_) ?_
       . show H1 next=_
         rw[hg next o_ o_,if_neg o_,if_pos rfl]
       . show H1 (next+2+4+2+5)=_;rw[hg _ o_ o_,if_pos rfl,hlt,hc2]
       . unfold zu;split<;>rfl
       . unfold zu;split<;>rfl
       . show H1 j=_;rw[hg j o_ h2,if_neg o_,if_neg o_]
       . exact hR2 _ (if_pos ⟨hlt,by rw[hc2];exact h_⟩)
     . refine tail _ M (next+2+4+2+5) wh_ o_ wh_ wl_ wl_ wl_ ?_ ?_ (hM.mono wh_ (λj hj=>?_)) rfl rfl (λj h1 h2=>?_) ?_
       . simp only[wM];repeat first|rw[if_pos trivial]|rw[if_pos rfl]|rw[if_neg o_]
       . simp only[wM];repeat first|rw[if_pos trivial]|rw[if_pos rfl]|rw[if_neg o_]
         rw[hlt,hc2]
       . simp only[wM];repeat first|rw[if_pos trivial]|rw[if_pos rfl]|rw[if_neg o_]
       . simp only[wM];repeat first|rw[if_pos trivial]|rw[if_pos rfl]|rw[if_neg o_]
       . exact hR2 _ (if_neg (λe=>by have:=e.2;rw[hc2]at this;omega))
   . have hlf:x.lit=false:=(by simpa using hlt);have hl0:qf5 x=0:=(by unfold qf5;rw[if_neg hlt]);repeat' with_reducible first|refine s_ ?_|simp -implicitDefEqProofs only[wZZ,seval,hm]|apply qa<;>intro h h_<;>(try simp only[wD,reduceCtorEq]at h_)<;>(try exact wb_)<;>(try simp only[h])|apply qM (hp:=zk ?_);(focus(refine(hM.mono (Nat.le_refl _) (λj hj=>?_)).er;(try simp only[wM]);(repeat rw[if_neg o_])));exact qd;exact wu_;exact Flat.int _ _;rotate_left;exact wf_|refine t_ ?_|simp -implicitDefEqProofs (disch:=omega) only[w64,if_neg]
     refine tail _ M (next+2+4+2+5) wh_ o_ wh_ wl_ wl_ wl_ ?_ ?_ (hM.mono wh_ (λj hj=>?_)) rfl rfl (λj h1 h2=>?_) ?_
     . simp only[wM];repeat first|rw[if_pos trivial]|rw[if_pos rfl]|rw[if_neg o_]
     . simp only[wM];repeat first|rw[if_pos trivial]|rw[if_pos rfl]|rw[if_neg o_]
       rw[hlf,hl0]
     . simp only[wM];repeat first|rw[if_pos trivial]|rw[if_pos rfl]|rw[if_neg o_]
     . simp only[wM];repeat first|rw[if_pos trivial]|rw[if_pos rfl]|rw[if_neg o_]
     . exact hR2 _ (if_neg (λe=>hlt e.1))

theorem jH(n:List UInt8)(l:List (List UInt8))(i:Nat): -1<=qD n l i/\qD n l i<(i:Int)+l.length:=by
 induction l generalizing i with
 |nil=>simp[qD];omega
 | cons a r ih=>
   have:=ih (i+1);unfold qD;split
   . simp;omega
   . simp at this ⊢;omega
theorem qff(n:List UInt8)(l:List Non)(i:Nat): -1<=kD n l i/\kD n l i<(i:Int)+l.length:=by
 induction l generalizing i with
 |nil=>simp[kD];omega
 | cons a r ih=>
   have:=ih (i+1);unfold kD;split
   . simp;omega
   . simp at this ⊢;omega
theorem qkR(x:Sym)(l:List Tok)(i:Nat): -1<=Qw x l i/\Qw x l i<(i:Int)+l.length:=by
 induction l generalizing i with
 |nil=>simp[Qw];omega
 | cons a r ih=>
   have:=ih (i+1);unfold Qw;split
   . simp;omega
   . simp at this ⊢;omega
theorem qbe(x:Sym)(l:List Tok)(h:1<=l.length): -1<=VN l x/\VN l x<l.length:=by have:=qkR x (l.drop 1) 1;unfold VN;rw[List.length_drop]at this;omega
theorem zP(M:Mk)(a:Int)(n:List UInt8):(zu M a n).toks=M.toks/\(zu M a n).given=M.given/\(zu M a n).lefts=M.lefts/\(zu M a n).types=M.types/\(zu M a n).prods=M.prods/\(zu M a n).nons=M.nons/\(zu M a n).level=M.level/\(zu M a n).inner=M.inner:=by unfold zu;split<;>exact⟨rfl,rfl,rfl,rfl,rfl,rfl,rfl,rfl⟩
theorem qzl{next m:Nat}(hM:MkAt H next m ti gi vN vP vT vL M)(hb:M.toks.length<=1099511627776)(hbl:M.lefts.length<=1099511627776)(hx:x.lit=true->x.name≠[]):zh Tryz.prog 131 [.ptr m 0 0,x.V] H next (λv H' next'=>next<=next'/\v=vi (yJ M x).2/\(∃ti' gi',(ti'=ti\/next<=ti')/\(gi'=gi\/next<=gi')/\MkAt H' next' m ti' gi' vN vP vT vL (yJ M x).1)/\∀j,j<next->j≠m->j≠ti->j≠gi->H' j=H j):=by
 refine zb Tryz.func131 nm_ qpJ (by show 2<=32;decide) ?_
 show ewp _ qnH _ _;have hm:=hM.hm;have lm:=hM.lm;have lt:=hM.lt;have lg:=hM.lg;obtain ⟨n1,n2,n3⟩:=hM.mt;by_cases hl:x.lit=true
 . have e:yJ M x=Jc M x:=(by unfold yJ;rw[if_pos hl]);rw[e];repeat' with_reducible first|refine s_ ?_|simp -implicitDefEqProofs only[wZZ,seval,hm]|apply qa<;>intro h h_<;>(try simp only[wD,reduceCtorEq]at h_)<;>(try exact wb_)<;>(try simp only[h])|(refine qR rfl rfl rfl ((qzn (hM.mono wh_ (λj hj=>by(try simp only[wM]);(repeat rw[if_neg o_]))) hb hx).mono ?_);rintro v1 H1 n1 ⟨q1,rfl,⟨ti',gi',q3,q4,q5⟩,q6⟩;(try simp only[wN]at q1 q3 q4);(try simp only[wM,wN]at q6))|refine t_ ?_
   . refine JU rfl (Or.inr rfl) ?_;simp -implicitDefEqProofs only[wL,seval];refine⟨wg_,trivial,⟨ti',gi',o_,o_,q5⟩,λj hj h1 h2 h3=>?_⟩
     show H1 j=H j;rw[q6 j o_ h1 h2 h3,if_neg o_]
 . have hb2:=jH x.name M.lefts 0;have ht2:=qbe x M.toks (by have:=hM.len3;omega);have hlf:x.lit=false:=(by simpa using hl);by_cases h0:0<=qD x.name M.lefts 0
   . have e:yJ M x=(M,1001+qD x.name M.lefts 0):=(by unfold yJ;rw[if_neg hl,if_pos h0]);rw[e];have hz:IntKind.i64.wrap (1001+qD x.name M.lefts 0)=1001+qD x.name M.lefts 0:=wrap64 o_ o_;repeat' with_reducible first|refine s_ ?_|simp -implicitDefEqProofs only[wZZ,seval,hm,hz]|apply qa<;>intro h h_<;>(try simp only[wD,reduceCtorEq]at h_)<;>(try exact wb_)<;>(try simp only[h])|apply qM (hp:=qC ?_);(focus(refine(hM.mono (Nat.le_refl _) (λj hj=>?_)).er;(try simp only[wM]);(repeat rw[if_neg o_])));exact qd;exact wu_;exact Flat.int _ _;rotate_left;exact wf_|refine t_ ?_
     refine JU rfl (Or.inr rfl) ?_;simp -implicitDefEqProofs only[wL,seval];refine⟨wg_,by first|trivial|rfl,⟨ti,gi,Or.inl rfl,Or.inl rfl,hM.mono wh_ (λj hj=>?_)⟩,λj hj h1 h2 h3=>?_⟩
     . simp only[wM];repeat first|rw[if_pos trivial]|rw[if_neg o_]
     . simp only[wM];repeat first|rw[if_pos trivial]|rw[if_neg o_]
   . by_cases h1:VN M.toks x<0
     . have e:yJ M x=(zu M x.at_ x.name,0):=(by unfold yJ;rw[if_neg hl,if_neg h0,if_pos h1]);rw[e];repeat' with_reducible first|refine s_ ?_|simp -implicitDefEqProofs only[wZZ,seval,hm]|apply qa<;>intro h h_<;>(try simp only[wD,reduceCtorEq]at h_)<;>(try exact wb_)<;>(try simp only[h])|apply qM (hp:=qC ?_);(focus(refine(hM.mono (Nat.le_refl _) (λj hj=>?_)).er;(try simp only[wM]);(repeat rw[if_neg o_])));exact qd;exact wu_;exact Flat.int _ _;rotate_left;exact wf_|apply qM (hp:=zk ?_);(focus(refine(hM.mono (Nat.le_refl _) (λj hj=>?_)).er;(try simp only[wM]);(repeat rw[if_neg o_])));exact qd;exact wu_;exact Flat.int _ _;rotate_left;exact wf_|(refine qR rfl rfl rfl ((VU (hM.mono wh_ (λj hj=>by(try simp only[wM]);(repeat rw[if_neg o_])))).mono ?_);rintro v1 H1 n1 ⟨q1,q2,q3⟩;(try simp only[wN]at q1);(try simp only[wM]at q3))|refine t_ ?_
       refine JU rfl (Or.inr rfl) ?_;simp -implicitDefEqProofs only[wL,seval];refine⟨wg_,by first|trivial|rfl,⟨ti,gi,Or.inl rfl,Or.inl rfl,q2.mono wh_ (λj hj=>mm_)⟩,λj hj h1 h2 h3=>?_⟩
       show H1 j=H j;rw[q3 j wg_ h1];(try simp only[wM]);rw[if_neg o_]
     . have e:yJ M x=(M,VN M.toks x):=(by unfold yJ;rw[if_neg hl,if_neg h0,if_neg h1]);rw[e];repeat' with_reducible first|refine s_ ?_|simp -implicitDefEqProofs only[wZZ,seval,hm]|apply qa<;>intro h h_<;>(try simp only[wD,reduceCtorEq]at h_)<;>(try exact wb_)<;>(try simp only[h])|apply qM (hp:=qC ?_);(focus(refine(hM.mono (Nat.le_refl _) (λj hj=>?_)).er;(try simp only[wM]);(repeat rw[if_neg o_])));exact qd;exact wu_;exact Flat.int _ _;rotate_left;exact wf_|apply qM (hp:=zk ?_);(focus(refine(hM.mono (Nat.le_refl _) (λj hj=>?_)).er;(try simp only[wM]);(repeat rw[if_neg o_])));exact qd;exact wu_;exact Flat.int _ _;rotate_left;exact wf_|refine t_ ?_
       refine JU rfl (Or.inr rfl) ?_;simp -implicitDefEqProofs only[wL,seval];refine⟨wg_,by first|trivial|rfl,⟨ti,gi,Or.inl rfl,Or.inl rfl,hM.mono wh_ (λj hj=>?_)⟩,λj hj h1 h2 h3=>?_⟩
       . simp only[wM];repeat first|rw[if_pos trivial]|rw[if_neg o_]
       . simp only[wM];repeat first|rw[if_pos trivial]|rw[if_neg o_]

abbrev qlK(x:Tok):List V:=[.str x.name,.bool x.lit,vi x.num,vi x.level,vi x.assoc,.str x.tag]
variable {l:List Tok} {off:Nat} {ro:Bool}
theorem ldT{K:V->Prop}{k:Nat}{x:Tok}{c:V}(hx:l[k]?=some x)(hc:(qlK x)[off]?=some c)(hk:K c):onS (ldQ (some (.own 6 (l.map Tok.V) ro)) false 1 k off) K:=
 qoF (f:=qlK) hx hc hk
variable {v:Go.E.V}
theorem stT(x':Tok){K:St->Prop}{id k:Nat}{x:Tok}(hx:l[k]?=some x)(hv:v.cells=[v])(hc:v.okCell=true)(ha:v.isAgg=false)(ho:off<6)(he:(qlK x).set off v=qlK x')
(hk:K (s.setO id (some (.own 6 ((l.set k x').map Tok.V) false)))):onS (stQ s (some (.own 6 (l.map Tok.V) false)) 1 id k off v) K:=by
 have e:je 1 6 (.agg (qlK x)) v off=some (.agg ((qlK x).set off v)):=by unfold je;rw[if_neg (by rw[ha];simp[V.isAgg])];cases v<;>simp_all [V.isAgg]
 have e2:stQ s (some (.own 6 (l.map Tok.V) false)) 1 id k off v=some (s.setO id (some (.own 6 ((l.set k x').map Tok.V) false))):=by have e3:(Tok.V x)=V.agg (qlK x):=rfl;have e4:V.agg (qlK x')=Tok.V x':=rfl;simp only[stQ,List.getElem?_map,hx,Option.map_some,hv,hc,List.length_singleton,and_self,↓reduceIte,e3,e,he,e4,List.map_set]
 rw[e2];exact hk
theorem qkp(h:0<l.length):lab (.own 6 (l.map Tok.V) ro)=13:=by
 cases l with
 |nil=>simp at h
 |cons a r=>rfl
structure DAt(s:St)(H:Nat->Option MObj)(next m ti gi:Nat)(vN vP vT vL:V)(d:Decl)(x:Sym)(t ti1 gi1:Nat)(M:Mk):Prop where
 at_:MkAt s.H s.next m ti1 gi1 vN vP vT vL M
 it:ti1=ti\/next<=ti1
 ig:gi1=gi\/next<=gi1
 f0:s.f 0=.ptr m 0 0
 f4:s.f 4=.ptr next 0 0
 f5:s.f 5=.ptr (next+1) 0 0
 f7:s.f 7=vi t
 f8:s.f 8=.ptr ti1 t 0
 h4:s.H next=some (.own 4 [d.V] false)
 h5:s.H (next+1)=some (.own 4 [x.V] false)
 lt:t<M.toks.length
 ln:next+2<=s.next
 fr:∀j,j<next->j≠m->j≠ti->j≠gi->s.H j=H j
variable {t:Nat}
theorem MkAt.Zq{next m:Nat}{k:Tok}(h:MkAt H next m ti gi vN vP vT vL M)(hn:next<=n')(ht:H' ti=some (.own 6 ((M.toks.set t k).map Tok.V) false))
(hf:∀j,j<next->j≠ti->H' j=H j):MkAt H' n' m ti gi vN vP vT vL (Zq M t k):=by
 obtain ⟨n1,n2,n3⟩:=h.mt;have:=h.lm;have:=h.lt;have:=h.lg;refine⟨?_,?_,?_,h.eN,h.eP,h.eT,h.eL,o_,o_,o_,?_,?_⟩
 . rw[hf m h.lm (λe=>n1 e.symm),h.hm];simp[Go.Proofs.Zq]
 . rw[ht];rfl
 . rw[hf gi h.lg n3];exact h.hg
 . simp[Go.Proofs.Zq,h.len]
 . simp[Go.Proofs.Zq,h.len3]
variable {ti1 gi1:Nat} {d:Decl}
theorem DAt.ap4{next m:Nat}(h:DAt s H next m ti gi vN vP vT vL d x t ti1 gi1 M):next≠m/\next≠ti1/\next≠gi1:=by
 have hj:=h.h4;refine⟨λq=>?_,λq=>?_,λq=>?_⟩
 . rw[q,h.at_.hm]at hj;cases hj
 . rw[q,h.at_.ht]at hj;cases hj
 . rw[q,h.at_.hg]at hj;cases hj
variable {s':St}
theorem DAt.upd{next m:Nat}(h:DAt s H next m ti gi vN vP vT vL d x t ti1 gi1 M)
(hA:MkAt s'.H s'.next m ti1 gi1 vN vP vT vL M')(hl:M'.toks.length=M.toks.length)(h0:s'.f 0=s.f 0)(h4:s'.f 4=s.f 4)(h5:s'.f 5=s.f 5)(h7:s'.f 7=s.f 7)(h8:s'.f 8=s.f 8)(hn:s.next<=s'.next)
(hH:∀j,j<s.next->j≠m->j≠ti1->j≠gi1->s'.H j=s.H j):DAt s' H next m ti gi vN vP vT vL d x t ti1 gi1 M':=by
 have ln:=h.ln;have hap:∀j e,s.H j=some (.own 4 e false)->j≠m/\j≠ti1/\j≠gi1:=λj e hj=>by
  refine⟨λq=>?_,λq=>?_,λq=>?_⟩
  . rw[q,h.at_.hm]at hj;cases hj
  . rw[q,h.at_.ht]at hj;cases hj
  . rw[q,h.at_.hg]at hj;cases hj
 obtain ⟨a1,a2,a3⟩:=hap _ _ h.h4;obtain ⟨b1,b2,b3⟩:=hap _ _ h.h5;refine⟨hA,h.it,h.ig,h0.trans h.f0,h4.trans h.f4,h5.trans h.f5,h7.trans h.f7,h8.trans h.f8,?_,?_,by rw[hl];exact h.lt,o_,λj hj c1 c2 c3=>?_⟩
 . rw[hH next o_ a1 a2 a3];exact h.h4
 . rw[hH (next+1) o_ b1 b2 b3];exact h.h5
 . have:=h.it;have:=h.ig;rw[hH j o_ c1 o_ o_];exact h.fr j hj c1 c2 c3
variable {Q:Exit->St->Prop}
theorem qfN{next m:Nat}{E:EC}(h:DAt s H next m ti gi vN vP vT vL d x t ti1 gi1 M)(hk:1<=d.kind/\d.kind<=6)
(hQ:∀s',DAt s' H next m ti gi vN vP vT vL d x t ti1 gi1 (yE M d.kind x t)->ewp Tryz.prog E Q s'):ewp Tryz.prog (.seq qeZ E) Q s:=by
 have hD:=h;obtain ⟨hM,it,ig,f0,f4,f5,f7,f8,h4,h5,lt,ln,fr⟩:=h;have hm:=hM.hm;have lm:=hM.lm;have ht:=hM.ht;have hg:=hM.hg;have lt1:=hM.lt;have lg:=hM.lg;obtain ⟨n1,n2,n3⟩:=hM.mt;by_cases hk1:d.kind=1
 . have e:yE M d.kind x t=M:=(by unfold yE;rw[if_pos hk1]);rw[e]at hQ;repeat' with_reducible first|refine s_ ?_|simp -implicitDefEqProofs only[wZZ,seval,f0,f4,f5,f7,f8,h4,h5,hm,hk1]|refine t_ ?_
   exact hQ _ (hD.upd (hM.mono wh_ (λj hj=>mm_)) rfl wl_ wl_ wl_ wl_ wl_ wh_ (λj h1 h2 h3 h4=>mm_))
 . have hget:M.toks[t]?=some (qa7 M t):=by
    unfold qa7;rw[Int.toNat_natCast,ge_ lt];simp[List.getD,lt]
   generalize hk0:qa7 M t=k at hget;by_cases hl:0<k.level
   . have e:yE M d.kind x t=Zq (zu M x.at_ x.name) t {k with level:=M.level,assoc:=d.kind - 1}:=(by unfold yE;simp only[hk0];rw[if_neg hk1,if_pos hl]);rw[e]at hQ;have hz:IntKind.i64.wrap (d.kind - 1)=d.kind - 1:=wrap64 o_ o_;obtain ⟨ff1,ff2,ff3,ff4,ff5,ff6,ff7,ff8⟩:=zP M x.at_ x.name;repeat' with_reducible first|refine s_ ?_|simp -implicitDefEqProofs only[wZZ,seval,f0,f4,f5,f7,f8,h4,h5,hm,ht,hz]|apply qa<;>intro h h_<;>(try simp only[wD,reduceCtorEq]at h_)<;>(try exact wb_)<;>(try simp only[h])|apply ldT;assumption;exact wu_|(refine qR rfl rfl rfl ((VU (hM.mono wh_ (λj hj=>by(try simp only[wM]);(repeat rw[if_neg o_])))).mono ?_);rintro v1 H1 n1 ⟨q1,q2,q3⟩;(try simp only[wN]at q1);(try simp only[wM]at q3))|refine t_ ?_
     simp only[wN]at q3;have hm1:=q2.hm;have ht1:=q2.ht;rw[ff1]at ht1;obtain ⟨a1,a2,a3⟩:=hD.ap4;have h41:H1 next=some (.own 4 [d.V] false):=by rw[q3 next o_ a1];exact h4
     have hm2:(mkC ti1 gi1 vN vP vT vL (zu M x.at_ x.name))=.agg [.msl ti1 6 0 (zu M x.at_ x.name).toks.length,vN,vP,.str [],.str [],.msl gi1 1 0 (zu M x.at_ x.name).given.length,vT,vL,vi (zu M x.at_ x.name).e,vi (zu M x.at_ x.name).at_,.str (zu M x.at_ x.name).name,vi M.level,vi (zu M x.at_ x.name).inner]:=(by rw[<- ff7]);rw[hm2]at hm1;repeat' with_reducible first|refine qjR ?_|simp -implicitDefEqProofs only[wZZ,seval,f0,f4,f5,f7,f8,h41,hm1,ht1,hz]|(refine And.intro ?_ ?_;(focus(first|with_unfolding_all rfl|exact congrArg some (qkp ls_))))|apply stT ({k with level:=M.level});(focus(first|assumption|exact List.getElem?_set_self ls_));exact wu_;exact wu_;exact wu_;decide;exact wu_|apply stT ({k with level:=M.level,assoc:=d.kind - 1});(focus(first|assumption|exact List.getElem?_set_self ls_));exact wu_;exact wu_;exact wu_;decide;exact wu_|refine t_ ?_
     refine hQ _ (hD.upd (q2.Zq wh_ ?_ (λj h1 h2=>?_)) (by simp[Zq,ff1]) wl_ wl_ wl_ wl_ wl_ wh_ (λj h1 h2 h3 h4=>?_))
     . simp only[wM];repeat first|rw[if_pos trivial]|rw[if_pos rfl]|rw[if_neg o_]
       simp[List.set_set,ff1]
     . simp only[wM];repeat first|rw[if_pos trivial]|rw[if_pos rfl]|rw[if_neg o_]
     . simp only[wM];repeat first|rw[if_pos trivial]|rw[if_pos rfl]|rw[if_neg o_]
       exact q3 j o_ h2
   . have e:yE M d.kind x t=Zq M t {k with level:=M.level,assoc:=d.kind - 1}:=(by unfold yE;simp only[hk0];rw[if_neg hk1,if_neg hl]);rw[e]at hQ;have hz:IntKind.i64.wrap (d.kind - 1)=d.kind - 1:=wrap64 o_ o_;repeat' with_reducible first|refine s_ ?_|simp -implicitDefEqProofs only[wZZ,seval,f0,f4,f5,f7,f8,h4,h5,hm,ht,hz]|apply qa<;>intro h h_<;>(try simp only[wD,reduceCtorEq]at h_)<;>(try exact wb_)<;>(try simp only[h])|apply ldT;assumption;exact wu_|(refine And.intro ?_ ?_;(focus(first|with_unfolding_all rfl|exact congrArg some (qkp ls_))))|apply stT ({k with level:=M.level});(focus(first|assumption|exact List.getElem?_set_self ls_));exact wu_;exact wu_;exact wu_;decide;exact wu_|apply stT ({k with level:=M.level,assoc:=d.kind - 1});(focus(first|assumption|exact List.getElem?_set_self ls_));exact wu_;exact wu_;exact wu_;decide;exact wu_|refine t_ ?_
     refine hQ _ (hD.upd (hM.Zq wh_ ?_ (λj h1 h2=>?_)) (by simp[Zq]) wl_ wl_ wl_ wl_ wl_ wh_ (λj h1 h2 h3 h4=>?_))
     . simp only[wM];repeat first|rw[if_pos trivial]|rw[if_pos rfl]|rw[if_neg o_]
       simp[List.set_set]
     . simp only[wM];repeat first|rw[if_pos trivial]|rw[if_pos rfl]|rw[if_neg o_]
     . simp only[wM];repeat first|rw[if_pos trivial]|rw[if_pos rfl]|rw[if_neg o_]

def qgs(M:Mk)(t:Nat)(n:Int):Mk:={Zq M t {qa7 M t with num:=n} with given:=M.given.set t true}
theorem MkAt.qgs{next m:Nat}{n:Int}(h:MkAt H next m ti gi vN vP vT vL M)(hn:next<=n')(ht:H' ti=some (.own 6 ((M.toks.set t {qa7 M t with num:=n}).map Tok.V) false))
(hg:H' gi=some (.own 1 ((M.given.set t true).map V.bool) false))(hf:∀j,j<next->j≠ti->j≠gi->H' j=H j):MkAt H' n' m ti gi vN vP vT vL (qgs M t n):=by
 obtain ⟨n1,n2,n3⟩:=h.mt;have:=h.lm;have:=h.lt;have:=h.lg;refine⟨?_,?_,?_,h.eN,h.eP,h.eT,h.eL,o_,o_,o_,?_,?_⟩
 . rw[hf m h.lm (λe=>n1 e.symm) (λe=>n2 e.symm),h.hm];simp[Go.Proofs.qgs,Go.Proofs.Zq]
 . rw[ht];rfl
 . rw[hg];rfl
 . simp[Go.Proofs.qgs,Go.Proofs.Zq,h.len]
 . simp[Go.Proofs.qgs,Go.Proofs.Zq,h.len3]
theorem KQ{next m:Nat}(h:DAt s H next m ti gi vN vP vT vL d x t ti1 gi1 M)
(hQ:∀s',DAt s' H next m ti gi vN vP vT vL d x t ti1 gi1 (qgs M t x.num)->Q .normal s'):ewp Tryz.prog Kz Q s:=by
 have hD:=h;obtain ⟨hM,it,ig,f0,f4,f5,f7,f8,h4,h5,lt,ln,fr⟩:=h;have hm:=hM.hm;have lm:=hM.lm;have ht:=hM.ht;have hg:=hM.hg;have lt1:=hM.lt;have lg:=hM.lg;have hlen:=hM.len;obtain ⟨n1,n2,n3⟩:=hM.mt;have hget:M.toks[t]?=some (qa7 M t):=by unfold qa7;rw[Int.toNat_natCast,ge_ lt];simp[List.getD,lt]
 generalize hk0:qa7 M t=k at hget;repeat' with_reducible first|refine s_ ?_|simp -implicitDefEqProofs only[wZZ,seval,f0,f4,f5,f7,f8,h4,h5,hm,ht,hg]|apply stT ({k with num:=x.num});(focus(first|assumption|exact List.getElem?_set_self ls_));exact wu_;exact wu_;exact wu_;decide;exact wu_|refine t_ ?_|apply qix;exact wf_;exact wu_;exact wu_;(focus(intro _;with_unfolding_all rfl))|simp -implicitDefEqProofs (disch:=omega) only[w64,if_neg]
 refine hQ _ (hD.upd (hM.qgs wh_ ?_ ?_ (λj h1 h2 h3=>?_)) (by simp[qgs,Zq]) wl_ wl_ wl_ wl_ wl_ wh_ (λj h1 h2 h3 h4=>?_))
 . simp only[wM];repeat first|rw[if_pos trivial]|rw[if_pos rfl]|rw[if_neg o_]
   rw[hk0]
 . simp only[wM];repeat first|rw[if_pos trivial]|rw[if_pos rfl]|rw[if_neg o_]
 . simp only[wM];repeat first|rw[if_pos trivial]|rw[if_pos rfl]|rw[if_neg o_]
 . simp only[wM];repeat first|rw[if_pos trivial]|rw[if_pos rfl]|rw[if_neg o_]
theorem qgl{next m:Nat}{E:EC}(h:DAt s H next m ti gi vN vP vT vL d x t ti1 gi1 M)(hb:M.toks.length<=1099511627776)
(hQ:∀s',DAt s' H next m ti gi vN vP vT vL d x t ti1 gi1 (jQ M x t)->ewp Tryz.prog E Q s'):ewp Tryz.prog (.seq qdR E) Q s:=by
 have hD:=h;obtain ⟨hM,it,ig,f0,f4,f5,f7,f8,h4,h5,lt,ln,fr⟩:=h;have hm:=hM.hm;have lm:=hM.lm;have ht:=hM.ht;have hg:=hM.hg;have lt1:=hM.lt;have lg:=hM.lg;have hlen:=hM.len;obtain ⟨n1,n2,n3⟩:=hM.mt;by_cases hn:0<x.num
 . have hgt:M.given[t]?=some (M.given.getD t false):=by
    rw[ge_ o_];simp[List.getD,show t<M.given.length by omega]
   generalize hgb:M.given.getD t false=gb at hgt;obtain ⟨ff1,ff2,ff3,ff4,ff5,ff6,ff7,ff8⟩:=zP M x.at_ x.name
   show ewp _ (.seq (.seq (.reg qsW) (.cond (.t 88) (.seq qxd Kz) .skip)) E) Q s;by_cases hC:(t:Int)=1\/gb=true\/0<=qlO M.toks x.num
   . have e:jQ M x t=qgs (zu M x.at_ x.name) t x.num:=by
      unfold jQ qgs;simp only[if_pos hn,Int.toNat_natCast,hgb,if_pos hC,ff2,qa7,ff1]
     rw[e]at hQ;have tail:∀s',DAt s' H next m ti gi vN vP vT vL d x t ti1 gi1 (zu M x.at_ x.name)->ewp Tryz.prog Kz (Qm (ewp Tryz.prog E Q) Q) s':=λs' h'=>KQ h' λs2 h2=>hQ s2 h2
     generalize Kz=F at tail;repeat' with_reducible first|refine s_ ?_|simp -implicitDefEqProofs only[wZZ,seval,f0,f4,f5,f7,f8,h4,h5,hm,ht,hg]|(first|apply qa|apply qA|apply qB)<;>intro h h_<;>(try simp only[wD,reduceCtorEq]at h_)<;>(try exact wb_)<;>(try simp only[h])|apply qM (hp:=jg ?_);(focus(refine(hM.mono (Nat.le_refl _) (λj hj=>?_)).er;(try simp only[wM]);(repeat rw[if_neg o_])));exact qd;exact wu_;exact Flat.int _ _;rotate_left;exact wf_|(refine qR rfl rfl rfl ((VU (hM.mono wh_ (λj hj=>by(try simp only[wM]);(repeat rw[if_neg o_])))).mono ?_);rintro v1 H1 n1 ⟨q1,q2,q3⟩;(try simp only[wN]at q1);(try simp only[wM]at q3))|refine t_ ?_|apply YV;exact wd_;exact wu_
     all_goals first|(exfalso;rcases hC with hC|hC|hC<;>first|omega|(rw[hC]at h_;cases h_)|(simp_all;done))|(simp only[wN]at q3;exact tail _ (hD.upd (q2.mono wh_ (λj hj=>mm_)) (by rw[ff1]) wl_ wl_ wl_ wl_ wl_ wh_ (λj h1 h2 h3 h4=>(show H1 j=s.H j from q3 j o_ h2))))
   . have e:jQ M x t=qgs M t x.num:=by
      unfold jQ qgs;simp only[if_pos hn,Int.toNat_natCast,hgb,if_neg hC,qa7]
     rw[e]at hQ;have tail:∀s',DAt s' H next m ti gi vN vP vT vL d x t ti1 gi1 M->ewp Tryz.prog Kz (Qm (ewp Tryz.prog E Q) Q) s':=λs' h'=>KQ h' λs2 h2=>hQ s2 h2
     generalize Kz=F at tail;have c1: ¬ (t:Int)=1:=λe=>hC (Or.inl e);have c2:gb=false:=(by cases gb with|true=>exact absurd (Or.inr (Or.inl rfl)) hC|false=>rfl);have c3: ¬ 0<=qlO M.toks x.num:=λe=>hC (Or.inr (Or.inr e));subst c2;repeat' with_reducible first|refine s_ ?_|simp -implicitDefEqProofs only[wZZ,seval,f0,f4,f5,f7,f8,h4,h5,hm,ht,hg]|(first|apply qa|apply qA|apply qB)<;>intro h h_<;>(try simp only[wD,reduceCtorEq]at h_)<;>(try exact wb_)<;>(try simp only[h])|apply qM (hp:=jg ?_);(focus(refine(hM.mono (Nat.le_refl _) (λj hj=>?_)).er;(try simp only[wM]);(repeat rw[if_neg o_])));exact qd;exact wu_;exact Flat.int _ _;rotate_left;exact wf_|refine t_ ?_|apply YV;exact wd_;exact wu_
     exact tail _ (hD.upd (hM.mono wh_ (λj hj=>mm_)) rfl wl_ wl_ wl_ wl_ wl_ wh_ (λj h1 h2 h3 h4=>mm_))
 . have e:jQ M x t=M:=(by unfold jQ;rw[if_neg hn]);rw[e]at hQ;repeat' with_reducible first|refine s_ ?_|simp -implicitDefEqProofs only[wZZ,seval,f0,f4,f5,f7,f8,h4,h5,hm]|apply qa<;>intro h h_<;>(try simp only[wD,reduceCtorEq]at h_)<;>(try exact wb_)<;>(try simp only[h])|refine t_ ?_
   exact hQ _ (hD.upd (hM.mono wh_ (λj hj=>mm_)) rfl wl_ wl_ wl_ wl_ wl_ wh_ (λj h1 h2 h3 h4=>mm_))
theorem qf8{next m:Nat}(h:DAt s H next m ti gi vN vP vT vL d x t ti1 gi1 M)
(hQ:∀s',DAt s' H next m ti gi vN vP vT vL d x t ti1 gi1 (QU M d.tag x t)->Q .normal s'):ewp Tryz.prog qev Q s:=by
 have hD:=h;obtain ⟨hM,it,ig,f0,f4,f5,f7,f8,h4,h5,lt,ln,fr⟩:=h;have hm:=hM.hm;have lm:=hM.lm;have ht:=hM.ht;have hg:=hM.hg;have lt1:=hM.lt;have lg:=hM.lg;have hlen:=hM.len;obtain ⟨n1,n2,n3⟩:=hM.mt;obtain ⟨ff1,ff2,ff3,ff4,ff5,ff6,ff7,ff8⟩:=zP M x.at_ x.name;have hget:M.toks[t]?=some (qa7 M t):=by unfold qa7;rw[Int.toNat_natCast,ge_ lt];simp[List.getD,lt]
 generalize hk0:qa7 M t=k at hget;by_cases hg0:d.tag=[]
 . have e:QU M d.tag x t=M:=(by unfold QU;rw[if_neg (by simp[hg0])]);rw[e]at hQ;repeat' with_reducible first|refine s_ ?_|simp -implicitDefEqProofs only[wZZ,seval,f0,f4,f5,f7,f8,h4,h5,hm]|apply qa<;>intro h h_<;>(try simp only[wD,reduceCtorEq]at h_)<;>(try exact wb_)<;>(try simp only[h])|refine t_ ?_
   exact hQ _ (hD.upd (hM.mono wh_ (λj hj=>mm_)) rfl wl_ wl_ wl_ wl_ wl_ wh_ (λj h1 h2 h3 h4=>mm_))
 . by_cases hC:k.tag≠[]/\k.tag≠d.tag
   . have e:QU M d.tag x t=Zq (zu M x.at_ x.name) t {k with tag:=d.tag}:=(by unfold QU;simp only[hk0];rw[if_pos hg0,if_pos hC]);rw[e]at hQ;repeat' with_reducible first|refine s_ ?_|simp -implicitDefEqProofs only[wZZ,seval,f0,f4,f5,f7,f8,h4,h5,hm,ht]|(first|apply qa|apply qA|apply qB)<;>intro h h_<;>(try simp only[wD,reduceCtorEq]at h_)<;>(try exact wb_)<;>(try simp only[h])|apply ldT;assumption;exact wu_|(refine qR rfl rfl rfl ((VU (hM.mono wh_ (λj hj=>by(try simp only[wM]);(repeat rw[if_neg o_])))).mono ?_);rintro v1 H1 n1 ⟨q1,q2,q3⟩;(try simp only[wN]at q1);(try simp only[wM]at q3))|refine t_ ?_
     . simp only[wN]at q3;have ht1:=q2.ht;rw[ff1]at ht1;obtain ⟨a1,a2,a3⟩:=hD.ap4;have h41:H1 next=some (.own 4 [d.V] false):=by rw[q3 next o_ a1];exact h4
       repeat' with_reducible first|simp -implicitDefEqProofs only[wZZ,seval,f0,f4,f5,f7,f8,h41,ht1]|apply stT ({k with tag:=d.tag});(focus(first|assumption|exact List.getElem?_set_self ls_));exact wu_;exact wu_;exact wu_;decide;exact wu_|refine t_ ?_
       refine hQ _ (hD.upd (q2.Zq wh_ ?_ (λj h1 h2=>?_)) (by simp[Zq,ff1]) wl_ wl_ wl_ wl_ wl_ wh_ (λj h1 h2 h3 h4=>?_))
       . simp only[wM];repeat first|rw[if_pos trivial]|rw[if_pos rfl]|rw[if_neg o_]
         simp[ff1]
       . simp only[wM];repeat first|rw[if_pos trivial]|rw[if_pos rfl]|rw[if_neg o_]
       . simp only[wM];repeat first|rw[if_pos trivial]|rw[if_pos rfl]|rw[if_neg o_]
         exact q3 j o_ h2
     . exact absurd h_ hC.2
     . exact absurd h_ hC.1
   . have e:QU M d.tag x t=Zq M t {k with tag:=d.tag}:=(by unfold QU;simp only[hk0];rw[if_pos hg0,if_neg hC]);rw[e]at hQ;repeat' with_reducible first|refine s_ ?_|simp -implicitDefEqProofs only[wZZ,seval,f0,f4,f5,f7,f8,h4,h5,hm,ht]|(first|apply qa|apply qA|apply qB)<;>intro h h_<;>(try simp only[wD,reduceCtorEq]at h_)<;>(try exact wb_)<;>(try simp only[h])|apply ldT;assumption;exact wu_|apply stT ({k with tag:=d.tag});(focus(first|assumption|exact List.getElem?_set_self ls_));exact wu_;exact wu_;exact wu_;decide;exact wu_|refine t_ ?_
     all_goals first|exact absurd ⟨as_,as_⟩ hC|(refine hQ _ (hD.upd (hM.Zq wh_ wi_ (λj h1 h2=>wi_)) (by simp[Zq]) wl_ wl_ wl_ wl_ wl_ wh_ (λj h1 h2 h3 h4=>wi_)))

theorem qic(M:Mk)(x:Sym)(h:1<=M.toks.length):0<=(Jc M x).2/\(Jc M x).2<(Jc M x).1.toks.length:=by
 have:=qbe x M.toks h;unfold Jc;split
 . exact⟨as_,by simpa using this.2⟩
 . dsimp only;constructor
   . omega
   . simp;omega
theorem qhs(M:Mk)(x:Sym):(Jc M x).1.types=M.types/\(Jc M x).1.lefts=M.lefts/\(Jc M x).1.prods=M.prods/\(Jc M x).1.nons=M.nons/\(Jc M x).1.level=M.level/\(Jc M x).1.inner=M.inner/\M.toks.length<=(Jc M x).1.toks.length/\(Jc M x).1.toks.length<=M.toks.length+1:=by
 obtain ⟨ff1,ff2,ff3,ff4,ff5,ff6,ff7,ff8⟩:=zP M x.at_ x.name;unfold Jc;split
 . exact⟨rfl,rfl,rfl,rfl,rfl,rfl,Nat.le_refl _,d_⟩
 . dsimp only;split<;>simp_all
theorem qee(M:Mk)(kind:Int)(x:Sym)(t:Int):(yE M kind x t).types=M.types/\(yE M kind x t).toks.length=M.toks.length:=by
 obtain ⟨ff1,ff2,ff3,ff4,ff5,ff6,ff7,ff8⟩:=zP M x.at_ x.name;unfold yE;split
 . exact⟨rfl,rfl⟩
 . dsimp only;split<;>simp_all [Zq]
theorem qeb(M:Mk)(x:Sym)(t:Int):(jQ M x t).types=M.types/\(jQ M x t).toks.length=M.toks.length:=by
 obtain ⟨ff1,ff2,ff3,ff4,ff5,ff6,ff7,ff8⟩:=zP M x.at_ x.name;unfold jQ;split
 . dsimp only;split<;>simp_all [Zq]
 . exact⟨rfl,rfl⟩
theorem qex(M:Mk)(tag:List UInt8)(x:Sym)(t:Int):(QU M tag x t).types=M.types/\(QU M tag x t).toks.length=M.toks.length:=by
 obtain ⟨ff1,ff2,ff3,ff4,ff5,ff6,ff7,ff8⟩:=zP M x.at_ x.name;unfold QU;split
 . dsimp only;split<;>simp_all [Zq]
 . exact⟨rfl,rfl⟩
def FrO(H H':Nat->Option MObj)(next m ti gi:Nat):Prop:= ∀j,j<next->j≠m->j≠ti->j≠gi->(∀f,H j≠some (.tok f))->H' j=H j
theorem qj{F:Nat->Option MObj}{g:Option Nat}{j:Nat}(h:g≠some j):jo F g j=F j:=if_neg h
theorem _root_.Go.E.Gr.ne{next j:Nat}(h:Gr H next z es v)(ho:∀f,H j≠some (.tok f)):gid v≠some j:=by
 rcases h with rfl|⟨id,fin,rfl,h1,_⟩
 . intro e;cases e
 . intro e;cases e;exact ho _ h1
theorem MkAt.nt{next m:Nat}(h:MkAt H next m ti gi vN vP vT vL M):(∀f,H m≠some (.tok f))/\(∀f,H ti≠some (.tok f))/\(∀f,H gi≠some (.tok f)):=
 ⟨λf e=>(by rw[h.hm]at e;cases e),λf e=>(by rw[h.ht]at e;cases e),λf e=>(by rw[h.hg]at e;cases e)⟩
theorem _root_.Go.E.Gr.stay{next m:Nat}(h:Gr H next z es v)(hM:MkAt H next m ti gi vN vP vT vL M)(hn:next<=n')(hf:∀j,j<next->j≠m->j≠ti->j≠gi->H' j=H j):Gr H' n' z es v:=by
 obtain ⟨a1,a2,a3⟩:=hM.nt;refine h.mono hn λid h1 h2=>hf id h2 (λe=>?_) (λe=>?_) (λe=>?_)
 . subst e;exact h.ne a1 h1
 . subst e;exact h.ne a2 h1
 . subst e;exact h.ne a3 h1
theorem qxG{next m:Nat}(hM:MkAt H next m ti gi vN vP vT vL M)(hT:Gr H next 2 (M.types.map Non.V) vT)(hb:M.toks.length<=549755813888)(hbt:M.types.length<=549755813888)(hx:x.lit=true->x.name≠[])(hk:1<=d.kind/\d.kind<=6):zh Tryz.prog 99 [.ptr m 0 0,d.V,x.V] H next (λ_ H' next'=>next<=next'/\(∃ti' gi' vT',(ti'=ti\/next<=ti')/\(gi'=gi\/next<=gi')/\MkAt H' next' m ti' gi' vN vP vT' vL (kS M d x)/\Gr H' next' 2 ((kS M d x).types.map Non.V) vT')/\FrO H H' next m ti gi):=by
 refine zb Tryz.func99 nm_ qvW (by show 3<=152;decide) ?_
 show ewp _ qvi _ _;have hm:=hM.hm;have lm:=hM.lm;have lt:=hM.lt;have lg:=hM.lg;obtain ⟨n1,n2,n3⟩:=hM.mt;by_cases hk5:d.kind=5
 . by_cases hn:kD x.name M.types 0<0
   . have e:kS M d x={M with types:=M.types++[{name:=x.name,tag:=d.tag}]}:=(by unfold kS;rw[if_pos hk5];simp only[if_pos hn]);rw[e];obtain ⟨a1,a2,a3⟩:=hM.nt;repeat' with_reducible first|refine s_ ?_|simp -implicitDefEqProofs only[wZZ,seval,hm,hk5,qj (hT.ne a1)]|apply qa<;>intro h h_<;>(try simp only[wD,reduceCtorEq]at h_)<;>(try exact wb_)<;>(try simp only[h])|apply qM (hp:=zM ?_);(focus(refine(hM.mono (Nat.le_refl _) (λj hj=>?_)).er;(try simp only[wM]);(repeat rw[if_neg o_])));exact qd;exact wu_;exact Flat.int _ _;rotate_left;exact wf_|apply zq rfl (hT.mono (Nat.le_refl _) (λid h1 h2=>by(try simp only[wM]);(repeat rw[if_neg o_])));(focus(first|exact qY.sl|exact qY.asl));(focus(simp only[wZ]<;>omega));(focus(unfold maxLen;simp only[wZ]<;>omega))|refine t_ ?_|simp -implicitDefEqProofs (disch:=omega) only[w64,if_neg]
     refine V3 rfl (Or.inr rfl) ?_;refine⟨wg_,⟨ti,gi,_,Or.inl rfl,Or.inl rfl,⟨?_,?_,?_,hM.eN,hM.eP,?_,hM.eL,wg_,wg_,wg_,hM.len,hM.len3⟩,Gr.tok (id:=next+2+3+5+2+11) (fin:=M.types.length+1) ?_ wh_⟩,λj h1 h2 h3 h4 h5=>?_⟩
     . simp only[wM,↓reduceIte];simp
     . simp only[wM];repeat first|rw[if_pos trivial]|rw[if_pos rfl]|rw[if_neg o_]
       rw[qj (hT.ne a2)];simp only[wM];repeat first|rw[if_pos trivial]|rw[if_pos rfl]|rw[if_neg o_]
       exact hM.ht
     . simp only[wM];repeat first|rw[if_pos trivial]|rw[if_pos rfl]|rw[if_neg o_]
       rw[qj (hT.ne a3)];simp only[wM];repeat first|rw[if_pos trivial]|rw[if_pos rfl]|rw[if_neg o_]
       exact hM.hg
     . exact .asl _ _ _ _ _ rfl (Z9 λv hv=>by obtain ⟨a,_,rfl⟩:=List.mem_map.1 hv;exact qd)
     . simp only[wM];repeat first|rw[if_pos trivial]|rw[if_pos rfl]|rw[if_neg o_]
     . simp only[wM];repeat first|rw[if_pos trivial]|rw[if_pos rfl]|rw[if_neg o_]
       rw[qj (hT.ne h5)];simp only[wM];repeat first|rw[if_pos trivial]|rw[if_pos rfl]|rw[if_neg o_]
   . have hbd:=qff x.name M.types 0;obtain ⟨k,hk2⟩:∃k:Nat,kD x.name M.types 0=k:=⟨(kD x.name M.types 0).toNat,o_⟩;have hkl:k<M.types.length:=o_;have hgk:M.types.getD k {}=M.types[k]:=(by simp[List.getD,hkl]);have e:kS M d x=if M.types[k].tag≠d.tag then zu M x.at_ x.name else M:=by
      unfold kS;rw[if_pos hk5];simp only[hk2,Int.toNat_natCast,hgk];rw[if_neg o_]
     rw[e];repeat' with_reducible first|refine s_ ?_|simp -implicitDefEqProofs only[wZZ,seval,hm,hk5,hk2]|apply qa<;>intro h h_<;>(try simp only[wD,reduceCtorEq]at h_)<;>(try exact wb_)<;>(try simp only[h])|apply qM (hp:=zM ?_);(focus(refine(hM.mono (Nat.le_refl _) (λj hj=>?_)).er;(try simp only[wM]);(repeat rw[if_neg o_])));exact qd;exact wu_;exact Flat.int _ _;rotate_left;exact wf_|apply Gr.iaQ hT;omega;(focus(first|assumption|exact ge_ o_))|(refine qR rfl rfl rfl ((VU (hM.mono wh_ (λj hj=>by(try simp only[wM]);(repeat rw[if_neg o_])))).mono ?_);rintro v1 H1 n1 ⟨q1,q2,q3⟩;(try simp only[wN]at q1);(try simp only[wM]at q3))|refine t_ ?_|simp -implicitDefEqProofs (disch:=omega) only[w64,if_neg]
     . rw[if_pos h_];refine V3 rfl (Or.inr rfl) ?_;simp only[wN]at q3;have hfr:∀j,j<next->j≠m->H1 j=H j:=λj h1 h2=>by rw[q3 j o_ h2,if_neg o_,if_neg o_]
       refine⟨wg_,⟨ti,gi,vT,Or.inl rfl,Or.inl rfl,q2.mono wh_ (λj hj=>mm_),?_⟩,λj h1 h2 h3 h4 h5=>?_⟩
       . rw[(zP M x.at_ x.name).2.2.2.1];exact hT.stay hM wh_ (λj h1 h2 h3 h4=>by simp only[wM];exact hfr j h1 h2)
       . simp only[wM];exact hfr j h1 h2
     . rw[if_neg (by simp[h_])];refine V3 rfl (Or.inr rfl) ?_;have hfr:∀j,j<next->(if j=next+1 then some (.own 4 [x.V] false)else if j=next then some (.own 4 [d.V] false)else H j)=H j:=λj h1=>by rw[if_neg o_,if_neg o_]
       refine⟨wg_,⟨ti,gi,vT,Or.inl rfl,Or.inl rfl,hM.mono wh_ (λj hj=>by simp only[wM];exact hfr j hj),?_⟩,λj h1 h2 h3 h4 h5=>?_⟩
       . exact hT.stay hM wh_ (λj h1 h2 h3 h4=>by simp only[wM];exact hfr j h1)
       . simp only[wM];exact hfr j h1
 . obtain ⟨t1,t2⟩:=qic M x (by have:=hM.len3;omega);obtain ⟨p1,p2,p3,p4,p5,p6,p7,p8⟩:=qhs M x;obtain ⟨t,ht⟩:∃t:Nat,(Jc M x).2=t:=⟨(Jc M x).2.toNat,o_⟩;have e:kS M d x=QU (jQ (yE (Jc M x).1 d.kind x t) x t) d.tag x t:=(by unfold kS;rw[if_neg hk5];simp only[ht]);rw[e];generalize hM1:(Jc M x).1=M1 at *;obtain ⟨u1,u2⟩:=qee M1 d.kind x t;obtain ⟨u3,u4⟩:=qeb (yE M1 d.kind x t) x t;obtain ⟨u5,u6⟩:=qex (jQ (yE M1 d.kind x t) x t) d.tag x t
   show ewp _ (.seq (.reg qza) (.seq qvC (.seq (.reg qxw) (.seq (.reg qsZ) (.seq qeZ (.seq qdR qev)))))) _ _;have tail:∀(s:St) (ti1 gi1:Nat),DAt s H next m ti gi vN vP vT vL d x t ti1 gi1 M1->ewp Tryz.prog (.seq qeZ (.seq qdR qev)) (xW e99 λ_ H' next'=>next<=next'/\(∃ti' gi' vT',(ti'=ti\/next<=ti')/\(gi'=gi\/next<=gi')/\MkAt H' next' m ti' gi' vN vP vT' vL (QU (jQ (yE M1 d.kind x t) x t) d.tag x t)/\Gr H' next' 2 ((QU (jQ (yE M1 d.kind x t) x t) d.tag x t).types.map Non.V) vT')/\FrO H H' next m ti gi) s:=by intro s ti1 gi1 hD;refine qfN hD hk λs2 h2=>qgl h2 o_ λs3 h3=>qf8 h3 λs4 h4=>?_;refine V3 rfl (Or.inl rfl) ⟨by have:=h4.ln;omega,⟨ti1,gi1,vT,h4.it,h4.ig,h4.at_,?_⟩,λj h5 h6 h7 h8 _=>h4.fr j h5 h6 h7 h8⟩;rw[u5,u3,u1,p1];exact hT.stay hM (by have:=h4.ln;omega) h4.fr
   generalize (EC.seq qeZ (.seq qdR qev))=F at tail;repeat' with_reducible first|refine s_ ?_|simp -implicitDefEqProofs only[wZZ,seval,hm]|apply qa<;>intro h h_<;>(try simp only[wD,reduceCtorEq]at h_)<;>(try exact wb_)<;>(try simp only[h])|(refine qR rfl rfl rfl ((qzn (hM.mono wh_ (λj hj=>by(try simp only[wM]);(repeat rw[if_neg o_]))) o_ hx).mono ?_);rintro v1 H1 n1 ⟨q1,rfl,⟨ti',gi',q3,q4,q5⟩,q6⟩;(try simp only[wN]at q1 q3 q4);(try simp only[wM,wN]at q6))|refine t_ ?_|simp -implicitDefEqProofs (disch:=omega) only[w64,if_neg]
   rw[hM1]at q5;rw[ht];have hm1:=q5.hm;repeat' with_reducible first|simp -implicitDefEqProofs only[wZZ,seval,hm1]|refine t_ ?_
   have hj4:H1 next=some (.own 4 [d.V] false):=by rw[q6 next o_ o_ o_ o_,if_neg o_,if_pos rfl]
   have hj5:H1 (next+1)=some (.own 4 [x.V] false):=(by rw[q6 (next+1) o_ o_ o_ o_,if_pos rfl]);refine tail _ ti' gi' ⟨q5.mono wh_ (λj hj=>mm_),o_,o_,by simp -implicitDefEqProofs only[wL,seval],by simp -implicitDefEqProofs only[wL,seval],by simp -implicitDefEqProofs only[wL,seval],by simp -implicitDefEqProofs only[wL,seval],by simp -implicitDefEqProofs only[wL,seval],by simp only[wM];exact hj4,by simp only[wM];exact hj5,o_,wg_,λj h1 h2 h3 h4=>?_⟩;simp only[wM];rw[q6 j o_ h2 h3 h4,if_neg o_,if_neg o_]

set_option maxHeartbeats 4000000
theorem ErP.shape{l:List V}(h:ErP v (.sl z false l)):∃es,es.length=l.length/\(∀(i:Nat) c c',es[i]?=some c->l[i]?=some c'->ErP c c')/\((∃b,v=.sl z b es)\/ ∃id f,v=.asl id f z es):=by
 unfold ErP at h;cases h with
 |sl _ b cs _ hl h=>exact⟨cs,hl.symm,h,.inl ⟨b,rfl⟩⟩
 |asl id f _ cs _ hl h=>exact⟨cs,hl.symm,h,.inr ⟨id,f,rfl⟩⟩
 |msl id _ off len es ro _ hb=>cases hb
theorem ErP.J9{l:List V}(h:ErP v (.sl z false l)):J9 v=some (.int .i64 (l.length:Int)):=by
 obtain ⟨es,h1,_,⟨b,rfl⟩|⟨id,f,rfl⟩⟩:=ErP.shape h
 . rw[<- h1];rfl
 . rw[<- h1];rfl
theorem qxW{next m:Nat}(h:MkAt H next m ti gi vN vP vT vL M)(hf:∀j,j<next->j≠m->j≠ti->j≠gi->H' j=H j):
 ∀id ob,id<next->H id=some ob->lab ob=12->H' id=some ob:=by
 intro id ob hid ho hl;rw[hf id hid ?_ ?_ ?_]
 . exact ho
 . intro e;rw[e,h.hm]at ho;cases ho;cases hl
 . intro e;rw[e,h.ht]at ho;cases ho;rw[qkp (by have:=h.len3;omega)]at hl;cases hl
 . intro e;rw[e,h.hg]at ho;cases ho;cases hgv:M.given with
   |nil=>rw[hgv]at hl;cases hl
   |cons a r=>rw[hgv]at hl;cases hl
theorem qlA{P:Program}[Glob P]{id:Nat}{f:FuncId}{N:Nat}(hH:s.H=H)(hN:s.next=N)
(h:zh P f vs H N λv H' next'=>(∀id ob,id<N->H id=some ob->lab ob=z->H' id=some ob)/\K v {s with H:=H',next:=next'}):yL P (.v z) id s K f vs:=by
 subst hN hH;refine Or.inr ⟨rfl,?_⟩;rw[List.append_nil];exact h
@[reducible] def prC(p:GPr)(vR:V):V:= .agg [vi p.left,vR,vi p.prec,.str p.code,.sl 1 true [],vi p.at_]
structure AAt(s:St)(H:Nat->Option MObj)(next m ti gi pb:Nat)(vN vP vT vL vR:V)(ps:List V)(a:Alt)(ti1 gi1:Nat)(M:Mk)(p:GPr):Prop where
 at_:MkAt s.H s.next m ti1 gi1 vN vP vT vL M
 it:ti1=ti\/next<=ti1
 ig:gi1=gi\/next<=gi1
 f0:s.f 0=.ptr m 0 0
 f5:s.f 5=.ptr next 0 0
 f6:s.f 6=.ptr pb 0 0
 h5:s.H next=some (.own 6 [a.V] false)
 h6:s.H pb=some (.own 6 [prC p vR] false)
 gR:Gr s.H s.next 1 (p.right.map (V.int .i64)) vR
 gP:Gr s.H s.next 6 ps vP
 eP:J6 ps (M.prods.map GPr.V)
 sp:Sep vR vP
 ln:next<pb
 lp:pb<s.next
 fr:∀j,j<next->j≠m->j≠ti->j≠gi->(∀f,H j≠some (.tok f))->s.H j=H j
variable {pb:Nat} {vR:Go.E.V} {ps:List Go.E.V} {a:Alt} {p:GPr}
theorem AAt.ap{next m:Nat}(h:AAt s H next m ti gi pb vN vP vT vL vR ps a ti1 gi1 M p)(j:Nat)(e:V)(hj:s.H j=some (.own 6 [e] false)):
 j≠m/\j≠ti1/\j≠gi1/\gid vR≠some j/\gid vP≠some j:=by
 refine⟨λq=>?_,λq=>?_,λq=>?_,h.gR.ne λf q=>?_,h.gP.ne λf q=>?_⟩
 . rw[q,h.at_.hm]at hj;cases hj
 . rw[q,h.at_.ht]at hj;have:=h.at_.len3;injection hj with hj;injection hj with _ hj;have:=congrArg List.length hj;simp at this;omega
 . rw[q,h.at_.hg]at hj;cases hj
 . rw[hj]at q;cases q
 . rw[hj]at q;cases q
theorem AAt.upd{next m:Nat}{vP' vR':V}{ps':List V}{ti2 gi2:Nat}{p':GPr}(h:AAt s H next m ti gi pb vN vP vT vL vR ps a ti1 gi1 M p)
(hA:MkAt s'.H s'.next m ti2 gi2 vN vP' vT vL M')(it:ti2=ti1\/s.next<=ti2)(ig:gi2=gi1\/s.next<=gi2)(h0:s'.f 0=s.f 0)(h5:s'.f 5=s.f 5)(h6:s'.f 6=s.f 6)(hn:s.next<=s'.next)
(h6o:s'.H pb=some (.own 6 [prC p' vR'] false))(gR:Gr s'.H s'.next 1 (p'.right.map (V.int .i64)) vR')(gP:Gr s'.H s'.next 6 ps' vP')(eP:J6 ps' (M'.prods.map GPr.V))(sp:Sep vR' vP')
(hH:∀j,j<s.next->j≠m->j≠ti1->j≠gi1->j≠pb->gid vR≠some j->gid vP≠some j->s'.H j=s.H j):AAt s' H next m ti gi pb vN vP' vT vL vR' ps' a ti2 gi2 M' p':=by
 have ln:=h.ln;have lp:=h.lp;obtain ⟨a1,a2,a3,a4,a5⟩:=h.ap next _ h.h5
 have it0:=h.it;have ig0:=h.ig;refine⟨hA,o_,o_,h0.trans h.f0,h5.trans h.f5,h6.trans h.f6,?_,h6o,gR,gP,eP,sp,ln,o_,λj hj c1 c2 c3 c4=>?_⟩
 . rw[hH next o_ a1 a2 a3 o_ a4 a5];exact h.h5
 . have e:=h.fr j hj c1 c2 c3 c4;rw[hH j o_ c1 o_ o_ o_ (h.gR.ne λf q=>c4 f (by rw[<- e];exact q)) (h.gP.ne λf q=>c4 f (by rw[<- e];exact q))];exact e
theorem MkAt.mono3{next m:Nat}(h:MkAt H next m ti gi vN vP vT vL M)(hn:next<=n')(hm:H' m=H m)(ht:H' ti=H ti)(hg:H' gi=H gi):MkAt H' n' m ti gi vN vP vT vL M:=by have:=h.lm;have:=h.lt;have:=h.lg;exact⟨by rw[hm];exact h.hm,by rw[ht];exact h.ht,by rw[hg];exact h.hg,h.eN,h.eP,h.eT,h.eL,o_,o_,o_,h.len,h.len3⟩
theorem Qo(M:Mk)(x:Sym):(yJ M x).1.types=M.types/\(yJ M x).1.lefts=M.lefts/\(yJ M x).1.prods=M.prods/\(yJ M x).1.nons=M.nons/\(yJ M x).1.level=M.level/\(yJ M x).1.inner=M.inner/\M.toks.length<=(yJ M x).1.toks.length/\(yJ M x).1.toks.length<=M.toks.length+1:=by
 obtain ⟨ff1,ff2,ff3,ff4,ff5,ff6,ff7,ff8⟩:=zP M x.at_ x.name;unfold yJ;split
 . exact qhs M x
 . split
   . exact⟨rfl,rfl,rfl,rfl,rfl,rfl,Nat.le_refl _,d_⟩
   . split
     . dsimp only;exact⟨ff4,ff3,ff5,ff6,ff7,ff8,by rw[ff1];omega,by rw[ff1];omega⟩
     . exact⟨rfl,rfl,rfl,rfl,rfl,rfl,Nat.le_refl _,d_⟩
variable {wb:Nat} {w:Part}
theorem qo7{next m:Nat}(h:AAt s H next m ti gi pb vN vP vT vL vR ps a ti1 gi1 M p)
(f8:s.f 8=.ptr wb 0 0)(hw:s.H wb=some (.own 6 [w.V] false))(hb:M.toks.length<=1099511627776)(hbl:M.lefts.length<=1099511627776)(hbr:p.right.length<=549755813888)(hx:w.sym.lit=true->w.sym.name≠[])
(hQ:∀s' ti2 gi2 vR',s'.f 7=s.f 7->s.next<=s'.next->AAt s' H next m ti gi pb vN vP vT vL vR' ps a ti2 gi2 (yJ M w.sym).1 {p with right:=p.right++[(yJ M w.sym).2]}->Q .normal s'):ewp Tryz.prog (.reg qfi) Q s:=by
 have hM:=h.at_;have f0:=h.f0;have f6:=h.f6;have h6:=h.h6;have lp:=h.lp;have lm:=hM.lm;have lt:=hM.lt;have lg:=hM.lg;obtain ⟨b1,b2,b3,b4,b5⟩:=h.ap pb _ h6;repeat' with_reducible first|refine ZR ?_|simp -implicitDefEqProofs only[wZZ,seval,f0,f6,f8,h6,hw]|(refine And.intro ?_ ?_;(focus(first|with_unfolding_all rfl|exact congrArg some (qkp ls_))))|(refine qlA rfl rfl ((qzl (hM.mono wh_ (λj hj=>mm_)) hb hbl hx).mono ?_);rintro v1 H1 n1 ⟨q1,rfl,⟨ti',gi',q3,q4,q5⟩,q6⟩;refine⟨qxW (hM.mono wh_ (λj hj=>mm_)) q6,?_⟩;(try simp only[wN]at q1 q3 q4);(try simp only[wM,wN]at q6))|apply Xl;exact wu_;exact wu_;(focus((try simp -implicitDefEqProofs only[wE,Nat.reduceAdd]);rfl))|refine t_ ?_
 have hG1:Gr H1 n1 1 (p.right.map (V.int .i64)) vR:=h.gR.stay hM o_ (λj h1 h2 h3 h4=>q6 j o_ h2 h3 h4);have hP1:Gr H1 n1 6 ps vP:=h.gP.stay hM o_ (λj h1 h2 h3 h4=>q6 j o_ h2 h3 h4);have h61:H1 pb=some (.own 6 [prC p vR] false):=by rw[q6 pb o_ b1 b2 b3];exact h6
 obtain ⟨y1,y2,y3,y4,y5,y6,y7,y8⟩:=Qo M w.sym;obtain ⟨c1,c2,c3⟩:=q5.nt;repeat' with_reducible first|simp -implicitDefEqProofs only[wZZ,seval,f6,h61,qj b4]|apply zq rfl (hG1.mono (Nat.le_refl _) (λid h1 h2=>by(try simp only[wM]);(repeat rw[if_neg o_])));(focus(first|exact qY.sl|exact qY.asl));(focus(simp only[wZ]<;>omega));(focus(unfold maxLen;simp only[wZ]<;>omega))|refine t_ ?_|simp -implicitDefEqProofs (disch:=omega) only[w64,if_neg]
 refine hQ _ ti' gi' (.asl (s.next+7) (p.right.length+1) 1 ((p.right++[(yJ M w.sym).2]).map (V.int .i64))) wl_ wh_ (h.upd (q5.mono3 wh_ ?_ ?_ ?_) o_ o_ wl_ wl_ wl_ wh_ ?_ (Gr.tok ?_ wh_) (hP1.mono wh_ (λid g1 g2=>?_)) (by rw[y3];exact h.eP) (Sep.newL h.gP o_) (λj g1 g2 g3 g4 g5 g6 g7=>?_))
 . simp only[wM];repeat first|rw[if_pos trivial]|rw[if_pos rfl]|rw[if_neg o_]
   exact qj (hG1.ne c1)
 . simp only[wM];repeat first|rw[if_pos trivial]|rw[if_pos rfl]|rw[if_neg o_]
   exact qj (hG1.ne c2)
 . simp only[wM];repeat first|rw[if_pos trivial]|rw[if_pos rfl]|rw[if_neg o_]
   exact qj (hG1.ne c3)
 . simp only[wM];repeat first|rw[if_pos trivial]|rw[if_pos rfl]|rw[if_neg o_]
   try simp
 . simp only[wM];repeat first|rw[if_pos trivial]|rw[if_pos rfl]|rw[if_neg o_]
 . have g3:=h.gP.lt g1;have g4:id≠pb:=λe=>b5 (by rw[<- e];exact g1);simp only[wM];repeat first|rw[if_pos trivial]|rw[if_pos rfl]|rw[if_neg o_]
   exact qj (λe=>h.sp id e g1)
 . simp only[wM];repeat first|rw[if_pos trivial]|rw[if_pos rfl]|rw[if_neg o_]
   rw[qj g6];exact q6 j o_ g2 g3 g4
theorem qke{next m:Nat}(h:AAt s H next m ti gi pb vN vP vT vL vR ps a ti1 gi1 M p)
(f8:s.f 8=.ptr wb 0 0)(hw:s.H wb=some (.own 6 [w.V] false))
(hQ:∀s',s'.f 7=s.f 7->s.next<=s'.next->AAt s' H next m ti gi pb vN vP vT vL vR ps a ti1 gi1 M {p with code:=w.code,at_:=w.at_}->Q .normal s'):ewp Tryz.prog (.reg qbc) Q s:=by
 have hM:=h.at_;have f0:=h.f0;have f6:=h.f6;have h6:=h.h6;have lp:=h.lp;have lm:=hM.lm;have lt:=hM.lt;have lg:=hM.lg;obtain ⟨b1,b2,b3,b4,b5⟩:=h.ap pb _ h6;repeat' with_reducible first|refine ZR ?_|simp -implicitDefEqProofs only[wZZ,seval,f0,f6,f8,h6,hw]|(refine And.intro ?_ ?_;(focus(first|with_unfolding_all rfl|exact congrArg some (qkp ls_))))|refine t_ ?_
 refine hQ _ wl_ wh_ (h.upd (hM.mono3 wh_ ?_ ?_ ?_) (Or.inl rfl) (Or.inl rfl) wl_ wl_ wl_ wh_ ?_ (h.gR.mono wh_ (λid g1 g2=>?_)) (h.gP.mono wh_ (λid g1 g2=>?_)) h.eP h.sp (λj g1 g2 g3 g4 g5 g6 g7=>?_))
 . simp only[wM];repeat first|rw[if_pos trivial]|rw[if_pos rfl]|rw[if_neg o_]
 . simp only[wM];repeat first|rw[if_pos trivial]|rw[if_pos rfl]|rw[if_neg o_]
 . simp only[wM];repeat first|rw[if_pos trivial]|rw[if_pos rfl]|rw[if_neg o_]
 . simp only[wM];repeat first|rw[if_pos trivial]|rw[if_pos rfl]|rw[if_neg o_]
 . have g4:id≠pb:=λe=>b4 (by rw[<- e];exact g1);simp only[wM];repeat first|rw[if_pos trivial]|rw[if_pos rfl]|rw[if_neg o_]
 . have g4:id≠pb:=λe=>b5 (by rw[<- e];exact g1);simp only[wM];repeat first|rw[if_pos trivial]|rw[if_pos rfl]|rw[if_neg o_]
 . simp only[wM];repeat first|rw[if_pos trivial]|rw[if_pos rfl]|rw[if_neg o_]
theorem qjw{next m:Nat}(h:AAt s H next m ti gi pb vN vP vT vL vR ps a ti1 gi1 M p)
(f8:s.f 8=.ptr wb 0 0)(hw:s.H wb=some (.own 6 [w.V] false))(lw:wb<s.next)(hbl:M.lefts.length<=1099511627776)(hbr:p.right.length<=549755813888)(hbp:ps.length<=549755813888)(hi:0<=M.inner)(hi2:M.inner<=1099511627776)
(hQ:∀s' vP' vR' ps',s'.f 7=s.f 7->s.next<=s'.next->ps'.length=ps.length+1->AAt s' H next m ti gi pb vN vP' vT vL vR' ps' a ti1 gi1 {M with inner:=M.inner+1,prods:=M.prods++[{left:=M.lefts.length+(M.inner+1),prec:= -1,code:=w.code,args:=p.right,at_:=w.at_}]} {p with right:=p.right++[1000+M.lefts.length+(M.inner+1)]}->Q .normal s'):ewp Tryz.prog qaR Q s:=by
 have hM:=h.at_;have f0:=h.f0;have f6:=h.f6;have h6:=h.h6;have lp:=h.lp;have hm:=hM.hm;have lm:=hM.lm;have lt:=hM.lt;have lg:=hM.lg;obtain ⟨n1,n2,n3⟩:=hM.mt;obtain ⟨b1,b2,b3,b4,b5⟩:=h.ap pb _ h6;have hLl:J9 vL=some (.int .i64 (M.lefts.length:Int)):=by have:=ErP.J9 hM.eL;rwa [List.length_map]at this
 have hz1:IntKind.i64.wrap (M.inner+1)=M.inner+1:=wrap64 o_ o_;have hz2:IntKind.i64.wrap ((M.lefts.length:Int)+(M.inner+1))=M.lefts.length+(M.inner+1):=wrap64 o_ o_;have hz3:IntKind.i64.wrap (1000+(M.lefts.length:Int))=1000+M.lefts.length:=wrap64 o_ o_;have hz4:IntKind.i64.wrap (1000+(M.lefts.length:Int)+(M.inner+1))=1000+M.lefts.length+(M.inner+1):=wrap64 o_ o_;obtain ⟨c1,c2,c3⟩:=hM.nt;obtain ⟨w1,w2,w3,w4,w5⟩:=h.ap wb _ hw;have w6:wb≠pb:=λe=>by rw[e,h6]at hw;injection hw with hw;injection hw with _ hw;simp at hw
 have d4:=h.gR.ne c1;have d5:=h.gP.ne c1;have hneP:∀id,gid vP=some id->id≠m:=λid h1 e=>d5 (by rw[<- e];exact h1);have hneR:∀id,gid vR=some id->id≠m:=λid h1 e=>d4 (by rw[<- e];exact h1);have hsp:∀id,gid vR=some id->gid vP≠some id:=λid h1 e=>h.sp id h1 e;repeat' with_reducible first|refine s_ ?_|simp -implicitDefEqProofs only[wZZ,seval,f0,f6,f8,h6,hw,hm,hLl,hz1,hz2,hz3,hz4,qj b4,qj b5,qj d4,qj d5,qj w5]|apply KW (qY.gr h.gR);(focus(simp only[wZ]<;>omega));(focus(unfold maxLen;simp only[wZ]<;>omega))|apply zq rfl (h.gP.mono (Nat.le_refl _) (λid h1 h2=>by have hne:=hneP id h1;(try simp only[wM]);(repeat rw[if_neg o_])));exact qY.sl;(focus(simp only[wZ]<;>omega));(focus(unfold maxLen;simp only[wZ]<;>omega))|apply zq rfl (h.gR.mono (Nat.le_refl _) (λid h1 h2=>by have hne:=hneR id h1;(try simp only[wM]);(repeat rw[if_neg o_]);rw[qj (hsp id h1)];simp only[wM];(repeat rw[if_neg o_])));exact qY.sl;(focus(simp only[wZ]<;>omega));(focus(unfold maxLen;simp only[wZ]<;>omega))|refine t_ ?_|simp -implicitDefEqProofs (disch:=omega) only[w64,if_neg]
 have hv:Er false (λ_=>none) (.agg [vi (M.lefts.length+(M.inner+1)),.sl 1 true [],vi (-1),.str w.code,.asl (s.next+8+21) p.right.length 1 (p.right.map (V.int .i64)),vi w.at_]) (GPr.V {left:=M.lefts.length+(M.inner+1),prec:= -1,code:=w.code,args:=p.right,at_:=w.at_}):=
  ErL.agg (.cons (.int _ _) (.cons (ErL.sl .nil) (.cons (.int _ _) (.cons (.str _) (.cons Zy (.cons (.int _ _) .nil))))))
 have heP:J6 (ps++[(.agg [vi (M.lefts.length+(M.inner+1)),.sl 1 true [],vi (-1),.str w.code,.asl (s.next+8+21) p.right.length 1 (p.right.map (V.int .i64)),vi w.at_])]) ((M.prods++[({left:=M.lefts.length+(M.inner+1),prec:= -1,code:=w.code,args:=p.right,at_:=w.at_}:GPr)]).map GPr.V):=by rw[List.map_append];exact h.eP.snoc hv
 have e2:=h.gP.ne c2;have e3:=h.gP.ne c3;have e2r:=h.gR.ne c2;have e3r:=h.gR.ne c3;refine hQ _ (.asl (s.next+8+26) (ps.length+1) 6 (ps++[(.agg [vi (M.lefts.length+(M.inner+1)),.sl 1 true [],vi (-1),.str w.code,.asl (s.next+8+21) p.right.length 1 (p.right.map (V.int .i64)),vi w.at_])])) (.asl (s.next+8+31+14) (p.right.length+1) 1 ((p.right++[1000+(M.lefts.length:Int)+(M.inner+1)]).map (V.int .i64))) (ps++[(.agg [vi (M.lefts.length+(M.inner+1)),.sl 1 true [],vi (-1),.str w.code,.asl (s.next+8+21) p.right.length 1 (p.right.map (V.int .i64)),vi w.at_])]) wl_ wh_ (by simp)
  (h.upd ⟨?_,?_,?_,hM.eN,ErL.asl heP,hM.eT,hM.eL,wg_,wg_,wg_,hM.len,hM.len3⟩ (Or.inl rfl) (Or.inl rfl) wl_ wl_ wl_ wh_ ?_ (Gr.tok ?_ wh_) (Gr.tok ?_ wh_) heP (Sep.ids o_) (λj g1 g2 g3 g4 g5 g6 g7=>?_))
 . simp only[wM];repeat first|rw[if_pos trivial]|rw[if_pos rfl]|rw[if_neg o_]|simp only[wM]|rw[qj d4]|rw[qj d5]
 . simp only[wM];repeat first|rw[if_pos trivial]|rw[if_pos rfl]|rw[if_neg o_]|simp only[wM]|rw[qj e2]|rw[qj e2r]
   exact hM.ht
 . simp only[wM];repeat first|rw[if_pos trivial]|rw[if_pos rfl]|rw[if_neg o_]|simp only[wM]|rw[qj e3]|rw[qj e3r]
   exact hM.hg
 . simp only[wM];repeat first|rw[if_pos trivial]|rw[if_pos rfl]|rw[if_neg o_]
   try simp
 . simp only[wM];repeat first|rw[if_pos trivial]|rw[if_pos rfl]|rw[if_neg o_]
 . have l1:gid vR≠some (s.next+8+26):=λe=>by have:=h.gR.lt e;omega
   simp only[wM];repeat first|rw[if_pos trivial]|rw[if_pos rfl]|rw[if_neg o_]|simp only[wM]|rw[qj l1]
 . simp only[wM];repeat first|rw[if_pos trivial]|rw[if_pos rfl]|rw[if_neg o_]|simp only[wM]|rw[qj g6]|rw[qj g7]
end Go.Proofs
