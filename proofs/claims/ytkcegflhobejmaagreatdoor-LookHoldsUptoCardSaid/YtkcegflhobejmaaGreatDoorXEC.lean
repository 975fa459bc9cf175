/-
  Part of a proof that a law of the given program answers true: contracts of its functions, and the law. Holds for inputs of at most 1048576 values and letters in all.
-/
import Derived.Test.YtkcegflhobejmaaGreatDoorXEB
import Derived.ReadAgain
import Derived.ChangeSame
import Derived.Deep.Slices
import Derived.Deep.DeepHandedRow
set_option linter.all false
namespace Go.E
variable {b:EC} {Q:Exit->St->Prop}
theorem yH{P:Program}[Glob P]{a:EC}{s:St}(h:ewp P a (Qm (ewp P b Q) Q) s):ewp P (.seq a b) Q s:=h
variable {ops:List Ins}
theorem ZR{P:Program}[Glob P]{s:St}(h:Ze P s.next (Q .normal) 0 ops (s.bump ops.length)):ewp P (.reg ops) Q s:=h
theorem qL{P:Program}[Glob P]{s:St}(h:Ze P s.next (ewp P b Q) 0 ops (s.bump ops.length)):ewp P (.seq (.reg ops) b) Q s:=h
theorem xJ{P:Program}[Glob P]{id:Nat}{s:St}(h:ewp P b (jT id Q) s):ewp P (.block id b) Q s:=h
theorem qaq{P:Program}[Glob P]{s:St}(h:Q .normal s):ewp P .skip Q s:=h
theorem vJ{P:Program}[Glob P]{s:St}(h:Q .ret s):ewp P .ret Q s:=h
theorem qeG{P:Program}[Glob P]{id:Nat}{s:St}(h:Q (.exit id) s):ewp P (.exit id) Q s:=h
theorem jf{P:Program}[Glob P]:∀{ec:EC} {Q Q':Exit->St->Prop} {s:St},(∀e s,Q e s->Q' e s)->ewp P ec Q s->ewp P ec Q' s:=by
 have hL:∀{l:List Ins} {b0 i:Nat} {K K':St->Prop} {s:St},(∀s,K s->K' s)->Ze P b0 K i l s->Ze P b0 K' i l s:=by
  intro l
  induction l with
  |nil=>intro b0 i K K' s h hh;exact h _ hh
  | cons o r ih=>
    intro b0 i K K' s h hh;rw[YR]at hh ⊢;exact XG (λs' hs=>ih h hs) hh
 intro ec
 induction ec with
 |skip=>intro Q Q' s h hh;exact h _ _ hh
 |reg ops=>intro Q Q' s h hh;exact hL (λs' hs=>h _ _ hs) hh
 | seq a b iha ihb=>
   intro Q Q' s h hh;refine iha (λe s' he=>?_) hh;cases e with
   |normal=>exact ihb h he
   | _=>exact h _ _ he
 | cond c a b iha ihb=>
   intro Q Q' s h hh;simp only[ewp]at hh ⊢;split at hh
   . exact⟨λe=>iha h (hh.1 e),λe=>ihb h (hh.2 e)⟩
   . exact hh.elim
 | block id b ih =>
   intro Q Q' s h hh;refine ih (λe s' he=>?_) hh;cases e with
   | exit id' => simp only[jT]at he ⊢;split at he<;>rename_i e1
                 . rw[if_pos e1];exact h _ _ he
                 . rw[if_neg e1];exact h _ _ he
   | _=>exact h _ _ he
 | loop b ih=>
   intro Q Q' s h hh;obtain ⟨I,μ,h0,hr⟩:=hh;refine⟨I,μ,h0,λs' hs=>ih (λe s2 he=>?_) (hr s' hs)⟩;cases e with
   |normal=>exact he
   | _=>exact h _ _ he
 |exit id=>intro Q Q' s h hh;exact h _ _ hh
 |ret=>intro Q Q' s h hh;exact h _ _ hh
 |stop=>intro Q Q' s h hh;exact hh.elim
theorem qkG{P:Program}[Glob P]{s:St}(I:St->Prop)(μ:St->Nat)(h0:I s)(hr:∀s,I s->ewp P b (Qm (λs'=>I s'/\μ s'<μ s) Q) s):ewp P (.loop b) Q s:=⟨I,μ,h0,hr⟩
theorem Qa{P:Program}[Glob P]{a:EC}{s:St}(M:St->Prop)(h:ewp P a (Qm M Q) s)(hb:∀s,M s->ewp P b Q s):ewp P (.seq a b) Q s:=
 yH (jf (λe s' he=>by cases e with|normal=>exact hb s' he| _=>exact he) h)
theorem QM(s:St)(d i:Nat)(v:V):(s.put (some d) v).f i=if i=d then v else s.f i:=rfl
theorem zZ(s:St)(v:V):s.put none v=s:=rfl
theorem qgm(s:St)(d:Option Nat)(v:V):(s.put d v).H=s.H:=ku s d v
theorem qvL(s:St)(d:Option Nat)(v:V):(s.put d v).next=s.next:=jI s d v
theorem jM(s:St)(n:Nat):(s.bump n).f=s.f:=rfl
theorem Zu(s:St)(n:Nat):(s.bump n).H=s.H:=rfl
theorem qcg(s:St)(n:Nat):(s.bump n).next=s.next+n:=rfl
theorem qcC(s:St)(id:Nat)(ob:Option MObj):(s.setO id ob).next=s.next:=rfl
theorem jN(s:St)(id:Nat)(ob:Option MObj):(s.setO id ob).f=s.f:=rfl
theorem wrap64{x:Int}(h1: -9223372036854775808<=x)(h2:x<=9223372036854775807):IntKind.i64.wrap x=x:=by
 unfold IntKind.wrap;have e1:((2:Int) ^ IntKind.bits .i64)=18446744073709551616:=dc_
 have e2:((2:Int) ^ (IntKind.bits .i64 - 1))=9223372036854775808:=dc_
 have e3:IntKind.signed .i64=true:=rfl;simp only[e1,e2,e3,Bool.true_and,decide_eq_true_eq];split<;>omega
def J9(v:V):Option V:=match qcS v with|some n=>some (.int .i64 (n:Int))|none=>none
section
variable {P : Program}[Glob P]{cls : Cls}{id : Nat}{s : St}{K : V -> St -> Prop}
theorem qbC(x:Opd):qg P cls id s K (.mov x)=K (ev s x) s:=rfl
theorem Y1(c a b:Opd):qg P cls id s K (.pick c a b)=onS (match ev s c with|.bool t=>some (if t then ev s a else ev s b)| _=>none) λv=>K v s:=rfl
theorem JG(z:List V)(ps:List (Nat×Nat×Opd)):qg P cls id s K (.build z ps)=onS ((XU z (ps.map λ(o,n,x)=>(o,n,ev s x))).map .agg) λv=>K v s:=rfl
theorem xg(a:Bool)(n:Nat)(p:Opd):qg P cls id s K (.load a n p)=QA cls.ldz s (ev s p) (onS (zw s a n (ev s p)) λv=>K v s):=rfl
theorem qbt(op:BinOp)(x y:Opd):qg P cls id s K (.bin op x y)=onS (xU op (ev s x) (ev s y)) λv=>K v s:=rfl
theorem qcH(n:Bool)(x y:Opd):qg P cls id s K (.eqb n x y)=onS (qqT n (ev s x) (ev s y)) λv=>K v s:=rfl
theorem qiV(op:UnOp)(x:Opd):qg P cls id s K (.un op x)=onS (unV op (ev s x)) λv=>K v s:=rfl
theorem Vq(k:IntKind)(x:Opd):qg P cls id s K (.conv k x)=onS (match ev s x with|.int _ n=>some (.int k (k.wrap n))| _=>none) λv=>K v s:=rfl
theorem Ym(f:FuncId)(l:List Opd):qg P cls id s K (.mkfn f l)=K (.fn f (l.map (ev s))) s:=rfl
theorem qk0(t:TypeId)(x:Opd):qg P cls id s K (.mkifc t x)=K (.ifc t (ev s x)) s:=rfl
theorem qsx(z:Nat)(x:Opd)(a b c:Option Opd):qg P cls id s K (.slc z x a b c)=onS (xK z (ev s x) (a.map (ev s)) (b.map (ev s)) (c.map (ev s))) λv=>K v s:=rfl
theorem qpZ(x:Opd)(a b:Option Opd):qg P cls id s K (.slcS x a b)=onS (yI (ev s x) (a.map (ev s)) (b.map (ev s))) λv=>K v s:=rfl
theorem qbu(a:Bool)(o n:Nat)(x:Opd):qg P cls id s K (.fld a o n x)=onS (match ev s x with|.agg cs=>QH a n cs o| _=>none) λv=>K v s:=rfl
theorem qbn(x:Opd)(i:Nat):qg P cls id s K (.ext x i)=onS (match ev s x with|.tup vs=>vs[i]?| _=>none) λv=>K v s:=rfl
theorem qcq(x:Opd):qg P cls id s K (.len x)=onS (J9 (ev s x)) λv=>K v s:=by
 have e:qJ s (.len x)=J9 (ev s x):=by
  unfold J9
  show ((qcS (ev s x)).map λn=>V.int .i64 n)=_;cases qcS (ev s x)<;>rfl
 show onS (qJ s (.len x)) _=_;rw[e]
theorem Yz(x:Opd):qg P cls id s K (.lenS x)=onS (match ev s x with|.str l=>some (.int .i64 l.length)| _=>none) λv=>K v s:=rfl
theorem YZ(n:Nat):qg P cls id s K (.lenc n)=K (.int .i64 n) s:=rfl
theorem qkZ(x:Opd):qg P cls id s K (.nilck x)=onS (qJ s (.nilck x)) λv=>K v s:=rfl
theorem qkh(m:Bool)(t:List Nat)(x y:Opd):qg P cls id s K (.eqagg m t x y)=onS (qJ s (.eqagg m t x y)) λv=>K v s:=rfl
end
variable {p:V} {X:Prop}
theorem qeg{s:St}:QA (Cls.ldz .any) s p X=X:=rfl
theorem qeM{s:St}:QA (Cls.ldz .r) s p X=X:=rfl
theorem qes{s:St}:QA (Cls.stz .any) s p X=X:=rfl
theorem qeI{s:St}:QA (Cls.stz .w) s p X=X:=rfl
variable {b i:Nat}
theorem qis{P:Program}[Glob P]{K:St->Prop}{s:St}:Ze P b K i [] s=K s:=rfl
variable {op:EOp}
theorem qbS{P:Program}[Glob P]{K:St->Prop}{s:St}{d:Option Nat}{c:Cls}{r:List Ins}:
 Ze P b K i (⟨d,none,op,c⟩::r) s=qg P c (b+i) s (λv s'=>Ze P b K (i+1) r (s'.put d v)) op:=rfl
variable {t:Nat}
theorem qz8{P:Program}[Glob P]{K:St->Prop}{s:St}{d:Option Nat}{w:Bool}{c:Cls}{r:List Ins}:
 Ze P b K i (⟨d,some (t,w),op,c⟩::r) s=(match s.f t with
  |.bool x=>(x=w->qg P c (b+i) s (λv s'=>Ze P b K (i+1) r (s'.put d v)) op)/\(x≠w->Ze P b K (i+1) r (s.put d .undef))
  |.undef=>Ze P b K (i+1) r (s.put d .undef)
  | _=>False):=rfl
theorem qjO(s:St)(n:Nat):ev s (.t n)=s.f n:=rfl
theorem qm1(s:St)(v:V):ev s (.c v)=v:=rfl
theorem Qk(args:List V)(H:Nat->Option MObj)(n:Nat):(entry args H n).H=H:=rfl
theorem Yp(args:List V)(H:Nat->Option MObj)(n:Nat):(entry args H n).next=n:=rfl
theorem yu(a:V)(l:List V)(H:Nat->Option MObj)(n:Nat):(entry (a::l) H n).f 0=a:=rfl
theorem yQ(a b:V)(l:List V)(H:Nat->Option MObj)(n:Nat):(entry (a::b::l) H n).f 1=b:=rfl
theorem vv(a b c:V)(l:List V)(H:Nat->Option MObj)(n:Nat):(entry (a::b::c::l) H n).f 2=c:=rfl
theorem vz(a b c d:V)(l:List V)(H:Nat->Option MObj)(n:Nat):(entry (a::b::c::d::l) H n).f 3=d:=rfl
theorem yR(a b c d e:V)(l:List V)(H:Nat->Option MObj)(n:Nat):(entry (a::b::c::d::e::l) H n).f 4=e:=rfl
theorem yV(a b c d e f:V)(l:List V)(H:Nat->Option MObj)(n:Nat):(entry (a::b::c::d::e::f::l) H n).f 5=f:=rfl
variable {Q:Exit->St->Prop}
theorem qhq{P:Program}[Glob P]{c:Opd}{a b:EC}{s:St}{x:Bool}(hc:ev s c=.bool x)(h1:x=true->ewp P a Q s)(h2:x=false->ewp P b Q s):ewp P (.cond c a b) Q s:=by simp only[ewp,hc];exact⟨h1,h2⟩
variable {M:St->Prop}
theorem qjR{s:St}(h:M s):Qm M Q .normal s:=h
theorem qz6{s:St}(h:Q .ret s):Qm M Q .ret s:=h
theorem qzg{s:St}{id:Nat}(h:Q (.exit id) s):Qm M Q (.exit id) s:=h
theorem qyN{s:St}{id:Nat}(h:Q .normal s):jT id Q .normal s:=h
theorem qAl{s:St}{id:Nat}(h:Q .ret s):jT id Q .ret s:=h
theorem qzL{s:St}{id:Nat}(h:Q .normal s):jT id Q (.exit id) s:=by simpa[jT]using h
theorem qAp{s:St}{id j:Nat}(hj:(j == id)=false)(h:Q (.exit j) s):jT id Q (.exit j) s:=by
 have:j≠id:=by intro e;simp[e]at hj
 simpa[jT,this]using h
variable {H:Nat->Option MObj}
theorem qif{b:Bool}{k:IntKind}{x y:Int}(h:x=y):Er b H (.int k x) (.int k y):=by subst h;exact .int k x
theorem qdM{b:Bool}{x y:Bool}(h:x=y):Er b H (.bool x) (.bool y):=by subst h;exact .bool x
theorem qsK{b:Bool}{x y:List UInt8}(h:x=y):Er b H (.str x) (.str y):=by subst h;exact .str x
variable {ef:EF} {res:V}
theorem qz{e:Exit}{s:St}(he:ef.res=[.inl t])(hx:e=.normal\/e=.ret)(h:Er true s.H (s.f t) res):z8 ef res e s:=
 ⟨hx,s.f t,by rw[he];rfl,h⟩
theorem qft{u:Nat}{e:Exit}{s:St}(he:ef.res=[.inl t,.inl u])(hx:e=.normal\/e=.ret)(h:Er true s.H (.tup [s.f t,s.f u]) res):z8 ef res e s:=
 ⟨hx,_,by rw[he];rfl,h⟩
theorem qg5(k:IntKind)(a b:Int):xU .add (.int k a) (.int k b)=some (.int k (k.wrap (a+b))):=by simp[xU,jS,xV]
theorem qiw(k:IntKind)(a b:Int):xU .sub (.int k a) (.int k b)=some (.int k (k.wrap (a - b))):=by simp[xU,jS,xV]
theorem qjd(k:IntKind)(a b:Int):xU .mul (.int k a) (.int k b)=some (.int k (k.wrap (a *b))):=by simp[xU,jS,xV]
theorem qgy(k:IntKind)(a b:Int):xU .quo (.int k a) (.int k b)=(if b=0 then none else some (.int k (k.wrap (a.tdiv b)))):=by simp[xU,jS,xV]
theorem qia(k:IntKind)(a b:Int):xU .rem (.int k a) (.int k b)=(if b=0 then none else some (.int k (a.tmod b))):=by simp[xU,jS,xV]
theorem qhI(k:IntKind)(a b:Int):xU .eql (.int k a) (.int k b)=some (.bool (decide (a=b))):=by simp[xU,jS,xV]
theorem qhC(k:IntKind)(a b:Int):xU .neq (.int k a) (.int k b)=some (.bool (!decide (a=b))):=by simp[xU,jS,xV]
theorem qij(k:IntKind)(a b:Int):xU .lss (.int k a) (.int k b)=some (.bool (decide (a<b))):=by simp[xU,jS,xV]
theorem qit(k:IntKind)(a b:Int):xU .leq (.int k a) (.int k b)=some (.bool (decide (a<=b))):=by simp[xU,jS,xV]
theorem qhR(k:IntKind)(a b:Int):xU .gtr (.int k a) (.int k b)=some (.bool (decide (b<a))):=by simp[xU,jS,xV]
theorem qgK(k:IntKind)(a b:Int):xU .geq (.int k a) (.int k b)=some (.bool (decide (b<=a))):=by simp[xU,jS,xV]
theorem qjq(b:Bool):unV .not (.bool b)=some (.bool !b):=rfl
theorem qhd(n a b:Bool):qqT n (.bool a) (.bool b)=some (.bool ((a == b) != n)):=rfl
theorem qch(z:Nat)(b:Bool)(es:List V):J9 (.sl z b es)=some (.int .i64 (es.length:Int)):=rfl
theorem YT(i f z:Nat)(es:List V):J9 (.asl i f z es)=some (.int .i64 (es.length:Int)):=rfl
theorem Yj(i f z n:Nat):J9 (.msl i f z n)=some (.int .i64 (n:Int)):=rfl
end Go.E

namespace Go.E
theorem Qe{α:Type}{o:Option α}{K:α->Prop}(h:onS o K):∃v,K v/\o=some v:=by obtain ⟨v,h1,h2⟩:=(qy o K).1 h;exact⟨v,h2,h1⟩
theorem qdB{want:Option Nat}{s:St}{p:V}{X Y:Prop}(h:QA want s p X)(y:Y):QA want s p Y:=by
 unfold QA at h ⊢;split at h
 . exact⟨h.1,y⟩
 . exact y
theorem V8{P:Program}[Glob P]{cls:Cls}{id:Nat}{s:St}{K:V->St->Prop}{op:EOp}(h:qg P cls id s K op):
 ∃v s',K v s'/\qg P cls id s (λv1 s1=>v1=v/\s1=s') op:=by
 cases op with
 |alloc n z=>exact⟨_,_,h,rfl,rfl⟩
 |box n x=>exact⟨_,_,h.2.2,h.1,h.2.1,rfl,rfl⟩
 | lit mu size agg zero len parts=>
   simp only[qg]at h ⊢;obtain ⟨es,h1,h2⟩:=Qe h;rw[h2];simp only[zF];cases mu
   . exact⟨_,_,h1,rfl,rfl⟩
   . exact⟨_,_,h1,rfl,rfl⟩
 | mksl mu size bytes zero l c=>
   simp only[qg]at h ⊢;obtain ⟨n,h1,h2⟩:=Qe h;obtain ⟨m,h3,h4⟩:=Qe h1;rw[h2,h4];simp only[zF];obtain ⟨a1,a2,a3,a4⟩:=h3;cases mu
   . exact⟨_,_,a4.2,a1,a2,a3,a4.1,rfl,rfl⟩
   . exact⟨_,_,a4.2,a1,a2,a3,a4.1,rfl,rfl⟩
 | append mu size bytes x y=>
   simp only[qg]at h ⊢;obtain ⟨ys,⟨h1,h1'⟩,h2⟩:=Qe h;obtain ⟨⟨v,s',n⟩,h3,h4⟩:=Qe h1';rw[h2];simp only[zF];rw[h4];simp only[zF];exact⟨_,_,h3.2.2,h1,h3.1,h3.2.1,rfl,rfl⟩
 | load agg n p=>
   simp only[qg]at h ⊢;obtain ⟨v,h1,h2⟩:=Qe (jr h);exact⟨_,_,h1,qdB h (by rw[h2];exact⟨rfl,rfl⟩)⟩
 | store n p x=>
   simp only[qg]at h ⊢;obtain ⟨s',h1,h2⟩:=Qe (jr h);refine⟨_,_,jr h1,qdB h ?_⟩;rw[h2];exact qdB h1 ⟨rfl,rfl⟩
 | call f args=>
   simp only[qg]at h ⊢;split at h
   . rcases h with ⟨bor,as',res,a1,a2,a3,a4,a5⟩|⟨a1,v,H',n',a2,a3⟩
     . exact⟨_,_,a5,.inl ⟨bor,as',res,a1,a2,a3,a4,rfl,rfl⟩⟩
     . exact⟨_,_,a2.2,.inr ⟨a1,v,H',n',⟨a2.1,rfl,rfl⟩,a3⟩⟩
   . exact h.elim
 |mkmap=>exact⟨_,_,h,rfl,rfl⟩
 | mset x k v=>
   simp only[qg]at h ⊢;obtain ⟨s',h1,h2⟩:=Qe h;exact⟨_,_,h1,by rw[h2];exact⟨rfl,rfl⟩⟩
 | _=>
   simp only[qg]at h ⊢;obtain ⟨v,h1,h2⟩:=Qe h;exact⟨_,_,h1,by rw[h2];exact⟨rfl,rfl⟩⟩
theorem qlj{P:Program}[Glob P]{base:Nat}{Q:St->Prop}:∀{l:List Ins} {i:Nat} {s:St},Ze P base Q i l s->∃s',Q s'/\Ze P base (· =s') i l s:=by
 intro l
 induction l with
 |nil=>intro i s h;exact⟨s,h,rfl⟩
 | cons o r ih=>
   intro i s h;simp only[Ze]at h ⊢;cases hg:o.gd with
   | none=>
     rw[hg]at h;simp only at h ⊢;obtain ⟨v,s1,h1,h2⟩:=V8 h;obtain ⟨s',h3,h4⟩:=ih h1;refine⟨s',h3,Ke.stepOp_mono ?_ h2⟩;rintro v1 s2 ⟨rfl,rfl⟩;exact h4
   | some p=>
     obtain ⟨t,want⟩:=p;rw[hg]at h;simp only at h ⊢;cases hf:s.f t with
     | bool b=>
       rw[hf]at h;simp only at h ⊢;by_cases e:b=want
       . obtain ⟨v,s1,h1,h2⟩:=V8 (h.1 e);obtain ⟨s',h3,h4⟩:=ih h1;refine⟨s',h3,λ_=>Ke.stepOp_mono ?_ h2,λc=>absurd e c⟩;rintro v1 s2 ⟨rfl,rfl⟩;exact h4
       . obtain ⟨s',h3,h4⟩:=ih (h.2 e);exact⟨s',h3,λc=>absurd c e,λ_=>h4⟩
     |undef=>rw[hf]at h;exact ih h
     | _=>rw[hf]at h;exact h.elim
theorem qhH{P:Program}[Glob P]:∀{ec:EC} {Q:Exit->St->Prop} {s:St},ewp P ec Q s->∃e s',Q e s'/\ewp P ec (λe1 s1=>e1=e/\s1=s') s:=by
 intro ec
 induction ec with
 |skip=>intro Q s h;exact⟨_,_,h,rfl,rfl⟩
 | reg ops=>
   intro Q s h;obtain ⟨s',h1,h2⟩:=qlj h;refine⟨.normal,s',h1,?_⟩
   have:Ze P s.next (λx=>Exit.normal=Exit.normal/\x=s') 0 ops (s.bump ops.length):=by simpa using h2
   exact this
 | seq a b iha ihb=>
   intro Q s h;obtain ⟨e,s1,h1,h2⟩:=iha h;cases e with
   | normal=>
     obtain ⟨e',s',h3,h4⟩:=ihb h1;refine⟨e',s',h3,yH (jf ?_ h2)⟩;rintro e1 s2 ⟨rfl,rfl⟩;exact h4
   | _=>
     refine⟨_,_,h1,yH (jf ?_ h2)⟩;rintro e1 s2 ⟨rfl,rfl⟩;exact⟨rfl,rfl⟩
 | cond c a b iha ihb=>
   intro Q s h;simp only[ewp]at h ⊢;cases hc:ev s c with
   | bool t=>
     rw[hc]at h;simp only at h ⊢;cases t with
     | true=>
       obtain ⟨e,s',h1,h2⟩:=iha (h.1 rfl);exact⟨e,s',h1,λ_=>h2,λc=>Bool.noConfusion c⟩
     | false=>
       obtain ⟨e,s',h1,h2⟩:=ihb (h.2 rfl);exact⟨e,s',h1,λc=>Bool.noConfusion c,λ_=>h2⟩
   | _=>rw[hc]at h;exact h.elim
 | block id b ih=>
   intro Q s h;obtain ⟨e,s',h1,h2⟩:=ih h;cases e with
   | exit id'=>
     simp only[jT]at h1;by_cases e1:id'=id
     . rw[if_pos e1]at h1;refine⟨_,_,h1,xJ (jf ?_ h2)⟩;rintro e2 s2 ⟨rfl,rfl⟩;simp only[jT];rw[if_pos e1];simp
     . rw[if_neg e1]at h1;refine⟨_,_,h1,xJ (jf ?_ h2)⟩;rintro e2 s2 ⟨rfl,rfl⟩;simp only[jT];rw[if_neg e1];simp
   | _=>
     refine⟨_,_,h1,xJ (jf ?_ h2)⟩;rintro e1 s2 ⟨rfl,rfl⟩;exact⟨rfl,rfl⟩
 | loop b ih =>
   intro Q s h;obtain ⟨I,μ,h0,hr⟩:=h;have key :∀(n:Nat) (s:St),I s->μ s=n->∃e s',Q e s'/\ewp P (.loop b) (λe1 s1=>e1=e/\s1=s') s:=by
    intro n
    induction n using Nat.strongRecOn with
    | _ n ihn =>
      intro s hI hn;obtain ⟨e,s',h1,h2⟩:=ih (hr s hI);cases e with
      | normal=>
        obtain ⟨h1a,h1b⟩:=h1;obtain ⟨e',s'',h3,I1,μ1,h4,h5⟩:=ihn (μ s') (hn ▸ h1b) s' h1a rfl;refine⟨e',s'',h3,?_⟩
        classical
        by_cases hs:I1 s
        . exact⟨I1,μ1,hs,h5⟩
        . refine⟨λx=>x=s\/I1 x,λx=>if I1 x then μ1 x else μ1 s'+1,.inl rfl,?_⟩;intro x hx;by_cases hx1:I1 x
          . refine jf ?_ (h5 x hx1);intro e2 s2 he;cases e2 with
            |normal=>exact⟨.inr he.1,by simp only[if_pos he.1,if_pos hx1];exact he.2⟩
            | _=>exact he
          . rcases hx with rfl|hx
            . refine jf ?_ h2;rintro e2 s2 ⟨rfl,rfl⟩;exact⟨.inr h4,by simp only[if_pos h4,if_neg hs];omega⟩
            . exact absurd hx hx1
      | _=>
        refine⟨_,_,h1,λx=>x=s,λ_=>0,rfl,?_⟩;rintro x rfl;refine jf ?_ h2;rintro e2 s2 ⟨rfl,rfl⟩;exact⟨rfl,rfl⟩
   exact key _ s h0 rfl
 |exit id=>intro Q s h;exact⟨_,_,h,rfl,rfl⟩
 |ret=>intro Q s h;exact⟨_,_,h,rfl,rfl⟩
 |stop=>intro Q s h;exact h.elim
variable {P : Program}[Glob P]{pol : Pol}
variable {fn:Func} {ef:EF} {args:List V}
theorem zb{f:FuncId}{H:Nat->Option MObj}{next:Nat}{Q:V->(Nat->Option MObj)->Nat->Prop}(hf:P.funcs[f]?=some fn)
(hname:(fn.name == "runtime.NumGoroutine")=false)(hc:qc P pol fn=some ef)(hlen:args.length<=ef.n)(h:ewp P ef.body (xW ef Q) (entry args H next)):zh P f args H next Q:=by
 obtain ⟨e,s',⟨h1,v,h2,h3⟩,h4⟩:=qhH h;refine⟨v,s'.H,s'.next,h3,qaK hf hname hc hlen (jf ?_ h4)⟩;rintro e1 s1 ⟨rfl,rfl⟩;exact⟨h1,v,h2,rfl,rfl,rfl⟩
theorem qaY{f:FuncId}{G:V->Prop}(hf:P.funcs[f]?=some fn)
(hname:(fn.name == "runtime.NumGoroutine")=false)(hc:qc P pol fn=some ef)(hlen:args.length<=ef.n)
(h:ewp P ef.body (λe s=>∃v,G v/\z8 ef v e s) (entry args (λ_=>none) 0)):∃v,G v/\Pure P f args v:=by
 obtain ⟨e,s',⟨v,h1,h2⟩,h3⟩:=qhH h;refine⟨v,h1,pure_intro hf hname hc hlen (jf ?_ h3)⟩;rintro e1 s1 ⟨rfl,rfl⟩;exact h2
end Go.E

namespace Go.E
variable {α:Type}
theorem yw{o:Option α}{v:α}{K:α->Prop}(h:o=some v)(hk:K v):onS o K:=by rw[h];exact hk
theorem least{p:Nat->Prop}(h:∃n,p n):∃m,p m/\∀k,p k->m<=k:=by
 obtain ⟨n,hn⟩:=h
 induction n using Nat.strongRecOn with
 | _ n ih=>
   by_cases hk:∃k,k<n/\p k
   . obtain ⟨k,hlt,hp⟩:=hk;exact ih k hlt hp
   . exact⟨n,hn,λk hp=>Nat.le_of_not_lt λhl=>hk ⟨k,hl,hp⟩⟩
variable {s:St}
theorem qbN{P:Program}[Glob P]{b:EC}{Q:Exit->St->Prop}(I:α->St->Prop)(μ:α->Nat)(a:α)(h0:I a s)
(hr:∀a s,I a s->ewp P b (Qm (λs'=>∃a',μ a'<μ a/\I a' s') Q) s):ewp P (.loop b) Q s:=by
 classical
 let ex:St->Nat->Prop:=λs n=>∃a,μ a=n/\I a s
 let mu:St->Nat:=λs=>if h:∃n,ex s n then(least h).choose else 0
 refine qkG (λs=>∃n,ex s n) mu ⟨μ a,a,rfl,h0⟩ λs hs=>?_;obtain ⟨⟨a,ha,hI⟩,hmin⟩:=(least hs).choose_spec;have hmu:mu s=(least hs).choose:=dif_pos hs;refine jf (λe s' he=>?_) (hr a s hI);cases e with
 | normal=>
   obtain ⟨a',hlt,hI'⟩:=he;have hs':∃n,ex s' n:=⟨μ a',a',rfl,hI'⟩;have hmu':mu s'=(least hs').choose:=dif_pos hs';refine⟨hs',?_⟩;rw[hmu,hmu'];have h2:=(least hs').choose_spec.2 (μ a') ⟨a',rfl,hI'⟩;omega
 | _=>exact he
def jc(size:Nat)(x i:V):Option V:=match idxOf i with
 |none=>none
 | some i=>match x with
   |.sl sz _ es=>if sz=size then es[i]?.map λe=>V.iptr sz e 0 else none
   |.asl _ _ sz es=>if sz=size then es[i]?.map λe=>V.iptr sz e 0 else none
   |.msl id sz off len=>if sz=size/\i<len then some (.ptr id (off+i) 0)else none
   | _=>none
theorem qaB{P:Program}[Glob P]{cls:Cls}{id:Nat}{K:V->St->Prop}(z:Nat)(x i:Opd):qg P cls id s K (.iaddr z x i)=onS (jc z (ev s x) (ev s i)) λv=>K v s:=rfl
variable {z n:Nat} {b:Bool} {es:List V}
theorem qbX{k:IntKind}{e:V}(h:es[n]?=some e):jc z (.sl z b es) (.int k (n:Int))=some (.iptr z e 0):=by simp[jc,idxOf,h]
theorem qbj{k:IntKind}{n:Int}:zw s false 1 (.iptr 1 (.int k n) 0)=some (.int k n):=by simp[zw,jD,V.isAgg]
theorem qya:zw s false 1 (.iptr 1 (.bool b) 0)=some (.bool b):=by simp[zw,jD,V.isAgg]
theorem qze{b:List UInt8}:zw s false 1 (.iptr 1 (.str b) 0)=some (.str b):=by simp[zw,jD,V.isAgg]
theorem qyL:zw s false 1 (.iptr 1 (.sl z b es) 0)=some (.sl z b es):=by simp[zw,jD,V.isAgg]
theorem qyM{cs:List V}:zw s true z (.iptr z (.agg cs) 0)=some (.agg cs):=by simp[zw,jD,V.isAgg]
theorem vg{f:α->V}{l:List α}{x:α}(h:l[n]?=some x):(l.map f)[n]?=some (f x):=by simp[h]
theorem add1(h:n<4611686018427387904):IntKind.i64.wrap ((n:Int)+1)=((n+1:Nat):Int):=by rw[wrap64 o_ o_];omega
theorem qmf{H:Nat->Option MObj}{x y x' y':V}(h1:Er b H x x')(h2:Er b H y y'):Er b H (.tup [x,y]) (.tup [x',y']):=by
 refine .tup _ _ rfl λi c c' hc hc'=>?_
 match i,hc,hc' with
 |0,hc,hc'=>simp at hc hc';subst hc hc';exact h1
 |1,hc,hc'=>simp at hc hc';subst hc hc';exact h2
abbrev vi(n:Int):V:= .int .i64 n
abbrev ints(l:List Int):V:= .sl 1 false (l.map (V.int .i64))
end Go.E

namespace Go.E
variable {b:Bool} {H:Nat->Option MObj}
theorem ji:Ers b H [] []:=⟨rfl,λi c c' h=>by simp at h⟩
variable {x':V}
theorem qI{x:V}{l l':List V}(h:Er b H x x')(hl:Ers b H l l'):Ers b H (x::l) (x'::l'):=by
 refine⟨by simp[hl.1],λi c c' hc hc'=>?_⟩;cases i with
 |zero=>simp at hc hc';subst hc hc';exact h
 |succ i=>simp at hc hc';exact hl.2 i c c' hc hc'
theorem qtJ{l:List V}(h:∀x∈l,Er b H x x):Er b H (.agg l) (.agg l):=by refine .agg _ _ rfl λi x x' hx hx'=>?_;rw[hx]at hx';cases hx';exact h x (List.mem_of_getElem? hx)
variable {P:Program} {cls:Cls} {s:St} {K:V->St->Prop} {res:V}
theorem qeL[Glob P]{id:Nat}{f:FuncId}{a:Opd}{x:V}(hx:ev s a=x)(hE:Er false s.H x x')(hp:Pure P f [x'] res)(hk:K res s):
 qg P cls id s K (.call (.c (.fn f [])) [a]):=
 Or.inl ⟨false,[x'],res,λ_=>rfl,by subst hx;exact qI hE ji,hp,(λh=>by cases h),hk⟩
theorem Qp(s:St)(id j:Nat)(ob:Option MObj):(s.setO id ob).H j=if j=id then ob else s.H j:=rfl
theorem qe8[Glob P]{id:Nat}(n:Nat)(z:V):qg P cls id s K (.alloc n z)=K (.ptr id 0 0) (s.setO id (some (.own n [z] false))):=rfl
theorem xB[Glob P]{id:Nat}(n:Nat)(p x:Opd):qg P cls id s K (.store n p x)=QA cls.stz s (ev s p) (onS (j4 s n (ev s p) (ev s x)) λs'=>QA cls.stz s' (ev s p) (K .undef s')):=rfl
def KP(off:Nat)(p:V):Option V:=match p with|.ptr id i o=>some (.ptr id i (o+off))|.iptr sz e o=>some (.iptr sz e (o+off))| _=>none
theorem qfU[Glob P]{id:Nat}(z:Nat)(x:Opd):qg P cls id s K (.faddr z x)=onS (KP z (ev s x)) λv=>K v s:=rfl
variable {off o:Nat}
theorem KT{id i:Nat}:KP off (.ptr id i o)=some (.ptr id i (o+off)):=rfl
variable {z:Nat} {e:V}
theorem qmx:KP off (.iptr z e o)=some (.iptr z e (o+off)):=rfl
def Jg(len size:Nat)(x i:V):Option V:=match idxOf i with
 |none=>none
 |some i=>if i<len then(match x with|.ptr id k o=>some (.ptr id k (o+i *size))|.iptr sz e o=>some (.iptr sz e (o+i *size))| _=>none)else none
theorem KV[Glob P]{id:Nat}(l z:Nat)(x i:Opd):qg P cls id s K (.iaddrA l z x i)=onS (Jg l z (ev s x) (ev s i)) λv=>K v s:=rfl
variable {n:Nat} {kd:IntKind}
theorem Xb{len size id k:Nat}(h:n<len):Jg len size (.ptr id k o) (.int kd (n:Int))=some (.ptr id k (o+n *size)):=by simp[Jg,idxOf,h]
def qkx(agg:Bool)(len size:Nat)(x i:V):Option V:=match idxOf i with
 |none=>none
 |some i=>if i<len then(match x with|.agg cs=>QH agg size cs (i *size)| _=>none)else none
theorem qur[Glob P]{id:Nat}(a:Bool)(l z:Nat)(x i:Opd):qg P cls id s K (.idxA a l z x i)=onS (qkx a l z (ev s x) (ev s i)) λv=>K v s:=rfl
variable {cs:List V} {c:V}
theorem qyz{len:Nat}(h:n<len)(hc:cs[n]?=some c):qkx false len 1 (.agg cs) (.int kd (n:Int))=some c:=by simp[qkx,idxOf,h,QH,hc]
variable {ro:Bool}
theorem qmB{id:Nat}(h:s.H id=some (.own z [.agg cs] ro))(hz:(z == 1)=false\/True)(hc:cs[off]?=some c):zw s false 1 (.ptr id 0 off)=some c:=by have hlt:off<cs.length:=(List.getElem?_eq_some_iff.1 hc).1;simp only[zw,h,List.getElem?_cons_zero];unfold jD;rw[if_neg (by simp[V.isAgg])];simp[QH,V.cells,hc]
theorem qa3{id:Nat}(h:s.H id=some (.own z [.agg cs] ro)):zw s true z (.ptr id 0 0)=some (.agg cs):=by simp[zw,h,jD,V.isAgg]
theorem qkC{id:Nat}{v:V}(h:s.H id=some (.own z [.agg cs] false))(hv:v.cells=[v])(hk:v.okCell=true)(ha:v.isAgg=false)(ho:off<cs.length):
 j4 s 1 (.ptr id 0 off) v=some (s.setO id (some (.own z [.agg (cs.set off v)] false))):=by
 simp only[j4,h,List.getElem?_cons_zero,hv,hk,List.length_singleton,and_self,↓reduceIte];have e:je 1 z (.agg cs) v off=some (.agg (cs.set off v)):=by unfold je;rw[if_neg (by rw[ha];simp[V.isAgg])];cases v<;>simp_all [V.isAgg]
 rw[e];rfl
theorem qjj{id:Nat}(h:s.H id=some (.own z [e] false))(he:e.isAgg=true)(hl:cs.length=z):
 j4 s z (.ptr id 0 0) (.agg cs)=some (s.setO id (some (.own z [.agg cs] false))):=by
 simp only[j4,h,List.getElem?_cons_zero];have e:je z z e (.agg cs) 0=some (.agg cs):=by unfold je;rw[if_pos ⟨rfl,rfl,he⟩]
 rw[e];simp[V.cells,hl,V.okCell]
theorem qoM{ef:EF}{t:Nat}{ag:Bool}{v:V}{e:Exit}(he:ef.res=[.inr (t,ag,n)])(hx:e=.normal\/e=.ret)(hv:zw s ag n (s.f t)=some v)(h:Er true s.H v res):z8 ef res e s:=
 ⟨hx,v,by rw[he];simp[qcM,qb4,hv,one],h⟩
theorem qdI{x:Int}(h1:0<=x)(h2:x<18446744073709551616):IntKind.u64.wrap x=x:=by
 unfold IntKind.wrap;have e1:((2:Int) ^ IntKind.bits .u64)=18446744073709551616:=dc_
 have e3:IntKind.signed .u64=false:=rfl;simp only[e1,e3,Bool.false_and];simp;omega
theorem qlV(x:Int):IntKind.u64.wrap x=x % 18446744073709551616:=by
 unfold IntKind.wrap;have e1:((2:Int) ^ IntKind.bits .u64)=18446744073709551616:=dc_
 have e3:IntKind.signed .u64=false:=rfl;simp only[e1,e3,Bool.false_and];simp
theorem qkj{len size:Nat}(h:n<len):Jg len size (.iptr z e o) (.int kd (n:Int))=some (.iptr z e (o+n *size)):=by simp[Jg,idxOf,h]
theorem qwM(hc:cs[off]?=some c):zw s false 1 (.iptr z (.agg cs) off)=some c:=by simp only[zw];unfold jD;rw[if_neg (by simp[V.isAgg])];simp[QH,V.cells,hc]
variable {x y:Nat}
theorem qzq(hx:x<18446744073709551616)(hy:y<18446744073709551616):xU .or (.int .u64 (x:Int)) (.int .u64 (y:Int))=some (.int .u64 ((x ||| y:Nat):Int)):=by
 have h3:x ||| y<2 ^ 64:=Nat.or_lt_two_pow hx hy
 have e:(BitVec.ofInt 64 (x:Int) ||| BitVec.ofInt 64 (y:Int)).toNat=x ||| y:=by rw[BitVec.toNat_or,BitVec.ofInt_natCast,BitVec.ofInt_natCast,BitVec.toNat_ofNat,BitVec.toNat_ofNat,Nat.mod_eq_of_lt hx,Nat.mod_eq_of_lt hy]
 show some (V.int .u64 (IntKind.u64.wrap ((BitVec.ofInt 64 (x:Int) ||| BitVec.ofInt 64 (y:Int)).toNat:Int)))=_;rw[e,qdI o_ o_]
theorem quP(hx:x<18446744073709551616)(hy:y<18446744073709551616):xU .and (.int .u64 (x:Int)) (.int .u64 (y:Int))=some (.int .u64 ((x &&& y:Nat):Int)):=by
 have h3:x &&& y<2 ^ 64:=Nat.and_lt_two_pow x hy;have e:(BitVec.ofInt 64 (x:Int) &&& BitVec.ofInt 64 (y:Int)).toNat=x &&& y:=by rw[BitVec.toNat_and,BitVec.ofInt_natCast,BitVec.ofInt_natCast,BitVec.toNat_ofNat,BitVec.toNat_ofNat,Nat.mod_eq_of_lt hx,Nat.mod_eq_of_lt hy]
 show some (V.int .u64 (IntKind.u64.wrap ((BitVec.ofInt 64 (x:Int) &&& BitVec.ofInt 64 (y:Int)).toNat:Int)))=_;rw[e,qdI o_ o_]
theorem qiZ(hy:y<64):xU .shl (.int .u64 1) (.int .i64 (y:Int))=some (.int .u64 ((2 ^ y:Nat):Int)):=by
 have h1:(2:Nat) ^ y<2 ^ 64:=Nat.pow_lt_pow_right o_ hy;have h2:min (y:Int).toNat (IntKind.bits .u64)=y:=by simp[IntKind.bits];omega
 have e:xU .shl (.int .u64 1) (.int .i64 (y:Int))=Vf .shl .u64 1 (y:Int):=rfl;rw[e];unfold Vf;rw[if_neg o_];simp only[h2,Int.one_mul];have e2:((2:Int) ^ y)=((2 ^ y:Nat):Int):=by simp
 rw[e2];generalize 2 ^ y=p at h1 ⊢;rw[qdI o_ o_]
theorem qyT(hy:y<64):xU .shr (.int .u64 (x:Int)) (.int .i64 (y:Int))=some (.int .u64 ((x / 2 ^ y:Nat):Int)):=by
 have h2:min (y:Int).toNat (IntKind.bits .u64)=y:=by simp[IntKind.bits];omega
 have e:xU .shr (.int .u64 (x:Int)) (.int .i64 (y:Int))=Vf .shr .u64 (x:Int) (y:Int):=rfl;rw[e];unfold Vf;rw[if_neg o_];simp only[h2];have e2:((2:Int) ^ y)=((2 ^ y:Nat):Int):=by simp
 rw[e2];generalize 2 ^ y=p;rw[Int.fdiv_eq_ediv_of_nonneg _ o_];rfl
end Go.E

namespace Go.E
theorem qyt(n:Nat):(n:Int)+1=((n+1:Nat):Int):=rfl
theorem qAj(n:Nat):((n+1:Nat):Int) - 1=(n:Int):=o_
class Cl (v:V):Prop where
 er:∀b H,Er b H v v
instance (k:IntKind)(n:Int):Cl (.int k n):=⟨λ_ _=>.int k n⟩
instance (x:Bool):Cl (.bool x):=⟨λ_ _=>.bool x⟩
instance (s:List UInt8):Cl (.str s):=⟨λ_ _=>.str s⟩
instance:Cl .nilp:=⟨λ_ _=>.nilp⟩
variable {b:Bool} {H:Nat->Option MObj} {l:List V}
theorem Z9(h:∀x∈l,Er b H x x):∀(i:Nat) c c',l[i]?=some c->l[i]?=some c'->Er b H c c':=by intro i c c' h1 h2;rw[h1]at h2;cases h2;exact h c (List.mem_of_getElem? h1)
instance {α:Type}(f:α->V)(z:Nat)(l:List α)[h:∀x,Cl (f x)]:Cl (.sl z false (l.map f)):=
 ⟨λb H=>.sl z false _ _ rfl (Z9 λx hx=>by obtain ⟨a,_,rfl⟩:=List.mem_map.1 hx;exact(h a).er b H)⟩
instance Cl.sl0(z:Nat):Cl (.sl z false []):=⟨λb H=>.sl z false _ _ rfl (by simp)⟩
class Cls' (l:List V):Prop where
 er:∀b H,∀x∈l,Er b H x x
instance:Cls' []:=⟨λ_ _=>by simp⟩
instance (x:V)(l:List V)[h:Cl x][hl:Cls' l]:Cls' (x::l):=⟨λb H y hy=>by
 cases List.mem_cons.1 hy with
 |inl e=>subst e;exact h.er b H
 |inr e=>exact hl.er b H y e⟩
instance {α:Type}(f:α->V)(l:List α)[h:∀x,Cl (f x)]:Cls' (l.map f):=⟨λb H y hy=>by obtain ⟨a,_,rfl⟩:=List.mem_map.1 hy;exact(h a).er b H⟩
instance (x y:List V)[h:Cls' x][hl:Cls' y]:Cls' (x++y):=⟨λb H z hz=>by
 cases List.mem_append.1 hz with
 |inl e=>exact h.er b H z e
 |inr e=>exact hl.er b H z e⟩
instance (l:List V)[h:Cls' l]:Cl (.agg l):=⟨λb H=>.agg _ _ rfl (Z9 (h.er b H))⟩
instance (l:List V)[h:Cls' l]:Cl (.tup l):=⟨λb H=>.tup _ _ rfl (Z9 (h.er b H))⟩
instance (z:Nat)(l:List V)[h:Cls' l]:Cl (.sl z false l):=⟨λb H=>.sl z false _ _ rfl (Z9 (h.er b H))⟩
variable {v:V}
theorem qy7{v':V}[h:Cl v'](e:v=v'):Er b H v v':=by subst e;exact h.er b H
theorem qd[h:Cl v]:Er b H v v:=h.er b H
theorem yN{b:Bool}{H:Nat->Option MObj}{z:Nat}{c:Bool}{l:List V}[h:Cls' l]:Er b H (.sl z c l) (.sl z false l):= .sl z c _ _ rfl (Z9 (h.er b H))
variable {z:Nat}
theorem Zy{id fin:Nat}[h:Cls' l]:Er b H (.asl id fin z l) (.sl z false l):= .asl id fin z _ _ rfl (Z9 (h.er b H))
variable {c:Bool}
theorem qjZ{m:List V}[h:Cls' m](e:l=m):Er b H (.sl z c l) (.sl z false m):=by subst e;exact yN
theorem qiz{id fin:Nat}{m:List V}[h:Cls' m](e:l=m):Er b H (.asl id fin z l) (.sl z false m):=by subst e;exact Zy
variable {off:Nat} {es:List V}
theorem xD{id len:Nat}{ro:Bool}{m:List V}[h:Cls' m](hH:H id=some (.own z es ro))(hl:off+len<=es.length)(e:(es.drop off).take len=m):Er true H (.msl id z off len) (.sl z false m):=by
 subst e;refine .msl id z off len es ro _ rfl hH hl so_ λi c c' h1 h2=>?_;have hi:i<len:=by have:=(List.getElem?_eq_some_iff.1 h2).1;simp at this;omega
 have h2':=h2;rw[List.getElem?_take_of_lt hi,List.getElem?_drop,h1]at h2';cases h2';exact h.er true H c (List.mem_of_getElem? h2)
variable {α:Type} {k:IntKind} {i:Int}
theorem qlE{f:α->V}{l:List α}{x:α}(h0:0<=i)(h:l[i.toNat]?=some x):jc z (.sl z b (l.map f)) (.int k i)=some (.iptr z (f x) 0):=by simp[jc,idxOf,h,h0]
theorem qpW{f:α->V}{id fin:Nat}{l:List α}{x:α}(h0:0<=i)(h:l[i.toNat]?=some x):jc z (.asl id fin z (l.map f)) (.int k i)=some (.iptr z (f x) 0):=by simp[jc,idxOf,h,h0]
theorem qoL{id len:Nat}(h0:0<=i)(h:i.toNat<len):jc z (.msl id z off len) (.int k i)=some (.ptr id (off+i.toNat) 0):=by simp[jc,idxOf,h,h0]
theorem qly{x:V}(h0:0<=i)(h:l[i.toNat]?=some x):jc z (.sl z b l) (.int k i)=some (.iptr z x 0):=by simp[jc,idxOf,h,h0]
theorem qtA{f:α->V}{l:List α}(h0:0<=i)(h:i.toNat<=l.length):xK z (.sl z false (l.map f)) none (some (.int k i)) none=some (.sl z false ((l.take i.toNat).map f)):=by simp[xK,jR,idxOf,h0,h,List.map_take]
theorem qsQ{f:α->V}{l:List α}(h0:0<=i)(h:i.toNat<=l.length):xK z (.sl z b (l.map f)) (some (.int k i)) none none=some (.sl z b ((l.drop i.toNat).map f)):=by simp[xK,jR,idxOf,h0,h,List.map_drop,List.take_of_length_le]
def gid:V->Option Nat
 |.asl id _ _ _=>some id
 | _=>none
def Gr(H:Nat->Option MObj)(next z:Nat)(es:List V)(v:V):Prop:=v=.sl z true es\/ ∃id fin,v=.asl id fin z es/\H id=some (.tok fin)/\id<next
theorem Gr.nil{next:Nat}:Gr H next z [] (.sl z true []):=Or.inl rfl
theorem Gr.clip{next:Nat}:Gr H next z es (.sl z true es):=Or.inl rfl
theorem Gr.tok{next id fin:Nat}(h:H id=some (.tok fin))(hn:id<next):Gr H next z es (.asl id fin z es):=Or.inr ⟨id,fin,rfl,h,hn⟩
theorem Gr.len{next:Nat}(h:Gr H next z es v):J9 v=some (.int .i64 (es.length:Int)):=by rcases h with rfl|⟨id,fin,rfl,_⟩<;>rfl
variable {H':Nat->Option MObj}
theorem Gr.er{next:Nat}{m:List V}(h:Gr H' next z es v)[hc:Cls' m](e:es=m):Er b H v (.sl z false m):=by
 subst e;rcases h with rfl|⟨id,fin,rfl,_⟩
 . exact yN
 . exact Zy
theorem Gr.ia{f:α->V}{next:Nat}{l:List α}(h:Gr H next z (l.map f) v){x:α}(h0:0<=i)(hx:l[i.toNat]?=some x):jc z v (.int k i)=some (.iptr z (f x) 0):=by
 rcases h with rfl|⟨id,fin,rfl,_⟩
 . exact qlE h0 hx
 . exact qpW h0 hx
def jo(H:Nat->Option MObj)(g:Option Nat):Nat->Option MObj:=λi=>if g=some i then none else H i
variable {next':Nat}
theorem Gr.mono{next:Nat}(h:Gr H next z es v)(hn:next<=next')(hH:∀id,gid v=some id->id<next->H' id=H id):Gr H' next' z es v:=by
 rcases h with rfl|⟨id,fin,rfl,h1,h2⟩
 . exact Or.inl rfl
 . exact Or.inr ⟨id,fin,rfl,by rw[hH id rfl h2];exact h1,o_⟩
theorem Gr.to{next:Nat}{es':List V}(h:Gr H next z es v)(e:es=es')(hn:next<=next')(hH:H'=H):Gr H' next' z es' v:=by subst e hH;exact h.mono hn λ_ _ _=>rfl
def Src(H:Nat->Option MObj)(z:Nat)(ys:List V)(v:V):Prop:= ∀s:St,s.H=H->qb1 s z v=some ys
variable {ys:List V}
theorem Src.sl:Src H z ys (.sl z c ys):=λs _=>by simp[qb1]
theorem Src.asl{id fin:Nat}:Src H z ys (.asl id fin z ys):=λs _=>by simp[qb1]
theorem Src.str{l:List UInt8}:Src H 1 (l.map λc=>V.int .u8 c.toNat) (.str l):=λs _=>by simp[qb1]
theorem Gr.src{next:Nat}(h:Gr H next z es v):Src H' z es v:=by
 rcases h with rfl|⟨id,fin,rfl,_⟩
 . exact Src.sl
 . exact Src.asl
def VK(cls:Cls)(id:Nat)(s:St)(K:V->St->Prop)(mu:Bool)(size bytes:Nat)(x y:V):Prop:=onS (qb1 s size y) λys=>(cls=.t->qgf x=false/\qgf y=false/\mu=false)/\
 onS (qO id s mu size x ys) λ(v,s',n)=>n *bytes<=140737488355328/\n<=maxLen/\K v s'
variable {P:Program} {cls:Cls} {s:St}
theorem qtn[Glob P]{id:Nat}{K:V->St->Prop}(mu:Bool)(z bytes:Nat)(x y:Opd):qg P cls id s K (.append mu z bytes x y)=VK cls id s K mu z bytes (ev s x) (ev s y):=rfl
def qY(H:Nat->Option MObj)(z:Nat)(ys:List V)(v:V):Prop:=Src H z ys v/\qgf v=false
theorem qY.sl:qY H z ys (.sl z c ys):=⟨Src.sl,rfl⟩
theorem qY.asl{id fin:Nat}:qY H z ys (.asl id fin z ys):=⟨Src.asl,rfl⟩
theorem qY.gr{next:Nat}(h:Gr H next z es v):qY H' z es v:=⟨h.src,by rcases h with rfl|⟨id,fin,rfl,_⟩<;>rfl⟩
theorem qY.str{l:List UInt8}:qY H 1 (l.map λc=>V.int .u8 c.toNat) (.str l):=⟨Src.str,rfl⟩
variable {bytes:Nat} {vy:V} {xs:List V}
theorem zq{id:Nat}{K:V->St->Prop}{vx:V}{next:Nat}
(hH:s.H=H)(hg:Gr H next z xs vx)(hs:qY s.H z ys vy)
(hb:(xs.length+ys.length) *bytes<=140737488355328)(hl:xs.length+ys.length<=maxLen)
(hk:K (.asl id (xs.length+ys.length) z (xs++ys)) ({s with H:=jo s.H (gid vx)}.setO id (some (.tok (xs.length+ys.length))))):VK cls id s K false z bytes vx vy:=by
 unfold VK;rw[hs.1 s rfl];refine⟨λ_=>⟨?_,hs.2,rfl⟩,?_⟩
 . rcases hg with rfl|⟨i,f,rfl,_⟩<;>rfl
 . rcases hg with rfl|⟨i,f,rfl,h1,h2⟩
   . have e:qO id s false z (.sl z true xs) ys=some (.asl id (xs.length+ys.length) z (xs++ys),s.setO id (some (.tok (xs.length+ys.length))),xs.length+ys.length):=(by simp[qO]);rw[e];refine⟨hb,hl,?_⟩;have e2:jo s.H (gid (.sl z true xs))=s.H:=(by funext i;simp[jo,gid]);rw[e2]at hk;exact hk
   . rw [<- hH]at h1;have e:qO id s false z (.asl i f z xs) ys=some (.asl id (xs.length+ys.length) z (xs++ys),(s.setO i none).setO id (some (.tok (xs.length+ys.length))),xs.length+ys.length):=(by simp[qO,h1]);rw[e];refine⟨hb,hl,?_⟩;have e2:({s with H:=jo s.H (gid (.asl i f z xs))}:St)=s.setO i none:=by
      unfold jo gid St.setO;congr 1;funext j;by_cases hj:j=i
      . subst hj;simp
      . have: ¬ (i=j):=λe=>hj e.symm
        simp[hj,this]
     rw[e2]at hk;exact hk
theorem KW{id:Nat}{K:V->St->Prop}(hs:qY s.H z ys vy)
(hb:(xs.length+ys.length) *bytes<=140737488355328)(hl:xs.length+ys.length<=maxLen)
(hk:K (.asl id (xs.length+ys.length) z (xs++ys)) (s.setO id (some (.tok (xs.length+ys.length))))):VK cls id s K false z bytes (.sl z true xs) vy:=by
 unfold VK;rw[hs.1 s rfl];refine⟨λ_=>⟨rfl,hs.2,rfl⟩,?_⟩;have e:qO id s false z (.sl z true xs) ys=some (.asl id (xs.length+ys.length) z (xs++ys),s.setO id (some (.tok (xs.length+ys.length))),xs.length+ys.length):=by simp[qO]
 rw[e];exact⟨hb,hl,hk⟩
theorem qrX{id:Nat}{K:V->St->Prop}{i f:Nat}(hT:s.H i=some (.tok f))(hs:qY s.H z ys vy)
(hb:(xs.length+ys.length) *bytes<=140737488355328)(hl:xs.length+ys.length<=maxLen)
(hk:K (.asl id (xs.length+ys.length) z (xs++ys)) ((s.setO i none).setO id (some (.tok (xs.length+ys.length))))):VK cls id s K false z bytes (.asl i f z xs) vy:=by
 unfold VK;rw[hs.1 s rfl];refine⟨λ_=>⟨rfl,hs.2,rfl⟩,?_⟩;have e:qO id s false z (.asl i f z xs) ys=some (.asl id (xs.length+ys.length) z (xs++ys),(s.setO i none).setO id (some (.tok (xs.length+ys.length))),xs.length+ys.length):=by simp[qO,hT]
 rw[e];exact⟨hb,hl,hk⟩
theorem qpD(f:α->V)(l m:List α):l.map f++m.map f=(l++m).map f:=by simp
theorem qkt(f:α->V)(l:List α)(x:α):l.map f++[f x]=(l++[x]).map f:=by simp
theorem w64{x:Int}(h: -9223372036854775808<=x/\x<=9223372036854775807):IntKind.i64.wrap x=x:=wrap64 h.1 h.2
theorem qb[Glob P]{b:EC}{Q:Exit->St->Prop}(n:Nat)(I:α->St->Prop)(μ:α->Nat)(a:α)(hn:n<=s.next)(h0:I a s)
(hr:∀a s,n<=s.next->I a s->ewp P b (Qm (λs'=>n<=s'.next/\∃a',μ a'<μ a/\I a' s') Q) s):ewp P (.loop b) Q s:=
 qbN (λa s=>n<=s.next/\I a s) μ a ⟨hn,h0⟩ λa s h=>jf (λe s' he=>by
  cases e with
  |normal=>obtain ⟨h1,a',h2,h3⟩:=he;exact⟨a',h2,h1,h3⟩
  | _=>exact he) (hr a s h.1 h.2)
class IntsOf (l:List V) (m:outParam (List Int)):Prop where
 eq:l=m.map (V.int .i64)
instance:IntsOf [] []:=⟨rfl⟩
instance (x:Int)(l:List V)(m:List Int)[h:IntsOf l m]:IntsOf (.int .i64 x::l) (x::m):=⟨by rw[h.eq];rfl⟩
instance (priority:=low)(m:List Int):IntsOf (m.map (V.int .i64)) m:=⟨rfl⟩
theorem qfd{m:List Int}[h:IntsOf l m]:Er b H (.sl 1 c l) (.sl 1 false (m.map (V.int .i64))):=by have:=h.eq;subst this;exact yN
theorem qnc[Glob P]{id:Nat}{K:V->St->Prop}(z:Nat)(ag:Bool)(zero:V)(n:Nat)(ps:List (Nat×Opd)):qg P cls id s K (.lit false z ag zero n ps)=
 onS (xP z ag (List.replicate n zero) (ps.map λ(i,x)=>(i,ev s x))) λes=>K (.sl z true es) s:=rfl
theorem qjW(z:Nat)(ag:Bool)(es:List V):xP z ag es []=some es:=rfl
theorem qlb(es:List V)(i:Nat)(k:IntKind)(n:Int)(r:List (Nat×V)):xP 1 false es ((i,.int k n)::r)=xP 1 false (es.set i (.int k n)) r:=by simp[xP,V.cells,V.okCell,V.isAgg]
section
variable {K : V -> Prop}
variable {α:Type} {z:Nat} {k:IntKind} {i:Int}
theorem qbT{f:α->V}{b:Bool}{l:List α}{x:α}(h0:0<=i)(h:l[i.toNat]?=some x)(hk:K (.iptr z (f x) 0)):onS (jc z (.sl z b (l.map f)) (.int k i)) K:=yw (qlE h0 h) hk
variable {off:Nat}
theorem qZ{id len:Nat}(h0:0<=i)(h:i.toNat<len)(hk:K (.ptr id (off+i.toNat) 0)):onS (jc z (.msl id z off len) (.int k i)) K:=yw (qoL h0 h) hk
theorem Gr.iaQ{f:α->V}{H:Nat->Option MObj}{next:Nat}{l:List α}{v:V}(hg:Gr H next z (l.map f) v){x:α}(h0:0<=i)(h:l[i.toNat]?=some x)(hk:K (.iptr z (f x) 0)):onS (jc z v (.int k i)) K:=yw (hg.ia h0 h) hk
theorem YF{f:α->V}{l:List α}(h0:0<=i)(h:i.toNat<=l.length)(hk:K (.sl z false ((l.take i.toNat).map f))):onS (xK z (.sl z false (l.map f)) none (some (.int k i)) none) K:=yw (qtA h0 h) hk
theorem Jb{f:α->V}{b:Bool}{l:List α}(h0:0<=i)(h:i.toNat<=l.length)(hk:K (.sl z b ((l.drop i.toNat).map f))):onS (xK z (.sl z b (l.map f)) (some (.int k i)) none none) K:=yw (qsQ h0 h) hk
theorem qky{len size id k o n:Nat}{kd:IntKind}(h:n<len)(hk:K (.ptr id k (o+n *size))):onS (Jg len size (.ptr id k o) (.int kd (n:Int))) K:=yw (Xb h) hk
theorem qtk{s:St}{cs:List V}{c:V}(hc:cs[off]?=some c)(hk:K c):onS (zw s false 1 (.iptr z (.agg cs) off)) K:=yw (qwM hc) hk
end
end Go.E

namespace Go.E
section
variable {P : Program}[Glob P]
def qht(v:V)(A B:Prop):Prop:=match v with
 |.bool t=>(t=true->A)/\(t=false->B)
 | _=>False
variable {s:St}
theorem qhh{c:Opd}{a b:EC}{Q:Exit->St->Prop}(h:qht (ev s c) (ewp P a Q s) (ewp P b Q s)):ewp P (.cond c a b) Q s:=h
variable {A:Prop}
theorem qnp{B:Prop}(h:A):qht (.bool true) A B:=⟨λ_=>h,λe=>by cases e⟩
theorem qql{B:Prop}(h:B):qht (.bool false) A B:=⟨λe=>(by cases e),λ_=>h⟩
theorem qyn{t:Bool}{B:Prop}(h1:t=true->A)(h2:t=false->B):qht (.bool t) A B:=⟨h1,h2⟩
def gdQ(v:V)(w:Bool)(A B:Prop):Prop:=match v with
 |.bool x=>(x=w->A)/\(x≠w->B)
 |.undef=>B
 | _=>False
variable {i:Nat}
theorem qyP{b:Nat}{K:St->Prop}{d:Option Nat}{t:Nat}{w:Bool}{op:EOp}{c:Cls}{r:List Ins}
(h:gdQ (s.f t) w (qg P c (b+i) s (λv s'=>Ze P b K (i+1) r (s'.put d v)) op) (Ze P b K (i+1) r (s.put d .undef))):Ze P b K i (⟨d,some (t,w),op,c⟩::r) s:=by
 rw[qz8];exact h
theorem qwR{B:Prop}(h:A):gdQ (.bool true) true A B:=⟨λ_=>h,λe=>(e rfl).elim⟩
theorem qsD{B:Prop}(h:A):gdQ (.bool false) false A B:=⟨λ_=>h,λe=>(e rfl).elim⟩
theorem qwX{B:Prop}(h:B):gdQ (.bool true) false A B:=⟨λe=>(by cases e),λ_=>h⟩
theorem qwx{B:Prop}(h:B):gdQ (.bool false) true A B:=⟨λe=>(by cases e),λ_=>h⟩
theorem qyC{w:Bool}{B:Prop}(h:B):gdQ .undef w A B:=h
theorem qvg{x:Bool}{B:Prop}(h1:x=true->A)(h2:x=false->B):gdQ (.bool x) true A B:=⟨h1,λe=>h2 (by simpa using e)⟩
theorem qwZ{x:Bool}{B:Prop}(h1:x=false->A)(h2:x=true->B):gdQ (.bool x) false A B:=⟨h1,λe=>h2 (by simpa using e)⟩
def yL(P:Program)[Glob P](cls:Cls)(id:Nat)(s:St)(K:V->St->Prop)(f:FuncId)(vs:List V):Prop:=
 (∃bor as' res,(cls=.r->bor=false)/\Ers bor s.H (vs++[]) as'/\Pure P f as' res/\(bor=true->Flat res)/\K res s)\/
 (qxl cls=true/\zh P f (vs++[]) s.H s.next λv H' next'=>qcr cls s.next s.H H' next'/\K v {s with H:=H',next:=next'})
variable {cls:Cls} {K:V->St->Prop}
theorem qkA{id:Nat}(f:FuncId)(as:List Opd):qg P cls id s K (.call (.c (.fn f [])) as)=yL P cls id s K f (as.map (ev s)):=rfl
variable {f:FuncId} {res:V}
theorem qsP{id:Nat}(hp:Pure P f [] res)(hk:K res s):yL P cls id s K f []:=
 Or.inl ⟨false,[],res,λ_=>rfl,ji,hp,(λh=>by cases h),hk⟩
variable {x x':V}
theorem yY{id:Nat}(hE:Er false s.H x x')(hp:Pure P f [x'] res)(hk:K res s):yL P cls id s K f [x]:=
 Or.inl ⟨false,[x'],res,λ_=>rfl,qI hE ji,hp,(λh=>by cases h),hk⟩
variable {y y':V}
theorem jZ{id:Nat}(hE:Er false s.H x x')(hE2:Er false s.H y y')(hp:Pure P f [x',y'] res)(hk:K res s):yL P cls id s K f [x,y]:=
 Or.inl ⟨false,[x',y'],res,λ_=>rfl,qI hE (qI hE2 ji),hp,(λh=>by cases h),hk⟩
variable {z':V}
theorem XA{id:Nat}{z:V}(hE:Er false s.H x x')(hE2:Er false s.H y y')(hE3:Er false s.H z z')(hp:Pure P f [x',y',z'] res)(hk:K res s):yL P cls id s K f [x,y,z]:=
 Or.inl ⟨false,[x',y',z'],res,λ_=>rfl,qI hE (qI hE2 (qI hE3 ji)),hp,(λh=>by cases h),hk⟩
theorem qiQ{id:Nat}{z u u':V}(hE:Er false s.H x x')(hE2:Er false s.H y y')(hE3:Er false s.H z z')(hE4:Er false s.H u u')(hp:Pure P f [x',y',z',u'] res)(hk:K res s):yL P cls id s K f [x,y,z,u]:=
 Or.inl ⟨false,[x',y',z',u'],res,λ_=>rfl,qI hE (qI hE2 (qI hE3 (qI hE4 ji))),hp,(λh=>by cases h),hk⟩
theorem qcx{id:Nat}{vs:List V}{H:Nat->Option MObj}(hH:s.H=H)(h:zh P f vs H s.next λv H' next'=>K v {s with H:=H',next:=next'}):yL P .any id s K f vs:=
 Or.inr ⟨rfl,by rw[List.append_nil,hH];exact h.mono λ_ _ _ hk=>⟨trivial,hk⟩⟩
def qyY(id:Nat)(s:St)(K:V->St->Prop)(n:Nat)(v:V):Prop:=v.cells.length=n/\v.okCell=true/\K (.ptr id 0 0) (s.setO id (some (.own n [v] false)))
theorem qnq{id:Nat}(n:Nat)(x:Opd):qg P cls id s K (.box n x)=qyY id s K n (ev s x):=rfl
variable {n:Nat} {v:V}
theorem qjh{id:Nat}(h1:v.cells.length=n)(h2:v.okCell=true)(hk:K (.ptr id 0 0) (s.setO id (some (.own n [v] false)))):qyY id s K n v:=⟨h1,h2,hk⟩
def qca(neg:Bool)(tags:List Nat)(x y:V)(K:V->Prop):Prop:=match x,y with
 |.agg a,.agg b=>onS ((qF tags a b).map λt=>V.bool (t != neg)) K
 | _,_=>False
theorem qh8{id:Nat}(neg:Bool)(tags:List Nat)(x y:Opd):qg P cls id s K (.eqagg neg tags x y)=qca neg tags (ev s x) (ev s y) λv=>K v s:=by rw[qkh];have e:qJ s (.eqagg neg tags x y)=(match ev s x,ev s y with|.agg a,.agg b=>(qF tags a b).map λt=>V.bool (t != neg)| _,_=>none):=rfl;rw[e];unfold qca;cases ev s x<;>cases ev s y<;>simp
theorem qkT{neg:Bool}{tags:List Nat}{a b:List V}{K:V->Prop}{t:Bool}(h:qF tags a b=some t)(hk:K (.bool (t != neg))):qca neg tags (.agg a) (.agg b) K:=by show onS ((qF tags a b).map λt=>V.bool (t != neg)) K;rw[h];exact hk
def ldQ(o:Option MObj)(ag:Bool)(n k off:Nat):Option V:=match o with
 |some (.own sz es _)=>(match es[k]? with|some e=>jD ag n sz e off|none=>none)
 | _=>none
variable {ag:Bool} {k off:Nat}
theorem qpp{id:Nat}:zw s ag n (.ptr id k off)=ldQ (s.H id) ag n k off:=rfl
def stQ(s:St)(o:Option MObj)(n id k off:Nat)(v:V):Option St:=match o with
 | some (.own sz es false)=>(match es[k]? with
   |some e=>if v.cells.length=n/\v.okCell=true then(je n sz e v off).map λe'=>s.setO id (some (.own sz (es.set k e') false))else none
   |none=>none)
 | _=>none
theorem qqt{id:Nat}:j4 s n (.ptr id k off) v=stQ s (s.H id) n id k off v:=rfl
variable {z:Nat} {cs:List V} {ro:Bool}
theorem qhJ{K:V->Prop}(hk:K (.agg cs)):onS (ldQ (some (.own z [.agg cs] ro)) true z 0 0) K:=by
 have e:ldQ (some (.own z [.agg cs] ro)) true z 0 0=some (.agg cs):=by simp[ldQ,jD,V.isAgg]
 rw[e];exact hk
theorem qeW{K:V->Prop}{c:V}(hc:cs[off]?=some c)(hk:K c):onS (ldQ (some (.own z [.agg cs] ro)) false 1 0 off) K:=by
 have hlt:off<cs.length:=(List.getElem?_eq_some_iff.1 hc).1;have e:ldQ (some (.own z [.agg cs] ro)) false 1 0 off=some c:=by simp only[ldQ,List.getElem?_cons_zero];unfold jD;rw[if_neg (by simp[V.isAgg])];simp[QH,V.cells,hc]
 rw[e];exact hk
theorem Vw{K:V->Prop}(ha:v.isAgg=ag)(hk:K v):onS (ldQ (some (.own z [v] ro)) ag z 0 0) K:=by
 have e:ldQ (some (.own z [v] ro)) ag z 0 0=some v:=by simp[ldQ,jD,ha]
 rw[e];exact hk
variable {α:Type}
theorem YV{K:V->Prop}{f:α->V}{l:List α}{x:α}(hx:l[k]?=some x)(ha:(f x).isAgg=ag)(hk:K (f x)):onS (ldQ (some (.own z (l.map f) ro)) ag z k 0) K:=by
 have e:ldQ (some (.own z (l.map f) ro)) ag z k 0=some (f x):=by simp[ldQ,hx,jD,ha]
 rw[e];exact hk
theorem qoF{K:V->Prop}{f:α->List V}{l:List α}{x:α}{c:V}(hx:l[k]?=some x)(hc:(f x)[off]?=some c)(hk:K c):onS (ldQ (some (.own z (l.map λa=>.agg (f a)) ro)) false 1 k off) K:=by
 have e:ldQ (some (.own z (l.map λa=>.agg (f a)) ro)) false 1 k off=some c:=by have hlt:off<(f x).length:=(List.getElem?_eq_some_iff.1 hc).1;simp only[ldQ,List.getElem?_map,hx,Option.map_some];unfold jD;rw[if_neg (by simp[V.isAgg])];simp[QH,V.cells,hc]
 rw[e];exact hk
theorem qco{K:St->Prop}{id:Nat}{e:V}(he:e.isAgg=true)(hl:cs.length=z)(hk:K (s.setO id (some (.own z [.agg cs] false)))):onS (stQ s (some (.own z [e] false)) z id 0 0 (.agg cs)) K:=by
 have e1:je z z e (.agg cs) 0=some (.agg cs):=by unfold je;rw[if_pos ⟨rfl,rfl,he⟩]
 have e2:stQ s (some (.own z [e] false)) z id 0 0 (.agg cs)=some (s.setO id (some (.own z [.agg cs] false))):=by simp only[stQ,List.getElem?_cons_zero,e1];simp[V.cells,hl,V.okCell]
 rw[e2];exact hk
theorem qc8{K:St->Prop}{id:Nat}{e:V}(he:e.isAgg=v.isAgg)(hl:v.cells.length=z)(hc:v.okCell=true)(hk:K (s.setO id (some (.own z [v] false)))):onS (stQ s (some (.own z [e] false)) z id 0 0 v) K:=by
 have e1:je z z e v 0=some v:=by unfold je;rw[if_pos ⟨rfl,rfl,he⟩]
 have e2:stQ s (some (.own z [e] false)) z id 0 0 v=some (s.setO id (some (.own z [v] false))):=by simp only[stQ,List.getElem?_cons_zero,e1];simp[hl,hc]
 rw[e2];exact hk
theorem qfl{K:St->Prop}{id:Nat}(hv:v.cells=[v])(hc:v.okCell=true)(ha:v.isAgg=false)(ho:off<cs.length)
(hk:K (s.setO id (some (.own z [.agg (cs.set off v)] false)))):onS (stQ s (some (.own z [.agg cs] false)) 1 id 0 off v) K:=by
 have e:je 1 z (.agg cs) v off=some (.agg (cs.set off v)):=by unfold je;rw[if_neg (by rw[ha];simp[V.isAgg])];cases v<;>simp_all [V.isAgg]
 have e2:stQ s (some (.own z [.agg cs] false)) 1 id 0 off v=some (s.setO id (some (.own z [.agg (cs.set off v)] false))):=by simp only[stQ,List.getElem?_cons_zero,hv,hc,List.length_singleton,and_self,↓reduceIte,e];rfl
 rw[e2];exact hk
theorem qix{K:St->Prop}{f:α->V}{id:Nat}{l:List α}{y:α}(hk:k<l.length)(hv:(f y).cells.length=z)(hc:(f y).okCell=true)(ha:∀x,(f x).isAgg=(f y).isAgg)
(hK:K (s.setO id (some (.own z ((l.set k y).map f) false)))):onS (stQ s (some (.own z (l.map f) false)) z id k 0 (f y)) K:=by
 have e:l[k]?=some l[k]:=List.getElem?_eq_getElem hk;have e2:stQ s (some (.own z (l.map f) false)) z id k 0 (f y)=some (s.setO id (some (.own z ((l.set k y).map f) false))):=by simp[stQ,e,hv,hc,je,ha,List.map_set]
 rw[e2];exact hK
def qzf(o:Option MObj)(cls:Cls)(id:Nat)(s:St)(K:V->St->Prop)(z bytes i f:Nat)(xs:List V)(y:V):Prop:=o=s.H i->VK cls id s K false z bytes (.asl i f z xs) y
variable {bytes:Nat} {xs:List V}
theorem VE{id:Nat}{f:Nat}(h:qzf (s.H i) cls id s K z bytes i f xs y):VK cls id s K false z bytes (.asl i f z xs) y:=h rfl
theorem qcE{id:Nat}{f:Nat}{vy:V}{ys:List V}(hs:qY s.H z ys vy)
(hb:(xs.length+ys.length) *bytes<=140737488355328)(hl:xs.length+ys.length<=maxLen)
(hk:K (.asl id (xs.length+ys.length) z (xs++ys)) ((s.setO i none).setO id (some (.tok (xs.length+ys.length))))):qzf (some (.tok f)) cls id s K z bytes i f xs vy:=λhT=>qrX hT.symm hs hb hl hk
def mkQ(cls:Cls)(id:Nat)(s:St)(K:V->St->Prop)(mu:Bool)(z bytes:Nat)(zero l c:V):Prop:=onS (idxOf l) λn=>onS (idxOf c) λm=>n<=m/\m *bytes<=140737488355328/\m<=maxLen/\
 if mu then m=n/\K (.msl id z 0 n) (s.setO id (some (.own z (List.replicate n zero) false)))else n=0/\K (.asl id 0 z []) (s.setO id (some (.tok 0)))
theorem qw9{id:Nat}(mu:Bool)(z bytes:Nat)(zero:V)(l c:Opd):qg P cls id s K (.mksl mu z bytes zero l c)=mkQ cls id s K mu z bytes zero (ev s l) (ev s c):=rfl
theorem V5{id:Nat}{zero:V}{k k':IntKind}{m:Int}(h0:0<=m)(hb:m.toNat *bytes<=140737488355328)(hm:m.toNat<=maxLen)
(hk:K (.msl id z 0 m.toNat) (s.setO id (some (.own z (List.replicate m.toNat zero) false)))):mkQ cls id s K true z bytes zero (.int k m) (.int k' m):=by
 have e:∀k,idxOf (.int k m)=some m.toNat:=λk=>by simp[idxOf,h0]
 unfold mkQ;rw[e,e];exact⟨Nat.le_refl _,hb,hm,rfl,hk⟩
end
theorem wL:(∀(s:St) (v:V),s.put none v=s)/\(∀(s:St) (d i:Nat) (v:V),(s.put (some d) v).f i=if i=d then v else s.f i)/\(∀(s:St) (n:Nat),(s.bump n).f=s.f)/\(∀(s:St) (id:Nat) (ob:Option MObj),(s.setO id ob).f=s.f)/\
 (∀(a:V) (l:List V) (H:Nat->Option MObj) (n:Nat),(entry (a::l) H n).f 0=a)/\(∀(a b:V) (l:List V) (H:Nat->Option MObj) (n:Nat),(entry (a::b::l) H n).f 1=b)/\
 (∀(a b c:V) (l:List V) (H:Nat->Option MObj) (n:Nat),(entry (a::b::c::l) H n).f 2=c)/\(∀(a b c d:V) (l:List V) (H:Nat->Option MObj) (n:Nat),(entry (a::b::c::d::l) H n).f 3=d)/\
 (∀(a b c d e:V) (l:List V) (H:Nat->Option MObj) (n:Nat),(entry (a::b::c::d::e::l) H n).f 4=e)/\(∀(a b c d e f:V) (l:List V) (H:Nat->Option MObj) (n:Nat),(entry (a::b::c::d::e::f::l) H n).f 5=f):=
 ⟨zZ,QM,jM,jN,yu,yQ,vv,vz,yR,yV⟩
theorem wN:(∀(s:St) (d:Option Nat) (v:V),(s.put d v).next=s.next)/\(∀(s:St) (n:Nat),(s.bump n).next=s.next+n)/\(∀(s:St) (id:Nat) (ob:Option MObj),(s.setO id ob).next=s.next)/\(∀(args:List V) (H:Nat->Option MObj) (n:Nat),(entry args H n).next=n):=⟨qvL,qcg,qcC,Yp⟩
theorem wM:(∀(s:St) (d:Option Nat) (v:V),(s.put d v).H=s.H)/\(∀(s:St) (n:Nat),(s.bump n).H=s.H)/\(∀(s:St) (id j:Nat) (ob:Option MObj),(s.setO id ob).H j=if j=id then ob else s.H j)/\(∀(args:List V) (H:Nat->Option MObj) (n:Nat),(entry args H n).H=H):=⟨qgm,Zu,Qp,Qk⟩
theorem wD:(∀(p:Prop) [Decidable p],(decide p=true)=p)/\(∀(p:Prop) [Decidable p],(decide p=false)= ¬p)/\((!true)=false)/\((!false)=true)/\(∀b:Bool,((!b)=true)=(b=false))/\(∀b:Bool,((!b)=false)=(b=true))/\((true=false)=False)/\((false=true)=False)/\
 (∀a b:Bool,((a && b)=true)=(a=true/\b=true))/\(∀a b:Bool,((a || b)=true)=(a=true\/b=true))/\(∀a b:Int,(¬a<b)=(b<=a))/\(∀a b:Int,(¬a<=b)=(b<a)):=
 ⟨λp _=>decide_eq_true_eq,λp _=>propext decide_eq_false_iff_not,rfl,rfl,λb=>by cases b<;>simp,λb=>by cases b<;>simp,by simp,by simp,λa b=>by cases a<;>cases b<;>simp,λa b=>by cases a<;>cases b<;>simp,λa b=>propext Int.not_lt,λa b=>propext Int.not_le⟩
section
theorem wS:(∀{P:Program} [Glob P] {b i:Nat} {K:St->Prop} {s:St},Ze P b K i [] s=K s)/\
 (∀{P:Program} [Glob P] {b i:Nat} {K:St->Prop} {s:St} {d:Option Nat} {op:EOp} {c:Cls} {r:List Ins},Ze P b K i (⟨d,none,op,c⟩::r) s=qg P c (b+i) s (λv s'=>Ze P b K (i+1) r (s'.put d v)) op)/\
 (∀{P:Program} [Glob P] {cls:Cls} {id:Nat} {s:St} {K:V->St->Prop} (x:Opd),qg P cls id s K (.mov x)=K (ev s x) s)/\
 (∀{P:Program} [Glob P] {cls:Cls} {id:Nat} {s:St} {K:V->St->Prop} (op:BinOp) (x y:Opd),qg P cls id s K (.bin op x y)=onS (xU op (ev s x) (ev s y)) λv=>K v s)/\
 (∀{P:Program} [Glob P] {cls:Cls} {id:Nat} {s:St} {K:V->St->Prop} (c a b:Opd),qg P cls id s K (.pick c a b)=onS (match ev s c with|.bool t=>some (if t then ev s a else ev s b)| _=>none) λv=>K v s)/\
 (∀{P:Program} [Glob P] {cls:Cls} {id:Nat} {s:St} {K:V->St->Prop} (x:Opd) (i:Nat),qg P cls id s K (.ext x i)=onS (match ev s x with|.tup vs=>vs[i]?| _=>none) λv=>K v s)/\
 (∀{P:Program} [Glob P] {cls:Cls} {id:Nat} {s:St} {K:V->St->Prop} (x:Opd),qg P cls id s K (.len x)=onS (J9 (ev s x)) λv=>K v s)/\
 (∀{P:Program} [Glob P] {cls:Cls} {id:Nat} {s:St} {K:V->St->Prop} (x:Opd),qg P cls id s K (.lenS x)=onS (match ev s x with|.str l=>some (.int .i64 l.length)| _=>none) λv=>K v s)/\
 (∀{P:Program} [Glob P] {cls:Cls} {id:Nat} {s:St} {K:V->St->Prop} (n:Nat),qg P cls id s K (.lenc n)=K (.int .i64 n) s)/\
 (∀{P:Program} [Glob P] {cls:Cls} {id:Nat} {s:St} {K:V->St->Prop} (op:UnOp) (x:Opd),qg P cls id s K (.un op x)=onS (unV op (ev s x)) λv=>K v s)/\
 (∀{P:Program} [Glob P] {cls:Cls} {id:Nat} {s:St} {K:V->St->Prop} (n:Bool) (x y:Opd),qg P cls id s K (.eqb n x y)=onS (qqT n (ev s x) (ev s y)) λv=>K v s)/\
 (∀{P:Program} [Glob P] {cls:Cls} {id:Nat} {s:St} {K:V->St->Prop} (k:IntKind) (x:Opd),qg P cls id s K (.conv k x)=onS (match ev s x with|.int _ n=>some (.int k (k.wrap n))| _=>none) λv=>K v s):=
 ⟨qis,qbS,qbC,qbt,Y1,qbn,qcq,Yz,YZ,qiV,qcH,Vq⟩
theorem wT:(∀{P:Program} [Glob P] {cls:Cls} {id:Nat} {s:St} {K:V->St->Prop} (f:FuncId) (l:List Opd),qg P cls id s K (.mkfn f l)=K (.fn f (l.map (ev s))) s)/\
 (∀{P:Program} [Glob P] {cls:Cls} {id:Nat} {s:St} {K:V->St->Prop} (z:List V) (ps:List (Nat×Nat×Opd)),qg P cls id s K (.build z ps)=onS ((XU z (ps.map λ(o,n,x)=>(o,n,ev s x))).map .agg) λv=>K v s)/\
 (∀{P:Program} [Glob P] {cls:Cls} {id:Nat} {s:St} {K:V->St->Prop} (a:Bool) (o n:Nat) (x:Opd),qg P cls id s K (.fld a o n x)=onS (match ev s x with|.agg cs=>QH a n cs o| _=>none) λv=>K v s)/\
 (∀{P:Program} [Glob P] {cls:Cls} {id:Nat} {s:St} {K:V->St->Prop} (z:Nat) (x i:Opd),qg P cls id s K (.iaddr z x i)=onS (jc z (ev s x) (ev s i)) λv=>K v s)/\
 (∀{P:Program} [Glob P] {cls:Cls} {id:Nat} {s:St} {K:V->St->Prop} (a:Bool) (n:Nat) (p:Opd),qg P cls id s K (.load a n p)=QA cls.ldz s (ev s p) (onS (zw s a n (ev s p)) λv=>K v s))/\
 (∀{P:Program} [Glob P] {cls:Cls} {id:Nat} {s:St} {K:V->St->Prop} (z:Nat) (x:Opd),qg P cls id s K (.faddr z x)=onS (KP z (ev s x)) λv=>K v s)/\
 (∀{P:Program} [Glob P] {cls:Cls} {id:Nat} {s:St} {K:V->St->Prop} (l z:Nat) (x i:Opd),qg P cls id s K (.iaddrA l z x i)=onS (Jg l z (ev s x) (ev s i)) λv=>K v s)/\
 (∀{P:Program} [Glob P] {cls:Cls} {id:Nat} {s:St} {K:V->St->Prop} (a:Bool) (l z:Nat) (x i:Opd),qg P cls id s K (.idxA a l z x i)=onS (qkx a l z (ev s x) (ev s i)) λv=>K v s)/\
 (∀{P:Program} [Glob P] {cls:Cls} {id:Nat} {s:St} {K:V->St->Prop} (n:Nat) (p x:Opd),qg P cls id s K (.store n p x)=QA cls.stz s (ev s p) (onS (j4 s n (ev s p) (ev s x)) λs'=>QA cls.stz s' (ev s p) (K .undef s')))/\
 (∀{P:Program} [Glob P] {cls:Cls} {id:Nat} {s:St} {K:V->St->Prop} (n:Nat) (z:V),qg P cls id s K (.alloc n z)=K (.ptr id 0 0) (s.setO id (some (.own n [z] false))))/\
 (∀{P:Program} [Glob P] {cls:Cls} {id:Nat} {s:St} {K:V->St->Prop} (z:Nat) (x:Opd) (a b c:Option Opd),qg P cls id s K (.slc z x a b c)=onS (xK z (ev s x) (a.map (ev s)) (b.map (ev s)) (c.map (ev s))) λv=>K v s)/\
 (∀{P:Program} [Glob P] {cls:Cls} {id:Nat} {s:St} {K:V->St->Prop} (x:Opd) (a b:Option Opd),qg P cls id s K (.slcS x a b)=onS (yI (ev s x) (a.map (ev s)) (b.map (ev s))) λv=>K v s):=
 ⟨Ym,JG,qbu,qaB,xg,qfU,KV,qur,xB,qe8,qsx,qpZ⟩
theorem wU:(∀{P:Program} [Glob P] {cls:Cls} {id:Nat} {s:St} {K:V->St->Prop} (t:TypeId) (x:Opd),qg P cls id s K (.mkifc t x)=K (.ifc t (ev s x)) s)/\
 (∀{P:Program} [Glob P] {cls:Cls} {id:Nat} {s:St} {K:V->St->Prop} (z:Nat) (ag:Bool) (zero:V) (n:Nat) (ps:List (Nat×Opd)),qg P cls id s K (.lit false z ag zero n ps)=onS (xP z ag (List.replicate n zero) (ps.map λ(i,x)=>(i,ev s x))) λes=>K (.sl z true es) s)/\
 (∀{P:Program} [Glob P] {cls:Cls} {id:Nat} {s:St} {K:V->St->Prop} (mu:Bool) (z bytes:Nat) (x y:Opd),qg P cls id s K (.append mu z bytes x y)=VK cls id s K mu z bytes (ev s x) (ev s y))/\
 (∀{P:Program} [Glob P] {cls:Cls} {id:Nat} {s:St} {K:V->St->Prop} (f:FuncId) (as:List Opd),qg P cls id s K (.call (.c (.fn f [])) as)=yL P cls id s K f (as.map (ev s)))/\
 (∀{P:Program} [Glob P] {cls:Cls} {id:Nat} {s:St} {K:V->St->Prop} (n:Nat) (x:Opd),qg P cls id s K (.box n x)=qyY id s K n (ev s x))/\
 (∀{P:Program} [Glob P] {cls:Cls} {id:Nat} {s:St} {K:V->St->Prop} (neg:Bool) (tags:List Nat) (x y:Opd),qg P cls id s K (.eqagg neg tags x y)=qca neg tags (ev s x) (ev s y) λv=>K v s)/\
 (∀{P:Program} [Glob P] {cls:Cls} {id:Nat} {s:St} {K:V->St->Prop} (mu:Bool) (z bytes:Nat) (zero:V) (l c:Opd),qg P cls id s K (.mksl mu z bytes zero l c)=mkQ cls id s K mu z bytes zero (ev s l) (ev s c))/\
 (∀{s:St} {ag:Bool} {n id k off:Nat},zw s ag n (.ptr id k off)=ldQ (s.H id) ag n k off)/\(∀{s:St} {n id k off:Nat} {v:V},j4 s n (.ptr id k off) v=stQ s (s.H id) n id k off v)/\
 (∀(s:St) (n:Nat),ev s (.t n)=s.f n)/\(∀(s:St) (v:V),ev s (.c v)=v):=
 ⟨qk0,qnc,qtn,qkA,qnq,qh8,qw9,qpp,qqt,qjO,qm1⟩
end
theorem wV:(∀(k:IntKind) (a b:Int),xU .lss (.int k a) (.int k b)=some (.bool (decide (a<b))))/\(∀(k:IntKind) (a b:Int),xU .leq (.int k a) (.int k b)=some (.bool (decide (a<=b))))/\
 (∀(k:IntKind) (a b:Int),xU .gtr (.int k a) (.int k b)=some (.bool (decide (b<a))))/\(∀(k:IntKind) (a b:Int),xU .geq (.int k a) (.int k b)=some (.bool (decide (b<=a))))/\
 (∀(k:IntKind) (a b:Int),xU .eql (.int k a) (.int k b)=some (.bool (decide (a=b))))/\(∀(k:IntKind) (a b:Int),xU .neq (.int k a) (.int k b)=some (.bool (!decide (a=b))))/\
 (∀(k:IntKind) (a b:Int),xU .add (.int k a) (.int k b)=some (.int k (k.wrap (a+b))))/\(∀(k:IntKind) (a b:Int),xU .sub (.int k a) (.int k b)=some (.int k (k.wrap (a - b))))/\
 (∀(k:IntKind) (a b:Int),xU .mul (.int k a) (.int k b)=some (.int k (k.wrap (a *b))))/\(∀(k:IntKind) (a b:Int),xU .quo (.int k a) (.int k b)=(if b=0 then none else some (.int k (k.wrap (a.tdiv b)))))/\
 (∀(k:IntKind) (a b:Int),xU .rem (.int k a) (.int k b)=(if b=0 then none else some (.int k (a.tmod b))))/\(∀b:Bool,unV .not (.bool b)=some (.bool !b))/\(∀n a b:Bool,qqT n (.bool a) (.bool b)=some (.bool ((a == b) != n))):=
 ⟨qij,qit,qhR,qgK,qhI,qhC,qg5,qiw,qjd,qgy,qia,qjq,qhd⟩
theorem wW:(∀(z:Nat) (b:Bool) (es:List V),J9 (.sl z b es)=some (.int .i64 (es.length:Int)))/\(∀(i f z:Nat) (es:List V),J9 (.asl i f z es)=some (.int .i64 (es.length:Int)))/\(∀(i f z n:Nat),J9 (.msl i f z n)=some (.int .i64 (n:Int)))/\
 (∀{off id i o:Nat},KP off (.ptr id i o)=some (.ptr id i (o+off)))/\(∀{off z o:Nat} {e:V},KP off (.iptr z e o)=some (.iptr z e (o+off)))/\
 (∀{s:St} {k:IntKind} {n:Int},zw s false 1 (.iptr 1 (.int k n) 0)=some (.int k n))/\(∀{s:St} {b:Bool},zw s false 1 (.iptr 1 (.bool b) 0)=some (.bool b))/\(∀{s:St} {b:List UInt8},zw s false 1 (.iptr 1 (.str b) 0)=some (.str b))/\
 (∀{s:St} {z:Nat} {b:Bool} {es:List V},zw s false 1 (.iptr 1 (.sl z b es) 0)=some (.sl z b es))/\(∀{s:St} {z:Nat} {cs:List V},zw s true z (.iptr z (.agg cs) 0)=some (.agg cs))/\
 (∀{α:Type} (v:α) (K:α->Prop),onS (some v) K=K v)/\(∀(z:Nat) (ag:Bool) (es:List V),xP z ag es []=some es)/\(∀(es:List V) (i:Nat) (k:IntKind) (n:Int) (r:List (Nat×V)),xP 1 false es ((i,.int k n)::r)=xP 1 false (es.set i (.int k n)) r):=
 ⟨qch,YT,Yj,KT,qmx,qbj,qya,qze,qyL,qyM,zF,qjW,qlb⟩
theorem wX:(∀{α β:Type} (f:α->β),Option.map f none=none)/\(∀{α β:Type} (a:α) (f:α->β),Option.map f (some a)=some (f a))/\(∀{α:Type} (a:α) (l:List α),(a::l).length=l.length+1)/\(∀{α:Type},([]:List α).length=0)/\
 (∀n:Nat,0+n=n)/\(∀n:Nat,n+0=n)/\(∀n:Nat,n *1=n)/\(∀{α β:Type} (f:α->β) (l:List α),(l.map f).length=l.length)/\(∀n:Nat,((n:Int)).toNat=n)/\(∀n:Nat,(n:Int)+1=((n+1:Nat):Int))/\(∀n:Nat,((n+1:Nat):Int) - 1=(n:Int))/\
 (∀{α:Type} (f:α->V) (l m:List α),l.map f++m.map f=(l++m).map f)/\(∀{α:Type} (f:α->V) (l:List α) (x:α),l.map f++[f x]=(l++[x]).map f)/\(∀{α:Type} (l:List α),[]++l=l):=
 ⟨λf=>rfl,λa f=>rfl,λa l=>rfl,rfl,Nat.zero_add,Nat.add_zero,Nat.mul_one,λf l=>List.length_map f,Int.toNat_natCast,qyt,qAj,qpD,qkt,λl=>rfl⟩
theorem wY:(∀{α β:Type} (f:α->β) (a:α) (l:List α),(a::l).map f=f a::l.map f)/\(∀{α β:Type} (f:α->β),([]:List α).map f=[])/\(∀{α:Type} (a:α) (l:List α),(a::l)[0]?=some a)/\(∀{α:Type} (a:α) (l:List α) (i:Nat),(a::l)[i+1]?=l[i]?)/\
 (∀{α:Type} (a:α) (n:Nat),List.replicate (n+1) a=a::List.replicate n a)/\(∀{α:Type} (a:α),List.replicate 0 a=[])/\(∀{α:Type} (a b:α) (l:List α),(a::l).set 0 b=b::l)/\(∀{α:Type} (a b:α) (l:List α) (i:Nat),(a::l).set (i+1) b=a::l.set i b)/\
 (∀b:Bool,(true && b)=b)/\(∀b:Bool,(b && true)=b)/\(∀b:Bool,(false && b)=false)/\(∀b:Bool,(b && false)=false)/\(∀b:Bool,(b != false)=b)/\(∀b:Bool,(b == b)=true)/\((!true)=false)/\((!false)=true)/\(∀a:Int,(a<a)=False)/\(∀{α:Type} (a:α),(a=a)=True)/\(∀b:Bool,(b != b)=false):=
 ⟨λf a l=>rfl,λf=>rfl,λa l=>rfl,λa l i=>rfl,λa n=>rfl,λa=>rfl,λa b l=>rfl,λa b l i=>rfl,Bool.true_and,Bool.and_true,Bool.false_and,Bool.and_false,λb=>by simp,λb=>by simp,rfl,rfl,λa=>by simp,λa=>by simp,λb=>by simp⟩
def qnR(x i:V):Option V:=match idxOf i,x with
 |some i,.str l=>l[i]?.map λc=>V.int .u8 c.toNat
 | _,_=>none
theorem wC:(∀{s:St} {p:V} {X:Prop},QA (Cls.ldz .any) s p X=X)/\(∀{s:St} {p:V} {X:Prop},QA (Cls.ldz .r) s p X=X)/\(∀{s:St} {p:V} {X:Prop},QA (Cls.stz .any) s p X=X)/\(∀{s:St} {p:V} {X:Prop},QA (Cls.stz .w) s p X=X)/\
 (∀{s:St} {z id k o:Nat} {X:Prop},QA (Cls.ldz (.l z)) s (.ptr id k o) X=((s.H id).map lab=some z/\X))/\(∀{s:St} {z sz o:Nat} {e:V} {X:Prop},QA (Cls.ldz (.l z)) s (.iptr sz e o) X=X)/\(∀{s:St} {z id k o:Nat} {X:Prop},QA (Cls.stz (.s z)) s (.ptr id k o) X=((s.H id).map lab=some z/\X))/\
 (∀{P:Program} [Glob P] {cls:Cls} {id:Nat} {s:St} {K:V->St->Prop} (x:Opd),qg P cls id s K (.by2s x)=onS (match ev s x with|.sl 1 _ es=>(Jj es).map .str| _=>none) λv=>K v s)/\
 (∀{P:Program} [Glob P] {cls:Cls} {id:Nat} {s:St} {K:V->St->Prop} (x i:Opd),qg P cls id s K (.idxS x i)=onS (qnR (ev s x) (ev s i)) λv=>K v s):=
 ⟨rfl,rfl,rfl,rfl,rfl,rfl,rfl,λx=>rfl,λx i=>rfl⟩
theorem wZ:(∀{α β:Type} (f:α->β) (l:List α),(l.map f).length=l.length)/\(∀{α:Type} (l m:List α),(l++m).length=l.length+m.length)/\(∀{α:Type} (a:α) (l:List α),(a::l).length=l.length+1)/\(∀{α:Type},([]:List α).length=0)/\
 (∀{α:Type} (n:Nat) (l:List α),(l.take n).length=min n l.length)/\(∀{α:Type} (n:Nat) (l:List α),(l.drop n).length=l.length - n)/\(∀{α:Type} (l:List α) (n:Nat) (a:α),(l.set n a).length=l.length)/\(∀{α:Type} (n:Nat) (a:α),(List.replicate n a).length=n):=
 ⟨λf l=>List.length_map f,λl m=>List.length_append,λa l=>rfl,rfl,λn l=>List.length_take,λn l=>List.length_drop,λl n a=>List.length_set,λn a=>List.length_replicate⟩
def Sep(v w:V):Prop:= ∀i,gid v=some i->gid w=some i->False
variable {z:Nat} {es:List V}
theorem Sep.slL{c:Bool}{w:V}:Sep (.sl z c es) w:=λi h=>by cases h
theorem Sep.slR{c:Bool}{w:V}:Sep w (.sl z c es):=λi _ h=>by cases h
variable {H:Nat->Option MObj} {v:V}
theorem Gr.lt{next:Nat}(h:Gr H next z es v){i:Nat}(hi:gid v=some i):i<next:=by
 rcases h with rfl|⟨id,fin,rfl,_,hl⟩
 . cases hi
 . cases hi;exact hl
variable {f z':Nat} {es':List V}
theorem Sep.newL{next:Nat}(h:Gr H next z es v){id:Nat}(hid:next<=id):Sep (.asl id f z' es') v:=λi h1 h2=>by cases h1;have:=h.lt h2;omega
theorem Sep.newR{next:Nat}(h:Gr H next z es v){id:Nat}(hid:next<=id):Sep v (.asl id f z' es'):=λi h1 h2=>by cases h2;have:=h.lt h1;omega
theorem Sep.ids{i j f':Nat}(h:i≠j):Sep (.asl i f z es) (.asl j f' z' es'):=λk h1 h2=>by cases h1;cases h2;exact h rfl
variable {H':Nat->Option MObj} {next':Nat}
theorem Gr.mono'{next:Nat}(h:Gr H next z es v)(e:es=es')(hn:next<=next')(hH:∀id,gid v=some id->id<next->H' id=H id):Gr H' next' z es' v:=by subst e;exact h.mono hn hH
theorem Gr.dropO{next j:Nat}(h:Gr H next z es v){sz:Nat}{l:List V}{ro:Bool}(ho:H j=some (.own sz l ro)):jo H (gid v) j=some (.own sz l ro):=by
 unfold jo;rw[if_neg ?_,ho];intro e;rcases h with rfl|⟨id,fin,rfl,h1,_⟩
 . cases e
 . cases e;rw[h1]at ho;cases ho
def GrM(H:Nat->Option MObj)(base next z:Nat)(es:List V)(v:V):Prop:=(es=[]/\v=.sl z true [])\/ ∃id,v=.msl id z 0 es.length/\H id=some (.own z es false)/\base<=id/\id<next
variable {base:Nat}
theorem GrM.len{next:Nat}(h:GrM H base next z es v):J9 v=some (.int .i64 (es.length:Int)):=by rcases h with ⟨rfl,rfl⟩|⟨id,rfl,_⟩<;>rfl
theorem GrM.er{H0:Nat->Option MObj}{next:Nat}{m:List V}(h:GrM H base next z es v)(hH:H0=H)[hc:Cls' m](e:es=m):Er true H0 v (.sl z false m):=by
 subst e hH;rcases h with ⟨rfl,rfl⟩|⟨id,rfl,h1,_⟩
 . exact yN
 . exact xD h1 (by simp) (by simp)
variable {s:St}
theorem qM{P:Program}[Glob P]{cls:Cls}{id:Nat}{K:V->St->Prop}{f:FuncId}{x x' y y' res:V}(hE:Er true s.H x x')(hE2:Er true s.H y y')(hp:Pure P f [x',y'] res)(hc:(cls == .r)=false)(hf:Flat res)(hk:K res s):yL P cls id s K f [x,y]:=
 Or.inl ⟨true,[x',y'],res,λe=>(by subst e;cases hc),qI hE (qI hE2 ji),hp,(λ_=>hf),hk⟩
variable {ef:EF}
theorem JU{Q:V->(Nat->Option MObj)->Nat->Prop}{t:Nat}{e:Exit}(he:ef.res=[.inl t])(hx:e=.normal\/e=.ret)(h:Q (s.f t) s.H s.next):xW ef Q e s:=
 ⟨hx,s.f t,by rw[he];rfl,h⟩
theorem V3{Q:V->(Nat->Option MObj)->Nat->Prop}{e:Exit}(he:ef.res=[])(hx:e=.normal\/e=.ret)(h:Q (.tup []) s.H s.next):xW ef Q e s:=
 ⟨hx,.tup [],by rw[he];rfl,h⟩
theorem GrM.keep{next:Nat}(h:GrM H base next z es v)(e:es=es')(hn:next<=next')(hH:∀j,base<=j->j<next->H' j=H j):GrM H' base next' z es' v:=by
 subst e;rcases h with h|⟨id,rfl,h1,h2,h3⟩
 . exact Or.inl h
 . exact Or.inr ⟨id,rfl,by rw[hH id h2 h3];exact h1,h2,o_⟩
theorem GrM.keep'{base' next:Nat}(h:GrM H base next z es v)(e:es=es')(hb:base'<=base)(hn:next<=next')(hH:∀j,base<=j->j<next->H' j=H j):GrM H' base' next' z es' v:=by
 rcases h.keep e hn hH with h|⟨id,h0,h1,h2,h3⟩
 . exact Or.inl h
 . exact Or.inr ⟨id,h0,h1,o_,h3⟩
end Go.E

namespace Go.E
variable {k:IntKind} {hi:Int} {K:V->Prop}
theorem qd0{s:List UInt8}{k2:IntKind}{lo:Int}(h0:0<=lo)(h1:lo<=hi)(h2:hi<=s.length)(hk:K (.str ((s.take hi.toNat).drop lo.toNat))):
 onS (yI (.str s) (some (.int k lo)) (some (.int k2 hi))) K:=by
 have e1:hi.toNat<=s.length:=o_;have e2:lo.toNat<=hi.toNat:=o_;have e3:0<=hi:=o_;simp only[yI,jR,idxOf,if_pos h0,if_pos e3,if_pos e1,if_pos e2,zF];exact hk
theorem qt5{s:List UInt8}(h0:0<=hi)(h2:hi<=s.length)(hk:K (.str (s.take hi.toNat))):
 onS (yI (.str s) none (some (.int k hi))) K:=by
 have e1:hi.toNat<=s.length:=o_;simp only[yI,jR,idxOf,if_pos h0,if_pos e1,if_pos (Nat.zero_le _),zF,List.drop_zero];exact hk
theorem qyG{s:List UInt8}{i:Int}{c:UInt8}(h0:0<=i)(h:s[i.toNat]?=some c)(hk:K (.int .u8 c.toNat)):
 onS (qnR (.str s) (.int k i)) K:=by
 simp only[qnR,idxOf,if_pos h0,h,Option.map_some,zF];exact hk
variable {cs:List V}
theorem qpv(hk:K (.agg cs)):onS (Option.map V.agg (XU cs [])) K:=hk
variable {cs':List V} {off n:Nat} {v:V}
theorem qkm{r:List (Nat×Nat×V)}(h1:v.cells.length=n)(h2:v.okCell=true)(h3:Nat.ble (off+n) cs.length=true)
(h4:cs.take off++v.cells++cs.drop (off+n)=cs')(hk:onS (Option.map V.agg (XU cs' r)) K):onS (Option.map V.agg (XU cs ((off,n,v)::r))) K:=by
 rw[XU,if_pos ⟨h1,Nat.le_of_ble_eq_true h3,h2⟩,h4];exact hk
theorem wE:(∀{α:Type} (a:α) (l:List α) (n:Nat),(a::l).take (n+1)=a::l.take n)/\(∀{α:Type} (l:List α),l.take 0=[])/\(∀{α:Type} (l:List α),l.drop 0=l)/\(∀{α:Type} (a:α) (l:List α) (n:Nat),(a::l).drop (n+1)=l.drop n)/\
 (∀{α:Type} (a:α) (l m:List α),(a::l)++m=a::(l++m))/\(∀{α:Type} (m:List α),[]++m=m)/\(∀{α:Type} (m:List α),m++[]=m)/\(∀{α:Type} (n:Nat),([]:List α).drop n=[])/\
 (∀cs:List V,(V.agg cs).cells=cs)/\(∀(k:IntKind) (n:Int),(V.int k n).cells=[.int k n])/\(∀s:List UInt8,(V.str s).cells=[.str s])/\(∀b:Bool,(V.bool b).cells=[.bool b])/\(∀(z:Nat) (c:Bool) (es:List V),(V.sl z c es).cells=[.sl z c es])/\
 (∀(i f z:Nat) (es:List V),(V.asl i f z es).cells=[.asl i f z es])/\(∀(i z o n:Nat),(V.msl i z o n).cells=[.msl i z o n]):=
 ⟨λa l n=>rfl,λl=>rfl,λl=>rfl,λa l n=>rfl,λa l m=>rfl,λm=>rfl,List.append_nil,λn=>List.drop_nil,λcs=>rfl,λk n=>rfl,λs=>rfl,λb=>rfl,λz c es=>rfl,λi f z es=>rfl,λi z o n=>rfl⟩
def qtY:V->Option V
 |.ptr id i off=>some (.ptr id i off)
 |.iptr sz e off=>some (.iptr sz e off)
 |.fn f caps=>some (.fn f caps)
 | _=>none
variable {P:Program} {cls:Cls} {s:St}
theorem qqG[Glob P]{id:Nat}{K:V->St->Prop}(x:Opd):qg P cls id s K (.nilck x)=onS (qtY (ev s x)) λv=>K v s:=by
 rw[qkZ];have e:qJ s (.nilck x)=qtY (ev s x):=by simp only[qJ];cases ev s x<;>rfl
 rw[e]
theorem qmt[Glob P]{id:Nat}{K:V->St->Prop}(z:Nat)(ag:Bool)(zero:V)(n:Nat)(ps:List (Nat×Opd)):
 qg P cls id s K (.lit true z ag zero n ps)=onS (xP z ag (List.replicate n zero) (ps.map λ(i,x)=>(i,ev s x))) λes=>K (.msl id z 0 n) (s.setO id (some (.own z es false))):=rfl
variable {z:Nat} {ag:Bool} {es es':List V}
theorem qkN{i:Nat}{r:List (Nat×V)}{K:List V->Prop}(h1:v.cells.length=z)(h2:v.okCell=true)(h3:v.isAgg=ag)(hs:es.set i v=es')
(hk:onS (xP z ag es' r) K):onS (xP z ag es ((i,v)::r)) K:=by
 rw[xP,if_pos ⟨h1,h2,h3⟩,hs];exact hk
theorem wG:(∀{P:Program} [Glob P] {cls:Cls} {id:Nat} {s:St} {K:V->St->Prop} (x:Opd),qg P cls id s K (.nilck x)=onS (qtY (ev s x)) λv=>K v s)/\
 (∀{P:Program} [Glob P] {cls:Cls} {id:Nat} {s:St} {K:V->St->Prop} (z:Nat) (ag:Bool) (zero:V) (n:Nat) (ps:List (Nat×Opd)),qg P cls id s K (.lit true z ag zero n ps)=onS (xP z ag (List.replicate n zero) (ps.map λ(i,x)=>(i,ev s x))) λes=>K (.msl id z 0 n) (s.setO id (some (.own z es false))))/\
 (∀id i off:Nat,qtY (.ptr id i off)=some (.ptr id i off))/\(∀(sz:Nat) (e:V) (off:Nat),qtY (.iptr sz e off)=some (.iptr sz e off)):=⟨qqG,qmt,λ_ _ _=>rfl,λ_ _ _=>rfl⟩
variable {ro:Bool}
theorem Xl(hn:Nat.beq n z=false)(hle:Nat.ble (off+n) cs.length=true)(hc:(cs.drop off).take n=cs')(hk:K (.agg cs')):onS (ldQ (some (.own z [.agg cs] ro)) true n 0 off) K:=by
 have e:ldQ (some (.own z [.agg cs] ro)) true n 0 off=some (.agg cs'):=by
  have h1:n≠z:=λe=>by rw[e,Nat.beq_refl]at hn;cases hn
  simp only[ldQ,List.getElem?_cons_zero,jD,h1,false_and,and_false,if_false]
  show QH true n cs off=_;simp only[QH,if_true,Nat.le_of_ble_eq_true hle,hc]
 rw[e];exact hk
def ErP(v v':V):Prop:=Er false (λ_=>none) v v'
variable {b:Bool} {H:Nat->Option MObj} {v':V}
theorem Er.up{H2:Nat->Option MObj}(h:Er false H v v'):Er b H2 v v':=by
 generalize hb:false=b0 at h
 induction h with
 |bool b=>exact .bool _
 |int k n=>exact .int _ _
 |str s=>exact .str _
 |agg cs cs' hl h ih=>exact .agg cs cs' hl (λi c c' h1 h2=>ih i c c' h1 h2)
 |tup cs cs' hl h ih=>exact .tup cs cs' hl (λi c c' h1 h2=>ih i c c' h1 h2)
 |sl sz b cs cs' hl h ih=>exact .sl sz b cs cs' hl (λi c c' h1 h2=>ih i c c' h1 h2)
 |asl id fin sz cs cs' hl h ih=>exact .asl id fin sz cs cs' hl (λi c c' h1 h2=>ih i c c' h1 h2)
 |iptr sz e e' off h ih=>exact .iptr sz e e' off ih
 |msl id sz off len es ro cs' hb'=>subst hb;cases hb'
 |ptr id i off sz es ro e e' hb'=>subst hb;cases hb'
 |mapo id l hb'=>subst hb;cases hb'
 |nilp=>exact .nilp
 |nilfn=>exact .nilfn
 |nilmap=>exact .nilmap
 |mp l=>exact .mp l
 |mfn f x x' h ih=>exact .mfn f x x' ih
 |nilifc=>exact .nilifc
 |fn f cs cs' hl h ih=>exact .fn f cs cs' hl (λi c c' h1 h2=>ih i c c' h1 h2)
 |ifc t v v' h ih=>exact .ifc t v v' ih
theorem ErP.er(h:ErP v v'):Er b H v v':=Er.up h
inductive ErL(b:Bool)(H:Nat->Option MObj):List V->List V->Prop
 |nil:ErL b H [] []
 |cons {v v':V} {l l':List V} (h:Er b H v v') (hl:ErL b H l l'):ErL b H (v::l) (v'::l')
variable {l l':List V}
theorem ErL.get(h:ErL b H l l'):l'.length=l.length/\∀(i:Nat) c c',l[i]?=some c->l'[i]?=some c'->Er b H c c':=by
 induction h with
 |nil=>exact⟨rfl,λi c c' h=>by simp at h⟩
 | cons h hl ih=>
   refine⟨by simp[ih.1],λi c c' h1 h2=>?_⟩;cases i with
   |zero=>simp at h1 h2;subst h1 h2;exact h
   |succ i=>exact ih.2 i c c' (by simpa using h1) (by simpa using h2)
theorem ErL.len(h:ErL b H l l'):l'.length=l.length:=h.get.1
theorem ErL.agg(h:ErL b H l l'):Er b H (.agg l) (.agg l'):= .agg _ _ h.get.1 h.get.2
theorem ErL.tup(h:ErL b H l l'):Er b H (.tup l) (.tup l'):= .tup _ _ h.get.1 h.get.2
theorem ErL.sl{c:Bool}(h:ErL b H l l'):Er b H (.sl z c l) (.sl z false l'):= .sl _ _ _ _ h.get.1 h.get.2
theorem ErL.asl{id f:Nat}(h:ErL b H l l'):Er b H (.asl id f z l) (.sl z false l'):= .asl _ _ _ _ _ h.get.1 h.get.2
theorem ErL.snoc(h:ErL b H l l')(hv:Er b H v v'):ErL b H (l++[v]) (l'++[v']):=by
 induction h with
 |nil=>exact .cons hv .nil
 |cons h hl ih=>exact .cons h ih
abbrev J6(l l':List V):Prop:=ErL false (λ_=>none) l l'
theorem J6.up(h:J6 l l'):ErL b H l l':=by
 induction h with
 |nil=>exact .nil
 |cons h hl ih=>exact .cons h.up ih
theorem Gr.erL{H0:Nat->Option MObj}{next:Nat}(h:Gr H0 next z es v)(he:ErL b H es es'):Er b H v (.sl z false es'):=by
 rcases h with rfl|⟨id,f,rfl,_⟩
 . exact he.sl
 . exact he.asl
variable {res:V}
theorem quW{ef:EF}{t id:Nat}{e:Exit}(he:ef.res=[.inr (t,ag,n)])(hx:e=.normal\/e=.ret)(hp:s.f t=.ptr id 0 0)(hH:s.H id=some (.own n [v] ro))(ha:v.isAgg=ag)
(h:Er true s.H v res):z8 ef res e s:=by
 refine qoM he hx (v:=v) ?_ h;rw[hp];simp only[zw,hH,List.getElem?_cons_zero,jD,ha,and_self,if_true]
theorem qyJ{n:Int}(h0:0<=n)(h1:n<256)(hk:K (.str [UInt8.ofNat n.toNat])):onS (Option.map V.str (Jj [.int .u8 n])) K:=by simp only[Jj,h0,h1,and_self,if_true,Option.map_some,zF];exact hk
theorem wF:(∀a b:List UInt8,xU .eql (.str a) (.str b)=some (.bool (decide (a=b))))/\(∀a b:List UInt8,xU .neq (.str a) (.str b)=some (.bool (!decide (a=b)))):=⟨λ_ _=>rfl,λ_ _=>rfl⟩
theorem ql9{a b:List UInt8}(h:a.length+b.length<=9223372036854775807)(hk:K (.str (a++b))):onS (xU .add (.str a) (.str b)) K:=by
 refine yw (v:= .str (a++b)) ?_ hk
 show qb0 .add a b=_;simp[qb0,h]
theorem qhz[Glob P]{a b c:EC}{Q:Exit->St->Prop}(h:ewp P (.seq a (.seq b c)) Q s):ewp P (.seq (.seq a b) c) Q s:=by refine yH (yH (jf (λe s' he=>?_) h));cases e<;>exact he
theorem bf(h:b=false)(k:b=true):False:=by rw[h]at k;cases k
theorem bt(h:b=true)(k:b=false):False:=by rw[h]at k;cases k
theorem wA:type_of% (And.intro wS (And.intro wT (And.intro wU (And.intro wV (And.intro wW (And.intro wX (And.intro wY (And.intro wC (And.intro wF (And.intro wG (And.intro wL (And.intro wM wN)))))))))))):=And.intro wS (And.intro wT (And.intro wU (And.intro wV (And.intro wW (And.intro wX (And.intro wY (And.intro wC (And.intro wF (And.intro wG (And.intro wL (And.intro wM wN)))))))))))
theorem hh_{p:Prop}(h:p:=by((try simp only[wM]);(repeat first|rw[if_pos trivial]|rw[if_pos rfl]|rw[if_neg o_]))):p:=h
theorem l_{p:Prop}(h:p:=by(simp only[wL,seval])):p:=h
theorem wl_{p:Prop}(h:p:=by simp -implicitDefEqProofs only[wL,Nat.reduceEqDiff,↓reduceIte,reduceCtorEq]):p:=h
theorem wk_{p:Prop}(h:p:=by first|assumption|omega|(simp -implicitDefEqProofs only[wN]<;>omega)):p:=h
theorem wj_{p:Prop}(h:p:=by simp -implicitDefEqProofs only[wN,Nat.reduceAdd,Nat.zero_add];try exact Nat.le_refl _):p:=h
theorem wi_{p:Prop}(h:p:=by simp only[wM];repeat(first|rw[if_pos trivial]|rw[if_pos rfl]|rw[if_neg o_])):p:=h
theorem wh_{p:Prop}(h:p:=by simp only[wN]<;>omega):p:=h
theorem wg_{p:Prop}(h:p:=by(try simp only[wN])<;>omega):p:=h
theorem fm_{p:Prop}(h:p:=by first|rfl|simp only[wM]):p:=h
theorem mm_{p:Prop}(h:p:=by simp only[wM]):p:=h
theorem hm_{p:Prop}(h:p:=by simp only[wM];repeat(first|rw[if_pos trivial]|rw[if_pos rfl]|rw[if_neg o_])):p:=h
theorem wf_{p:Prop}(h:p:=by first|assumption|omega|(simp only[wZ]<;>omega)|trivial):p:=h
theorem we_{p:Prop}(h:p:=by first|exact qfd|exact qd|exact yN|exact Zy):p:=h
theorem wd_{p:Prop}(h:p:=by first|assumption|exact List.getElem?_eq_getElem o_|rfl):p:=h
theorem wu_{α:Type}{a b:α}(h:a=b:=by with_unfolding_all rfl):a=b:=h
theorem wc_{p:Prop}(h:p:=by(simp only[wM];(repeat first|rw[if_pos trivial]|rw[if_pos rfl]|rw[if_neg o_]))):p:=h
theorem wt_{p:Prop}(h:p:=by first|rfl|exact⟨_,rfl⟩|exact⟨_,rfl,by first|assumption|exact Gr.nil|exact Gr.tok rfl o_|exact Gr.tok (by simp -implicitDefEqProofs only[wM,Nat.reduceEqDiff,↓reduceIte,reduceCtorEq]<;>rfl) o_|exact Gr.clip⟩):p:=h
theorem wb_{p:Prop}(h:False:=by first|omega|exact bf h_ (by assumption)|exact bt h_ (by assumption)|(refine absurd ?_ h_;focus assumption)|(refine absurd h_ ?_;focus assumption)):p:=h.elim
variable {A:Prop}
theorem qa{t:Bool}{B:Prop}(h1:t=true->t=true->A)(h2:t=false->t=false->B):qht (.bool t) A B:=⟨λh=>h1 h h,λh=>h2 h h⟩
theorem wZZ:type_of% (And.intro wA (And.intro (@Int.cast_ofNat_Int) (And.intro (@decide_true) (And.intro (@decide_false) Bool.false_eq_true)))):=⟨wA,@Int.cast_ofNat_Int,@decide_true,@decide_false,Bool.false_eq_true⟩
variable {p q:Prop}
theorem s_(h:q)(k:q->p:=by with_reducible first|exact qL|exact yH|exact ZR|exact qaq|exact vJ|exact xJ|exact qeG|exact qjR|exact qz6|exact qzg|exact qyN|exact qAl|exact qzL|exact qAp (by decide)|exact qhh|exact qnp|exact qql|exact qyP|exact qwR|exact qsD|exact qwX|exact qwx|exact qyC):p:=k h
theorem qA{x:Bool}{B:Prop}(h1:x=true->x=true->A)(h2:x=false->x=false->B):gdQ (.bool x) true A B:=qvg (λh=>h1 h h) λh=>h2 h h
theorem qB{x:Bool}{B:Prop}(h1:x=false->x=false->A)(h2:x=true->x=true->B):gdQ (.bool x) false A B:=qwZ (λh=>h1 h h) λh=>h2 h h
theorem qAb{p:Prop}(h:p:=by first|assumption|with_unfolding_all assumption|exact List.getElem?_eq_getElem o_|rfl):p:=h
theorem t_(h:q)(k:q->p:=by with_reducible first|exact qeW wu_ |exact qhJ|exact qpv|exact qkm wu_ wu_ wu_ (by(try simp only[wE,Nat.reduceAdd]);rfl)|exact qkN wu_ wu_ wu_ (by(try simp only[wY]);rfl)|exact qco wu_ wu_ |exact qtk wu_ |exact qfl wu_ wu_ wu_ wf_ |exact qjh wu_ wu_ |exact qbT o_ qAb|exact qZ o_ wf_ |exact qyG o_ wd_):p:=k h
theorem er_(h:q)(k:q->p:=by first|exact qdM|exact qif|exact qsK|exact qjZ|exact qiz):p:=k h
theorem w1_(i:Nat)(h:i+1<=9223372036854775807:=by omega):IntKind.i64.wrap ((i+1:Nat):Int)=((i+1:Nat):Int):=wrap64 o_ o_
theorem ge_{α:Type}{l:List α}{i:Nat}(h:i<l.length):l[i]?=some l[i]:=List.getElem?_eq_getElem h
theorem wo_{p:Prop}(h:p:=by first|omega|(simp;done)|assumption):p:=h
variable {f:FuncId}
theorem cq0[Glob P]{id:Nat}{K:V->St->Prop}(hp:Pure P f [] res) (hk:K res s):yL P cls id s K f []:=qsP  hp hk
variable {x0 y0:V}
theorem cq1[Glob P]{id:Nat}{K:V->St->Prop}(hp:Pure P f [y0] res)(h0:Er false s.H x0 y0)(hk:K res s):yL P cls id s K f [x0]:=yY h0 hp hk
variable {x1 y1:V}
theorem cq2[Glob P]{id:Nat}{K:V->St->Prop}(hp:Pure P f [y0,y1] res)(h0:Er false s.H x0 y0)(h1:Er false s.H x1 y1)(hk:K res s):yL P cls id s K f [x0,x1]:=jZ h0 h1 hp hk
variable {x2 y2:V}
theorem cq3[Glob P]{id:Nat}{K:V->St->Prop}(hp:Pure P f [y0,y1,y2] res)(h0:Er false s.H x0 y0)(h1:Er false s.H x1 y1)(h2:Er false s.H x2 y2)(hk:K res s):yL P cls id s K f [x0,x1,x2]:=XA h0 h1 h2 hp hk
theorem cq4[Glob P]{id:Nat}{K:V->St->Prop}{x3 y3:V}(hp:Pure P f [y0,y1,y2,y3] res)(h0:Er false s.H x0 y0)(h1:Er false s.H x1 y1)(h2:Er false s.H x2 y2)(h3:Er false s.H x3 y3)(hk:K res s):yL P cls id s K f [x0,x1,x2,x3]:=qiQ h0 h1 h2 h3 hp hk
end Go.E

namespace Go.E
open Go.RowKit Go.WideShapes Go.ChangeShapes Go.Deep
abbrev YM:Nat->Option Nat:=λ_=>none
structure BulkOk(B:(H:Type)->DataW H->Nat):Prop where
 one:∀(H:Type) (d:DataW H),1<=B H d
 str:∀(H:Type) (s:List UInt8),s.length+1<=B H (.lit (.string s))
 slice:∀(H:Type) (x y:List (DataW H)),(x.map (B H)).sum+1<=B H (.slice x y)
 agg:∀(H:Type) (x:List (DataW H)),(x.map (B H)).sum+1<=B H (.agg x)
def RCs(w:World)(vs:List V)(cs:List Value):Prop:=cs.length=vs.length/\∀(i:Nat) v r,vs[i]?=some v->cs[i]?=some r->R noβ w YM v r
def qjK(P:Program)(t:TypeId):Bool:=match P.underlying t with
 |some (.struct _)|some (.array _ _)=>true
 | _=>false
structure ReadsN(N:Nat)(P:Program)(B:(H:Type)->DataW H->Nat)(t:TypeId)(Q:V->Nat->Prop):Prop where
 shape:∀v n,Q v n->v.cells.length=P.cellsOf t/\(∀c∈v.cells,c.scalar=true)/\v.isAgg=qjK P t
 rd:∀(H:Type) (enc:TypeId×Value->H) (w:World) (fuel:Nat) (cs:List Value) x,fuel<=N->DataW.trod enc P w 0 (λ_=>true) true fuel t cs=some x->
  ∃v n,Q v n/\RCs w v.cells cs/\n<=B H x.1
def Img{α:Type}(enc:α->V)(sz:α->Nat)(ok:α->Prop)(v:V)(n:Nat):Prop:= ∃a,ok a/\v=enc a/\n=sz a
variable {N:Nat} {P:Program} {t:TypeId}
theorem ReadsN.mono{B:(H:Type)->DataW H->Nat}{Q Q':V->Nat->Prop}(h:ReadsN N P B t Q)(hq:∀v n,Q v n->Q' v n)
(hs:∀v n,Q' v n->v.cells.length=P.cellsOf t/\(∀c∈v.cells,c.scalar=true)/\v.isAgg=qjK P t):ReadsN N P B t Q':=
 ⟨hs,λH enc w fuel cs x hf hx=>let ⟨v,n,h1,h2⟩:=h.rd H enc w fuel cs x hf hx;⟨v,n,hq v n h1,h2⟩⟩
theorem ReadsN.le{M:Nat}{B:(H:Type)->DataW H->Nat}{Q:V->Nat->Prop}(h:ReadsN M P B t Q)(hn:N<=M):ReadsN N P B t Q:=
 ⟨h.shape,λH enc w fuel cs x hf hx=>h.rd H enc w fuel cs x (Nat.le_trans hf hn) hx⟩
theorem RCs.one{w:World}{v:V}{r:Value}(h:R noβ w YM v r)(hv:v.cells=[v]):RCs w v.cells [r]:=by
 rw[hv];refine⟨rfl,λi v' r' h1 h2=>?_⟩;cases i with
 |zero=>simp at h1 h2;subst h1 h2;exact h
 |succ i=>simp at h1
theorem qgR{B:(H:Type)->DataW H->Nat}(hB:BulkOk B){k:IntKind}(ht:P.underlying t=some (.int k))(hc:P.cellsOf t=1)(N:Nat):
 ReadsN N P B t (Img (λn:Int=>.int k n) (λ_=>1) (λn=>(Lit.int k n).wf=true)):=by
 refine⟨λv n ⟨a,_,hv,_⟩=>by subst hv;simp[V.cells,hc,V.scalar,V.isAgg,qjK,ht],λH enc w fuel cs x _ hx=>?_⟩;cases fuel with
 |zero=>simp[DataW.trod]at hx
 | succ m=>
   unfold DataW.trod at hx;rw[ht]at hx;split at hx<;>simp_all;obtain ⟨⟨rfl,hw⟩,rfl⟩:=hx;exact⟨_,_,⟨_,hw,rfl,rfl⟩,RCs.one (.int _ _) rfl,hB.one _ _⟩
theorem qfF{B:(H:Type)->DataW H->Nat}(hB:BulkOk B)(ht:P.underlying t=some .bool)(hc:P.cellsOf t=1)(N:Nat):
 ReadsN N P B t (Img (λn:Bool=>.bool n) (λ_=>1) (λ_=>True)):=by
 refine⟨λv n ⟨a,_,hv,_⟩=>by subst hv;simp[V.cells,hc,V.scalar,V.isAgg,qjK,ht],λH enc w fuel cs x _ hx=>?_⟩;cases fuel with
 |zero=>simp[DataW.trod]at hx
 | succ m=>
   unfold DataW.trod at hx;rw[ht]at hx;split at hx<;>simp_all;rename_i b;exact⟨_,_,⟨b,trivial,rfl,rfl⟩,RCs.one (.bool _) rfl,hB.one _ _⟩
theorem qgD{B:(H:Type)->DataW H->Nat}(hB:BulkOk B)(ht:P.underlying t=some .string)(hc:P.cellsOf t=1)(N:Nat):
 ReadsN N P B t (Img (λs:List UInt8=>.str s) (λs=>s.length+1) (λ_=>True)):=by
 refine⟨λv n ⟨a,_,hv,_⟩=>by subst hv;simp[V.cells,hc,V.scalar,V.isAgg,qjK,ht],λH enc w fuel cs x _ hx=>?_⟩;cases fuel with
 |zero=>simp[DataW.trod]at hx
 | succ m=>
   unfold DataW.trod at hx;rw[ht]at hx;split at hx<;>simp_all;rename_i s;obtain ⟨hs,rfl⟩:=hx;obtain ⟨⟨l⟩⟩:=s;exact⟨_,_,⟨l,trivial,rfl,rfl⟩,RCs.one (.str l) rfl,hB.str _ _⟩
theorem ZW{α:Type}{n:Nat}{q:Nat->α->Prop}(h:∀i,i<n->∃a,q i a):∃l:List α,l.length=n/\∀i a,l[i]?=some a->q i a:=by
 induction n with
 |zero=>exact⟨[],rfl,by simp⟩
 | succ n ih=>
   obtain ⟨l,hl,hq⟩:=ih λi hi=>h i o_;obtain ⟨a,ha⟩:=h n o_;refine⟨l++[a],by simp[hl],λi b hb=>?_⟩;by_cases hi:i<n
   . rw[List.getElem?_append_left o_]at hb;exact hq i b hb
   . have e:i=n:=(by have:=(List.getElem?_eq_some_iff.1 hb).1;simp at this;omega);subst e;rw[List.getElem?_append_right o_,hl]at hb;simp at hb;subst hb;exact ha
theorem Zk{α β:Type}{f:α->Nat}{g:β->Nat}:∀{l:List α} {m:List β},l.length=m.length->(∀(i:Nat) a b,l[i]?=some a->m[i]?=some b->f a<=g b)->(l.map f).sum<=(m.map g).sum
 |[],[],_,_=>Nat.le_refl _
 | a::l,b::m,hl,h=>by have h1:=h 0 a b rfl rfl;have h2:=Zk (l:=l) (m:=m) (by simpa using hl) (λi x y hx hy=>h (i+1) x y (by simpa using hx) (by simpa using hy));simp only[List.map_cons,List.sum_cons];omega
 |[],_::_,hl,_=>by simp at hl
 | _::_,[],hl,_=>by simp at hl
theorem xh{B:(H:Type)->DataW H->Nat}(hB:BulkOk B){e:TypeId}(ht:P.underlying t=some (.slice e))(hc:P.cellsOf t=1)(he:0<P.cellsOf e)
{α:Type}{enc:α->V}{sz:α->Nat}{ok:α->Prop}(hr:ReadsN N P B e (Img enc sz ok)):
 ReadsN (N+1) P B t (Img (λl:List α=>.sl (P.cellsOf e) false (l.map enc)) (λl=>(l.map sz).sum+1) (λl=>∀a∈l,ok a)):=by
 refine⟨λv n ⟨a,_,hv,_⟩=>by subst hv;simp[V.cells,hc,V.scalar,V.isAgg,qjK,ht],λH encH w fuel cs x hf hx=>?_⟩;rcases DataW.trod_slice ht hx with ⟨rfl,rfl⟩|⟨a,len,cap,elems,rest,m,hm1,rfl,rfl,hb,hl,hm,hlen,hel,hsp,hns⟩
 . exact⟨_,_,⟨[],by simp,rfl,rfl⟩,RCs.one (.sl0 _ _ _ _ (λh=>by cases h) dc_) rfl,by simpa using hB.one _ _⟩
 . have hmN:m<=N:=o_;have hch:∀i,i<len->∃p:α×DataW H×List Value×(List MemPlace),ok p.1/\elems[i]?=some (p.2.1,p.2.2.2)/\w.cells? 0 (a.add (i *P.cellsOf e)) (P.cellsOf e)=some p.2.2.1/\RCs w (enc p.1).cells p.2.2.1/\sz p.1<=B H p.2.1:=by
    intro i hi;have h1:=hel i hi;obtain ⟨y,hy⟩:∃y,elems[i]?=some y:=⟨elems[i]' o_,List.getElem?_eq_getElem o_⟩;rw[hy]at h1;obtain ⟨cs',hcs,htr⟩:=Option.bind_eq_some_iff.1 h1;obtain ⟨v,n,⟨x,hok,rfl,rfl⟩,hRL,hle⟩:=hr.rd H encH w m cs' y hmN htr;exact⟨(x,y.1,cs',y.2),hok,by rw[hy],hcs,hRL,hle⟩
   obtain ⟨l,hll,hq⟩:=ZW hch;have hsum:((l.map (·.1)).map sz).sum+1<=B H (.slice (elems.map (·.1)) (rest.map (·.1))):=by refine Nat.le_trans (Nat.succ_le_succ ?_) (hB.slice H _ _);rw[List.map_map,List.map_map];refine Zk o_ λi p y hp hy=>?_;obtain ⟨_,h2,_,_,h5⟩:=hq i p hp;rw[hy]at h2;cases h2;exact h5
   refine⟨_,_,⟨l.map (·.1),?_,rfl,rfl⟩,?_,hsum⟩
   . intro x hx;obtain ⟨p,hp,rfl⟩:=List.mem_map.1 hx;obtain ⟨i,hi,e1⟩:=List.getElem_of_mem hp;exact(hq i p (by rw[<- e1];exact List.getElem?_eq_getElem hi)).1
   . by_cases hz:len=0
     . subst hz;have e0:l=[]:=List.length_eq_zero_iff.1 hll;subst e0;exact RCs.one (.sl0 _ _ _ _ (λh=>by cases h) hm) rfl
     . have hspot:a.spot=none:=by
        obtain ⟨p,hp⟩:∃p,l[0]?=some p:=⟨l[0]' o_,List.getElem?_eq_getElem o_⟩;obtain ⟨_,_,h3,h4,_⟩:=hq 0 p hp;obtain ⟨_,_,hcell⟩:=World.cells?_some h3;have h0:=hcell 0 he;simp only[Addr.add,Nat.zero_mul,↓reduceIte]at h0;have hne:p.2.2.1[0]?≠none:=by have:=(World.cells?_some h3).2.1;rw[List.getElem?_eq_getElem o_];simp
        obtain ⟨r,hr0⟩:=Option.ne_none_iff_exists'.1 hne;rw[hr0]at h0;exact by simpa using World.cell?_spot h0
       obtain ⟨b,o,spot⟩:=a;simp only at hspot;subst hspot;have hlen2:(l.map (·.1)).length=len:=(by simp[hll]);have hcell:∀(i:Nat) (hi:i<len) (j:Nat),j<P.cellsOf e->∃p,l[i]?=some p/\p.2.2.1.length=P.cellsOf e/\w.cell? ⟨b,o+(i *P.cellsOf e+j),none⟩=p.2.2.1[j]?:=by
        intro i hi j hj;obtain ⟨p,hp⟩:∃p,l[i]?=some p:=⟨l[i]' o_,List.getElem?_eq_getElem o_⟩;obtain ⟨_,_,h3,_,_⟩:=hq i p hp;obtain ⟨_,hcl,hce⟩:=World.cells?_some h3;refine⟨p,hp,hcl,?_⟩;rw[<- hce j hj,add_add];unfold Addr.add;split
        . rename_i h0;simp[h0]
        . rfl
       have hsome:∀j,j<len *P.cellsOf e->∃r,w.cell? ⟨b,o+j,none⟩=some r:=by intro j hj;have hi:j / P.cellsOf e<len:=Nat.div_lt_of_lt_mul (by rw[Nat.mul_comm];exact hj);obtain ⟨p,hp,hcl,hce⟩:=hcell (j / P.cellsOf e) hi (j % P.cellsOf e) (Nat.mod_lt _ he);have hje:j / P.cellsOf e *P.cellsOf e+j % P.cellsOf e=j:=(by rw[Nat.mul_comm];exact Nat.div_add_mod _ _);rw[hje]at hce;rw[hce];exact⟨_,List.getElem?_eq_getElem (by rw[hcl];exact Nat.mod_lt _ he)⟩
       refine RCs.one ?_ rfl;have hR:=R.sl (β:=noβ) (w:=w) (lim:=YM) (P.cellsOf e) false ((l.map (·.1)).map enc) b o cap (λj=>(w.cell? ⟨b,o+j,none⟩).getD Go.undef) so_
        (λj hj=>⟨trivial,by obtain ⟨r,hr0⟩:=hsome j (by simpa[hll]using hj);simp[hr0]⟩)
        (λv hv=>by
         obtain ⟨x,hx,rfl⟩:=List.mem_map.1 hv;obtain ⟨p,hp,rfl⟩:=List.mem_map.1 hx;obtain ⟨i,hi,e1⟩:=List.getElem_of_mem hp;have h:=hr.shape _ _ ⟨p.1,(hq i p (by rw[<- e1];exact List.getElem?_eq_getElem hi)).1,rfl,rfl⟩;exact⟨h.1,h.2.1⟩)
        (λi j v c hv hcc=>by
         simp only[List.getElem?_map,Option.map_eq_some_iff]at hv;obtain ⟨x,⟨p,hp,rfl⟩,rfl⟩:=hv;have hi:i<len:=(by have:=(List.getElem?_eq_some_iff.1 hp).1;omega);obtain ⟨hok,_,h3,h4,_⟩:=hq i p hp;have hj:j<P.cellsOf e:=by have:=(List.getElem?_eq_some_iff.1 hcc).1;rw[(hr.shape _ _ ⟨p.1,hok,rfl,rfl⟩).1]at this;exact this
         obtain ⟨p',hp',hcl,hce⟩:=hcell i hi j hj;rw[hp]at hp';cases hp';rw[hce,List.getElem?_eq_getElem o_];exact h4.2 j c _ hcc (List.getElem?_eq_getElem o_))
        (by simp[hll];exact hl) hm (λh=>by cases h)
       simpa[hll]using hR
theorem qeP{w:World}:∀{ps:List V} {cs:List Value},cs.length=(ps.map λp=>p.cells.length).sum->
 (∀(i:Nat) p,ps[i]?=some p->RCs w p.cells ((cs.drop ((ps.take i).map λp=>p.cells.length).sum).take p.cells.length))->RCs w (ps.flatMap V.cells) cs
 | [],cs,hl,_=>by
   have:cs=[]:=List.length_eq_zero_iff.1 (by simpa using hl)
   subst this;exact⟨rfl,by simp⟩
 | p ::ps,cs,hl,h=>by
   have h0:=h 0 p rfl;simp only[List.take_zero,List.map_nil,List.sum_nil,List.drop_zero]at h0;simp only[List.map_cons,List.sum_cons]at hl;have h1:=qeP (w:=w) (ps:=ps) (cs:=cs.drop p.cells.length) so_ (λi q hq=>by
    have:=h (i+1) q (by simpa using hq);simpa[List.drop_drop,Nat.add_comm]using this)
   refine⟨by simp[List.flatMap_cons,hl,List.length_flatMap],λi v r hv hr=>?_⟩;rw[List.flatMap_cons]at hv;by_cases hi:i<p.cells.length
   . rw[List.getElem?_append_left hi]at hv;exact h0.2 i v r hv (by rw[List.getElem?_take_of_lt hi];exact hr)
   . rw[List.getElem?_append_right o_]at hv;refine h1.2 (i - p.cells.length) v r hv ?_;rw[List.getElem?_drop,show p.cells.length+(i - p.cells.length)=i by omega];exact hr
theorem XM{B:(H:Type)->DataW H->Nat}(hB:BulkOk B){fs:Array Field}(ht:P.underlying t=some (.struct fs))
(hsum:P.cellsOf t=(fs.toList.map λf=>P.cellsOf f.type).sum)(hoff:∀(j:Nat) f,fs.toList[j]?=some f->f.offset=((fs.toList.take j).map λf=>P.cellsOf f.type).sum)
{Qs:List (V->Nat->Prop)}(hl:Qs.length=fs.toList.length)(hQ:∀(i:Nat) f Q,fs.toList[i]?=some f->Qs[i]?=some Q->ReadsN N P B f.type Q):
 ReadsN (N+1) P B t (λv n=>∃ps:List (V×Nat),ps.length=Qs.length/\(∀(i:Nat) p Q,ps[i]?=some p->Qs[i]?=some Q->Q p.1 p.2)/\v=.agg ((ps.map (·.1)).flatMap V.cells)/\n=(ps.map (·.2)).sum+1):=by
 have hcells:∀(ps:List (V×Nat)),ps.length=Qs.length->(∀(i:Nat) p Q,ps[i]?=some p->Qs[i]?=some Q->Q p.1 p.2)->(ps.map (·.1)).map (λp=>p.cells.length)=fs.toList.map λf=>P.cellsOf f.type:=by
  intro ps h1 h2;refine List.ext_getElem? λi=>?_;by_cases hi:i<ps.length
  . have e1:ps[i]?=some ps[i]:=List.getElem?_eq_getElem hi;have e2:Qs[i]?=some (Qs[i]' o_):=List.getElem?_eq_getElem o_;have e3:fs.toList[i]?=some (fs.toList[i]' o_):=List.getElem?_eq_getElem o_;rw[List.getElem?_map,List.getElem?_map,List.getElem?_map,e1,e3];simp only[Option.map_some,Option.some.injEq];exact((hQ i _ _ e3 e2).shape _ _ (h2 i _ _ e1 e2)).1
  . rw[List.getElem?_eq_none so_,List.getElem?_eq_none (by simp at hl ⊢;omega)]
 refine⟨?_,?_⟩
 . rintro v n ⟨ps,h1,h2,rfl,rfl⟩;refine⟨?_,?_,by simp[V.isAgg,qjK,ht]⟩
   . rw[V.cells,hsum,<- hcells ps h1 h2,List.length_flatMap]
   . intro c hc;simp only[V.cells,List.mem_flatMap,List.mem_map]at hc;obtain ⟨v,⟨p,hp,rfl⟩,hc⟩:=hc;obtain ⟨i,hi,e1⟩:=List.getElem_of_mem hp;have e1':ps[i]?=some p:=(by rw[<- e1];exact List.getElem?_eq_getElem hi);have e2:Qs[i]?=some (Qs[i]' o_):=List.getElem?_eq_getElem o_;have e3:fs.toList[i]?=some (fs.toList[i]' o_):=List.getElem?_eq_getElem o_;exact((hQ i _ _ e3 e2).shape _ _ (h2 i _ _ e1' e2)).2.1 c hc
 . intro H enc w fuel cs x hf hx;obtain ⟨xs,m,rfl,rfl,hcl,hxl,hfd⟩:=DataW.trod_struct ht hx;have hch:∀i,i<fs.toList.length->∃p:V×Nat,(∀Q,Qs[i]?=some Q->Q p.1 p.2)/\(∀f,fs.toList[i]?=some f->RCs w p.1.cells ((cs.drop f.offset).take (P.cellsOf f.type)))/\(∀y,xs[i]?=some y->p.2<=B H y.1):=by
    intro i hi;have e3:fs.toList[i]?=some (fs.toList[i]' o_):=List.getElem?_eq_getElem o_;have e2:Qs[i]?=some (Qs[i]' o_):=List.getElem?_eq_getElem o_;obtain ⟨y,hy⟩:∃y,xs[i]?=some y:=⟨xs[i]'(by simp at hxl hi;omega),List.getElem?_eq_getElem (by simp at hxl hi;omega)⟩;have e3':fs[i]?=some (fs.toList[i]' o_):=(by simp);have htr:=hfd i _ e3';rw[hy]at htr;obtain ⟨v,n,h1,h2,h3⟩:=(hQ i _ _ e3 e2).rd H enc w m _ y o_ htr;exact⟨(v,n),λQ hQ'=>by rw[e2]at hQ';cases hQ';exact h1,λf hf'=>by rw[e3]at hf';cases hf';exact h2,λy' hy'=>by rw[hy]at hy';cases hy';exact h3⟩
   obtain ⟨ps,hpl,hp⟩:=ZW hch;have hps:∀(i:Nat) p Q,ps[i]?=some p->Qs[i]?=some Q->Q p.1 p.2:=λi p Q h1 h2=>(hp i p h1).1 Q h2;refine⟨_,_,⟨ps,o_,hps,rfl,rfl⟩,?_,?_⟩
   . show RCs w ((ps.map (·.1)).flatMap V.cells) cs;have hc0:=hcells ps o_ hps;refine qeP (by rw[hcl,hsum,<- hc0]) λi q hq=>?_;simp only[List.getElem?_map,Option.map_eq_some_iff]at hq;obtain ⟨p,hpi,rfl⟩:=hq;have hi:i<ps.length:=(List.getElem?_eq_some_iff.1 hpi).1;have e3:fs.toList[i]?=some (fs.toList[i]' o_):=List.getElem?_eq_getElem o_;have h2:=(hp i p hpi).2.1 _ e3;rw[hoff i _ e3]at h2;have e4:((ps.map (·.1)).take i).map (λp=>p.cells.length)=(fs.toList.take i).map λf=>P.cellsOf f.type:=by
      rw[<- List.map_take.symm,hc0,List.map_take]
     have e5:p.1.cells.length=P.cellsOf (fs.toList[i]' o_).type:=by have e2:Qs[i]?=some (Qs[i]' o_):=List.getElem?_eq_getElem o_;exact((hQ i _ _ e3 e2).shape _ _ (hps i p _ hpi e2)).1
     rw[e4,e5];exact h2
   . refine Nat.le_trans (Nat.succ_le_succ ?_) (hB.agg H _);rw[List.map_map];exact Zk (by simp at hxl hpl;omega) λi p y h1 h2=>(hp i p h1).2.2 y h2
theorem qfr{H:Type}{enc:TypeId×Value->H}{f:Func}{s:ChangeSpec}{apart fresh handsOn again:Bool}{W W':World}{args:Array Value}{v:Value}{ds gs:List (DataW H)}{before pa pv:List MemPlace}
(hW:DataW.Whole enc P f.params.toList s.vars apart W args.toList ds gs before)
(hres:∀(b:Nat) (sp:Nat->Bool) (hd:Bool),DataW.TrodAll enc P W' b sp hd f.resultTypes.toList (v.resultList f.resultTypes.size) (s.fn H (ds++gs)).results [])
(hargs:∀sp:Nat->Bool,(∀p∈before,sp p.block=true)->DataW.TrodAll enc P W' 0 sp true f.params.toList args.toList (s.fn H (ds++gs)).args pa)
(hvars:∀sp:Nat->Bool,(∀p∈before,sp p.block=true)->DataW.TrodVars enc P W' sp s.vars (s.fn H (ds++gs)).vars pv)
(hps:before=pa++pv)(hb:Below W.heap.size W W')
(hok:∀(j:Nat) (t:TypeId) (r:Value),f.resultTypes[j]?=some t->(v.resultList f.resultTypes.size)[j]?=some r->Value.okWide P W' .any 0 t r):
 s.post enc P f apart fresh handsOn again W args v W':=by
 have hlt:∀p∈before,p.block<W.heap.size:=λp hp=>hW.lt p hp;have hold:∀p∈before,(λb=>decide (b<W.heap.size)) p.block=true:=λp hp=>by simpa using hlt p hp
 refine⟨ds,gs,before,[],pa,pv,hW,hres _ _ _,hargs _ hold,hvars _ hold,World.keptBut_mono (λp hp=>⟨hp,?_⟩) (hb.frame (· ∈before)),λ_=>?_⟩
 . rw[hps,List.mem_append]at hp;exact Or.inr hp
 . obtain ⟨_,_,_,_,_,hz,hn⟩:=hW;refine⟨hok,_,_,([]++pa)++pv,⟨[]++pa,pv,trodAll_append (hargs _ (λ_ _=>rfl)) (hres _ _ _),hvars _ (λ_ _=>rfl),rfl,?_,?_⟩,?_⟩
   . intro b off hp;have hin:MemPlace.cell b off∈before:=(by rw[hps];simpa using hp);rw[hb.frozen (hlt _ hin)];exact hz b off hin
   . intro ha;have:=hn ha;rw[hps]at this;simpa using this
   . intro p hp _;rw[hps];simpa using hp
theorem qgk{W w:World}{base:Nat}{v:V}{r:Value}(hok:Value.okWide P W .any base t r)(ha:v.isAgg=qjK P t)(hs:∀c∈v.cells,c.scalar=true)
(h:RCs w v.cells r.cells.toList):R noβ w YM v r:=by
 by_cases hv:v.isAgg=true
 . rw[hv]at ha;obtain ⟨cs,rfl⟩:∃cs,v=.agg cs:=(by cases v<;>simp_all [V.isAgg]);obtain ⟨rs,rfl⟩:∃rs,r=.agg rs:=by
    unfold qjK at ha;unfold Value.okWide at hok;split at ha
    . rename_i e;rw[e]at hok;obtain ⟨cs,h1,_⟩:=hok;exact⟨cs,h1⟩
    . rename_i e;rw[e]at hok;obtain ⟨cs,h1,_⟩:=hok;exact⟨cs,h1⟩
    . cases ha
   refine .agg cs rs (by simpa[V.cells,Value.cells]using h.1) hs λi c r hc hr=>h.2 i c r hc ?_;simpa[Value.cells]using hr
 . have hv':v.isAgg=false:=(by simpa using hv);rw[hv']at ha;have hcv:v.cells=[v]:=(by cases v<;>simp_all [V.isAgg,V.cells]);have hcr:r.cells= #[r]:=by
    cases r with
    | agg rs=>
      exfalso;unfold qjK at ha;unfold Value.okWide at hok;split at ha
      . cases ha
      . cases ha
      . rename_i h1 h2;split at hok
        . rename_i e;exact h1 _ e
        . rename_i e;exact h2 _ _ e
        . unfold Cell.okWide at hok;split at hok<;>simp_all [Cell.ok]
    | _=>rfl
   rw[hcv,hcr]at h;exact h.2 0 v r rfl rfl
theorem qcw[Glob P]{B:(H:Type)->DataW H->Nat}{bound:Nat}{f:FuncId}{fn:Func}{s:ChangeSpec}{tb:TypeId}
(hvars:s.vars=[])(hspec:∀(H:Type) (ds:List (DataW H)),ds.length=fn.params.toList.length->s.fn H ds={results:=[.lit (.bool true)],args:=ds})
(hres:fn.resultTypes= #[tb])(htb:P.underlying tb=some .bool)
(K:Kids P (· <P.types.size))(hz:∀t e,t<P.types.size->P.underlying t=some (.slice e)->0<P.cellsOf e)(hT:∀t∈fn.params.toList,t<P.types.size)
(Qs:List (V->Nat->Prop))(hQl:Qs.length=fn.params.toList.length)
(hQ:∀(i:Nat) t Q,fn.params.toList[i]?=some t->Qs[i]?=some Q->∀N,ReadsN N P B t Q)
(hp:∀ps:List (V×Nat),ps.length=Qs.length->(∀(i:Nat) p Q,ps[i]?=some p->Qs[i]?=some Q->Q p.1 p.2)->(ps.map (·.2)).sum<=bound->Pure P f (ps.map (·.1)) (.bool true))
(H:Type)(enc:TypeId×Value->H)(W:World)(base:Nat)(args:Array Value)(ds gs:List (DataW H))(before:List MemPlace)
(hval:∀(j:Nat) t v,fn.params[j]?=some t->args[j]?=some v->Value.okWide P W .any base t v)
(hW:DataW.Whole enc P fn.params.toList s.vars false W args.toList ds gs before)(hk:(ds.map (B H)).sum<=bound)(hG:GOk P W YM):
 Calls P f args W λe W'=>∃v,e=.returned v/\s.post enc P fn false true false false W args v W':=by
 have hW':=hW;obtain ⟨p,q,hA,hV,rfl,hfz,hnd⟩:=hW;rw[hvars]at hV;obtain ⟨rfl,rfl⟩:gs=[]/\q=[]:=by
  cases gs with
  |nil=>exact⟨rfl,hV⟩
  |cons g gs=>exact hV.elim
 have hlen:∀{ts:List TypeId} {vs:List Value} {ds:List (DataW H)} {ps:List MemPlace},DataW.TrodAll enc P W 0 (λ_=>true) true ts vs ds ps->vs.length=ts.length/\ds.length=ts.length/\
  ∀(i:Nat) t v,ts[i]?=some t->vs[i]?=some v->∃d pl,ds[i]?=some d/\DataW.Trod enc P W 0 (λ_=>true) true t v d pl:=by
  intro ts
  induction ts with
  |nil=>intro vs ds ps h;obtain ⟨rfl,rfl,rfl⟩:=trodAll_nil h;simp
  | cons t ts ih=>
    intro vs ds ps h;obtain ⟨v,vs1,d,ds1,a,b,rfl,rfl,rfl,h1,h2⟩:=trodAll_cons h;obtain ⟨i1,i2,i3⟩:=ih h2;refine⟨by simp[i1],by simp[i2],λi t' v' ht hv=>?_⟩;cases i with
    |zero=>simp at ht hv;subst ht hv;exact⟨d,a,rfl,h1⟩
    |succ i=>simpa using i3 i t' v' (by simpa using ht) (by simpa using hv)
 obtain ⟨l1,l2,l3⟩:=hlen hA;have hch:∀i,i<fn.params.toList.length->∃p:V×Nat,(∀Q,Qs[i]?=some Q->Q p.1 p.2)/\(∀v,args.toList[i]?=some v->R noβ W YM p.1 v)/\(∀d,ds[i]?=some d->p.2<=B H d):=by intro i hi;obtain ⟨t,ht⟩:∃t,fn.params.toList[i]?=some t:=⟨_,List.getElem?_eq_getElem hi⟩;obtain ⟨v,hv⟩:∃v,args.toList[i]?=some v:=⟨_,List.getElem?_eq_getElem o_⟩;obtain ⟨Q,hQi⟩:∃Q,Qs[i]?=some Q:=⟨_,List.getElem?_eq_getElem o_⟩;obtain ⟨d,pl,hd,fuel,htr⟩:=l3 i t v ht hv;have hr:=hQ i t Q ht hQi fuel;obtain ⟨x,n,h1,h2,h3⟩:=hr.rd H enc W fuel _ _ (Nat.le_refl _) htr;obtain ⟨_,s2,s3⟩:=hr.shape x n h1;refine⟨(x,n),λQ' hQ'=>by rw[hQi]at hQ';cases hQ';exact h1,λv' hv'=>?_,λd' hd'=>by rw[hd]at hd';cases hd';exact h3⟩;rw[hv]at hv';cases hv';exact qgk (hval i t v (by simpa using ht) (by simpa using hv)) s3 s2 h2
 obtain ⟨ps,hpl,hps⟩:=ZW hch;have hpure:=hp ps o_ (λi p Q h1 h2=>(hps i p h1).1 Q h2) (Nat.le_trans (Zk o_ λi p d h1 h2=>(hps i p h1).2.2 d h2) hk);have hRs:Rs noβ W YM (ps.map (·.1)) args:=by refine⟨by have:=l1;simp at this ⊢;simp at hpl;omega,λi v r hv hr=>?_⟩;simp only[List.getElem?_map,Option.map_eq_some_iff]at hv;obtain ⟨p,hpi,rfl⟩:=hv;exact(hps i p hpi).2.1 r (by simpa using hr)
 refine(hpure.2 W YM args hG hRs).mono λe W' ⟨r,he,hb,hR⟩=>?_;obtain rfl:r=.bool true:=by cases hR;rfl
 simp only[List.append_nil]at hW';have hle:ds.length=fn.params.toList.length:=l2;refine⟨_,he,qfr (pa:=p) (pv:=[]) hW' ?_ ?_ ?_ (by simp) hb (ok_one hres rfl (okWide_bool_mk htb _))⟩
 . intro b sp hd;rw[hspec H _ (by simpa using hle),hres];exact⟨[],[],⟨1,by simp[DataW.trod,Value.cells,htb]⟩,rfl,rfl⟩
 . intro sp hsp;rw[hspec H _ (by simpa using hle)];simp only[List.append_nil];have hA2:=DataW.TrodAll.respare (spare':=sp) K hz hT hA hsp;have hlt:=DataW.TrodAll.lt hA2;have carry:∀{ts:List TypeId} {vs:List Value} {ds:List (DataW H)} {ps:List MemPlace},DataW.TrodAll enc P W 0 sp true ts vs ds ps->(∀p∈ps,p.block<W.heap.size)->DataW.TrodAll enc P W' 0 sp true ts vs ds ps:=by
    intro ts
    induction ts with
    |nil=>intro vs ds ps h _;obtain ⟨rfl,rfl,rfl⟩:=trodAll_nil h;rfl
    | cons t ts ih=>
      intro vs ds ps h hlt;obtain ⟨v,vs1,d,ds1,a,b,rfl,rfl,rfl,⟨n,h1⟩,h2⟩:=trodAll_cons h;exact⟨a,b,⟨n,DataW.trod_carry n _ _ _ h1 λp hp=>hb.same (hlt p (List.mem_append_left _ hp))⟩,ih h2 (λp hp=>hlt p (List.mem_append_right _ hp)),rfl⟩
   exact carry hA2 hlt
 . intro sp hsp;rw[hspec H _ (by simpa using hle),hvars];rfl
end Go.E

namespace Go.E
section
variable {P : Program}[Glob P]{cls : Cls}{id : Nat}{s : St}{K : V -> St -> Prop}
def mgQ(ok:Bool)(x k:V)(K:V->Prop):Prop:=match x,k with
 |.mp l,.agg [.int .i64 a,.int .i64 b]=>K (VJ ok l a b)
 | _,_=>False
theorem qap(ok:Bool)(x k:Opd):qg P cls id s K (.mget ok x k)=mgQ ok (ev s x) (ev s k) λv=>K v s:=by
 have e0:qg P cls id s K (.mget ok x k)=onS (qJ s (.mget ok x k)) λv=>K v s:=rfl;rw[e0];have e:qJ s (.mget ok x k)=(match ev s x,ev s k with|.mp l,.agg [.int .i64 a,.int .i64 b]=>some (VJ ok l a b)| _,_=>none):=rfl;rw[e];unfold mgQ;split
 . rename_i l a b h1 h2;simp only[h1,h2];rfl
 . rfl
def qxF(neg:Bool)(x:V)(K:V->Prop):Prop:=match qcS x with
 |some (_+1)=>K (.bool neg)
 | _=>False
theorem qkw(neg:Bool)(x:Opd):qg P cls id s K (.eqnil neg x)=qxF neg (ev s x) λv=>K v s:=by have e0:qg P cls id s K (.eqnil neg x)=onS (qJ s (.eqnil neg x)) λv=>K v s:=rfl;have e1:qJ s (.eqnil neg x)=(match qcS (ev s x)with|some (_+1)=>some (.bool neg)| _=>none):=rfl;rw[e0,e1];unfold qxF;split<;>rfl
theorem qxo{neg:Bool}{x:V}{n:Nat}{K:V->Prop}(h:qcS x=some n)(hn:0<n)(hk:K (.bool neg)):qxF neg x K:=by
 unfold qxF;rw[h];cases n with
 |zero=>omega
 |succ n=>exact hk
theorem qj9{ok:Bool}{l:List (Int×Int×Int)}{a b:Int}{v:V}{K:V->Prop}(e:VJ ok l a b=v)(hk:K v):mgQ ok (.mp l) (.agg [.int .i64 a,.int .i64 b]) K:=by subst e;exact hk
end
end Go.E

namespace Go.E
def rsH(S:Nat->Bool)(H:Nat->Option MObj):Nat->Option MObj:=λj=>if S j then H j else none
def frO:MObj->Option MObj
 |.own z es _=>some (.own z es true)
 |.tok fin=>some (.tok fin)
 |.mapo _=>none
def frH(S:Nat->Bool)(H:Nat->Option MObj):Nat->Option MObj:=λj=>if S j then(H j).bind frO else H j
theorem xq{P:Program}[Glob P]{f:FuncId}{args as':List V}{res:V}{H:Nat->Option MObj}{next:Nat}(S:Nat->Bool)(hE:Ers true (rsH S H) args as')(hp:Pure P f as' res):
 zh P f args H next λv H' n'=>v=res/\H'=frH S H/\n'=next:=by
 refine⟨res,frH S H,next,⟨rfl,rfl,rfl⟩,⟨hp.1,res,frH S H,next,rfl,rfl,rfl⟩,λw β lim base ra hg hH hR=>?_⟩;have hcl:=λp:Prop=>Classical.propDecidable p
 let lim2:Nat->Option Nat:=λb=>if (∃id o l,S id=true/\H id=some o/\(∀fin,o≠ .tok fin)/\β id=some l/\l.b=b)then none else lim b
 have l2:∀b,lim2 b=none\/lim2 b=lim b:=λb=>by
  show (if _ then _ else _)=_\/(if _ then _ else _)=_;split
  . exact Or.inl rfl
  . exact Or.inr rfl
 have l2o:∀id o l,S id=true->H id=some o->(∀fin,o≠ .tok fin)->β id=some l->lim2 l.b=none:=λid o l h1 h2 h4 h3=>if_pos ⟨id,o,l,h1,h2,h4,h3,rfl⟩;have l2n:∀id o l,H id=some o->β id=some l->(S id=false\/ ∃fin,o=.tok fin)->lim2 l.b=lim l.b:=λid o l h1 h2 h3=>by
  refine if_neg ?_;rintro ⟨id2,o2,l',a1,a2,a5,a3,a4⟩;have e:=hH.uniq id2 id _ _ _ _ a2 h1 a3 h2 a4;subst e;rcases h3 with h3|⟨fin,h3⟩
  . rw[a1]at h3;cases h3
  . rw[a2]at h1;cases h1;exact a5 fin h3
 have hst:∀b i,yP lim b i->yP lim2 b i:=λb i h=>by
  unfold yP at *;rcases l2 b with e|e
  . rw[e];trivial
  . rw[e];exact h
 have l2b:∀b,b<base->lim2 b=lim b:=λb hb=>by refine if_neg ?_;rintro ⟨id2,o2,l',a1,a2,a5,a3,a4⟩;exact absurd hb (Nat.not_lt.2 (a4 ▸ (hH.own id2 l' a3).1))
 have g1:Grows β β lim lim2 base w w:=⟨λ_ _ h=>h,Ext.refl _ _,λb i _ h=>hst b i h,.refl _ _,l2b⟩;have rsE:∀k o,rsH S H k=some o->S k=true/\H k=some o:=λk o h=>by
  unfold rsH at h;split at h
  . rename_i hs;exact⟨hs,h⟩
  . cases h
 have hrs:RelH (rsH S H) next β lim base w:=by refine⟨λk h=>⟨(hH.fresh k h).1,?_⟩,hH.own,λk o h=>hH.obj k o (rsE k o h).2,λi j o o' l l' h1 h2=>hH.uniq i j o o' l l' (rsE i o h1).2 (rsE j o' h2).2,hH.base_le⟩;unfold rsH;rw[(hH.fresh k h).2];split<;>rfl
 have hS:Still true β (rsH S H) lim lim2:=⟨hst,λ_ k z es ro l h1 h2=>l2o k _ l (rsE k _ h1).1 (rsE k _ h1).2 (λ_ h=>by cases h) h2,λ_ k m l h1 h2=>l2o k _ l (rsE k _ h1).1 (rsE k _ h1).2 (λ_ h=>by cases h) h2⟩;have hRs:Rs noβ w lim2 as' ra:=by
  refine⟨by rw[hR.1,hE.1],λi v r hv hr=>?_⟩;have hi:i<args.length:=by rw[<- hE.1];exact(List.getElem?_eq_some_iff.1 hv).1
  have hx:=List.getElem?_eq_getElem hi;exact Er.R hrs hS (hE.2 i _ v hx hv) (hR.2 i _ r hx hr)
 have hH2 :RelH (frH S H) next β lim2 base w:=by
  refine⟨λid h=>⟨(hH.fresh id h).1,by unfold frH;rw[(hH.fresh id h).2];split<;>rfl⟩,hH.own,λid o h=>?_,λi j o o' l l' h1 h2 h3 h4 h5=>?_,hH.base_le⟩
  . have hob :∀o',H id=some o'->(S id=false\/ ∃fin,o'=.tok fin)->Zp β w lim2 id o':=λo' h' hc=>by
     have h0:=hH.obj id o' h';cases o' with
     | tok fin=>
       intro l hl;obtain ⟨cur,et,a,b,c⟩:=h0 l hl;exact⟨cur,et,a,b,(l2n id _ l h' hl (Or.inr ⟨fin,rfl⟩)).trans c⟩
     | own z es ro=>
       rcases h0 with h0|⟨l,cur,et,a1,a2,a3,a4,a5,a6,a7⟩
       . exact Or.inl h0
       . exact Or.inr ⟨l,cur,et,a1,a2,a3,a4,(l2n id _ l h' a1 (hc.imp (λh=>h) λ⟨_,h⟩=>by cases h)).trans a5,a6,λi j e c he hc=>by
          obtain ⟨r,hr,hR⟩:=a7 i j e c he hc;exact⟨r,hr,g1.R hR⟩⟩
     | mapo m=>
       obtain ⟨lc,es,ck,a1,a2,a3,a4⟩:=h0;exact⟨lc,es,ck,a1,a2,a3,(l2n id _ lc h' a1 (hc.imp (λh=>h) λ⟨_,h⟩=>by cases h)).trans a4⟩
    unfold frH at h;split at h
    . rename_i hs;cases ho:H id with
      |none=>rw[ho]at h;cases h
      | some o'=>
        rw[ho]at h;cases o' with
        |mapo m=>cases h
        |tok fin=>cases h;exact hob _ ho (Or.inr ⟨fin,rfl⟩)
        | own z es ro=>
          cases h;rcases hH.obj id _ ho with h0|⟨l,cur,et,a1,a2,a3,a4,a5,a6,a7⟩
          . exact Or.inl h0
          . exact Or.inr ⟨l,cur,et,a1,a2,a3,a4,l2o id _ l hs ho (λ_ h=>by cases h) a1,a6,λi j e c he hc=>by
             obtain ⟨r,hr,hR⟩:=a7 i j e c he hc;exact⟨r,hr,g1.R hR⟩⟩
    . rename_i hs;exact hob o h (Or.inl (by simpa using hs))
  . have key:∀k q,frH S H k=some q->∃q',H k=some q':=λk q h=>by
     unfold frH at h;split at h
     . cases ho:H k with
       |none=>rw[ho]at h;cases h
       |some q'=>exact⟨q',rfl⟩
     . exact⟨q,h⟩
    obtain ⟨q,hq⟩:=key i o h1;obtain ⟨q',hq'⟩:=key j o' h2;exact hH.uniq i j q q' l l' hq hq' h3 h4 h5
 refine(hp.2 w lim2 ra (hg.mono (Ext.refl _ _) λb i _ h=>hst b i h) hRs).mono λe w' ⟨r,he,hb,hR'⟩=>?_;have hpost:=Vy (id:=0) (s:=⟨λ_=>.undef,frH S H,next⟩) hH2 hb;have g2:=g1.trans hpost.1;refine⟨r,res,frH S H,next,β,qfe lim2 w.heap.size,he,⟨rfl,rfl,rfl⟩,hpost.h,R.mono (λid l h=>by cases h) (Ext.refl _ _) (yj.refl _ _) hR',g2.β,g2.ext,g2.limLe,g2.below,Nat.le_refl _,λ_ _=>rfl,λj _ h=>?_,g2.old⟩;unfold frH;rw[h];split<;>rfl
end Go.E
