/- Part of a proof that a law of the given program answers true. -/
import Derived.Test.YthgkeppkcjcmjaaTLA
import Derived.Test.YthgkeppkcjcmjaaTKA
import Derived.Test.YthgkeppkcjcmjaaTCA
set_option linter.unusedSimpArgs false
set_option linter.unusedVariables false
set_option maxHeartbeats 4000000
namespace Go.Proofs
open Go.E
abbrev itV (x:Int):V:= .agg [vi (x / 16),vi (x % 16)]
abbrev prV (p:Int×Int):V:= .agg [vi p.1,vi p.2]
def QL (g:Grammar) (x:Int):Prop:=0≤x∧ ∃p,g.prods[(x / 16).toNat]?=some p∧(x % 16).toNat≤p.right.length
def nxt (g:Grammar) (x:Int):Int:=((g.prods[(x / 16).toNat]?).bind fun p=>p.right[(x % 16).toNat]?).getD (-1)
def qNT (g:Grammar) (l:List Int) (D:Int→Prop):Prop:=(∀x∈l,D x)∧ ∀x,D x→ ∀(m:Nat) p,g.prods[m]?=some p→1000≤nxt g x→p.left=nxt g x - 1000→D (16 *(m:Int))
structure IsCl (g:Grammar) (l c:List Int):Prop where
 rise:jO c
 clo:qNT g l (· ∈c)
 least: ∀D,qNT g l D→ ∀x∈c,D x
theorem IsCl.uniq {g:Grammar} {l c c':List Int} (h:IsCl g l c) (h':IsCl g l c'):c=c':=
 Xc h.rise h'.rise fun x=>⟨h.least _ h'.clo x,h'.least _ h.clo x⟩
theorem qd1 {g:Grammar} {m:Nat} {p:GPr} (h:g.prods[m]?=some p):QL g (16 *(m:Int)):=by
 have e:(16 *(m:Int)) / 16=m:=o_
 have e2:(16 *(m:Int)) % 16=0:=o_
 exact⟨o_,p,by rw[e];exact h,by rw[e2];exact Nat.zero_le _⟩
theorem IsCl.ok {g:Grammar} {l c:List Int} (h:IsCl g l c) (hl: ∀x∈l,QL g x): ∀x∈c,QL g x:=
 h.least _ ⟨hl,fun x hx m p hp _ _=>qd1 hp⟩
theorem IsCl.cases {g:Grammar} {l c:List Int} (h:IsCl g l c): ∀x∈c,x∈l∨ ∃y∈c,∃(m:Nat) (p:GPr),x=16 *(m:Int)∧g.prods[m]?=some p∧1000≤nxt g y∧p.left=nxt g y - 1000:=by
 have:=h.least (fun x=>x∈c∧(x∈l∨ ∃y∈c,∃(m:Nat) (p:GPr),x=16 *(m:Int)∧g.prods[m]?=some p∧1000≤nxt g y∧p.left=nxt g y - 1000)) ⟨fun x hx=>⟨h.clo.1 x hx,Or.inl hx⟩,fun x hx m p hp h1 h2=>⟨h.clo.2 x hx.1 m p hp h1 h2,Or.inr ⟨x,hx.1,m,p,rfl,hp,h1,h2⟩⟩⟩
 exact fun x hx=>(this x hx).2
def qJ9 (g:Grammar) (s:Int) (o:List Int):List Int:=(List.range g.prods.length).foldl (fun o (m:Nat)=>if 1000≤s∧(g.prods[m]?.map (·.left)).getD 0=s - 1000 then jm o (16 *(m:Int))else o) o
def qdt (g:Grammar) (c:List Int):List Int:=c.foldl (fun o x=>qJ9 g (nxt g x) o) c
def qcM (g:Grammar):Nat→List Int→List Int
 |0,c=>c
 |n+1,c=>if qdt g c=c then c else qcM g n (qdt g c)
theorem XP {α β:Type} {P:β→Prop} {f:β→α→β}: ∀(l:List α) (b:β),P b→(∀b a,a∈l→P b→P (f b a))→P (l.foldl f b)
 |[],b,h,_=>h
 |a::l,b,h,hf=>XP l (f b a) (hf b a (by simp) h) fun b x hx=>hf b x (List.mem_cons_of_mem _ hx)
theorem qhQ {g:Grammar} {s:Int} {o:List Int}: ∀x,x∈qJ9 g s o↔x∈o∨ ∃(m:Nat) (p:GPr),x=16 *(m:Int)∧g.prods[m]?=some p∧1000≤s∧p.left=s - 1000:=by
 have key : ∀(k:Nat) (o:List Int),k≤g.prods.length→ ∀x,x∈(List.range k).foldl (fun o (m:Nat)=>if 1000≤s∧(g.prods[m]?.map (·.left)).getD 0=s - 1000 then jm o (16 *(m:Int))else o) o↔x∈o∨ ∃(m:Nat) (p:GPr),m<k∧x=16 *(m:Int)∧g.prods[m]?=some p∧1000≤s∧p.left=s - 1000:=by
  intro k
  induction k with
  |zero=>intro o _ x;simp
  | succ k ih=>
    intro o hk x
    rw[List.range_succ,List.foldl_append,List.foldl_cons,List.foldl_nil]
    have hgp:g.prods[k]?=some g.prods[k]:=ge_ o_
    by_cases hc:1000≤s∧(g.prods[k]?.map (·.left)).getD 0=s - 1000
    · rw [if_pos hc,zD,ih o o_]
      rw[hgp]at hc
      constructor
      · rintro ((h|⟨m,p,h1,h2⟩)|h)
        · exact Or.inl h
        · exact Or.inr ⟨m,p,o_,h2⟩
        · exact Or.inr ⟨k,_,o_,h,hgp,hc.1,hc.2⟩
      · rintro (h|⟨m,p,h1,h2,h3⟩)
        · exact Or.inl (Or.inl h)
        · by_cases e:m=k
          · subst e;exact Or.inr h2
          · exact Or.inl (Or.inr ⟨m,p,o_,h2,h3⟩)
    · rw [if_neg hc,ih o o_]
      constructor
      · rintro (h|⟨m,p,h1,h2⟩)
        · exact Or.inl h
        · exact Or.inr ⟨m,p,o_,h2⟩
      · rintro (h|⟨m,p,h1,h2,h3,h4⟩)
        · exact Or.inl h
        · by_cases e:m=k
          · subst e;rw[h3]at hc;exact absurd h4 hc
          · exact Or.inr ⟨m,p,o_,h2,h3,h4⟩
 intro x
 unfold qJ9
 rw[key _ o (Nat.le_refl _)]
 constructor
 · rintro (h|⟨m,p,_,h⟩)
   · exact Or.inl h
   · exact Or.inr ⟨m,p,h⟩
 · rintro (h|⟨m,p,h1,h2,h3⟩)
   · exact Or.inl h
   · exact Or.inr ⟨m,p,(List.getElem?_eq_some_iff.1 h2).1,h1,h2,h3⟩
theorem qd0 {g:Grammar} {s:Int} {o:List Int} (h:jO o):jO (qJ9 g s o):=
 XP _ _ h fun b a _ hb=>by split;exact jN hb;exact hb
theorem Zd {g:Grammar} {c:List Int}: ∀x,x∈qdt g c↔x∈c∨ ∃y∈c,∃(m:Nat) (p:GPr),x=16 *(m:Int)∧g.prods[m]?=some p∧1000≤nxt g y∧p.left=nxt g y - 1000:=by
 have key: ∀(l o:List Int) x,x∈l.foldl (fun o x=>qJ9 g (nxt g x) o) o↔x∈o∨ ∃y∈l,∃(m:Nat) (p:GPr),x=16 *(m:Int)∧g.prods[m]?=some p∧1000≤nxt g y∧p.left=nxt g y - 1000:=by
  intro l
  induction l with
  |nil=>intro o x;simp
  | cons a l ih=>
    intro o x
    rw[List.foldl_cons,ih,qhQ]
    constructor
    · rintro ((h|h)|⟨y,h1,h2⟩)
      · exact Or.inl h
      · exact Or.inr ⟨a,by simp,h⟩
      · exact Or.inr ⟨y,List.mem_cons_of_mem _ h1,h2⟩
    · rintro (h|⟨y,h1,h2⟩)
      · exact Or.inl (Or.inl h)
      · rcases List.mem_cons.1 h1 with rfl|h1
        · exact Or.inl (Or.inr h2)
        · exact Or.inr ⟨y,h1,h2⟩
 exact fun x=>key c c x
theorem Vi {g:Grammar} {c:List Int} (h:jO c):jO (qdt g c):=XP _ _ h fun b a _ hb=>qd0 hb
theorem xR {N:Nat}: ∀{l:List Int} {a:Int},jO l→(∀x∈l,a≤x∧x<a+N)→l.length≤N:=by
 intro l
 induction l generalizing N with
 |nil=>intros;exact Nat.zero_le _
 | cons x l ih=>
   intro a h hb
   have h':=List.pairwise_cons.1 h
   have h1:=hb x (by simp)
   cases N with
   |zero=>omega
   | succ N=>
     have:=ih (N:=N) (a:=a+1) h'.2 fun y hy=>by
      have:=h'.1 y hy;have:=hb y (List.mem_cons_of_mem _ hy);omega
     rw[List.length_cons];omega
theorem Q8 {a b:List Int} (ha:jO a) (hb:jO b) (h: ∀x∈a,x∈b) (hl:b.length≤a.length):a=b:=by
 have hs:a.Sublist b:=by
  clear hl
  induction b generalizing a with
  | nil=>
    cases a with
    |nil=>exact List.Sublist.slnil
    |cons x a=>exact absurd (h x (by simp)) (by simp)
  | cons y b ih=>
    have hb':=List.pairwise_cons.1 hb
    cases a with
    |nil=>exact List.nil_sublist _
    | cons x a=>
      have ha':=List.pairwise_cons.1 ha
      rcases List.mem_cons.1 (h x (by simp))with e|e
      · subst e
        refine List.Sublist.cons_cons _ (ih ha'.2 hb'.2 fun z hz=>?_)
        rcases List.mem_cons.1 (h z (List.mem_cons_of_mem _ hz))with e|e
        · subst e;have:=ha'.1 z hz;omega
        · exact e
      · refine List.Sublist.cons _ (ih ha hb'.2 fun z hz=>?_)
        rcases List.mem_cons.1 (h z hz)with e2|e2
        · subst e2
          have h1:=hb'.1 x e
          rcases List.mem_cons.1 hz with e3|e3
          · omega
          · have:=ha'.1 z e3;omega
        · exact e2
 exact hs.eq_of_length_le hl
theorem XZ {g:Grammar} {l:List Int} (hlen:g.prods.length≤60) (hrl: ∀p∈g.prods,p.right.length≤8) (hl: ∀x∈l,QL g x): ∀(n:Nat) (c:List Int),jO c→(∀x∈l,x∈c)→(∀D,qNT g l D→ ∀x∈c,D x)→(∀x∈c,QL g x)→961≤c.length+n→IsCl g l (qcM g n c)
 | n, c, hr,h1,h2,h3,hn=>by
   have hb: ∀x∈c,0≤x∧x<0+(960:Nat):=fun x hx=>by
    obtain ⟨h0,p,hp,_⟩:=h3 x hx
    have:=(List.getElem?_eq_some_iff.1 hp).1
    omega
   have hc:=xR hr hb
   match n with
   |0=>omega
   | n + 1=>
     unfold qcM
     have up: ∀x∈c,x∈qdt g c:=fun x hx=>(Zd x).2 (Or.inl hx)
     split
     · rename_i e
       exact⟨hr,⟨h1,fun x hx m p hp h4 h5=>by rw[← e];exact(Zd _).2 (Or.inr ⟨x,hx,m,p,rfl,hp,h4,h5⟩)⟩,h2⟩
     · rename_i e
       refine XZ hlen hrl hl n _ (Vi hr) (fun x hx=>up x (h1 x hx)) (fun D hD x hx=>?_) (fun x hx=>?_) ?_
       · rcases (Zd x).1 hx with h|⟨y,hy,m,p,rfl,hp,h4,h5⟩
         · exact h2 D hD x h
         · exact hD.2 y (h2 D hD y hy) m p hp h4 h5
       · rcases (Zd x).1 hx with h|⟨y,hy,m,p,rfl,hp,h4,h5⟩
         · exact h3 x h
         · exact qd1 hp
       · have: ¬ (qdt g c).length≤c.length:=fun h=>e (Q8 hr (Vi hr) up h).symm
         omega
def zy (g:Grammar) (l:List Int):List Int:=qcM g 961 l
theorem KR {g:Grammar} {l:List Int} (hlen:g.prods.length≤60) (hrl: ∀p∈g.prods,p.right.length≤8) (hl: ∀x∈l,QL g x) (hr:jO l):IsCl g l (zy g l):=
 XZ hlen hrl hl 961 l hr (fun _ h=>h) (fun D hD=>hD.1) hl o_

structure Sta where
 ker:List Int:=[]
 mov:List (Int×Int):=[]
 deriving DecidableEq,Inhabited
abbrev Sta.V (q:Sta):V:= .agg [.sl 2 false (q.ker.map itV),.sl 2 false (q.mov.map prV)]
def kL (g:Grammar) (k:List Int) (s:Int):List Int:=(zy g k).foldl (fun o x=>if 0≤nxt g x∧nxt g x=s then jm o (x+1)else o) []
def jl (g:Grammar):List Int:=(List.range g.toks.length).map (fun(i:Nat)=>(i:Int))++(List.range g.nons.length).map fun(i:Nat)=>1000+(i:Int)
def qaq (g:Grammar) (c:List Int):List Int:=c.foldl (fun a x=>if 0≤nxt g x then jm a (nxt g x)else a) []
def Jr (k:List Int):List Sta→Nat→Int
 |[],_=> -1
 |q::m,i=>if q.ker=k then(i:Int)else Jr k m (i+1)
def QT (m:List Sta) (k:List Int):Int:=Jr k m 0
def xJ (m:List Sta) (i:Nat) (s t:Int):List Sta:=m.modify i fun q=>{q with mov:=q.mov++[(s,t)]}
def qF (m:List Sta) (i:Nat):List Int:=(m[i]?.map (·.ker)).getD []
def vH (g:Grammar) (i:Nat) (aft:List Int) (m:Option (List Sta)) (s:Int):Option (List Sta):=m.bind fun m=>
 if s∈aft then
  if QT m (kL g (qF m i) s)<0 then(if m.length=150 then none else some (xJ (m++[⟨kL g (qF m i) s,[]⟩]) i s m.length))
  else some (xJ m i s (QT m (kL g (qF m i) s)))
 else some m
def YL (g:Grammar):Nat→List Sta→Nat→Option (List Sta)
 |0,m,_=>some m
 |n+1,m,i=>if i<m.length then((jl g).foldl (vH g i (qaq g (zy g (qF m i)))) (some m)).bind fun m'=>YL g n m' (i+1)else some m
def Kl (g:Grammar):Option (List Sta):=YL g 151 [⟨[0],[]⟩] 0
def goL (l:List (Int×Int)) (s:Int):Int:=match l with
 |[]=> -1
 |p::r=>if p.1=s then p.2 else goL r s
def goS (m:List Sta) (q s:Int):Int:=if q<0 then -1 else match m[q.toNat]? with
 |some x=>goL x.mov s
 |none=> -1
def xN (m:List Sta):Int→List Int→Int
 |q,[]=>q
 |q,s::l=>if q<0 then q else xN m (goS m q s) l
def qB (m:List Sta):List (Int×Int):=(List.range m.length).flatMap fun(i:Nat)=>((m[i]?.map (·.mov)).getD []).filterMap fun p=>if 1000≤p.1 then some ((i:Int),p.1)else none
def qgd (q s:Int):List (Int×Int)→Nat→Int
 |[],_=> -1
 |p::l,i=>if p.1=q∧p.2=s then(i:Int)else qgd q s l (i+1)
def qaT (t:List (Int×Int)) (q s:Int):Int:=qgd q s t 0
def Xz (m:List Sta) (q:Int):List (Int×Int):=(m[q.toNat]?.map (·.mov)).getD []
def yR (m:List Sta):List (List Int):=(qB m).map fun t=>
 (Xz m (goS m t.1 t.2)).foldl (fun l p=>if p.1<1000 then jm l p.1 else l) (if (1:Int)∈qF m (goS m t.1 t.2).toNat then[0]else[])
def Xu (E:Nat→Bool) (m:List Sta):List (List Int):=(qB m).map fun t=>
 (Xz m (goS m t.1 t.2)).foldl (fun l p=>if 1000≤p.1∧E (p.1 - 1000).toNat=true then jm l (qaT (qB m) (goS m t.1 t.2) p.1)else l) []
def XB (E:Nat→Bool) (m:List Sta) (i:Nat) (q:Int) (r:List Int) (out:List (List Int)) (k:Nat):List (List Int):=
 let s:=r.getD k 0
 if 1000≤s∧zo false E (r.drop (k+1))=true∧0≤xN m q (r.take k)∧0≤qaT (qB m) (xN m q (r.take k)) s then
  out.modify (qaT (qB m) (xN m q (r.take k)) s).toNat fun l=>jm l (i:Int)
 else out
def qan (E:Nat→Bool) (m:List Sta) (i:Nat) (t:Int×Int) (out:List (List Int)) (p:GPr):List (List Int):=
 if 1000+p.left=t.2 then(List.range p.right.length).foldl (XB E m i t.1 p.right) out else out
def xB (g:Grammar) (E:Nat→Bool) (m:List Sta):List (List Int):=
 (List.range (qB m).length).foldl (fun out i=>g.prods.foldl (qan E m i ((qB m).getD i (0,0))) out) (List.replicate (qB m).length [])
def Xk (g:Grammar) (m:List Sta) (q:Int) (p:Int):List Int:=
 ((List.range (qB m).length).filter fun i=>match g.prods[p.toNat]? with
   |some x=>decide (((qB m).getD i (0,0)).2=1000+x.left∧xN m ((qB m).getD i (0,0)).1 x.right=q)
   |none=>false).map fun(i:Nat)=>(i:Int)
def joinL (a b:List Int):List Int:=b.foldl jm a
def qdd (out rel:List (List Int)):List (List Int):=(List.range out.length).foldl (fun o i=>o.modify i fun l=>(rel.getD i []).foldl (fun l j=>joinL l (o.getD j.toNat [])) l) out
def JY:Nat→List (List Int)→List (List Int)→List (List Int)
 |0,out,_=>out
 |n+1,out,rel=>if qdd out rel=out then out else JY n (qdd out rel) rel
def xG (g:Grammar) (E:Nat→Bool) (m:List Sta):List (List Int):=JY 400000 (JY 400000 (yR m) (Xu E m)) (xB g E m)
def xW (g:Grammar) (k:List Int):List Int:=(zy g k).filterMap fun x=>if 0<x / 16∧nxt g x= -1 then some (x / 16)else none
structure Lk where
 st:Int:=0
 pr:Int:=0
 tk:List Int:=[]
 deriving DecidableEq,Inhabited
abbrev Lk.V (x:Lk):V:= .agg [vi x.st,vi x.pr,.sl 1 false (x.tk.map (V.int .i64))]
def Qv (g:Grammar) (E:Nat→Bool) (m:List Sta):List Lk:=(List.range m.length).flatMap fun(q:Nat)=>(xW g (qF m q)).map fun p=>
 {st:=q,pr:=p,tk:=(Xk g m q p).foldl (fun l b=>joinL l ((xG g E m).getD b.toNat [])) []}

theorem qRE {x y:Int}:(decide (x / 16=y / 16) && (decide (x % 16=y % 16) && true))=decide (x=y):=by
 rw[Bool.eq_iff_iff];simp only[Bool.and_eq_true,decide_eq_true_eq,and_true];omega
theorem qNU {neg:Bool} {x y:Int} {K:V→Prop} (hk:K (.bool (decide (x=y) != neg))):qau neg [1,1] (itV x) (itV y) K:=by
 refine qht (t:=decide (x=y)) ?_ hk
 rw[← qRE]
 rfl
theorem Zy {a b:List Int} (ha:a.length≤4611686018427387903) (hb:b.length≤4611686018427387903):Pure Try.prog 99 [.sl 2 false (a.map itV),.sl 2 false (b.map itV)] (.bool (decide (a=b))):=by
 refine pure_intro Try.func99 nm_ qAk (by show 2≤26;decide) ?_
 show ewp _ qjb _ _
 by_cases hl:a.length=b.length
 · repeat' with_reducible first
    |refine s_ ?_
    |simp only[wZZ,seval]
    |apply qa<;>intro h h_<;>(try simp only[wD,reduceCtorEq]at h_)<;>(try exact wb_)<;>(try simp only[h])
   refine qb ?nx1 (fun(k:Nat) s=>s.f 0=?v1_0∧s.f 1=?v1_1∧s.f 5=vi k∧(k≤a.length)∧(∀i,i<k→a[i]?=b[i]?)) (fun k=>a.length - k) (0) wj_ (by refine⟨?_,?_,?_,wo_,wo_⟩<;>first|(simp only[wL,wM,wN,wX,seval,Option.some.injEq]<;>exact wt_)|rfl|exact⟨_,rfl⟩) ?_
   intro k s hnx ⟨g0,g1,g5,k1_0,k1_1⟩
   have hz:=w1_ k
   by_cases hk:k<a.length
   · have hga:a[k]?=some a[k]:=ge_ hk
     have hgb:b[k]?=some b[k]:=ge_ o_
     by_cases he:a[k]=b[k]
     · have hn: ∀i,i<k+1→a[i]?=b[i]?:=fun i hi=>by
        by_cases e:i=k
        · subst e;rw[hga,hgb,he]
        · exact k1_1 i o_
       have hed:(decide (a[k]=b[k]) != true)=false:=by rw[decide_eq_true he];rfl
       repeat' with_reducible first
        |refine s_ ?_
        |simp only[wZZ,seval,g0,g1,g5,hz,hed]
        |apply qa<;>intro h h_<;>(try simp only[wD,reduceCtorEq]at h_)<;>(try exact wb_)<;>(try simp only[h])
        |refine t_ ?_
        |(refine qNU ?_)
       refine⟨wk_,k+1,o_,?_⟩
       refine⟨?_,?_,?_,?_,?_⟩
       iterate 3 (focus(first|(simp only[wL,wM,wN,wX,seval,Option.some.injEq,g0,g1,g5]<;>exact wt_)|rfl|exact⟨_,rfl⟩))
       all_goals try omega
     · have hne:a≠b:=fun e=>he (by subst e;rfl)
       rw[decide_eq_false hne]
       have hed:(decide (a[k]=b[k]) != true)=true:=by rw[decide_eq_false he];rfl
       repeat' with_reducible first
        |refine s_ ?_
        |simp only[wZZ,seval,g0,g1,g5,hz,hed]
        |apply qa<;>intro h h_<;>(try simp only[wD,reduceCtorEq]at h_)<;>(try exact wb_)<;>(try simp only[h])
        |refine t_ ?_
        |(refine qNU ?_)
       all_goals refine qA rfl (Or.inr rfl) ?_
       all_goals(try simp only[wL,seval,g0,g1,g5])
       all_goals refine er_ ?_
       all_goals(try(with_reducible rfl))
   · have e:a=b:=List.ext_getElem? fun i=>by
      by_cases hi:i<k
      · exact k1_1 i hi
      · rw[List.getElem?_eq_none o_,List.getElem?_eq_none o_]
     rw[decide_eq_true e]
     repeat' with_reducible first
      |refine s_ ?_
      |simp only[wZZ,seval,g0,g1,g5]
      |apply qa<;>intro h h_<;>(try simp only[wD,reduceCtorEq]at h_)<;>(try exact wb_)<;>(try simp only[h])
     all_goals refine qA rfl (Or.inr rfl) ?_
     all_goals(try simp only[wL,seval,g0,g1,g5])
     all_goals refine er_ ?_
     all_goals(try(with_reducible rfl))
 · have hne:a≠b:=fun e=>hl (by rw[e])
   rw[decide_eq_false hne]
   skip
   repeat' with_reducible first
    |refine s_ ?_
    |simp only[wZZ,seval]
    |apply qa<;>intro h h_<;>(try simp only[wD,reduceCtorEq]at h_)<;>(try exact wb_)<;>(try simp only[h])
   all_goals refine qA rfl (Or.inr rfl) ?_
   all_goals(try simp only[wL,seval])
   all_goals refine er_ ?_
   all_goals(try(with_reducible rfl))
theorem x9 {l:List Int} {x:Int} (hl:l.length≤1099511627776):Pure Try.prog 97 [.sl 2 false (l.map itV),itV x] (.sl 2 false ((jm l x).map itV)):=by
 refine pure_intro Try.func97 nm_ qwQ (by show 2≤71;decide) ?_
 show ewp _ qjO _ _
 repeat' with_reducible first
  |refine s_ ?_
  |simp only[wZZ,seval]
  |refine t_ ?_
 refine qb ?nx1 (fun(k:Nat) s=>s.f 0=?v1_0∧s.f 3=?v1_3∧s.H 0=some (.own 2 [itV x] false)∧s.f 5=vi k∧(k≤l.length)∧(Xv l x k=Xv l x l.length)) (fun k=>k) (l.length) wj_ (by refine⟨?_,?_,?_,?_,wo_,wo_⟩<;>first|(simp only[wL,wM,wN,wX,seval,Option.some.injEq]<;>exact wt_)|rfl|exact⟨_,rfl⟩) ?_
 intro k s hnx ⟨g0,g3,o0,g5,k1_0,k1_1⟩
 by_cases hk:k=0
 · subst hk
   have hc:Xv l x l.length=0:=k1_1.symm
   have hp:jm l x=[]++[x]++l:=by unfold jm;rw[hc];simp
   rw[hp]
   repeat' with_reducible first
    |refine s_ ?_
    |simp only[wZZ,seval,g0,g3,g5,o0]
    |apply XE;(focus(first|exact qU.sl|exact qU.asl|exact qU.str));exact wf_;(focus(unfold maxLen;first|omega|(simp only[wZ]<;>omega)))
    |(refine VI ?_;simp only[wM,wN,seval,g0,g3,g5,o0];apply qb5;(focus(first|exact qU.sl|exact qU.asl|exact qU.str));(exact wf_);(focus(unfold maxLen;first|omega|(simp only[wZ]<;>omega))))
    |apply yX;omega;exact wf_
    |apply kD;omega;exact wf_
    |refine t_ ?_
   refine qA rfl (Or.inr rfl) ?_
   simp only[wL,seval,g0,g3,g5]
   refine er_ ?_
   try(with_reducible rfl)
   simp
 · obtain ⟨m,rfl⟩: ∃m,k=m+1:=⟨k - 1,o_⟩
   have hm:m<l.length:=o_
   have hgm:l[m]?=some l[m]:=ge_ hm
   have hzm:IntKind.i64.wrap (((m+1:Nat):Int) - 1)=(m:Int):=by rw[wrap64 o_ o_];omega
   rw[QX,getD_eq hm]at k1_1
   by_cases hgt:x<l[m]
   · rw[if_pos hgt]at k1_1
     generalize l[m]=y at *
     repeat' with_reducible first
      |refine s_ ?_
      |simp only[wZZ,seval,g0,g3,g5,o0,hzm]
      |(first|apply qa|apply qg|apply qh)<;>intro h h_<;>(try simp only[wD,reduceCtorEq]at h_)<;>(try exact wb_)<;>(try simp only[h])
      |refine t_ ?_
      |simp(disch:=omega) only[w64,if_neg]
     all_goals exact⟨wg_,m,o_,trivial,trivial,trivial,rfl,o_,k1_1⟩
   · rw [if_neg hgt]at k1_1
     have hp:jm l x=if l[m]=x then l else l.take (m+1)++[x]++l.drop (m+1):=by
      unfold jm;rw[← k1_1];simp[ge_ hm]
     by_cases hx:l[m]=x
     · rw[hp,if_pos hx]
       have hed:(decide (l[m]=x) != false)=true:=by rw[decide_eq_true hx];rfl
       generalize l[m]=y at *
       repeat' with_reducible first
        |refine s_ ?_
        |simp only[wZZ,seval,g0,g3,g5,o0,hzm,hed]
        |(first|apply qa|apply qg|apply qh)<;>intro h h_<;>(try simp only[wD,reduceCtorEq]at h_)<;>(try exact wb_)<;>(try simp only[h])
        |refine t_ ?_
        |(refine qNU ?_)
        |simp(disch:=omega) only[w64,if_neg]
       all_goals refine qA rfl (Or.inr rfl) ?_
       all_goals(try simp only[wL,seval,g0,g3,g5])
       all_goals refine er_ ?_
       all_goals(try(with_reducible rfl))
     · rw[hp,if_neg hx]
       have hed:(decide (l[m]=x) != false)=false:=by rw[decide_eq_false hx];rfl
       generalize l[m]=y at *
       repeat' with_reducible first
        |refine s_ ?_
        |simp only[wZZ,seval,g0,g3,g5,o0,hzm,hed]
        |(first|apply qa|apply qg|apply qh)<;>intro h h_<;>(try simp only[wD,reduceCtorEq]at h_)<;>(try exact wb_)<;>(try simp only[h])
        |refine t_ ?_
        |(refine qNU ?_)
        |apply XE;(focus(first|exact qU.sl|exact qU.asl|exact qU.str));exact wf_;(focus(unfold maxLen;first|omega|(simp only[wZ]<;>omega)))
        |(refine VI ?_;simp only[wM,wN,seval,g0,g3,g5,o0,hzm,hed];apply qb5;(focus(first|exact qU.sl|exact qU.asl|exact qU.str));(exact wf_);(focus(unfold maxLen;first|omega|(simp only[wZ]<;>omega))))
        |apply yX;omega;exact wf_
        |apply kD;omega;exact wf_
        |simp(disch:=omega) only[w64,if_neg]
       all_goals refine qA rfl (Or.inr rfl) ?_
       all_goals(try simp only[wL,seval,g0,g3,g5])
       all_goals refine er_ ?_
       all_goals(try(with_reducible rfl))

theorem qaa {a:List Int} {x:Int} (h:jO (a++[x])):jm a x=a++[x]:=by
 have ha:jO a:=h.sublist (List.sublist_append_left _ _)
 exact Xc (jN ha) h fun y=>by rw[zD,List.mem_append,List.mem_singleton]
theorem QL.nat {g:Grammar} {x:Int} (h:QL g x): ∃(m d:Nat) (p:GPr),x / 16=(m:Int)∧x % 16=(d:Int)∧g.prods[m]?=some p∧d≤p.right.length∧nxt g x=(p.right[d]?).getD (-1):=by
 obtain ⟨h0,p,hp,hd⟩:=h
 refine⟨(x / 16).toNat,(x % 16).toNat,p,o_,o_,hp,hd,?_⟩
 unfold nxt
 rw[hp];rfl
theorem vV {g:Grammar} {x:Int} (hx:QL g x) (hpl:g.prods.length≤60) (hrl: ∀p∈g.prods,p.right.length≤8):Pure Try.prog 98 [g.V,itV x] (.bool true):=by
 refine pure_intro Try.func98 nm_ qv4 (by show 2≤34;decide) ?_
 show ewp _ qy4 _ _
 obtain ⟨m,d,p,hm,hd,hp,hl,hn⟩:=hx.nat
 have hml:=(List.getElem?_eq_some_iff.1 hp).1
 have hrl:=hrl p (List.mem_of_getElem? hp)
 have hV:itV x=.agg [vi m,vi d]:=by rw[← hm,← hd]
 rw[hV]
 obtain ⟨pl,pr,pc,pco,pa,pat⟩:=p
 dsimp only at hl hrl
 repeat' with_reducible first
  |refine s_ ?_
  |simp only[wZZ,seval]
  |(first|apply qg|apply qh)<;>intro h h_<;>(try simp only[wD,reduceCtorEq]at h_)<;>(try exact wb_)<;>(try simp only[h])
  |refine t_ ?_
 all_goals refine qA rfl (Or.inr rfl) ?_
 all_goals(try simp only[wL,seval])
 all_goals refine er_ ?_
 all_goals(try(with_reducible rfl))
 all_goals exact decide_eq_true o_
theorem xK {g:Grammar} {x:Int} (hx:QL g x) (hpl:g.prods.length≤60) (hrl: ∀p∈g.prods,p.right.length≤8):Pure Try.prog 75 [g.V,itV x] (vi (nxt g x)):=by
 refine pure_intro Try.func75 nm_ qJj (by show 2≤33;decide) ?_
 show ewp _ qE7 _ _
 have hit:=vV hx hpl hrl
 obtain ⟨m,d,p,hm,hd,hp,hl,hn⟩:=hx.nat
 have hml:=(List.getElem?_eq_some_iff.1 hp).1
 have hrl:=hrl p (List.mem_of_getElem? hp)
 have hV:itV x=.agg [vi m,vi d]:=by rw[← hm,← hd]
 rw[hV]at hit
 rw[hV,hn]
 obtain ⟨pl,pr,pc,pco,pa,pat⟩:=p
 dsimp only at hl hrl ⊢
 by_cases hdl:d<pr.length
 · have hgd:pr[d]?=some pr[d]:=ge_ hdl
   rw[hgd,Option.getD_some]
   generalize pr[d]=sy at *
   repeat' with_reducible first
    |refine s_ ?_
    |simp only[wZZ,seval]
    |apply qa<;>intro h h_<;>(try simp only[wD,reduceCtorEq]at h_)<;>(try exact wb_)<;>(try simp only[h])
    |refine t_ ?_
    |refine cq2 hit qc qc ?_
   all_goals refine qA rfl (Or.inr rfl) ?_
   all_goals(try simp only[wL,seval])
   all_goals refine er_ ?_
   all_goals(try(with_reducible rfl))
 · rw[List.getElem?_eq_none o_,Option.getD_none]
   repeat' with_reducible first
    |refine s_ ?_
    |simp only[wZZ,seval]
    |apply qa<;>intro h h_<;>(try simp only[wD,reduceCtorEq]at h_)<;>(try exact wb_)<;>(try simp only[h])
    |refine t_ ?_
    |refine cq2 hit qc qc ?_
   all_goals refine qA rfl (Or.inr rfl) ?_
   all_goals(try simp only[wL,seval])
   all_goals refine er_ ?_
   all_goals(try(with_reducible rfl))
theorem Ji {g:Grammar} {l:List Int} (hx: ∀x∈l,QL g x) (hr:jO l) (hl:l.length≤1000000) (hpl:g.prods.length≤60) (hrl: ∀p∈g.prods,p.right.length≤8):Pure Try.prog 96 [g.V,.sl 2 false (l.map itV)] (.sl 2 false (l.map itV)):=by
 refine pure_intro Try.func96 nm_ qDO (by show 2≤26;decide) ?_
 show ewp _ qjc _ _
 repeat' with_reducible first
  |refine s_ ?_
  |simp only[wZZ,seval]
  |refine t_ ?_
 refine qb ?nx1 (fun(i:Nat) s=>s.f 1=?v1_1∧s.f 2=?v1_2∧s.H 0=some (.own 5 [g.V] false)∧(∃c,s.f 5=.sl 2 c ((l.take i).map itV))∧s.f 6=vi i∧(i≤l.length)) (fun i=>l.length - i) (0) wj_ (by refine⟨?_,?_,?_,?_,?_,wo_⟩<;>first|(simp only[wL,wM,wN,wX,seval,Option.some.injEq]<;>exact wt_)|rfl|exact⟨_,rfl⟩) ?_
 intro i s hnx ⟨g1,g2,o0,⟨c5,g5⟩,g6,k1_0⟩
 have hz:=w1_ i
 by_cases hi:i<l.length
 · have hgi:l[i]?=some l[i]:=ge_ hi
   have htk:l.take (i+1)=l.take i++[l[i]]:=by rw[List.take_add_one,hgi];rfl
   have hit:=vV (hx _ (List.getElem_mem hi)) hpl hrl
   have hput:=x9 (l:=l.take i) (x:=l[i]) (by rw[List.length_take];omega)
   rw[qaa (by rw[← htk];exact hr.sublist (List.take_sublist _ _)),← htk]at hput
   generalize l[i]=x at *
   repeat' with_reducible first
    |refine s_ ?_
    |simp only[wZZ,seval,g1,g2,g5,g6,o0,hz]
    |apply qa<;>intro h h_<;>(try simp only[wD,reduceCtorEq]at h_)<;>(try exact wb_)<;>(try simp only[h])
    |refine t_ ?_
    |refine cq2 hit qc qc ?_
    |refine cq2 hput jA qc ?_
   refine⟨wk_,i+1,o_,?_⟩
   refine⟨?_,?_,?_,?_,?_,?_⟩
   iterate 5 (focus(first|(simp only[wL,wM,wN,wX,seval,Option.some.injEq,g1,g2,g5,g6,o0]<;>exact wt_)|rfl|exact⟨_,rfl⟩))
   all_goals try omega
 · have e:l.take i=l:=List.take_of_length_le o_
   rw[e]at g5
   repeat' with_reducible first
    |refine s_ ?_
    |simp only[wZZ,seval,g1,g2,g5,g6,o0,hz]
    |apply qa<;>intro h h_<;>(try simp only[wD,reduceCtorEq]at h_)<;>(try exact wb_)<;>(try simp only[h])
   all_goals refine qA rfl (Or.inr rfl) ?_
   all_goals(try simp only[wL,seval,g1,g2,g5,g6])
   all_goals refine er_ ?_
   all_goals(try(with_reducible rfl))

structure ClM (g:Grammar) (l c:List Int):Prop where
 rise:jO c
 has: ∀x∈l,x∈c
 least: ∀D,qNT g l D→ ∀x∈c,D x
 ok: ∀x∈c,QL g x
theorem ClM.len {g:Grammar} {l c:List Int} (h:ClM g l c) (hpl:g.prods.length≤60):c.length≤960:=
 xR (a:=0) h.rise fun x hx=>by
  obtain ⟨h0,p,hp,_⟩:=h.ok x hx
  have:=(List.getElem?_eq_some_iff.1 hp).1
  omega
theorem ClM.put {g:Grammar} {l c:List Int} (h:ClM g l c) {y:Int} {m:Nat} {p:GPr} (hy:y∈c) (hp:g.prods[m]?=some p) (h1:1000≤nxt g y) (h2:p.left=nxt g y - 1000):ClM g l (jm c (16 *(m:Int))):=by
 refine⟨jN h.rise,fun x hx=>zD.2 (Or.inl (h.has x hx)),fun D hD x hx=>?_,fun x hx=>?_⟩
 · rcases zD.1 hx with hx|rfl
   · exact h.least D hD x hx
   · exact hD.2 y (h.least D hD y hy) m p hp h1 h2
 · rcases zD.1 hx with hx|rfl
   · exact h.ok x hx
   · exact qd1 hp
def qHQ (g:Grammar) (y:Int) (c:List Int):Prop:= ∀(m:Nat) p,g.prods[m]?=some p→1000≤nxt g y→p.left=nxt g y - 1000→16 *(m:Int)∈c
theorem ClM.done {g:Grammar} {l c:List Int} (h:ClM g l c) (hc: ∀y∈c,qHQ g y c):IsCl g l c:=
 ⟨h.rise,⟨h.has,fun x hx m p hp h1 h2=>hc x hx m p hp h1 h2⟩,h.least⟩
theorem qeu {g:Grammar} (hg:GOk g) {x:Int} (hx:QL g x): -1≤nxt g x∧nxt g x<2000:=by
 obtain ⟨m,d,p,_,_,hp,_,hn⟩:=hx.nat
 rw[hn]
 cases h:p.right[d]? with
 |none=>simp
 | some s=>
   have h1:=hg.tk2;have h2:=hg.nn2
   rcases hg.right p (List.mem_of_getElem? hp) s (List.mem_of_getElem? h)with ⟨t,rfl,ht⟩|⟨k,rfl,hk⟩<;>simp<;>omega
theorem jQ {g:Grammar} {l:List Int} (hx: ∀x∈l,QL g x) (hr:jO l) (hl:l.length≤1000000) (hg:GOk g):Pure Try.prog 74 [g.V,.sl 2 false (l.map itV)] (.sl 2 false ((zy g l).map itV)):=by
 refine pure_intro Try.func74 nm_ qzc (by show 2≤59;decide) ?_
 show ewp _ qis _ _
 have hpl:=hg.pl2;have hrl:=hg.rlen
 have hri:=Ji hx hr hl hpl hrl
 repeat' with_reducible first
  |refine s_ ?_
  |simp only[wZZ,seval]
  |refine cq2 hri qc qc ?_
  |refine t_ ?_
 refine qb ?nx1 (fun(q:List Int×Int) s=>s.f 2=?v1_2∧s.H 0=some (.own 5 [g.V] false)∧s.f 5=.sl 2 false (q.1.map itV)∧s.f 6=vi q.2∧(ClM g l q.1)∧((q.2=(q.1.length:Int)→ ∀y∈q.1,qHQ g y q.1))) (fun q=>2 *(961 - q.1.length)+(if q.2=(q.1.length:Int)then 0 else 1)) ((l,-1)) wj_ (by refine⟨?_,?_,?_,?_,(by exact⟨hr,fun _ h=>h,fun D hD=>hD.1,hx⟩),(by intro e;omega)⟩<;>first|(simp only[wL,wM,wN,wX,seval,Option.some.injEq]<;>exact wt_)|rfl|exact⟨_,rfl⟩) ?_
 intro q s hnx ⟨g2,o0,g5,g6,k1_0,k1_1⟩
 obtain ⟨c,n⟩:=q
 dsimp only at *
 have hcl:=k1_0.len hpl
 by_cases hn:n=(c.length:Int)
 · have hd:=(k1_0.done (k1_1 hn)).uniq (KR hpl hrl hx hr)
   rw[← hd]
   subst hn
   repeat' with_reducible first
    |refine s_ ?_
    |simp only[wZZ,seval,g2,g5,g6,o0]
   all_goals refine qA rfl (Or.inr rfl) ?_
   all_goals(try simp only[wL,seval,g2,g5,g6])
   all_goals refine er_ ?_
   all_goals(try(with_reducible rfl))
 · repeat' with_reducible first
    |refine s_ ?_
    |simp only[wZZ,seval,g2,g5,g6,o0]
    |apply qa<;>intro h h_<;>(try simp only[wD,reduceCtorEq]at h_)<;>(try exact wb_)<;>(try simp only[h])
    |simp(disch:=omega) only[w64,if_neg]
   refine qb ?nx2 (fun(i:Nat) s=>s.f 2=?v2_2∧s.f 6=?v2_6∧s.H 0=some (.own 5 [g.V] false)∧s.f 7=vi i∧(i≤c.length)∧((∀y∈c.take i,qHQ g y c))∧(s.f 5=.sl 2 false (c.map itV))) (fun i=>c.length - i) (0) wj_ (by refine⟨?_,?_,?_,?_,wo_,(by intro y hy;simp at hy),(by(try simp only[wL,wM,wN,seval,g2,g5,g6,o0]);first|done|rfl)⟩<;>first|(simp only[wL,wM,wN,wX,seval,Option.some.injEq,g2,g5,g6,o0]<;>exact wt_)|rfl|exact⟨_,rfl⟩) ?_
   intro i s hnx ⟨g2,g6,o0,g7,k2_0,k2_1,g5⟩
   have hz:=w1_ i
   by_cases hi:i<c.length
   · have hgi:c[i]?=some c[i]:=ge_ hi
     have hyc:=List.getElem_mem hi
     have htk:c.take (i+1)=c.take i++[c[i]]:=by rw[List.take_add_one,hgi];rfl
     have hok:=k1_0.ok _ hyc
     have hnx:=xK hok hpl hrl
     have hbd:=qeu hg hok
     generalize c[i]=y at *
     generalize hs:nxt g y=sy at *
     repeat' with_reducible first
      |refine s_ ?_
      |simp only[wZZ,seval,g2,g6,g7,g5,o0,hz]
      |apply qa<;>intro h h_<;>(try simp only[wD,reduceCtorEq]at h_)<;>(try exact wb_)<;>(try simp only[h])
      |refine t_ ?_
      |refine cq2 hnx qc qc ?_
     refine qb ?nx3 (fun(r:Nat×List Int) s=>s.f 2=?v3_2∧s.f 6=?v3_6∧s.f 7=?v3_7∧s.f 8=?v3_8∧s.H 0=some (.own 5 [g.V] false)∧s.f 9=vi r.1∧(r.1≤g.prods.length)∧(ClM g l r.2)∧((∀x∈c,x∈r.2))∧((∀(m:Nat) p,m<r.1→g.prods[m]?=some p→1000≤sy→p.left=sy - 1000→16 *(m:Int)∈r.2))∧(s.f 5=.sl 2 false (r.2.map itV))) (fun r=>g.prods.length - r.1) ((0,c)) wj_ (by refine⟨?_,?_,?_,?_,?_,?_,wo_,(by exact k1_0),(by exact fun _ h=>h),(by intro m p h;exact absurd h (Nat.not_lt_zero m)),(by(try simp only[wL,wM,wN,seval,g2,g6,g7,g5,o0]);first|done|rfl)⟩<;>first|(simp only[wL,wM,wN,wX,seval,Option.some.injEq,g2,g6,g7,g5,o0]<;>exact wt_)|rfl|exact⟨_,rfl⟩) ?_
     intro r s hnx ⟨g2,g6,g7,g8,o0,g9,k3_0,k3_1,k3_2,k3_3,g5⟩
     obtain ⟨j,o⟩:=r
     dsimp only at *
     have hol:=k3_1.len hpl
     have hzj:=w1_ j
     have hzs:IntKind.i64.wrap (sy - 1000)=sy - 1000:=wrap64 o_ o_
     by_cases hj:j<g.prods.length∧1000≤sy
     · obtain ⟨hj1,hj2⟩:=hj
       have hgj:g.prods[j]?=some g.prods[j]:=ge_ hj1
       obtain ⟨lf,hl1,hl2⟩:=hg.left _ (List.getElem_mem hj1)
       generalize g.prods[j]=p at *
       have hput:=x9 (l:=o) (x:=16 *(j:Int)) o_
       have hkv:itV (16 *(j:Int))=.agg [vi j,vi 0]:=by
        show V.agg [vi (16 *(j:Int) / 16),vi (16 *(j:Int) % 16)]=_
        rw[show 16 *(j:Int) / 16=(j:Int) by omega,show 16 *(j:Int) % 16=0 by omega]
       rw[hkv]at hput
       obtain ⟨pl,pr,pc,pco,pa,pat⟩:=p
       dsimp only at hl1
       by_cases he:pl=sy - 1000
       · have hnew:=k3_1.put (y:=y) (k3_2 y hyc) hgj o_ (by rw[hs];exact he)
         subst hl1
         repeat' with_reducible first
          |refine s_ ?_
          |simp only[wZZ,seval,g2,g6,g7,g8,g9,g5,o0,hz,hzj,hzs]
          |(first|apply qa|apply qg|apply qh)<;>intro h h_<;>(try simp only[wD,reduceCtorEq]at h_)<;>(try exact wb_)<;>(try simp only[h])
          |refine t_ ?_
          |refine cq2 hput qc qc ?_
         refine⟨wg_,(j+1,jm o (16 *(j:Int))),by dsimp only;omega,?_⟩;(repeat refine⟨True.intro,?_⟩)
         refine⟨rfl,by dsimp only;omega,hnew,fun x hx=>zD.2 (Or.inl (k3_2 x hx)),fun m p hm hp h1 h2=>?_,rfl⟩
         dsimp only at hm ⊢
         by_cases e:m=j
         · subst e;exact zD.2 (Or.inr rfl)
         · exact zD.2 (Or.inl (k3_3 m p o_ hp h1 h2))
       · have hnn: ∀(m:Nat) p,m<j+1→g.prods[m]?=some p→1000≤sy→p.left=sy - 1000→16 *(m:Int)∈o:=fun m p hm hp h1 h2=>by
          by_cases e:m=j
          · subst e;rw[hgj]at hp;cases hp;exact absurd h2 he
          · exact k3_3 m p o_ hp h1 h2
         subst hl1
         repeat' with_reducible first
          |refine s_ ?_
          |simp only[wZZ,seval,g2,g6,g7,g8,g9,g5,o0,hz,hzj,hzs]
          |(first|apply qa|apply qg|apply qh)<;>intro h h_<;>(try simp only[wD,reduceCtorEq]at h_)<;>(try exact wb_)<;>(try simp only[h])
          |refine t_ ?_
         refine⟨wg_,(j+1,o),by dsimp only;omega,?_⟩;(repeat refine⟨True.intro,?_⟩)
         exact⟨rfl,by dsimp only;omega,k3_1,k3_2,hnn,rfl⟩
     · have hat:qHQ g y o:=fun m p hp h1 h2=>by
        rw[hs]at h1 h2
        have:=(List.getElem?_eq_some_iff.1 hp).1
        exact k3_3 m p o_ hp h1 h2
       by_cases hlen:o.length=c.length
       · have hoc:c=o:=Q8 k1_0.rise k3_1.rise k3_2 o_
         subst hoc
         have hnn: ∀z∈c.take (i+1),qHQ g z c:=fun z hz=>by
          rw[htk]at hz
          rcases List.mem_append.1 hz with hz|hz
          · exact k2_1 z hz
          · rw[List.mem_singleton]at hz;subst hz;exact hat
         repeat' with_reducible first
          |refine s_ ?_
          |simp only[wZZ,seval,g2,g6,g7,g8,g9,g5,o0,hz]
          |(first|apply qa|apply qg|apply qh)<;>intro h h_<;>(try simp only[wD,reduceCtorEq]at h_)<;>(try exact wb_)<;>(try simp only[h])
          |refine t_ ?_
         all_goals refine⟨wg_,i+1,o_,?_⟩;(repeat refine⟨True.intro,?_⟩)
         all_goals exact⟨rfl,o_,hnn,trivial⟩
       · have hle:c.length≤o.length:=by
          have: ∀(a b:List Int),jO a→(∀x∈a,x∈b)→jO b→a.length≤b.length:=fun a b ha hb hr=>by
           by_cases h:b.length≤a.length
           · rw[Q8 ha hr hb h];exact Nat.le_refl _
           · omega
          exact this c o k1_0.rise k3_2 k3_1.rise
         repeat' with_reducible first
          |refine s_ ?_
          |simp only[wZZ,seval,g2,g6,g7,g8,g9,g5,o0,hz]
          |(first|apply qa|apply qg|apply qh)<;>intro h h_<;>(try simp only[wD,reduceCtorEq]at h_)<;>(try exact wb_)<;>(try simp only[h])
          |refine t_ ?_
         all_goals refine⟨wg_,(o,(c.length:Int)),by dsimp only;rw[if_neg o_];omega,?_⟩;(repeat refine⟨True.intro,?_⟩)
         all_goals exact⟨rfl,rfl,k3_1,fun e=>by dsimp only at e;omega⟩
   · have hcc:c.take i=c:=List.take_of_length_le o_
     rw[hcc]at k2_1
     skip
     repeat' with_reducible first
      |refine s_ ?_
      |simp only[wZZ,seval,g2,g6,g7,g5,o0,hz]
      |apply qa<;>intro h h_<;>(try simp only[wD,reduceCtorEq]at h_)<;>(try exact wb_)<;>(try simp only[h])
     refine⟨wg_,(c,(c.length:Int)),by dsimp only;rw[if_pos rfl];omega,?_⟩;(repeat refine⟨True.intro,?_⟩)
     exact⟨rfl,rfl,k1_0,fun _=>k2_1⟩
end Go.Proofs
