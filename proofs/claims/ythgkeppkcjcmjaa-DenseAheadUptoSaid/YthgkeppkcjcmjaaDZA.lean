/- Part of a proof that a law of the given program answers true. -/
import Derived.Test.YthgkeppkcjcmjaaDLA
import Derived.Test.YthgkeppkcjcmjaaDKA
import Derived.Test.YthgkeppkcjcmjaaDCA
set_option linter.unusedSimpArgs false
set_option linter.unusedVariables false
set_option maxHeartbeats 4000000
namespace Go.Proofs
open Go.E
abbrev itV (x:Int):V:= .agg [vi (x / 16),vi (x % 16)]
abbrev prV (p:Int×Int):V:= .agg [vi p.1,vi p.2]
def Zb (g:Grammar) (x:Int):Prop:=0≤x∧ ∃p,g.prods[(x / 16).toNat]?=some p∧(x % 16).toNat≤p.right.length
def nxt (g:Grammar) (x:Int):Int:=((g.prods[(x / 16).toNat]?).bind fun p=>p.right[(x % 16).toNat]?).getD (-1)
def qJ3 (g:Grammar) (l:List Int) (D:Int→Prop):Prop:=(∀x∈l,D x)∧ ∀x,D x→ ∀(m:Nat) p,g.prods[m]?=some p→1000≤nxt g x→p.left=nxt g x - 1000→D (16 *(m:Int))
structure IsCl (g:Grammar) (l c:List Int):Prop where
 rise:jU c
 clo:qJ3 g l (· ∈c)
 least: ∀D,qJ3 g l D→ ∀x∈c,D x
theorem IsCl.uniq {g:Grammar} {l c c':List Int} (h:IsCl g l c) (h':IsCl g l c'):c=c':=
 Xk h.rise h'.rise fun x=>⟨h.least _ h'.clo x,h'.least _ h.clo x⟩
theorem qe1 {g:Grammar} {m:Nat} {p:GPr} (h:g.prods[m]?=some p):Zb g (16 *(m:Int)):=by
 have e:(16 *(m:Int)) / 16=m:=by omega
 have e2:(16 *(m:Int)) % 16=0:=by omega
 exact⟨by omega,p,by rw[e];exact h,by rw[e2];exact Nat.zero_le _⟩
theorem IsCl.ok {g:Grammar} {l c:List Int} (h:IsCl g l c) (hl: ∀x∈l,Zb g x): ∀x∈c,Zb g x:=
 h.least _ ⟨hl,fun x hx m p hp _ _=>qe1 hp⟩
theorem IsCl.cases {g:Grammar} {l c:List Int} (h:IsCl g l c): ∀x∈c,x∈l∨ ∃y∈c,∃(m:Nat) (p:GPr),x=16 *(m:Int)∧g.prods[m]?=some p∧1000≤nxt g y∧p.left=nxt g y - 1000:=by
 have:=h.least (fun x=>x∈c∧(x∈l∨ ∃y∈c,∃(m:Nat) (p:GPr),x=16 *(m:Int)∧g.prods[m]?=some p∧1000≤nxt g y∧p.left=nxt g y - 1000)) ⟨fun x hx=>⟨h.clo.1 x hx,Or.inl hx⟩,fun x hx m p hp h1 h2=>⟨h.clo.2 x hx.1 m p hp h1 h2,Or.inr ⟨x,hx.1,m,p,rfl,hp,h1,h2⟩⟩⟩
 exact fun x hx=>(this x hx).2
def qHF (g:Grammar) (s:Int) (o:List Int):List Int:=(List.range g.prods.length).foldl (fun o (m:Nat)=>if 1000≤s∧(g.prods[m]?.map (·.left)).getD 0=s - 1000 then jw o (16 *(m:Int))else o) o
def qdF (g:Grammar) (c:List Int):List Int:=c.foldl (fun o x=>qHF g (nxt g x) o) c
def qbY (g:Grammar):Nat→List Int→List Int
 |0,c=>c
 |n+1,c=>if qdF g c=c then c else qbY g n (qdF g c)
theorem YD {α β:Type} {P:β→Prop} {f:β→α→β}: ∀(l:List α) (b:β),P b→(∀b a,a∈l→P b→P (f b a))→P (l.foldl f b)
 |[],b,h,_=>h
 |a::l,b,h,hf=>YD l (f b a) (hf b a (by simp) h) fun b x hx=>hf b x (List.mem_cons_of_mem _ hx)
theorem qg3 {g:Grammar} {s:Int} {o:List Int}: ∀x,x∈qHF g s o↔x∈o∨ ∃(m:Nat) (p:GPr),x=16 *(m:Int)∧g.prods[m]?=some p∧1000≤s∧p.left=s - 1000:=by
 have key : ∀(k:Nat) (o:List Int),k≤g.prods.length→ ∀x,x∈(List.range k).foldl (fun o (m:Nat)=>if 1000≤s∧(g.prods[m]?.map (·.left)).getD 0=s - 1000 then jw o (16 *(m:Int))else o) o↔x∈o∨ ∃(m:Nat) (p:GPr),m<k∧x=16 *(m:Int)∧g.prods[m]?=some p∧1000≤s∧p.left=s - 1000:=by
  intro k
  induction k with
  |zero=>intro o _ x;simp
  | succ k ih=>
    intro o hk x
    rw[List.range_succ,List.foldl_append,List.foldl_cons,List.foldl_nil]
    have hgp:g.prods[k]?=some g.prods[k]:=ge_ (by omega)
    by_cases hc:1000≤s∧(g.prods[k]?.map (·.left)).getD 0=s - 1000
    · rw [if_pos hc,zo,ih o (by omega)]
      rw[hgp]at hc
      constructor
      · rintro ((h|⟨m,p,h1,h2⟩)|h)
        · exact Or.inl h
        · exact Or.inr ⟨m,p,by omega,h2⟩
        · exact Or.inr ⟨k,_,by omega,h,hgp,hc.1,hc.2⟩
      · rintro (h|⟨m,p,h1,h2,h3⟩)
        · exact Or.inl (Or.inl h)
        · by_cases e:m=k
          · subst e;exact Or.inr h2
          · exact Or.inl (Or.inr ⟨m,p,by omega,h2,h3⟩)
    · rw [if_neg hc,ih o (by omega)]
      constructor
      · rintro (h|⟨m,p,h1,h2⟩)
        · exact Or.inl h
        · exact Or.inr ⟨m,p,by omega,h2⟩
      · rintro (h|⟨m,p,h1,h2,h3,h4⟩)
        · exact Or.inl h
        · by_cases e:m=k
          · subst e;rw[h3]at hc;exact absurd h4 hc
          · exact Or.inr ⟨m,p,by omega,h2,h3,h4⟩
 intro x
 unfold qHF
 rw[key _ o (Nat.le_refl _)]
 constructor
 · rintro (h|⟨m,p,_,h⟩)
   · exact Or.inl h
   · exact Or.inr ⟨m,p,h⟩
 · rintro (h|⟨m,p,h1,h2,h3⟩)
   · exact Or.inl h
   · exact Or.inr ⟨m,p,(List.getElem?_eq_some_iff.1 h2).1,h1,h2,h3⟩
theorem qeE {g:Grammar} {s:Int} {o:List Int} (h:jU o):jU (qHF g s o):=
 YD _ _ h fun b a _ hb=>by split;exact jS hb;exact hb
theorem Zu {g:Grammar} {c:List Int}: ∀x,x∈qdF g c↔x∈c∨ ∃y∈c,∃(m:Nat) (p:GPr),x=16 *(m:Int)∧g.prods[m]?=some p∧1000≤nxt g y∧p.left=nxt g y - 1000:=by
 have key: ∀(l o:List Int) x,x∈l.foldl (fun o x=>qHF g (nxt g x) o) o↔x∈o∨ ∃y∈l,∃(m:Nat) (p:GPr),x=16 *(m:Int)∧g.prods[m]?=some p∧1000≤nxt g y∧p.left=nxt g y - 1000:=by
  intro l
  induction l with
  |nil=>intro o x;simp
  | cons a l ih=>
    intro o x
    rw[List.foldl_cons,ih,qg3]
    constructor
    · rintro ((h|h)|⟨y,h1,h2⟩)
      · exact Or.inl h
      · exact Or.inr ⟨a,by simp,h⟩
      · exact Or.inr ⟨y,List.mem_cons_of_mem _ h1,h2⟩
    · rintro (h|⟨y,h1,h2⟩)
      · exact Or.inl (Or.inl h)
      · rcases List.mem_cons.1 h1 with rfl|h1
        · exact Or.inl (Or.inr h2)
        · exact Or.inr ⟨y,h1,h2⟩
 exact fun x=>key c c x
theorem Vk {g:Grammar} {c:List Int} (h:jU c):jU (qdF g c):=YD _ _ h fun b a _ hb=>qeE hb
theorem xZ {N:Nat}: ∀{l:List Int} {a:Int},jU l→(∀x∈l,a≤x∧x<a+N)→l.length≤N:=by
 intro l
 induction l generalizing N with
 |nil=>intros;exact Nat.zero_le _
 | cons x l ih=>
   intro a h hb
   have h':=List.pairwise_cons.1 h
   have h1:=hb x (by simp)
   cases N with
   |zero=>omega
   | succ N=>
     have:=ih (N:=N) (a:=a+1) h'.2 fun y hy=>by
      have:=h'.1 y hy;have:=hb y (List.mem_cons_of_mem _ hy);omega
     rw[List.length_cons];omega
theorem Zt {a b:List Int} (ha:jU a) (hb:jU b) (h: ∀x∈a,x∈b) (hl:b.length≤a.length):a=b:=by
 have hs:a.Sublist b:=by
  clear hl
  induction b generalizing a with
  | nil=>
    cases a with
    |nil=>exact List.Sublist.slnil
    |cons x a=>exact absurd (h x (by simp)) (by simp)
  | cons y b ih=>
    have hb':=List.pairwise_cons.1 hb
    cases a with
    |nil=>exact List.nil_sublist _
    | cons x a=>
      have ha':=List.pairwise_cons.1 ha
      rcases List.mem_cons.1 (h x (by simp))with e|e
      · subst e
        refine List.Sublist.cons_cons _ (ih ha'.2 hb'.2 fun z hz=>?_)
        rcases List.mem_cons.1 (h z (List.mem_cons_of_mem _ hz))with e|e
        · subst e;have:=ha'.1 z hz;omega
        · exact e
      · refine List.Sublist.cons _ (ih ha hb'.2 fun z hz=>?_)
        rcases List.mem_cons.1 (h z hz)with e2|e2
        · subst e2
          have h1:=hb'.1 x e
          rcases List.mem_cons.1 hz with e3|e3
          · omega
          · have:=ha'.1 z e3;omega
        · exact e2
 exact hs.eq_of_length_le hl
theorem X6 {g:Grammar} {l:List Int} (hlen:g.prods.length≤60) (hrl: ∀p∈g.prods,p.right.length≤8) (hl: ∀x∈l,Zb g x): ∀(n:Nat) (c:List Int),jU c→(∀x∈l,x∈c)→(∀D,qJ3 g l D→ ∀x∈c,D x)→(∀x∈c,Zb g x)→961≤c.length+n→IsCl g l (qbY g n c)
 | n, c, hr,h1,h2,h3,hn=>by
   have hb: ∀x∈c,0≤x∧x<0+(960:Nat):=fun x hx=>by
    obtain ⟨h0,p,hp,_⟩:=h3 x hx
    have:=(List.getElem?_eq_some_iff.1 hp).1
    omega
   have hc:=xZ hr hb
   match n with
   |0=>omega
   | n + 1=>
     unfold qbY
     have up: ∀x∈c,x∈qdF g c:=fun x hx=>(Zu x).2 (Or.inl hx)
     split
     · rename_i e
       exact⟨hr,⟨h1,fun x hx m p hp h4 h5=>by rw[← e];exact(Zu _).2 (Or.inr ⟨x,hx,m,p,rfl,hp,h4,h5⟩)⟩,h2⟩
     · rename_i e
       refine X6 hlen hrl hl n _ (Vk hr) (fun x hx=>up x (h1 x hx)) (fun D hD x hx=>?_) (fun x hx=>?_) ?_
       · rcases (Zu x).1 hx with h|⟨y,hy,m,p,rfl,hp,h4,h5⟩
         · exact h2 D hD x h
         · exact hD.2 y (h2 D hD y hy) m p hp h4 h5
       · rcases (Zu x).1 hx with h|⟨y,hy,m,p,rfl,hp,h4,h5⟩
         · exact h3 x h
         · exact qe1 hp
       · have: ¬ (qdF g c).length≤c.length:=fun h=>e (Zt hr (Vk hr) up h).symm
         omega
def zC (g:Grammar) (l:List Int):List Int:=qbY g 961 l
theorem KO {g:Grammar} {l:List Int} (hlen:g.prods.length≤60) (hrl: ∀p∈g.prods,p.right.length≤8) (hl: ∀x∈l,Zb g x) (hr:jU l):IsCl g l (zC g l):=
 X6 hlen hrl hl 961 l hr (fun _ h=>h) (fun D hD=>hD.1) hl (by omega)

structure Sta where
 ker:List Int:=[]
 mov:List (Int×Int):=[]
 deriving DecidableEq,Inhabited
abbrev Sta.V (q:Sta):V:= .agg [.sl 2 false (q.ker.map itV),.sl 2 false (q.mov.map prV)]
def QB (g:Grammar) (k:List Int) (s:Int):List Int:=(zC g k).foldl (fun o x=>if 0≤nxt g x∧nxt g x=s then jw o (x+1)else o) []
def jv (g:Grammar):List Int:=(List.range g.toks.length).map (fun(i:Nat)=>(i:Int))++(List.range g.nons.length).map fun(i:Nat)=>1000+(i:Int)
def qaU (g:Grammar) (c:List Int):List Int:=c.foldl (fun a x=>if 0≤nxt g x then jw a (nxt g x)else a) []
def JQ (k:List Int):List Sta→Nat→Int
 |[],_=> -1
 |q::m,i=>if q.ker=k then(i:Int)else JQ k m (i+1)
def Zi (m:List Sta) (k:List Int):Int:=JQ k m 0
def xR (m:List Sta) (i:Nat) (s t:Int):List Sta:=m.modify i fun q=>{q with mov:=q.mov++[(s,t)]}
def qJ (m:List Sta) (i:Nat):List Int:=(m[i]?.map (·.ker)).getD []
def kE (g:Grammar) (i:Nat) (aft:List Int) (m:Option (List Sta)) (s:Int):Option (List Sta):=m.bind fun m=>
 if s∈aft then
  if Zi m (QB g (qJ m i) s)<0 then(if m.length=150 then none else some (xR (m++[⟨QB g (qJ m i) s,[]⟩]) i s m.length))
  else some (xR m i s (Zi m (QB g (qJ m i) s)))
 else some m
def Vb (g:Grammar):Nat→List Sta→Nat→Option (List Sta)
 |0,m,_=>some m
 |n+1,m,i=>if i<m.length then((jv g).foldl (kE g i (qaU g (zC g (qJ m i)))) (some m)).bind fun m'=>Vb g n m' (i+1)else some m
def VS (g:Grammar):Option (List Sta):=Vb g 151 [⟨[0],[]⟩] 0
def goL (l:List (Int×Int)) (s:Int):Int:=match l with
 |[]=> -1
 |p::r=>if p.1=s then p.2 else goL r s
def goS (m:List Sta) (q s:Int):Int:=if q<0 then -1 else match m[q.toNat]? with
 |some x=>goL x.mov s
 |none=> -1
def xB (m:List Sta):Int→List Int→Int
 |q,[]=>q
 |q,s::l=>if q<0 then q else xB m (goS m q s) l
def qx (m:List Sta):List (Int×Int):=(List.range m.length).flatMap fun(i:Nat)=>((m[i]?.map (·.mov)).getD []).filterMap fun p=>if 1000≤p.1 then some ((i:Int),p.1)else none
def qeM (q s:Int):List (Int×Int)→Nat→Int
 |[],_=> -1
 |p::l,i=>if p.1=q∧p.2=s then(i:Int)else qeM q s l (i+1)
def qa7 (t:List (Int×Int)) (q s:Int):Int:=qeM q s t 0
def Yh (m:List Sta) (q:Int):List (Int×Int):=(m[q.toNat]?.map (·.mov)).getD []
def vJ (m:List Sta):List (List Int):=(qx m).map fun t=>
 (Yh m (goS m t.1 t.2)).foldl (fun l p=>if p.1<1000 then jw l p.1 else l) (if (1:Int)∈qJ m (goS m t.1 t.2).toNat then[0]else[])
def Yu (E:Nat→Bool) (m:List Sta):List (List Int):=(qx m).map fun t=>
 (Yh m (goS m t.1 t.2)).foldl (fun l p=>if 1000≤p.1∧E (p.1 - 1000).toNat=true then jw l (qa7 (qx m) (goS m t.1 t.2) p.1)else l) []
def Yx (E:Nat→Bool) (m:List Sta) (i:Nat) (q:Int) (r:List Int) (out:List (List Int)) (k:Nat):List (List Int):=
 let s:=r.getD k 0
 if 1000≤s∧ve false E (r.drop (k+1))=true∧0≤xB m q (r.take k)∧0≤qa7 (qx m) (xB m q (r.take k)) s then
  out.modify (qa7 (qx m) (xB m q (r.take k)) s).toNat fun l=>jw l (i:Int)
 else out
def qa0 (E:Nat→Bool) (m:List Sta) (i:Nat) (t:Int×Int) (out:List (List Int)) (p:GPr):List (List Int):=
 if 1000+p.left=t.2 then(List.range p.right.length).foldl (Yx E m i t.1 p.right) out else out
def xK (g:Grammar) (E:Nat→Bool) (m:List Sta):List (List Int):=
 (List.range (qx m).length).foldl (fun out i=>g.prods.foldl (qa0 E m i ((qx m).getD i (0,0))) out) (List.replicate (qx m).length [])
def XY (g:Grammar) (m:List Sta) (q:Int) (p:Int):List Int:=
 ((List.range (qx m).length).filter fun i=>match g.prods[p.toNat]? with
   |some x=>decide (((qx m).getD i (0,0)).2=1000+x.left∧xB m ((qx m).getD i (0,0)).1 x.right=q)
   |none=>false).map fun(i:Nat)=>(i:Int)
def joinL (a b:List Int):List Int:=b.foldl jw a
def qda (out rel:List (List Int)):List (List Int):=(List.range out.length).foldl (fun o i=>o.modify i fun l=>(rel.getD i []).foldl (fun l j=>joinL l (o.getD j.toNat [])) l) out
def J7:Nat→List (List Int)→List (List Int)→List (List Int)
 |0,out,_=>out
 |n+1,out,rel=>if qda out rel=out then out else J7 n (qda out rel) rel
def xI (g:Grammar) (E:Nat→Bool) (m:List Sta):List (List Int):=J7 400000 (J7 400000 (vJ m) (Yu E m)) (xK g E m)
def yF (g:Grammar) (k:List Int):List Int:=(zC g k).filterMap fun x=>if 0<x / 16∧nxt g x= -1 then some (x / 16)else none
structure Lk where
 st:Int:=0
 pr:Int:=0
 tk:List Int:=[]
 deriving DecidableEq,Inhabited
abbrev Lk.V (x:Lk):V:= .agg [vi x.st,vi x.pr,.sl 1 false (x.tk.map (V.int .i64))]
def Q7 (g:Grammar) (E:Nat→Bool) (m:List Sta):List Lk:=(List.range m.length).flatMap fun(q:Nat)=>(yF g (qJ m q)).map fun p=>
 {st:=q,pr:=p,tk:=(XY g m q p).foldl (fun l b=>joinL l ((xI g E m).getD b.toNat [])) []}

theorem qPh {x y:Int}:(decide (x / 16=y / 16) && (decide (x % 16=y % 16) && true))=decide (x=y):=by
 rw[Bool.eq_iff_iff];simp only[Bool.and_eq_true,decide_eq_true_eq,and_true];omega
theorem qJ4 {neg:Bool} {x y:Int} {K:V→Prop} (hk:K (.bool (decide (x=y) != neg))):K4 neg [1,1] (itV x) (itV y) K:=by
 refine qgY (t:=decide (x=y)) ?_ hk
 rw[← qPh]
 rfl
theorem Jt {a b:List Int} (ha:a.length≤4611686018427387903) (hb:b.length≤4611686018427387903):Pure Try.prog 99 [.sl 2 false (a.map itV),.sl 2 false (b.map itV)] (.bool (decide (a=b))):=by
 refine pure_intro Try.func99 qHG qwR (by show 2≤26;decide) ?_
 show ewp _ qh8 _ _
 by_cases hl:a.length=b.length
 · repeat' with_reducible first
    |refine s_ ?_
    |simp only[wZZ,seval]
    |apply qa<;>intro h h_<;>(try simp only[wD,reduceCtorEq]at h_)<;>(try exact wb_)<;>(try simp only[h])
   refine qd ?nx1 (fun(k:Nat) s=>s.f 0=?v1_0∧s.f 1=?v1_1∧s.f 5=vi k∧(k≤a.length)∧(∀i,i<k→a[i]?=b[i]?)) (fun k=>a.length - k) (0) wj_ (by refine⟨?_,?_,?_,wo_,wo_⟩<;>first|(simp only[wL,wM,wN,wX,seval,Option.some.injEq]<;>exact wt_)|rfl|exact⟨_,rfl⟩) ?_
   intro k s hnx ⟨g0,g1,g5,k1_0,k1_1⟩
   have hz:=w1_ k
   by_cases hk:k<a.length
   · have hga:a[k]?=some a[k]:=ge_ hk
     have hgb:b[k]?=some b[k]:=ge_ (by omega)
     by_cases he:a[k]=b[k]
     · have hn: ∀i,i<k+1→a[i]?=b[i]?:=fun i hi=>by
        by_cases e:i=k
        · subst e;rw[hga,hgb,he]
        · exact k1_1 i (by omega)
       have hed:(decide (a[k]=b[k]) != true)=false:=by rw[decide_eq_true he];rfl
       repeat' with_reducible first
        |refine s_ ?_
        |simp only[wZZ,seval,g0,g1,g5,hz,hed]
        |apply qa<;>intro h h_<;>(try simp only[wD,reduceCtorEq]at h_)<;>(try exact wb_)<;>(try simp only[h])
        |refine t_ ?_
        |(refine qJ4 ?_)
       refine⟨wk_,k+1,(by omega),?_⟩
       refine⟨?_,?_,?_,?_,?_⟩
       iterate 3 (focus(first|(simp only[wL,wM,wN,wX,seval,Option.some.injEq,g0,g1,g5]<;>exact wt_)|rfl|exact⟨_,rfl⟩))
       all_goals try omega
     · have hne:a≠b:=fun e=>he (by subst e;rfl)
       rw[decide_eq_false hne]
       have hed:(decide (a[k]=b[k]) != true)=true:=by rw[decide_eq_false he];rfl
       repeat' with_reducible first
        |refine s_ ?_
        |simp only[wZZ,seval,g0,g1,g5,hz,hed]
        |apply qa<;>intro h h_<;>(try simp only[wD,reduceCtorEq]at h_)<;>(try exact wb_)<;>(try simp only[h])
        |refine t_ ?_
        |(refine qJ4 ?_)
       all_goals refine qw rfl (Or.inr rfl) ?_
       all_goals(try simp only[wL,seval,g0,g1,g5])
       all_goals refine er_ ?_
       all_goals(try(with_reducible rfl))
   · have e:a=b:=List.ext_getElem? fun i=>by
      by_cases hi:i<k
      · exact k1_1 i hi
      · rw[List.getElem?_eq_none (by omega),List.getElem?_eq_none (by omega)]
     rw[decide_eq_true e]
     repeat' with_reducible first
      |refine s_ ?_
      |simp only[wZZ,seval,g0,g1,g5]
      |apply qa<;>intro h h_<;>(try simp only[wD,reduceCtorEq]at h_)<;>(try exact wb_)<;>(try simp only[h])
     all_goals refine qw rfl (Or.inr rfl) ?_
     all_goals(try simp only[wL,seval,g0,g1,g5])
     all_goals refine er_ ?_
     all_goals(try(with_reducible rfl))
 · have hne:a≠b:=fun e=>hl (by rw[e])
   rw[decide_eq_false hne]
   skip
   repeat' with_reducible first
    |refine s_ ?_
    |simp only[wZZ,seval]
    |apply qa<;>intro h h_<;>(try simp only[wD,reduceCtorEq]at h_)<;>(try exact wb_)<;>(try simp only[h])
   all_goals refine qw rfl (Or.inr rfl) ?_
   all_goals(try simp only[wL,seval])
   all_goals refine er_ ?_
   all_goals(try(with_reducible rfl))
theorem yw {l:List Int} {x:Int} (hl:l.length≤1099511627776):Pure Try.prog 97 [.sl 2 false (l.map itV),itV x] (.sl 2 false ((jw l x).map itV)):=by
 refine pure_intro Try.func97 qzZ qxr (by show 2≤71;decide) ?_
 show ewp _ qjf _ _
 repeat' with_reducible first
  |refine s_ ?_
  |simp only[wZZ,seval]
  |refine t_ ?_
 refine qd ?nx1 (fun(k:Nat) s=>s.f 0=?v1_0∧s.f 3=?v1_3∧s.H 0=some (.own 2 [itV x] false)∧s.f 5=vi k∧(k≤l.length)∧(YL l x k=YL l x l.length)) (fun k=>k) (l.length) wj_ (by refine⟨?_,?_,?_,?_,wo_,wo_⟩<;>first|(simp only[wL,wM,wN,wX,seval,Option.some.injEq]<;>exact wt_)|rfl|exact⟨_,rfl⟩) ?_
 intro k s hnx ⟨g0,g3,o0,g5,k1_0,k1_1⟩
 by_cases hk:k=0
 · subst hk
   have hc:YL l x l.length=0:=k1_1.symm
   have hp:jw l x=[]++[x]++l:=by unfold jw;rw[hc];simp
   rw[hp]
   repeat' with_reducible first
    |refine s_ ?_
    |simp only[wZZ,seval,g0,g3,g5,o0]
    |apply QF;(focus(first|exact qI.sl|exact qI.asl|exact qI.str));exact wf_;(focus(unfold maxLen;first|omega|(simp only[wZ]<;>omega)))
    |(refine Q8 ?_;simp only[wM,wN,seval,g0,g3,g5,o0];apply XI;(focus(first|exact qI.sl|exact qI.asl|exact qI.str));(exact wf_);(focus(unfold maxLen;first|omega|(simp only[wZ]<;>omega))))
    |apply xJ;omega;exact wf_
    |apply vH;omega;exact wf_
    |refine t_ ?_
   refine qw rfl (Or.inr rfl) ?_
   simp only[wL,seval,g0,g3,g5]
   refine er_ ?_
   try(with_reducible rfl)
   simp
 · obtain ⟨m,rfl⟩: ∃m,k=m+1:=⟨k - 1,by omega⟩
   have hm:m<l.length:=by omega
   have hgm:l[m]?=some l[m]:=ge_ hm
   have hzm:IntKind.i64.wrap (((m+1:Nat):Int) - 1)=(m:Int):=by rw[wrap64 (by omega) (by omega)];omega
   rw[Zx,getD_eq hm]at k1_1
   by_cases hgt:x<l[m]
   · rw[if_pos hgt]at k1_1
     generalize l[m]=y at *
     repeat' with_reducible first
      |refine s_ ?_
      |simp only[wZZ,seval,g0,g3,g5,o0,hzm]
      |(first|apply qa|apply qh|apply qg)<;>intro h h_<;>(try simp only[wD,reduceCtorEq]at h_)<;>(try exact wb_)<;>(try simp only[h])
      |refine t_ ?_
      |simp(disch:=omega) only[w64,if_neg]
     all_goals exact⟨by((try simp only[wN])<;>omega),m,by omega,trivial,trivial,trivial,rfl,by omega,k1_1⟩
   · rw [if_neg hgt]at k1_1
     have hp:jw l x=if l[m]=x then l else l.take (m+1)++[x]++l.drop (m+1):=by
      unfold jw;rw[← k1_1];simp[ge_ hm]
     by_cases hx:l[m]=x
     · rw[hp,if_pos hx]
       have hed:(decide (l[m]=x) != false)=true:=by rw[decide_eq_true hx];rfl
       generalize l[m]=y at *
       repeat' with_reducible first
        |refine s_ ?_
        |simp only[wZZ,seval,g0,g3,g5,o0,hzm,hed]
        |(first|apply qa|apply qh|apply qg)<;>intro h h_<;>(try simp only[wD,reduceCtorEq]at h_)<;>(try exact wb_)<;>(try simp only[h])
        |refine t_ ?_
        |(refine qJ4 ?_)
        |simp(disch:=omega) only[w64,if_neg]
       all_goals refine qw rfl (Or.inr rfl) ?_
       all_goals(try simp only[wL,seval,g0,g3,g5])
       all_goals refine er_ ?_
       all_goals(try(with_reducible rfl))
     · rw[hp,if_neg hx]
       have hed:(decide (l[m]=x) != false)=false:=by rw[decide_eq_false hx];rfl
       generalize l[m]=y at *
       repeat' with_reducible first
        |refine s_ ?_
        |simp only[wZZ,seval,g0,g3,g5,o0,hzm,hed]
        |(first|apply qa|apply qh|apply qg)<;>intro h h_<;>(try simp only[wD,reduceCtorEq]at h_)<;>(try exact wb_)<;>(try simp only[h])
        |refine t_ ?_
        |(refine qJ4 ?_)
        |apply QF;(focus(first|exact qI.sl|exact qI.asl|exact qI.str));exact wf_;(focus(unfold maxLen;first|omega|(simp only[wZ]<;>omega)))
        |(refine Q8 ?_;simp only[wM,wN,seval,g0,g3,g5,o0,hzm,hed];apply XI;(focus(first|exact qI.sl|exact qI.asl|exact qI.str));(exact wf_);(focus(unfold maxLen;first|omega|(simp only[wZ]<;>omega))))
        |apply xJ;omega;exact wf_
        |apply vH;omega;exact wf_
        |simp(disch:=omega) only[w64,if_neg]
       all_goals refine qw rfl (Or.inr rfl) ?_
       all_goals(try simp only[wL,seval,g0,g3,g5])
       all_goals refine er_ ?_
       all_goals(try(with_reducible rfl))

theorem qaD {a:List Int} {x:Int} (h:jU (a++[x])):jw a x=a++[x]:=by
 have ha:jU a:=h.sublist (List.sublist_append_left _ _)
 exact Xk (jS ha) h fun y=>by rw[zo,List.mem_append,List.mem_singleton]
theorem Zb.nat {g:Grammar} {x:Int} (h:Zb g x): ∃(m d:Nat) (p:GPr),x / 16=(m:Int)∧x % 16=(d:Int)∧g.prods[m]?=some p∧d≤p.right.length∧nxt g x=(p.right[d]?).getD (-1):=by
 obtain ⟨h0,p,hp,hd⟩:=h
 refine⟨(x / 16).toNat,(x % 16).toNat,p,by omega,by omega,hp,hd,?_⟩
 unfold nxt
 rw[hp];rfl
theorem Qh {g:Grammar} {x:Int} (hx:Zb g x) (hpl:g.prods.length≤60) (hrl: ∀p∈g.prods,p.right.length≤8):Pure Try.prog 98 [g.V,itV x] (.bool true):=by
 refine pure_intro Try.func98 qEP qE0 (by show 2≤34;decide) ?_
 show ewp _ qtT _ _
 obtain ⟨m,d,p,hm,hd,hp,hl,hn⟩:=hx.nat
 have hml:=(List.getElem?_eq_some_iff.1 hp).1
 have hrl:=hrl p (List.mem_of_getElem? hp)
 have hV:itV x=.agg [vi m,vi d]:=by rw[← hm,← hd]
 rw[hV]
 obtain ⟨pl,pr,pc,pco,pa,pat⟩:=p
 dsimp only at hl hrl
 repeat' with_reducible first
  |refine s_ ?_
  |simp only[wZZ,seval]
  |(first|apply qh|apply qg)<;>intro h h_<;>(try simp only[wD,reduceCtorEq]at h_)<;>(try exact wb_)<;>(try simp only[h])
  |refine t_ ?_
 all_goals refine qw rfl (Or.inr rfl) ?_
 all_goals(try simp only[wL,seval])
 all_goals refine er_ ?_
 all_goals(try(with_reducible rfl))
 all_goals exact decide_eq_true (by omega)
theorem xP {g:Grammar} {x:Int} (hx:Zb g x) (hpl:g.prods.length≤60) (hrl: ∀p∈g.prods,p.right.length≤8):Pure Try.prog 75 [g.V,itV x] (vi (nxt g x)):=by
 refine pure_intro Try.func75 qHb qzi (by show 2≤33;decide) ?_
 show ewp _ qxK _ _
 have hit:=Qh hx hpl hrl
 obtain ⟨m,d,p,hm,hd,hp,hl,hn⟩:=hx.nat
 have hml:=(List.getElem?_eq_some_iff.1 hp).1
 have hrl:=hrl p (List.mem_of_getElem? hp)
 have hV:itV x=.agg [vi m,vi d]:=by rw[← hm,← hd]
 rw[hV]at hit
 rw[hV,hn]
 obtain ⟨pl,pr,pc,pco,pa,pat⟩:=p
 dsimp only at hl hrl ⊢
 by_cases hdl:d<pr.length
 · have hgd:pr[d]?=some pr[d]:=ge_ hdl
   rw[hgd,Option.getD_some]
   generalize pr[d]=sy at *
   repeat' with_reducible first
    |refine s_ ?_
    |simp only[wZZ,seval]
    |apply qa<;>intro h h_<;>(try simp only[wD,reduceCtorEq]at h_)<;>(try exact wb_)<;>(try simp only[h])
    |refine t_ ?_
    |refine cq2 hit qb qb ?_
   all_goals refine qw rfl (Or.inr rfl) ?_
   all_goals(try simp only[wL,seval])
   all_goals refine er_ ?_
   all_goals(try(with_reducible rfl))
 · rw[List.getElem?_eq_none (by omega),Option.getD_none]
   repeat' with_reducible first
    |refine s_ ?_
    |simp only[wZZ,seval]
    |apply qa<;>intro h h_<;>(try simp only[wD,reduceCtorEq]at h_)<;>(try exact wb_)<;>(try simp only[h])
    |refine t_ ?_
    |refine cq2 hit qb qb ?_
   all_goals refine qw rfl (Or.inr rfl) ?_
   all_goals(try simp only[wL,seval])
   all_goals refine er_ ?_
   all_goals(try(with_reducible rfl))
theorem JA {g:Grammar} {l:List Int} (hx: ∀x∈l,Zb g x) (hr:jU l) (hl:l.length≤1000000) (hpl:g.prods.length≤60) (hrl: ∀p∈g.prods,p.right.length≤8):Pure Try.prog 96 [g.V,.sl 2 false (l.map itV)] (.sl 2 false (l.map itV)):=by
 refine pure_intro Try.func96 qud qtf (by show 2≤26;decide) ?_
 show ewp _ qip _ _
 repeat' with_reducible first
  |refine s_ ?_
  |simp only[wZZ,seval]
  |refine t_ ?_
 refine qd ?nx1 (fun(i:Nat) s=>s.f 1=?v1_1∧s.f 2=?v1_2∧s.H 0=some (.own 5 [g.V] false)∧(∃c,s.f 5=.sl 2 c ((l.take i).map itV))∧s.f 6=vi i∧(i≤l.length)) (fun i=>l.length - i) (0) wj_ (by refine⟨?_,?_,?_,?_,?_,wo_⟩<;>first|(simp only[wL,wM,wN,wX,seval,Option.some.injEq]<;>exact wt_)|rfl|exact⟨_,rfl⟩) ?_
 intro i s hnx ⟨g1,g2,o0,⟨c5,g5⟩,g6,k1_0⟩
 have hz:=w1_ i
 by_cases hi:i<l.length
 · have hgi:l[i]?=some l[i]:=ge_ hi
   have htk:l.take (i+1)=l.take i++[l[i]]:=by rw[List.take_add_one,hgi];rfl
   have hit:=Qh (hx _ (List.getElem_mem hi)) hpl hrl
   have hput:=yw (l:=l.take i) (x:=l[i]) (by rw[List.length_take];omega)
   rw[qaD (by rw[← htk];exact hr.sublist (List.take_sublist _ _)),← htk]at hput
   generalize l[i]=x at *
   repeat' with_reducible first
    |refine s_ ?_
    |simp only[wZZ,seval,g1,g2,g5,g6,o0,hz]
    |apply qa<;>intro h h_<;>(try simp only[wD,reduceCtorEq]at h_)<;>(try exact wb_)<;>(try simp only[h])
    |refine t_ ?_
    |refine cq2 hit qb qb ?_
    |refine cq2 hput jy qb ?_
   refine⟨wk_,i+1,(by omega),?_⟩
   refine⟨?_,?_,?_,?_,?_,?_⟩
   iterate 5 (focus(first|(simp only[wL,wM,wN,wX,seval,Option.some.injEq,g1,g2,g5,g6,o0]<;>exact wt_)|rfl|exact⟨_,rfl⟩))
   all_goals try omega
 · have e:l.take i=l:=List.take_of_length_le (by omega)
   rw[e]at g5
   repeat' with_reducible first
    |refine s_ ?_
    |simp only[wZZ,seval,g1,g2,g5,g6,o0,hz]
    |apply qa<;>intro h h_<;>(try simp only[wD,reduceCtorEq]at h_)<;>(try exact wb_)<;>(try simp only[h])
   all_goals refine qw rfl (Or.inr rfl) ?_
   all_goals(try simp only[wL,seval,g1,g2,g5,g6])
   all_goals refine er_ ?_
   all_goals(try(with_reducible rfl))

structure ClM (g:Grammar) (l c:List Int):Prop where
 rise:jU c
 has: ∀x∈l,x∈c
 least: ∀D,qJ3 g l D→ ∀x∈c,D x
 ok: ∀x∈c,Zb g x
theorem ClM.len {g:Grammar} {l c:List Int} (h:ClM g l c) (hpl:g.prods.length≤60):c.length≤960:=
 xZ (a:=0) h.rise fun x hx=>by
  obtain ⟨h0,p,hp,_⟩:=h.ok x hx
  have:=(List.getElem?_eq_some_iff.1 hp).1
  omega
theorem ClM.put {g:Grammar} {l c:List Int} (h:ClM g l c) {y:Int} {m:Nat} {p:GPr} (hy:y∈c) (hp:g.prods[m]?=some p) (h1:1000≤nxt g y) (h2:p.left=nxt g y - 1000):ClM g l (jw c (16 *(m:Int))):=by
 refine⟨jS h.rise,fun x hx=>zo.2 (Or.inl (h.has x hx)),fun D hD x hx=>?_,fun x hx=>?_⟩
 · rcases zo.1 hx with hx|rfl
   · exact h.least D hD x hx
   · exact hD.2 y (h.least D hD y hy) m p hp h1 h2
 · rcases zo.1 hx with hx|rfl
   · exact h.ok x hx
   · exact qe1 hp
def qIq (g:Grammar) (y:Int) (c:List Int):Prop:= ∀(m:Nat) p,g.prods[m]?=some p→1000≤nxt g y→p.left=nxt g y - 1000→16 *(m:Int)∈c
theorem ClM.done {g:Grammar} {l c:List Int} (h:ClM g l c) (hc: ∀y∈c,qIq g y c):IsCl g l c:=
 ⟨h.rise,⟨h.has,fun x hx m p hp h1 h2=>hc x hx m p hp h1 h2⟩,h.least⟩
theorem qeP {g:Grammar} (hg:GOk g) {x:Int} (hx:Zb g x): -1≤nxt g x∧nxt g x<2000:=by
 obtain ⟨m,d,p,_,_,hp,_,hn⟩:=hx.nat
 rw[hn]
 cases h:p.right[d]? with
 |none=>simp
 | some s=>
   have h1:=hg.tk2;have h2:=hg.nn2
   rcases hg.right p (List.mem_of_getElem? hp) s (List.mem_of_getElem? h)with ⟨t,rfl,ht⟩|⟨k,rfl,hk⟩<;>simp<;>omega
theorem j6 {g:Grammar} {l:List Int} (hx: ∀x∈l,Zb g x) (hr:jU l) (hl:l.length≤1000000) (hg:GOk g):Pure Try.prog 74 [g.V,.sl 2 false (l.map itV)] (.sl 2 false ((zC g l).map itV)):=by
 refine pure_intro Try.func74 qHd qwb (by show 2≤59;decide) ?_
 show ewp _ qi6 _ _
 have hpl:=hg.pl2;have hrl:=hg.rlen
 have hri:=JA hx hr hl hpl hrl
 repeat' with_reducible first
  |refine s_ ?_
  |simp only[wZZ,seval]
  |refine cq2 hri qb qb ?_
  |refine t_ ?_
 refine qd ?nx1 (fun(q:List Int×Int) s=>s.f 2=?v1_2∧s.H 0=some (.own 5 [g.V] false)∧s.f 5=.sl 2 false (q.1.map itV)∧s.f 6=vi q.2∧(ClM g l q.1)∧((q.2=(q.1.length:Int)→ ∀y∈q.1,qIq g y q.1))) (fun q=>2 *(961 - q.1.length)+(if q.2=(q.1.length:Int)then 0 else 1)) ((l,-1)) wj_ (by refine⟨?_,?_,?_,?_,(by exact⟨hr,fun _ h=>h,fun D hD=>hD.1,hx⟩),(by intro e;omega)⟩<;>first|(simp only[wL,wM,wN,wX,seval,Option.some.injEq]<;>exact wt_)|rfl|exact⟨_,rfl⟩) ?_
 intro q s hnx ⟨g2,o0,g5,g6,k1_0,k1_1⟩
 obtain ⟨c,n⟩:=q
 dsimp only at *
 have hcl:=k1_0.len hpl
 by_cases hn:n=(c.length:Int)
 · have hd:=(k1_0.done (k1_1 hn)).uniq (KO hpl hrl hx hr)
   rw[← hd]
   subst hn
   repeat' with_reducible first
    |refine s_ ?_
    |simp only[wZZ,seval,g2,g5,g6,o0]
   all_goals refine qw rfl (Or.inr rfl) ?_
   all_goals(try simp only[wL,seval,g2,g5,g6])
   all_goals refine er_ ?_
   all_goals(try(with_reducible rfl))
 · repeat' with_reducible first
    |refine s_ ?_
    |simp only[wZZ,seval,g2,g5,g6,o0]
    |apply qa<;>intro h h_<;>(try simp only[wD,reduceCtorEq]at h_)<;>(try exact wb_)<;>(try simp only[h])
    |simp(disch:=omega) only[w64,if_neg]
   refine qd ?nx2 (fun(i:Nat) s=>s.f 2=?v2_2∧s.f 6=?v2_6∧s.H 0=some (.own 5 [g.V] false)∧s.f 7=vi i∧(i≤c.length)∧((∀y∈c.take i,qIq g y c))∧(s.f 5=.sl 2 false (c.map itV))) (fun i=>c.length - i) (0) wj_ (by refine⟨?_,?_,?_,?_,wo_,(by intro y hy;simp at hy),(by(try simp only[wL,wM,wN,seval,g2,g5,g6,o0]);first|done|rfl)⟩<;>first|(simp only[wL,wM,wN,wX,seval,Option.some.injEq,g2,g5,g6,o0]<;>exact wt_)|rfl|exact⟨_,rfl⟩) ?_
   intro i s hnx ⟨g2,g6,o0,g7,k2_0,k2_1,g5⟩
   have hz:=w1_ i
   by_cases hi:i<c.length
   · have hgi:c[i]?=some c[i]:=ge_ hi
     have hyc:=List.getElem_mem hi
     have htk:c.take (i+1)=c.take i++[c[i]]:=by rw[List.take_add_one,hgi];rfl
     have hok:=k1_0.ok _ hyc
     have hnx:=xP hok hpl hrl
     have hbd:=qeP hg hok
     generalize c[i]=y at *
     generalize hs:nxt g y=sy at *
     repeat' with_reducible first
      |refine s_ ?_
      |simp only[wZZ,seval,g2,g6,g7,g5,o0,hz]
      |apply qa<;>intro h h_<;>(try simp only[wD,reduceCtorEq]at h_)<;>(try exact wb_)<;>(try simp only[h])
      |refine t_ ?_
      |refine cq2 hnx qb qb ?_
     refine qd ?nx3 (fun(r:Nat×List Int) s=>s.f 2=?v3_2∧s.f 6=?v3_6∧s.f 7=?v3_7∧s.f 8=?v3_8∧s.H 0=some (.own 5 [g.V] false)∧s.f 9=vi r.1∧(r.1≤g.prods.length)∧(ClM g l r.2)∧((∀x∈c,x∈r.2))∧((∀(m:Nat) p,m<r.1→g.prods[m]?=some p→1000≤sy→p.left=sy - 1000→16 *(m:Int)∈r.2))∧(s.f 5=.sl 2 false (r.2.map itV))) (fun r=>g.prods.length - r.1) ((0,c)) wj_ (by refine⟨?_,?_,?_,?_,?_,?_,wo_,(by exact k1_0),(by exact fun _ h=>h),(by intro m p h;exact absurd h (Nat.not_lt_zero m)),(by(try simp only[wL,wM,wN,seval,g2,g6,g7,g5,o0]);first|done|rfl)⟩<;>first|(simp only[wL,wM,wN,wX,seval,Option.some.injEq,g2,g6,g7,g5,o0]<;>exact wt_)|rfl|exact⟨_,rfl⟩) ?_
     intro r s hnx ⟨g2,g6,g7,g8,o0,g9,k3_0,k3_1,k3_2,k3_3,g5⟩
     obtain ⟨j,o⟩:=r
     dsimp only at *
     have hol:=k3_1.len hpl
     have hzj:=w1_ j
     have hzs:IntKind.i64.wrap (sy - 1000)=sy - 1000:=wrap64 (by omega) (by omega)
     by_cases hj:j<g.prods.length∧1000≤sy
     · obtain ⟨hj1,hj2⟩:=hj
       have hgj:g.prods[j]?=some g.prods[j]:=ge_ hj1
       obtain ⟨lf,hl1,hl2⟩:=hg.left _ (List.getElem_mem hj1)
       generalize g.prods[j]=p at *
       have hput:=yw (l:=o) (x:=16 *(j:Int)) (by omega)
       have hkv:itV (16 *(j:Int))=.agg [vi j,vi 0]:=by
        show V.agg [vi (16 *(j:Int) / 16),vi (16 *(j:Int) % 16)]=_
        rw[show 16 *(j:Int) / 16=(j:Int) by omega,show 16 *(j:Int) % 16=0 by omega]
       rw[hkv]at hput
       obtain ⟨pl,pr,pc,pco,pa,pat⟩:=p
       dsimp only at hl1
       by_cases he:pl=sy - 1000
       · have hnew:=k3_1.put (y:=y) (k3_2 y hyc) hgj (by omega) (by rw[hs];exact he)
         subst hl1
         repeat' with_reducible first
          |refine s_ ?_
          |simp only[wZZ,seval,g2,g6,g7,g8,g9,g5,o0,hz,hzj,hzs]
          |(first|apply qa|apply qh|apply qg)<;>intro h h_<;>(try simp only[wD,reduceCtorEq]at h_)<;>(try exact wb_)<;>(try simp only[h])
          |refine t_ ?_
          |refine cq2 hput qb qb ?_
         refine⟨by((try simp only[wN])<;>omega),(j+1,jw o (16 *(j:Int))),by dsimp only;omega,?_⟩;(repeat refine⟨True.intro,?_⟩)
         refine⟨rfl,by dsimp only;omega,hnew,fun x hx=>zo.2 (Or.inl (k3_2 x hx)),fun m p hm hp h1 h2=>?_,rfl⟩
         dsimp only at hm ⊢
         by_cases e:m=j
         · subst e;exact zo.2 (Or.inr rfl)
         · exact zo.2 (Or.inl (k3_3 m p (by omega) hp h1 h2))
       · have hnn: ∀(m:Nat) p,m<j+1→g.prods[m]?=some p→1000≤sy→p.left=sy - 1000→16 *(m:Int)∈o:=fun m p hm hp h1 h2=>by
          by_cases e:m=j
          · subst e;rw[hgj]at hp;cases hp;exact absurd h2 he
          · exact k3_3 m p (by omega) hp h1 h2
         subst hl1
         repeat' with_reducible first
          |refine s_ ?_
          |simp only[wZZ,seval,g2,g6,g7,g8,g9,g5,o0,hz,hzj,hzs]
          |(first|apply qa|apply qh|apply qg)<;>intro h h_<;>(try simp only[wD,reduceCtorEq]at h_)<;>(try exact wb_)<;>(try simp only[h])
          |refine t_ ?_
         refine⟨by((try simp only[wN])<;>omega),(j+1,o),by dsimp only;omega,?_⟩;(repeat refine⟨True.intro,?_⟩)
         exact⟨rfl,by dsimp only;omega,k3_1,k3_2,hnn,rfl⟩
     · have hat:qIq g y o:=fun m p hp h1 h2=>by
        rw[hs]at h1 h2
        have:=(List.getElem?_eq_some_iff.1 hp).1
        exact k3_3 m p (by omega) hp h1 h2
       by_cases hlen:o.length=c.length
       · have hoc:c=o:=Zt k1_0.rise k3_1.rise k3_2 (by omega)
         subst hoc
         have hnn: ∀z∈c.take (i+1),qIq g z c:=fun z hz=>by
          rw[htk]at hz
          rcases List.mem_append.1 hz with hz|hz
          · exact k2_1 z hz
          · rw[List.mem_singleton]at hz;subst hz;exact hat
         repeat' with_reducible first
          |refine s_ ?_
          |simp only[wZZ,seval,g2,g6,g7,g8,g9,g5,o0,hz]
          |(first|apply qa|apply qh|apply qg)<;>intro h h_<;>(try simp only[wD,reduceCtorEq]at h_)<;>(try exact wb_)<;>(try simp only[h])
          |refine t_ ?_
         all_goals refine⟨by((try simp only[wN])<;>omega),i+1,by omega,?_⟩;(repeat refine⟨True.intro,?_⟩)
         all_goals exact⟨rfl,by omega,hnn,trivial⟩
       · have hle:c.length≤o.length:=by
          have: ∀(a b:List Int),jU a→(∀x∈a,x∈b)→jU b→a.length≤b.length:=fun a b ha hb hr=>by
           by_cases h:b.length≤a.length
           · rw[Zt ha hr hb h];exact Nat.le_refl _
           · omega
          exact this c o k1_0.rise k3_2 k3_1.rise
         repeat' with_reducible first
          |refine s_ ?_
          |simp only[wZZ,seval,g2,g6,g7,g8,g9,g5,o0,hz]
          |(first|apply qa|apply qh|apply qg)<;>intro h h_<;>(try simp only[wD,reduceCtorEq]at h_)<;>(try exact wb_)<;>(try simp only[h])
          |refine t_ ?_
         all_goals refine⟨by((try simp only[wN])<;>omega),(o,(c.length:Int)),by dsimp only;rw[if_neg (by omega)];omega,?_⟩;(repeat refine⟨True.intro,?_⟩)
         all_goals exact⟨rfl,rfl,k3_1,fun e=>by dsimp only at e;omega⟩
   · have hcc:c.take i=c:=List.take_of_length_le (by omega)
     rw[hcc]at k2_1
     skip
     repeat' with_reducible first
      |refine s_ ?_
      |simp only[wZZ,seval,g2,g6,g7,g5,o0,hz]
      |apply qa<;>intro h h_<;>(try simp only[wD,reduceCtorEq]at h_)<;>(try exact wb_)<;>(try simp only[h])
     refine⟨by((try simp only[wN])<;>omega),(c,(c.length:Int)),by dsimp only;rw[if_pos rfl];omega,?_⟩;(repeat refine⟨True.intro,?_⟩)
     exact⟨rfl,rfl,k1_0,fun _=>k2_1⟩
end Go.Proofs
