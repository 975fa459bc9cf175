/- Part of a proof that a law of the given program answers true. -/
import Derived.Test.YtkcegflhobejmaaGreatDoorBJA
import Derived.Test.YtkcegflhobejmaaGreatDoorBCA
set_option linter.unusedSimpArgs false
set_option linter.unusedVariables false
set_option maxHeartbeats 4000000
set_option maxRecDepth 20000
namespace Go.Proofs
open Go.E
theorem qdD (token:Bool) (h:Nat→Bool) (s:Int) (l:List Int):zT token h (s::l)=((if s<1000 then token else h (s - 1000).toNat) && zT token h l):=rfl
theorem xZ {n:Nat} {F:Nat→Bool} {l:List Int} (hn:n≤1000000) (hl:l.length≤1000000) (hs: ∀s∈l,s<1000∨ ∃k:Nat,s=1000+(k:Int)∧k<n):Pure Tryz.prog 60 [.sl 1 false (vV n F),.sl 1 false (l.map (V.int .i64))] (.bool (zT false F l)):=by
 refine pure_intro Tryz.func60 nm_ qSL (by show 2≤28;decide) ?_
 show ewp _ qlb _ _
 have hbm:vV n F=(List.range n).map fun k=>V.bool (F k):=rfl
 rw[hbm]
 clear hbm
 repeat' with_reducible first
  |refine s_ ?_
  |simp -implicitDefEqProofs only[wZZ,seval]
 refine qc ?nx1 (fun(i:Nat) s=>s.f 0=?v1_0∧s.f 1=?v1_1∧s.f 5=vi i∧(i≤l.length)∧(zT false F l=zT false F (l.drop i))) (fun i=>l.length - i) (0) wj_ (by refine⟨?_,?_,?_,wo_,(by simp)⟩<;>first|(simp -implicitDefEqProofs only[wL,wM,wN,wX,seval,Option.some.injEq]<;>exact wt_)|rfl|exact⟨_,rfl⟩) ?_
 intro i s hnx ⟨g0,g1,g5,k1_0,k1_1⟩
 have hzi:=w1_ i
 by_cases hi:i<l.length
 · have hgi:l[i]?=some l[i]:=ge_ hi
   have hd:l.drop i=l[i]::l.drop (i+1):=List.drop_eq_getElem_cons hi
   rw[hd,qdD]at k1_1
   have hsi:=hs _ (List.getElem_mem hi)
   generalize l[i]=s at *
   rcases hsi with hlt|⟨k,rfl,hk⟩
   · rw[if_pos hlt,Bool.false_and]at k1_1
     repeat' with_reducible first
      |refine s_ ?_
      |simp -implicitDefEqProofs only[wZZ,seval,g0,g1,g5,hzi,k1_1]
      |(first|apply qa|apply qw|apply qp)<;>intro h h_<;>(try simp only[wD,reduceCtorEq]at h_)<;>(try exact wb_)<;>(try simp only[h])
      |refine t_ ?_
     all_goals refine qx rfl (Or.inr rfl) ?_
     all_goals(try simp -implicitDefEqProofs only[wL,seval,g0,g1,g5])
     all_goals refine er_ ?_
     all_goals(try(with_reducible rfl))
   · have hz1:IntKind.i64.wrap (1000+(k:Int) - 1000)=(k:Int):=by rw[wrap64 o_ o_];omega
     have hgk:(List.range n)[k]?=some k:=List.getElem?_range hk
     rw[if_neg o_,show (1000+(k:Int) - 1000).toNat=k by omega]at k1_1
     cases hb:F k
     · rw[hb,Bool.false_and]at k1_1
       repeat' with_reducible first
        |refine s_ ?_
        |simp -implicitDefEqProofs only[wZZ,seval,g0,g1,g5,hzi,hz1,k1_1,hb]
        |(first|apply qa|apply qw|apply qp)<;>intro h h_<;>(try simp only[wD,reduceCtorEq]at h_)<;>(try exact wb_)<;>(try simp only[h])
        |refine t_ ?_
       all_goals refine qx rfl (Or.inr rfl) ?_
       all_goals(try simp -implicitDefEqProofs only[wL,seval,g0,g1,g5])
       all_goals refine er_ ?_
       all_goals(try(with_reducible rfl))
     · rw[hb,Bool.true_and]at k1_1
       repeat' with_reducible first
        |refine s_ ?_
        |simp -implicitDefEqProofs only[wZZ,seval,g0,g1,g5,hzi,hz1,hb]
        |(first|apply qa|apply qw|apply qp)<;>intro h h_<;>(try simp only[wD,reduceCtorEq]at h_)<;>(try exact wb_)<;>(try simp only[h])
        |refine t_ ?_
       exact⟨wg_,i+1,o_,trivial,trivial,rfl,o_,k1_1⟩
 · rw[List.drop_of_length_le o_]at k1_1
   repeat' with_reducible first
    |refine s_ ?_
    |simp -implicitDefEqProofs only[wZZ,seval,g0,g1,g5,hzi]
    |apply qa<;>intro h h_<;>(try simp only[wD,reduceCtorEq]at h_)<;>(try exact wb_)<;>(try simp only[h])
   all_goals refine qx rfl (Or.inr rfl) ?_
   all_goals(try simp -implicitDefEqProofs only[wL,seval,g0,g1,g5])
   all_goals refine er_ ?_
   all_goals(try(with_reducible rfl))
   all_goals(first|done|exact k1_1.symm|(rw[k1_1];rfl))

structure Sta where
 ker:List Int:=[]
 mov:List (Int×Int):=[]
 deriving DecidableEq,Inhabited
abbrev Sta.V (q:Sta):V:= .agg [.sl 2 false (q.ker.map itV),.sl 2 false (q.mov.map prV)]
def Za (g:Grammar) (k:List Int) (s:Int):List Int:=(zX g k).foldl (fun o x=>if 0≤nxt g x∧nxt g x=s then jo o (x+1)else o) []
def zR (g:Grammar):List Int:=(List.range g.toks.length).map (fun(i:Nat)=>(i:Int))++(List.range g.nons.length).map fun(i:Nat)=>1000+(i:Int)
def qax (g:Grammar) (c:List Int):List Int:=c.foldl (fun a x=>if 0≤nxt g x then jo a (nxt g x)else a) []
def Ja (k:List Int):List Sta→Nat→Int
 |[],_=> -1
 |q::m,i=>if q.ker=k then(i:Int)else Ja k m (i+1)
def QK (m:List Sta) (k:List Int):Int:=Ja k m 0
def jE (m:List Sta) (i:Nat) (s t:Int):List Sta:=m.modify i fun q=>{q with mov:=q.mov++[(s,t)]}
def zx (m:List Sta) (i:Nat):List Int:=(m[i]?.map (·.ker)).getD []
def jY (g:Grammar) (i:Nat) (aft:List Int) (m:Option (List Sta)) (s:Int):Option (List Sta):=m.bind fun m=>
 if s∈aft then
  if QK m (Za g (zx m i) s)<0 then(if m.length=150 then none else some (jE (m++[⟨Za g (zx m i) s,[]⟩]) i s m.length))
  else some (jE m i s (QK m (Za g (zx m i) s)))
 else some m
def Js (g:Grammar):Nat→List Sta→Nat→Option (List Sta)
 |0,m,_=>some m
 |n+1,m,i=>if i<m.length then((zR g).foldl (jY g i (qax g (zX g (zx m i)))) (some m)).bind fun m'=>Js g n m' (i+1)else some m
def Yq (g:Grammar):Option (List Sta):=Js g 151 [⟨[0],[]⟩] 0
def goL (l:List (Int×Int)) (s:Int):Int:=match l with
 |[]=> -1
 |p::r=>if p.1=s then p.2 else goL r s
def goS (m:List Sta) (q s:Int):Int:=if q<0 then -1 else match m[q.toNat]? with
 |some x=>goL x.mov s
 |none=> -1
def zU (m:List Sta):Int→List Int→Int
 |q,[]=>q
 |q,s::l=>if q<0 then q else zU m (goS m q s) l
def qg (m:List Sta):List (Int×Int):=(List.range m.length).flatMap fun(i:Nat)=>((m[i]?.map (·.mov)).getD []).filterMap fun p=>if 1000≤p.1 then some ((i:Int),p.1)else none
def qcc (q s:Int):List (Int×Int)→Nat→Int
 |[],_=> -1
 |p::l,i=>if p.1=q∧p.2=s then(i:Int)else qcc q s l (i+1)
def Ze (t:List (Int×Int)) (q s:Int):Int:=qcc q s t 0
def xB (m:List Sta) (q:Int):List (Int×Int):=(m[q.toNat]?.map (·.mov)).getD []
def kL (m:List Sta):List (List Int):=(qg m).map fun t=>
 (xB m (goS m t.1 t.2)).foldl (fun l p=>if p.1<1000 then jo l p.1 else l) (if (1:Int)∈zx m (goS m t.1 t.2).toNat then[0]else[])
def Jf (E:Nat→Bool) (m:List Sta):List (List Int):=(qg m).map fun t=>
 (xB m (goS m t.1 t.2)).foldl (fun l p=>if 1000≤p.1∧E (p.1 - 1000).toNat=true then jo l (Ze (qg m) (goS m t.1 t.2) p.1)else l) []
def Zd (E:Nat→Bool) (m:List Sta) (i:Nat) (q:Int) (r:List Int) (out:List (List Int)) (k:Nat):List (List Int):=
 let s:=r.getD k 0
 if 1000≤s∧zT false E (r.drop (k+1))=true∧0≤zU m q (r.take k)∧0≤Ze (qg m) (zU m q (r.take k)) s then
  out.modify (Ze (qg m) (zU m q (r.take k)) s).toNat fun l=>jo l (i:Int)
 else out
def ZU (E:Nat→Bool) (m:List Sta) (i:Nat) (t:Int×Int) (out:List (List Int)) (p:GPr):List (List Int):=
 if 1000+p.left=t.2 then(List.range p.right.length).foldl (Zd E m i t.1 p.right) out else out
def zK (g:Grammar) (E:Nat→Bool) (m:List Sta):List (List Int):=
 (List.range (qg m).length).foldl (fun out i=>g.prods.foldl (ZU E m i ((qg m).getD i (0,0))) out) (List.replicate (qg m).length [])
structure Lk where
 st:Int:=0
 pr:Int:=0
 tk:List Int:=[]
 deriving DecidableEq,Inhabited
abbrev Lk.V (x:Lk):V:= .agg [vi x.st,vi x.pr,.sl 1 false (x.tk.map (V.int .i64))]

abbrev qrN (v:V) (l:List Int):Prop:=Qu v=some (vi (l.length:Nat))∧(∀(k:IntKind) (i:Int) (x:Int),0≤i→l[i.toNat]?=some x→zF 1 v (.int k i)=some (.iptr 1 (.int .i64 x) 0))∧ErP v (.sl 1 false (l.map (V.int .i64)))∧v.cells=[v]∧v.okCell=true∧v.isAgg=false
theorem XT (c:Bool) (l:List Int):qrN (.sl 1 c (l.map (V.int .i64))) l:=
 ⟨by simp[Qu,K4],fun k i x h0 hx=>qgd h0 hx,jv,rfl,rfl,rfl⟩
theorem qh2 (id f:Nat) (l:List Int):qrN (.asl id f 1 (l.map (V.int .i64))) l:=
 ⟨by simp[Qu,K4],fun k i x h0 hx=>qgz h0 hx,Jg,rfl,rfl,rfl⟩
def Ji (es:List V) (L:List (List Int)):Prop:=es.length=L.length∧ ∀(i:Nat) l,L[i]?=some l→ ∃v,es[i]?=some v∧qrN v l
theorem Ji.nil:Ji [] []:=⟨rfl,fun i l h=>by simp at h⟩
theorem Ji.snoc {es:List V} {L:List (List Int)} {v:V} {l:List Int} (h:Ji es L) (hv:qrN v l):Ji (es++[v]) (L++[l]):=by
 refine⟨by simp[h.1],fun i l' hi=>?_⟩
 by_cases e:i<L.length
 · rw[List.getElem?_append_left e]at hi
   obtain ⟨w,h1,h2⟩:=h.2 i l' hi
   exact⟨w,by rw[List.getElem?_append_left (by rw[h.1];exact e)];exact h1,h2⟩
 · by_cases e2:i=L.length
   · subst e2
     rw[List.getElem?_append_right (Nat.le_refl _),Nat.sub_self]at hi
     cases hi
     exact⟨v,by rw[← h.1,List.getElem?_append_right (Nat.le_refl _),Nat.sub_self];rfl,hv⟩
   · rw[List.getElem?_eq_none (by simp;omega)]at hi;cases hi
theorem Ji.set {es:List V} {L:List (List Int)} {v:V} {l:List Int} (h:Ji es L) (hv:qrN v l) (i:Nat):Ji (es.set i v) (L.set i l):=by
 refine⟨by simp[h.1],fun k l' hk=>?_⟩
 rw[List.getElem?_set]at hk ⊢
 by_cases e:i=k
 · subst e
   rw[if_pos rfl]at hk ⊢
   rw[h.1]
   by_cases hl:i<L.length
   · rw[if_pos hl]at hk ⊢;cases hk;exact⟨v,rfl,hv⟩
   · rw[if_neg hl]at hk;cases hk
 · rw[if_neg e]at hk ⊢;exact h.2 k l' hk
theorem Ji.erL {es:List V} {L:List (List Int)} (h:Ji es L):ZM es (L.map yQ):=by
 have : ∀(es:List V) (L:List (List Int)),Ji es L→ZM es (L.map yQ):=by
  intro es
  induction es with
  | nil=>intro L h;cases L with
    |nil=>exact .nil
    |cons a L=>have:=h.1;simp at this
  | cons v es ih=>intro L h;cases L with
    |nil=>have:=h.1;simp at this
    | cons a L=>
      obtain ⟨w,h1,h2⟩:=h.2 0 a rfl
      cases h1
      exact .cons h2.2.2.1 (ih L ⟨by have:=h.1;simpa using this,fun i l hi=>h.2 (i+1) l (by simpa using hi)⟩)
 exact this es L h
theorem Ji.rep (n:Nat):Ji (List.replicate n (V.sl 1 true [])) (List.replicate n []):=by
 refine⟨by simp,fun i l hi=>?_⟩
 rw[List.getElem?_replicate]at hi ⊢
 split at hi
 · cases hi;rename_i h;rw[if_pos h];exact⟨_,rfl,XT true []⟩
 · cases hi
theorem Ji.er {H:Nat→Option MObj} {id n:Nat} {es:List V} {L:List (List Int)} {ro:Bool} (hH:H id=some (.own 1 es ro)) (h:Ji es L) (hn:L.length=n):Er true H (.msl id 1 0 n) (.sl 1 false (L.map yQ)):=by
 obtain ⟨h1,h2⟩:=(h.erL.up (b:=true) (H:=H)).get
 refine .msl id 1 0 n es ro _ rfl hH (by rw[← hn,h.1];omega) (by simp[hn]) fun i c c' h3 h4=>?_
 rw[Nat.zero_add]at h3
 exact h2 i c c' h3 h4
theorem ldV {K:V→Prop} {k:Nat} {es:List V} {ro:Bool} {v:V} {o:Option MObj} (ho:o=some (.own 1 es ro)) (hx:es[k]?=some v) (ha:v.isAgg=false) (hk:K v):onS (ldQ o false 1 k 0) K:=by
 subst ho
 have e:ldQ (some (.own 1 es ro)) false 1 k 0=some v:=by simp[ldQ,hx,jw,ha]
 rw[e];exact hk
theorem stV {K:St→Prop} {s:St} {id k:Nat} {es:List V} {v w:V} {o:Option MObj} (ho:o=some (.own 1 es false)) (hx:es[k]?=some w) (hw:w.isAgg=false) (hv:v.cells=[v]) (hc:v.okCell=true) (ha:v.isAgg=false)
 (hk:K (s.setO id (some (.own 1 (es.set k v) false)))):onS (stQ s o 1 id k 0 v) K:=by
 subst ho
 have e0:jf 1 1 w v 0=some v:=by
  unfold jf
  rw[if_pos ⟨rfl,rfl,by rw[hw,ha]⟩]
 have e:stQ s (some (.own 1 es false)) 1 id k 0 v=some (s.setO id (some (.own 1 (es.set k v) false))):=by
  simp only[stQ,hx,e0,hv,hc,List.length_singleton,and_self,if_true,Option.map_some]
 rw[e];exact hk
structure MOk (g:Grammar) (m:List Sta):Prop where
 len:m.length≤150
 mvl: ∀q∈m,q.mov.length≤64
 mv: ∀q∈m,∀p∈q.mov,vH g.toks.length g.nons.length p.1∧ ∃t:Nat,p.2=t∧t<m.length
 kr: ∀q∈m,xD q.ker
 ki: ∀q∈m,∀x∈q.ker,JK g x
theorem MOk.kl {g:Grammar} {m:List Sta} (h:MOk g m) (hpl:g.prods.length≤60): ∀q∈m,q.ker.length≤960:=fun q hq=>
 yU (a:=0) (h.kr q hq) fun x hx=>by
  obtain ⟨h0,p,hp,_⟩:=h.ki q hq x hx
  have:=(List.getElem?_eq_some_iff.1 hp).1
  omega
theorem xW {m:List Sta} {q s:Int} (h:(q,s)∈qg m): ∃(n:Nat) (x:Sta),q=n∧m[n]?=some x∧1000≤s∧ ∃t,(s,t)∈x.mov:=by
 unfold qg at h
 rw[List.mem_flatMap]at h
 obtain ⟨n,hn,h⟩:=h
 rw[List.mem_filterMap]at h
 obtain ⟨p,hp,h⟩:=h
 rw[List.mem_range]at hn
 have hg:m[n]?=some m[n]:=ge_ hn
 rw[hg]at hp
 split at h
 · rename_i h1
   cases h
   exact⟨n,_,rfl,hg,h1,p.2,hp⟩
 · cases h
theorem K8 {m:List Sta} {n:Nat} {x:Sta} {s t:Int} (h:m[n]?=some x) (h1:1000≤s) (h2:(s,t)∈x.mov):((n:Int),s)∈qg m:=by
 unfold qg
 rw[List.mem_flatMap]
 refine⟨n,List.mem_range.2 (List.getElem?_eq_some_iff.1 h).1,?_⟩
 rw[List.mem_filterMap,h]
 exact⟨(s,t),h2,by rw[if_pos h1]⟩
theorem qdM {l:List (Int×Int)} {s t:Int} (h:(s,t)∈l):(s,goL l s)∈l:=by
 induction l with
 |nil=>cases h
 | cons a l ih=>
   unfold goL
   split
   · rename_i e;rw[← e];exact List.mem_cons_self
   · rename_i e
     rcases List.mem_cons.1 h with h|h
     · exact absurd (by rw[← h]) e
     · exact List.mem_cons_of_mem _ (ih h)
theorem MOk.trans_go {g:Grammar} {m:List Sta} (h:MOk g m) {q s:Int} (ht:(q,s)∈qg m): ∃r:Nat,goS m q s=r∧r<m.length:=by
 obtain ⟨n,x,rfl,hx,h1,t,h2⟩:=xW ht
 have:=(h.mv x (List.mem_of_getElem? hx) _ (qdM h2)).2
 unfold goS
 rw[if_neg o_,show ((n:Int)).toNat=n from rfl,hx]
 exact this
theorem qb3 {q s:Int}: ∀(T:List (Int×Int)) (n:Nat),(q,s)∈T→ ∃i:Nat,qcc q s T n=((n+i:Nat):Int)∧i<T.length
 |[],_,h=>by cases h
 | p ::T,n,h=>by
   unfold qcc
   split
   · exact⟨0,by simp,by simp⟩
   · rename_i e
     rcases List.mem_cons.1 h with h|h
     · subst h;exact absurd ⟨rfl,rfl⟩ e
     · obtain ⟨i,h1,h2⟩:=qb3 T (n+1) h
       exact⟨i+1,by rw[h1];omega,by simp;exact h2⟩
theorem VF {q s:Int} {T:List (Int×Int)} (h:(q,s)∈T): ∃i:Nat,Ze T q s=i∧i<T.length:=by
 obtain ⟨i,h1,h2⟩:=qb3 T 0 h
 exact⟨i,by unfold Ze;rw[h1];omega,h2⟩
theorem ZT {q s:Int}: ∀(T:List (Int×Int)) (n:Nat),qcc q s T n= -1∨ ∃i:Nat,qcc q s T n=((n+i:Nat):Int)∧i<T.length
 |[],_=>Or.inl rfl
 | p ::T,n=>by
   unfold qcc
   split
   · exact Or.inr ⟨0,by simp,by simp⟩
   · rcases ZT T (n+1)with h|⟨i,h1,h2⟩
     · exact Or.inl h
     · exact Or.inr ⟨i+1,by rw[h1];omega,by simp;exact h2⟩

abbrev Zg (l:List Int):Prop:=xD l∧ ∀x∈l,0≤x∧x<40
abbrev qe0 (L:List (List Int)):Prop:= ∀l∈L,Zg l
theorem qfT {s:List Int}: ∀{l:List Int} {x:Int},x∈s.foldl jo l↔x∈l∨x∈s:=by
 induction s with
 |nil=>intro l x;simp
 | cons a s ih=>
   intro l x
   rw[List.foldl_cons,ih,zH,List.mem_cons]
   constructor
   · rintro ((h|h)|h)
     · exact Or.inl h
     · exact Or.inr (Or.inl h)
     · exact Or.inr (Or.inr h)
   · rintro (h|h|h)
     · exact Or.inl (Or.inl h)
     · exact Or.inl (Or.inr h)
     · exact Or.inr h
theorem qcU {s:List Int}: ∀{l:List Int},xD l→xD (s.foldl jo l):=by
 induction s with
 |nil=>intro l h;exact h
 |cons a s ih=>intro l h;exact ih (jG h)
theorem Zg.join {l s:List Int} (h:Zg l) (hs:Zg s):Zg (s.foldl jo l):=
 ⟨qcU h.1,fun x hx=>(qfT.1 hx).elim (h.2 x) (hs.2 x)⟩
theorem Zg.take {s:List Int} (hs:Zg s) (k:Nat):Zg (s.take k):=
 ⟨hs.1.sublist (List.take_sublist _ _),fun x hx=>hs.2 x (List.mem_of_mem_take hx)⟩
theorem Zg.len {l:List Int} (h:Zg l):l.length≤40:=yU (a:=0) h.1 fun x hx=>by have:=h.2 x hx;omega
theorem qeF:Zg []:=⟨List.Pairwise.nil,fun x h=>by cases h⟩
theorem qe0.getD {L:List (List Int)} (h:qe0 L) (i:Nat):Zg (L.getD i []):=by
 unfold List.getD
 cases hg:L[i]? with
 |none=>exact qeF
 |some l=>exact h l (List.mem_of_getElem? hg)
theorem qe0.set {L:List (List Int)} (h:qe0 L) {l:List Int} (hl:Zg l) (i:Nat):qe0 (L.set i l):=fun x hx=>
 (List.mem_or_eq_of_mem_set hx).elim (h x) fun e=>e ▸ hl

theorem qWI {x y:Int}:(decide (x / 16=y / 16) && (decide (x % 16=y % 16) && true))=decide (x=y):=by
 rw[Bool.eq_iff_iff];simp only[Bool.and_eq_true,decide_eq_true_eq,and_true];omega
theorem qx4 {neg:Bool} {x y:Int} {K:V→Prop} (hk:K (.bool (decide (x=y) != neg))):qae neg [1,1] (itV x) (itV y) K:=by
 refine qce (t:=decide (x=y)) ?_ hk
 rw[← qWI]
 rfl
theorem ZL {a b:List Int} (ha:a.length≤4611686018427387903) (hb:b.length≤4611686018427387903):Pure Tryz.prog 119 [.sl 2 false (a.map itV),.sl 2 false (b.map itV)] (.bool (decide (a=b))):=by
 refine pure_intro Tryz.func119 nm_ qeI (by show 2≤26;decide) ?_
 show ewp _ qgU _ _
 by_cases hl:a.length=b.length
 · repeat' with_reducible first
    |refine s_ ?_
    |simp -implicitDefEqProofs only[wZZ,seval]
    |apply qa<;>intro h h_<;>(try simp only[wD,reduceCtorEq]at h_)<;>(try exact wb_)<;>(try simp only[h])
   refine qc ?nx1 (fun(k:Nat) s=>s.f 0=?v1_0∧s.f 1=?v1_1∧s.f 5=vi k∧(k≤a.length)∧(∀i,i<k→a[i]?=b[i]?)) (fun k=>a.length - k) (0) wj_ (by refine⟨?_,?_,?_,wo_,wo_⟩<;>first|(simp -implicitDefEqProofs only[wL,wM,wN,wX,seval,Option.some.injEq]<;>exact wt_)|rfl|exact⟨_,rfl⟩) ?_
   intro k s hnx ⟨g0,g1,g5,k1_0,k1_1⟩
   have hz:=w1_ k
   by_cases hk:k<a.length
   · have hga:a[k]?=some a[k]:=ge_ hk
     have hgb:b[k]?=some b[k]:=ge_ o_
     by_cases he:a[k]=b[k]
     · have hn: ∀i,i<k+1→a[i]?=b[i]?:=fun i hi=>by
        by_cases e:i=k
        · subst e;rw[hga,hgb,he]
        · exact k1_1 i o_
       have hed:(decide (a[k]=b[k]) != true)=false:=by rw[decide_eq_true he];rfl
       repeat' with_reducible first
        |refine s_ ?_
        |simp -implicitDefEqProofs only[wZZ,seval,g0,g1,g5,hz,hed]
        |apply qa<;>intro h h_<;>(try simp only[wD,reduceCtorEq]at h_)<;>(try exact wb_)<;>(try simp only[h])
        |refine t_ ?_
        |(refine qx4 ?_)
       refine⟨wk_,k+1,o_,?_⟩
       refine⟨?_,?_,?_,?_,?_⟩
       iterate 3 (focus(first|(simp -implicitDefEqProofs only[wL,wM,wN,wX,seval,Option.some.injEq,g0,g1,g5]<;>exact wt_)|rfl|exact⟨_,rfl⟩))
       all_goals try omega
     · have hne:a≠b:=fun e=>he (by subst e;rfl)
       rw[decide_eq_false hne]
       have hed:(decide (a[k]=b[k]) != true)=true:=by rw[decide_eq_false he];rfl
       repeat' with_reducible first
        |refine s_ ?_
        |simp -implicitDefEqProofs only[wZZ,seval,g0,g1,g5,hz,hed]
        |apply qa<;>intro h h_<;>(try simp only[wD,reduceCtorEq]at h_)<;>(try exact wb_)<;>(try simp only[h])
        |refine t_ ?_
        |(refine qx4 ?_)
       all_goals refine qx rfl (Or.inr rfl) ?_
       all_goals(try simp -implicitDefEqProofs only[wL,seval,g0,g1,g5])
       all_goals refine er_ ?_
       all_goals(try(with_reducible rfl))
   · have e:a=b:=List.ext_getElem? fun i=>by
      by_cases hi:i<k
      · exact k1_1 i hi
      · rw[List.getElem?_eq_none o_,List.getElem?_eq_none o_]
     rw[decide_eq_true e]
     repeat' with_reducible first
      |refine s_ ?_
      |simp -implicitDefEqProofs only[wZZ,seval,g0,g1,g5]
      |apply qa<;>intro h h_<;>(try simp only[wD,reduceCtorEq]at h_)<;>(try exact wb_)<;>(try simp only[h])
     all_goals refine qx rfl (Or.inr rfl) ?_
     all_goals(try simp -implicitDefEqProofs only[wL,seval,g0,g1,g5])
     all_goals refine er_ ?_
     all_goals(try(with_reducible rfl))
 · have hne:a≠b:=fun e=>hl (by rw[e])
   rw[decide_eq_false hne]
   skip
   repeat' with_reducible first
    |refine s_ ?_
    |simp -implicitDefEqProofs only[wZZ,seval]
    |apply qa<;>intro h h_<;>(try simp only[wD,reduceCtorEq]at h_)<;>(try exact wb_)<;>(try simp only[h])
   all_goals refine qx rfl (Or.inr rfl) ?_
   all_goals(try simp -implicitDefEqProofs only[wL,seval])
   all_goals refine er_ ?_
   all_goals(try(with_reducible rfl))
theorem xQ {l:List Int} {x:Int} (hl:l.length≤1099511627776):Pure Tryz.prog 117 [.sl 2 false (l.map itV),itV x] (.sl 2 false ((jo l x).map itV)):=by
 refine pure_intro Tryz.func117 nm_ qej (by show 2≤71;decide) ?_
 show ewp _ qgY _ _
 repeat' with_reducible first
  |refine s_ ?_
  |simp -implicitDefEqProofs only[wZZ,seval]
  |refine t_ ?_
 refine qc ?nx1 (fun(k:Nat) s=>s.f 0=?v1_0∧s.f 3=?v1_3∧s.H 0=some (.own 2 [itV x] false)∧s.f 5=vi k∧(k≤l.length)∧(Yc l x k=Yc l x l.length)) (fun k=>k) (l.length) wj_ (by refine⟨?_,?_,?_,?_,wo_,wo_⟩<;>first|(simp -implicitDefEqProofs only[wL,wM,wN,wX,seval,Option.some.injEq]<;>exact wt_)|rfl|exact⟨_,rfl⟩) ?_
 intro k s hnx ⟨g0,g3,o0,g5,k1_0,k1_1⟩
 by_cases hk:k=0
 · subst hk
   have hc:Yc l x l.length=0:=k1_1.symm
   have hp:jo l x=[]++[x]++l:=by unfold jo;rw[hc];simp
   rw[hp]
   repeat' with_reducible first
    |refine s_ ?_
    |simp -implicitDefEqProofs only[wZZ,seval,g0,g3,g5,o0]
    |apply XW;(focus(first|exact qP.sl|exact qP.asl|exact qP.str));exact wf_;(focus(unfold maxLen;first|omega|(simp only[wZ]<;>omega)))
    |(refine VJ ?_;simp -implicitDefEqProofs only[wM,wN,seval,g0,g3,g5,o0];apply qbU;(focus(first|exact qP.sl|exact qP.asl|exact qP.str));(exact wf_);(focus(unfold maxLen;first|omega|(simp only[wZ]<;>omega))))
    |apply ZH;omega;exact wf_
    |apply yS;omega;exact wf_
    |refine t_ ?_
   refine qx rfl (Or.inr rfl) ?_
   simp -implicitDefEqProofs only[wL,seval,g0,g3,g5]
   refine er_ ?_
   try(with_reducible rfl)
   simp
 · obtain ⟨m,rfl⟩: ∃m,k=m+1:=⟨k - 1,o_⟩
   have hm:m<l.length:=o_
   have hgm:l[m]?=some l[m]:=ge_ hm
   have hzm:IntKind.i64.wrap (((m+1:Nat):Int) - 1)=(m:Int):=by rw[wrap64 o_ o_];omega
   rw[QH,getD_eq hm]at k1_1
   by_cases hgt:x<l[m]
   · rw[if_pos hgt]at k1_1
     generalize l[m]=y at *
     repeat' with_reducible first
      |refine s_ ?_
      |simp -implicitDefEqProofs only[wZZ,seval,g0,g3,g5,o0,hzm]
      |(first|apply qa|apply qw|apply qp)<;>intro h h_<;>(try simp only[wD,reduceCtorEq]at h_)<;>(try exact wb_)<;>(try simp only[h])
      |refine t_ ?_
      |simp -implicitDefEqProofs (disch:=omega) only[w64,if_neg]
     all_goals exact⟨wg_,m,o_,trivial,trivial,trivial,rfl,o_,k1_1⟩
   · rw [if_neg hgt]at k1_1
     have hp:jo l x=if l[m]=x then l else l.take (m+1)++[x]++l.drop (m+1):=by
      unfold jo;rw[← k1_1];simp[ge_ hm]
     by_cases hx:l[m]=x
     · rw[hp,if_pos hx]
       have hed:(decide (l[m]=x) != false)=true:=by rw[decide_eq_true hx];rfl
       generalize l[m]=y at *
       repeat' with_reducible first
        |refine s_ ?_
        |simp -implicitDefEqProofs only[wZZ,seval,g0,g3,g5,o0,hzm,hed]
        |(first|apply qa|apply qw|apply qp)<;>intro h h_<;>(try simp only[wD,reduceCtorEq]at h_)<;>(try exact wb_)<;>(try simp only[h])
        |refine t_ ?_
        |(refine qx4 ?_)
        |simp -implicitDefEqProofs (disch:=omega) only[w64,if_neg]
       all_goals refine qx rfl (Or.inr rfl) ?_
       all_goals(try simp -implicitDefEqProofs only[wL,seval,g0,g3,g5])
       all_goals refine er_ ?_
       all_goals(try(with_reducible rfl))
     · rw[hp,if_neg hx]
       have hed:(decide (l[m]=x) != false)=false:=by rw[decide_eq_false hx];rfl
       generalize l[m]=y at *
       repeat' with_reducible first
        |refine s_ ?_
        |simp -implicitDefEqProofs only[wZZ,seval,g0,g3,g5,o0,hzm,hed]
        |(first|apply qa|apply qw|apply qp)<;>intro h h_<;>(try simp only[wD,reduceCtorEq]at h_)<;>(try exact wb_)<;>(try simp only[h])
        |refine t_ ?_
        |(refine qx4 ?_)
        |apply XW;(focus(first|exact qP.sl|exact qP.asl|exact qP.str));exact wf_;(focus(unfold maxLen;first|omega|(simp only[wZ]<;>omega)))
        |(refine VJ ?_;simp -implicitDefEqProofs only[wM,wN,seval,g0,g3,g5,o0,hzm,hed];apply qbU;(focus(first|exact qP.sl|exact qP.asl|exact qP.str));(exact wf_);(focus(unfold maxLen;first|omega|(simp only[wZ]<;>omega))))
        |apply ZH;omega;exact wf_
        |apply yS;omega;exact wf_
        |simp -implicitDefEqProofs (disch:=omega) only[w64,if_neg]
       all_goals refine qx rfl (Or.inr rfl) ?_
       all_goals(try simp -implicitDefEqProofs only[wL,seval,g0,g3,g5])
       all_goals refine er_ ?_
       all_goals(try(with_reducible rfl))

theorem qfa {a:List Int} {x:Int} (h:xD (a++[x])):jo a x=a++[x]:=by
 have ha:xD a:=h.sublist (List.sublist_append_left _ _)
 exact JF (jG ha) h fun y=>by rw[zH,List.mem_append,List.mem_singleton]
theorem JK.nat {g:Grammar} {x:Int} (h:JK g x): ∃(m d:Nat) (p:GPr),x / 16=(m:Int)∧x % 16=(d:Int)∧g.prods[m]?=some p∧d≤p.right.length∧nxt g x=(p.right[d]?).getD (-1):=by
 obtain ⟨h0,p,hp,hd⟩:=h
 refine⟨(x / 16).toNat,(x % 16).toNat,p,o_,o_,hp,hd,?_⟩
 unfold nxt
 rw[hp];rfl
theorem kD {g:Grammar} {x:Int} (hx:JK g x) (hpl:g.prods.length≤60) (hrl: ∀p∈g.prods,p.right.length≤8):Pure Tryz.prog 118 [g.V,itV x] (.bool true):=by
 refine pure_intro Tryz.func118 nm_ qd0 (by show 2≤34;decide) ?_
 show ewp _ qk0 _ _
 obtain ⟨m,d,p,hm,hd,hp,hl,hn⟩:=hx.nat
 have hml:=(List.getElem?_eq_some_iff.1 hp).1
 have hrl:=hrl p (List.mem_of_getElem? hp)
 have hV:itV x=.agg [vi m,vi d]:=by rw[← hm,← hd]
 rw[hV]
 obtain ⟨pl,pr,pc,pco,pa,pat⟩:=p
 dsimp only at hl hrl
 repeat' with_reducible first
  |refine s_ ?_
  |simp -implicitDefEqProofs only[wZZ,seval]
  |(first|apply qw|apply qp)<;>intro h h_<;>(try simp only[wD,reduceCtorEq]at h_)<;>(try exact wb_)<;>(try simp only[h])
  |refine t_ ?_
 all_goals refine qx rfl (Or.inr rfl) ?_
 all_goals(try simp -implicitDefEqProofs only[wL,seval])
 all_goals refine er_ ?_
 all_goals(try(with_reducible rfl))
 all_goals exact decide_eq_true o_
theorem xg {g:Grammar} {x:Int} (hx:JK g x) (hpl:g.prods.length≤60) (hrl: ∀p∈g.prods,p.right.length≤8):Pure Tryz.prog 85 [g.V,itV x] (vi (nxt g x)):=by
 refine pure_intro Tryz.func85 nm_ qi4 (by show 2≤33;decide) ?_
 show ewp _ qET _ _
 have hit:=kD hx hpl hrl
 obtain ⟨m,d,p,hm,hd,hp,hl,hn⟩:=hx.nat
 have hml:=(List.getElem?_eq_some_iff.1 hp).1
 have hrl:=hrl p (List.mem_of_getElem? hp)
 have hV:itV x=.agg [vi m,vi d]:=by rw[← hm,← hd]
 rw[hV]at hit
 rw[hV,hn]
 obtain ⟨pl,pr,pc,pco,pa,pat⟩:=p
 dsimp only at hl hrl ⊢
 by_cases hdl:d<pr.length
 · have hgd:pr[d]?=some pr[d]:=ge_ hdl
   rw[hgd,Option.getD_some]
   generalize pr[d]=sy at *
   repeat' with_reducible first
    |refine s_ ?_
    |simp -implicitDefEqProofs only[wZZ,seval]
    |apply qa<;>intro h h_<;>(try simp only[wD,reduceCtorEq]at h_)<;>(try exact wb_)<;>(try simp only[h])
    |refine t_ ?_
    |refine cq2 hit qf qf ?_
   all_goals refine qx rfl (Or.inr rfl) ?_
   all_goals(try simp -implicitDefEqProofs only[wL,seval])
   all_goals refine er_ ?_
   all_goals(try(with_reducible rfl))
 · rw[List.getElem?_eq_none o_,Option.getD_none]
   repeat' with_reducible first
    |refine s_ ?_
    |simp -implicitDefEqProofs only[wZZ,seval]
    |apply qa<;>intro h h_<;>(try simp only[wD,reduceCtorEq]at h_)<;>(try exact wb_)<;>(try simp only[h])
    |refine t_ ?_
    |refine cq2 hit qf qf ?_
   all_goals refine qx rfl (Or.inr rfl) ?_
   all_goals(try simp -implicitDefEqProofs only[wL,seval])
   all_goals refine er_ ?_
   all_goals(try(with_reducible rfl))
theorem ZR {g:Grammar} {l:List Int} (hx: ∀x∈l,JK g x) (hr:xD l) (hl:l.length≤1000000) (hpl:g.prods.length≤60) (hrl: ∀p∈g.prods,p.right.length≤8):Pure Tryz.prog 116 [g.V,.sl 2 false (l.map itV)] (.sl 2 false (l.map itV)):=by
 refine pure_intro Tryz.func116 nm_ qfR (by show 2≤26;decide) ?_
 show ewp _ qeG _ _
 repeat' with_reducible first
  |refine s_ ?_
  |simp -implicitDefEqProofs only[wZZ,seval]
  |refine t_ ?_
 refine qc ?nx1 (fun(i:Nat) s=>s.f 1=?v1_1∧s.f 2=?v1_2∧s.H 0=some (.own 5 [g.V] false)∧(∃c,s.f 5=.sl 2 c ((l.take i).map itV))∧s.f 6=vi i∧(i≤l.length)) (fun i=>l.length - i) (0) wj_ (by refine⟨?_,?_,?_,?_,?_,wo_⟩<;>first|(simp -implicitDefEqProofs only[wL,wM,wN,wX,seval,Option.some.injEq]<;>exact wt_)|rfl|exact⟨_,rfl⟩) ?_
 intro i s hnx ⟨g1,g2,o0,⟨c5,g5⟩,g6,k1_0⟩
 have hz:=w1_ i
 by_cases hi:i<l.length
 · have hgi:l[i]?=some l[i]:=ge_ hi
   have htk:l.take (i+1)=l.take i++[l[i]]:=by rw[List.take_add_one,hgi];rfl
   have hit:=kD (hx _ (List.getElem_mem hi)) hpl hrl
   have hput:=xQ (l:=l.take i) (x:=l[i]) (by rw[List.length_take];omega)
   rw[qfa (by rw[← htk];exact hr.sublist (List.take_sublist _ _)),← htk]at hput
   generalize l[i]=x at *
   repeat' with_reducible first
    |refine s_ ?_
    |simp -implicitDefEqProofs only[wZZ,seval,g1,g2,g5,g6,o0,hz]
    |apply qa<;>intro h h_<;>(try simp only[wD,reduceCtorEq]at h_)<;>(try exact wb_)<;>(try simp only[h])
    |refine t_ ?_
    |refine cq2 hit qf qf ?_
    |refine cq2 hput jv qf ?_
   refine⟨wk_,i+1,o_,?_⟩
   refine⟨?_,?_,?_,?_,?_,?_⟩
   iterate 5 (focus(first|(simp -implicitDefEqProofs only[wL,wM,wN,wX,seval,Option.some.injEq,g1,g2,g5,g6,o0]<;>exact wt_)|rfl|exact⟨_,rfl⟩))
   all_goals try omega
 · have e:l.take i=l:=List.take_of_length_le o_
   rw[e]at g5
   repeat' with_reducible first
    |refine s_ ?_
    |simp -implicitDefEqProofs only[wZZ,seval,g1,g2,g5,g6,o0,hz]
    |apply qa<;>intro h h_<;>(try simp only[wD,reduceCtorEq]at h_)<;>(try exact wb_)<;>(try simp only[h])
   all_goals refine qx rfl (Or.inr rfl) ?_
   all_goals(try simp -implicitDefEqProofs only[wL,seval,g1,g2,g5,g6])
   all_goals refine er_ ?_
   all_goals(try(with_reducible rfl))

structure ClM (g:Grammar) (l c:List Int):Prop where
 rise:xD c
 has: ∀x∈l,x∈c
 least: ∀D,qTc g l D→ ∀x∈c,D x
 ok: ∀x∈c,JK g x
theorem ClM.len {g:Grammar} {l c:List Int} (h:ClM g l c) (hpl:g.prods.length≤60):c.length≤960:=
 yU (a:=0) h.rise fun x hx=>by
  obtain ⟨h0,p,hp,_⟩:=h.ok x hx
  have:=(List.getElem?_eq_some_iff.1 hp).1
  omega
theorem ClM.put {g:Grammar} {l c:List Int} (h:ClM g l c) {y:Int} {m:Nat} {p:GPr} (hy:y∈c) (hp:g.prods[m]?=some p) (h1:1000≤nxt g y) (h2:p.left=nxt g y - 1000):ClM g l (jo c (16 *(m:Int))):=by
 refine⟨jG h.rise,fun x hx=>zH.2 (Or.inl (h.has x hx)),fun D hD x hx=>?_,fun x hx=>?_⟩
 · rcases zH.1 hx with hx|rfl
   · exact h.least D hD x hx
   · exact hD.2 y (h.least D hD y hy) m p hp h1 h2
 · rcases zH.1 hx with hx|rfl
   · exact h.ok x hx
   · exact qeD hp
def qMS (g:Grammar) (y:Int) (c:List Int):Prop:= ∀(m:Nat) p,g.prods[m]?=some p→1000≤nxt g y→p.left=nxt g y - 1000→16 *(m:Int)∈c
theorem ClM.done {g:Grammar} {l c:List Int} (h:ClM g l c) (hc: ∀y∈c,qMS g y c):IsCl g l c:=
 ⟨h.rise,⟨h.has,fun x hx m p hp h1 h2=>hc x hx m p hp h1 h2⟩,h.least⟩
theorem qe7 {g:Grammar} (hg:GOk g) {x:Int} (hx:JK g x): -1≤nxt g x∧nxt g x<2000:=by
 obtain ⟨m,d,p,_,_,hp,_,hn⟩:=hx.nat
 rw[hn]
 cases h:p.right[d]? with
 |none=>simp
 | some s=>
   have h1:=hg.tk2;have h2:=hg.nn2
   rcases hg.right p (List.mem_of_getElem? hp) s (List.mem_of_getElem? h)with ⟨t,rfl,ht⟩|⟨k,rfl,hk⟩<;>simp<;>omega
theorem vg {g:Grammar} {l:List Int} (hx: ∀x∈l,JK g x) (hr:xD l) (hl:l.length≤1000000) (hg:GOk g):Pure Tryz.prog 84 [g.V,.sl 2 false (l.map itV)] (.sl 2 false ((zX g l).map itV)):=by
 refine pure_intro Tryz.func84 nm_ qli (by show 2≤59;decide) ?_
 show ewp _ qks _ _
 have hpl:=hg.pl2;have hrl:=hg.rlen
 have hri:=ZR hx hr hl hpl hrl
 repeat' with_reducible first
  |refine s_ ?_
  |simp -implicitDefEqProofs only[wZZ,seval]
  |refine cq2 hri qf qf ?_
  |refine t_ ?_
 refine qc ?nx1 (fun(q:List Int×Int) s=>s.f 2=?v1_2∧s.H 0=some (.own 5 [g.V] false)∧s.f 5=.sl 2 false (q.1.map itV)∧s.f 6=vi q.2∧(ClM g l q.1)∧((q.2=(q.1.length:Int)→ ∀y∈q.1,qMS g y q.1))) (fun q=>2 *(961 - q.1.length)+(if q.2=(q.1.length:Int)then 0 else 1)) ((l,-1)) wj_ (by refine⟨?_,?_,?_,?_,(by exact⟨hr,fun _ h=>h,fun D hD=>hD.1,hx⟩),(by intro e;omega)⟩<;>first|(simp -implicitDefEqProofs only[wL,wM,wN,wX,seval,Option.some.injEq]<;>exact wt_)|rfl|exact⟨_,rfl⟩) ?_
 intro q s hnx ⟨g2,o0,g5,g6,k1_0,k1_1⟩
 obtain ⟨c,n⟩:=q
 dsimp only at *
 have hcl:=k1_0.len hpl
 by_cases hn:n=(c.length:Int)
 · have hd:=(k1_0.done (k1_1 hn)).uniq (KL hpl hrl hx hr)
   rw[← hd]
   subst hn
   repeat' with_reducible first
    |refine s_ ?_
    |simp -implicitDefEqProofs only[wZZ,seval,g2,g5,g6,o0]
   all_goals refine qx rfl (Or.inr rfl) ?_
   all_goals(try simp -implicitDefEqProofs only[wL,seval,g2,g5,g6])
   all_goals refine er_ ?_
   all_goals(try(with_reducible rfl))
 · repeat' with_reducible first
    |refine s_ ?_
    |simp -implicitDefEqProofs only[wZZ,seval,g2,g5,g6,o0]
    |apply qa<;>intro h h_<;>(try simp only[wD,reduceCtorEq]at h_)<;>(try exact wb_)<;>(try simp only[h])
    |simp -implicitDefEqProofs (disch:=omega) only[w64,if_neg]
   refine qc ?nx2 (fun(i:Nat) s=>s.f 2=?v2_2∧s.f 6=?v2_6∧s.H 0=some (.own 5 [g.V] false)∧s.f 7=vi i∧(i≤c.length)∧((∀y∈c.take i,qMS g y c))∧(s.f 5=.sl 2 false (c.map itV))) (fun i=>c.length - i) (0) wj_ (by refine⟨?_,?_,?_,?_,wo_,(by intro y hy;simp at hy),(by(try simp -implicitDefEqProofs only[wL,wM,wN,seval,g2,g5,g6,o0]);first|done|rfl)⟩<;>first|(simp -implicitDefEqProofs only[wL,wM,wN,wX,seval,Option.some.injEq,g2,g5,g6,o0]<;>exact wt_)|rfl|exact⟨_,rfl⟩) ?_
   intro i s hnx ⟨g2,g6,o0,g7,k2_0,k2_1,g5⟩
   have hz:=w1_ i
   by_cases hi:i<c.length
   · have hgi:c[i]?=some c[i]:=ge_ hi
     have hyc:=List.getElem_mem hi
     have htk:c.take (i+1)=c.take i++[c[i]]:=by rw[List.take_add_one,hgi];rfl
     have hok:=k1_0.ok _ hyc
     have hnx:=xg hok hpl hrl
     have hbd:=qe7 hg hok
     generalize c[i]=y at *
     generalize hs:nxt g y=sy at *
     repeat' with_reducible first
      |refine s_ ?_
      |simp -implicitDefEqProofs only[wZZ,seval,g2,g6,g7,g5,o0,hz]
      |apply qa<;>intro h h_<;>(try simp only[wD,reduceCtorEq]at h_)<;>(try exact wb_)<;>(try simp only[h])
      |refine t_ ?_
      |refine cq2 hnx qf qf ?_
     refine qc ?nx3 (fun(r:Nat×List Int) s=>s.f 2=?v3_2∧s.f 6=?v3_6∧s.f 7=?v3_7∧s.f 8=?v3_8∧s.H 0=some (.own 5 [g.V] false)∧s.f 9=vi r.1∧(r.1≤g.prods.length)∧(ClM g l r.2)∧((∀x∈c,x∈r.2))∧((∀(m:Nat) p,m<r.1→g.prods[m]?=some p→1000≤sy→p.left=sy - 1000→16 *(m:Int)∈r.2))∧(s.f 5=.sl 2 false (r.2.map itV))) (fun r=>g.prods.length - r.1) ((0,c)) wj_ (by refine⟨?_,?_,?_,?_,?_,?_,wo_,(by exact k1_0),(by exact fun _ h=>h),(by intro m p h;exact absurd h (Nat.not_lt_zero m)),(by(try simp -implicitDefEqProofs only[wL,wM,wN,seval,g2,g6,g7,g5,o0]);first|done|rfl)⟩<;>first|(simp -implicitDefEqProofs only[wL,wM,wN,wX,seval,Option.some.injEq,g2,g6,g7,g5,o0]<;>exact wt_)|rfl|exact⟨_,rfl⟩) ?_
     intro r s hnx ⟨g2,g6,g7,g8,o0,g9,k3_0,k3_1,k3_2,k3_3,g5⟩
     obtain ⟨j,o⟩:=r
     dsimp only at *
     have hol:=k3_1.len hpl
     have hzj:=w1_ j
     have hzs:IntKind.i64.wrap (sy - 1000)=sy - 1000:=wrap64 o_ o_
     by_cases hj:j<g.prods.length∧1000≤sy
     · obtain ⟨hj1,hj2⟩:=hj
       have hgj:g.prods[j]?=some g.prods[j]:=ge_ hj1
       obtain ⟨lf,hl1,hl2⟩:=hg.left _ (List.getElem_mem hj1)
       generalize g.prods[j]=p at *
       have hput:=xQ (l:=o) (x:=16 *(j:Int)) o_
       have hkv:itV (16 *(j:Int))=.agg [vi j,vi 0]:=by
        show V.agg [vi (16 *(j:Int) / 16),vi (16 *(j:Int) % 16)]=_
        rw[show 16 *(j:Int) / 16=(j:Int) by omega,show 16 *(j:Int) % 16=0 by omega]
       rw[hkv]at hput
       obtain ⟨pl,pr,pc,pco,pa,pat⟩:=p
       dsimp only at hl1
       by_cases he:pl=sy - 1000
       · have hnew:=k3_1.put (y:=y) (k3_2 y hyc) hgj o_ (by rw[hs];exact he)
         subst hl1
         repeat' with_reducible first
          |refine s_ ?_
          |simp -implicitDefEqProofs only[wZZ,seval,g2,g6,g7,g8,g9,g5,o0,hz,hzj,hzs]
          |(first|apply qa|apply qw|apply qp)<;>intro h h_<;>(try simp only[wD,reduceCtorEq]at h_)<;>(try exact wb_)<;>(try simp only[h])
          |refine t_ ?_
          |refine cq2 hput qf qf ?_
         refine⟨wg_,(j+1,jo o (16 *(j:Int))),by dsimp only;omega,?_⟩;(repeat refine⟨True.intro,?_⟩)
         refine⟨rfl,by dsimp only;omega,hnew,fun x hx=>zH.2 (Or.inl (k3_2 x hx)),fun m p hm hp h1 h2=>?_,rfl⟩
         dsimp only at hm ⊢
         by_cases e:m=j
         · subst e;exact zH.2 (Or.inr rfl)
         · exact zH.2 (Or.inl (k3_3 m p o_ hp h1 h2))
       · have hnn: ∀(m:Nat) p,m<j+1→g.prods[m]?=some p→1000≤sy→p.left=sy - 1000→16 *(m:Int)∈o:=fun m p hm hp h1 h2=>by
          by_cases e:m=j
          · subst e;rw[hgj]at hp;cases hp;exact absurd h2 he
          · exact k3_3 m p o_ hp h1 h2
         subst hl1
         repeat' with_reducible first
          |refine s_ ?_
          |simp -implicitDefEqProofs only[wZZ,seval,g2,g6,g7,g8,g9,g5,o0,hz,hzj,hzs]
          |(first|apply qa|apply qw|apply qp)<;>intro h h_<;>(try simp only[wD,reduceCtorEq]at h_)<;>(try exact wb_)<;>(try simp only[h])
          |refine t_ ?_
         refine⟨wg_,(j+1,o),by dsimp only;omega,?_⟩;(repeat refine⟨True.intro,?_⟩)
         exact⟨rfl,by dsimp only;omega,k3_1,k3_2,hnn,rfl⟩
     · have hat:qMS g y o:=fun m p hp h1 h2=>by
        rw[hs]at h1 h2
        have:=(List.getElem?_eq_some_iff.1 hp).1
        exact k3_3 m p o_ hp h1 h2
       by_cases hlen:o.length=c.length
       · have hoc:c=o:=VB k1_0.rise k3_1.rise k3_2 o_
         subst hoc
         have hnn: ∀z∈c.take (i+1),qMS g z c:=fun z hz=>by
          rw[htk]at hz
          rcases List.mem_append.1 hz with hz|hz
          · exact k2_1 z hz
          · rw[List.mem_singleton]at hz;subst hz;exact hat
         repeat' with_reducible first
          |refine s_ ?_
          |simp -implicitDefEqProofs only[wZZ,seval,g2,g6,g7,g8,g9,g5,o0,hz]
          |(first|apply qa|apply qw|apply qp)<;>intro h h_<;>(try simp only[wD,reduceCtorEq]at h_)<;>(try exact wb_)<;>(try simp only[h])
          |refine t_ ?_
         all_goals refine⟨wg_,i+1,o_,?_⟩;(repeat refine⟨True.intro,?_⟩)
         all_goals exact⟨rfl,o_,hnn,trivial⟩
       · have hle:c.length≤o.length:=by
          have: ∀(a b:List Int),xD a→(∀x∈a,x∈b)→xD b→a.length≤b.length:=fun a b ha hb hr=>by
           by_cases h:b.length≤a.length
           · rw[VB ha hr hb h];exact Nat.le_refl _
           · omega
          exact this c o k1_0.rise k3_2 k3_1.rise
         repeat' with_reducible first
          |refine s_ ?_
          |simp -implicitDefEqProofs only[wZZ,seval,g2,g6,g7,g8,g9,g5,o0,hz]
          |(first|apply qa|apply qw|apply qp)<;>intro h h_<;>(try simp only[wD,reduceCtorEq]at h_)<;>(try exact wb_)<;>(try simp only[h])
          |refine t_ ?_
         all_goals refine⟨wg_,(o,(c.length:Int)),by dsimp only;rw[if_neg o_];omega,?_⟩;(repeat refine⟨True.intro,?_⟩)
         all_goals exact⟨rfl,rfl,k3_1,fun e=>by dsimp only at e;omega⟩
   · have hcc:c.take i=c:=List.take_of_length_le o_
     rw[hcc]at k2_1
     skip
     repeat' with_reducible first
      |refine s_ ?_
      |simp -implicitDefEqProofs only[wZZ,seval,g2,g6,g7,g5,o0,hz]
      |apply qa<;>intro h h_<;>(try simp only[wD,reduceCtorEq]at h_)<;>(try exact wb_)<;>(try simp only[h])
     refine⟨wg_,(c,(c.length:Int)),by dsimp only;rw[if_pos rfl];omega,?_⟩;(repeat refine⟨True.intro,?_⟩)
     exact⟨rfl,rfl,k1_0,fun _=>k2_1⟩
end Go.Proofs
