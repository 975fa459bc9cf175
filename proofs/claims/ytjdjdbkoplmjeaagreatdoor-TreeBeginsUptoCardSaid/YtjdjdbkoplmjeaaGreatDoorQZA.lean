/- Part of a proof that a law of the given program answers true. -/
import Derived.Test.YtjdjdbkoplmjeaaGreatDoorQYB
import Derived.Test.YtjdjdbkoplmjeaaGreatDoorQVA
import Derived.Test.YtjdjdbkoplmjeaaGreatDoorQMA
set_option linter.unusedSimpArgs false
set_option linter.unusedVariables false
set_option maxHeartbeats 4000000
namespace Go.Proofs
open Go.E
theorem qd8 {Z:Nat→Int}: ∀(l:List Int) {a:Int},a<0→l.foldl (fun n s=>if Z (s - 1000).toNat<0 then -1 else if 0<n then n+Z (s - 1000).toNat else n) a<0
 |[],a,h=>h
 | s::l,a,h=>by
   rw[List.foldl_cons]
   refine qd8 l ?_
   split
   · omega
   · rw[if_neg o_];exact h
theorem qhg {has:Nat→Bool} {Z:Nat→Int} {k:Nat}: ∀{P:List GPr} {m:Int},P.foldl (ezS has Z k) m<0∨m≤P.foldl (ezS has Z k) m
 |[],m=>Or.inr (Int.le_refl _)
 | p :: P, m =>by
   rw[List.foldl_cons]
   rcases qhg (has:=has) (Z:=Z) (k:=k) (P:=P) (m:=ezS has Z k m p)with h|h
   · exact Or.inl h
   · by_cases hm:m<0
     · have e:ezS has Z k m p=m:=by unfold ezS;rw[if_neg o_]
       rw[e]at h ⊢
       exact Or.inr h
     · unfold ezS at h ⊢
       split at h
       · rename_i c
         rw[if_pos c]at *
         split at h
         · rename_i c2
           rw[if_pos c2]at *
           have: ∀(P:List GPr) (m:Int),m<0→P.foldl (ezS has Z k) m=m:=fun P=>by
            induction P with
            |nil=>intro m _;rfl
            | cons q P ih=>
              intro m h
              have e:ezS has Z k m q=m:=by unfold ezS;rw[if_neg o_]
              rw[List.foldl_cons,e];exact ih m h
           exact Or.inl (by have:=this P (-1) o_;unfold ezS at this;rw[this];omega)
         · rename_i c2
           rw[if_neg c2]at *
           exact Or.inr o_
       · rename_i c
         rw[if_neg c]at *
         exact Or.inr h
theorem qfa {has:Nat→Bool} {Z:Nat→Int} {k:Nat}: ∀{P:List GPr} {m:Int},m<0→P.foldl (ezS has Z k) m<0
 |[],m,h=>h
 | p::P,m,h=>by
   have e:ezS has Z k m p=m:=by unfold ezS;rw[if_neg o_]
   rw[List.foldl_cons,e]
   exact qfa h
theorem qhJ {has:Nat→Bool} {Z:Nat→Int} {k:Nat} {p:GPr} (hl:p.left=(k:Int)) (hf:qR false has p.right=true): ∀{P:List GPr} {m:Int},p∈P→P.foldl (ezS has Z k) m<0∨(0≤ezP Z p.right∧ezP Z p.right≤P.foldl (ezS has Z k) m)
 |[],m,h=>by cases h
 | q ::P,m,h=>by
   rw[List.foldl_cons]
   rcases List.mem_cons.1 h with rfl|h
   · by_cases hm:m<0
     · have e:ezS has Z k m p=m:=by unfold ezS;rw[if_neg o_]
       rw[e]
       exact Or.inl (qfa hm)
     · unfold ezS
       rw[if_pos ⟨hl,hf,o_⟩]
       split
       · exact Or.inl (qfa o_)
       · rcases qhg (has:=has) (Z:=Z) (k:=k) (P:=P) (m:=max m (ezP Z p.right))with h|h
         · exact Or.inl h
         · exact Or.inr (by unfold ezS at h;omega)
   · exact qhJ hl hf h
theorem qay {g:Grammar} {E cy:Nat→Bool} (hg:GOk g) (hE:jy g false E) (hcy:Jg g.prods g.nons.length E cy): ∀(d:Nat) {k i j:Nat} {t:Nd},k<g.nons.length→yZ g qfp d (1000+(k:Int)) i j t→t.yld=[]→
 E k=true∧(szE g.prods g.nons.length E cy k<0∨(t.size:Int)≤szE g.prods g.nons.length E cy k)
 |0,k,i,j,t,hk,h,_=>h.elim
 | d + 1, k,i,j,t,hk,h,hy=>by
   rcases h with ⟨h1,_⟩|⟨m,p,ks,hp,hs,rfl,h⟩
   · omega
   · have hpm :=List.mem_of_getElem? hp
     have hr:=hg.right p hpm
     have hl:p.left=(k:Int):=o_
     rw[Nd.yld,if_neg o_]at hy
     have hr': ∀p∈g.prods,∀s∈p.right,s<1000∨ ∃k:Nat,s=1000+(k:Int)∧k<g.nons.length:=fun p hp s hs=>by
      have:=hg.tk2
      rcases hg.right p hp s hs with ⟨t,rfl,ht⟩|h
      · exact Or.inl o_
      · exact Or.inr h
     have key : ∀(l:List Int) (i b:Nat) (ks:List Nd),(∀s∈l,Zb g.toks.length g.nons.length s)→Fst (yZ g qfp d) l i b ks→Nd.ylds ks=[]→
      qR false E l=true∧ ∀a:Int,0<a→l.foldl (fun n s=>if szE g.prods g.nons.length E cy (s - 1000).toNat<0 then -1 else if 0<n then n+szE g.prods g.nons.length E cy (s - 1000).toNat else n) a<0∨a+(Nd.sizes ks:Int)≤l.foldl (fun n s=>if szE g.prods g.nons.length E cy (s - 1000).toNat<0 then -1 else if 0<n then n+szE g.prods g.nons.length E cy (s - 1000).toNat else n) a:=by
      intro l
      induction l with
      | nil=>
        rintro i b ks _ ⟨rfl,rfl⟩ _
        exact⟨rfl,fun a ha=>Or.inr (by simp[Nd.sizes])⟩
      | cons x l ih=>
        rintro i b ks hr ⟨a,q,r,rfl,h1,h2⟩ hy
        rw[Nd.ylds,List.append_eq_nil_iff]at hy
        obtain ⟨f1,f2⟩:=ih _ _ _ (fun s h=>hr s (List.mem_cons_of_mem _ h)) h2 hy.2
        rcases hr x (by simp)with ⟨t,rfl,ht⟩|⟨c,rfl,hc⟩
        · have htk:=hg.tk2
          cases d with
          |zero=>exact h1.elim
          | succ d=>
            rcases h1 with ⟨_,_,_,rfl⟩|⟨m,p,ks,hp,hs,_⟩
            · have:=hy.1
              rw[Nd.yld,if_pos rfl]at this
              cases this
            · obtain ⟨u,hu,_⟩:=hg.left p (List.mem_of_getElem? hp)
              omega
        · obtain ⟨e1,e2⟩:=qay hg hE hcy d hc h1 hy.1
          have e:(1000+(c:Int) - 1000).toNat=c:=o_
          refine⟨?_,fun a ha=>?_⟩
          · unfold qR at f1 ⊢
            rw[List.all_cons,f1,if_neg o_,e,e1];rfl
          · rw[List.foldl_cons,e]
            rcases e2 with e2|e2
            · rw[if_pos e2]
              exact Or.inl (qd8 l o_)
            · have hz:=q.size_pos
              rw[if_neg o_,if_pos ha]
              refine(f2 _ o_).imp id fun h=>?_
              rw[Nd.sizes];omega
     obtain ⟨f1,f2⟩:=key _ _ _ _ hr h hy
     have hEk:E k=true:=by
      have:=hE p hpm f1
      rw[hl]at this;simpa using this
     refine⟨hEk,?_⟩
     rw[qhE hr' hcy hk]
     unfold ezF
     rw[if_neg (by rw[hEk];simp)]
     by_cases hc:cy k=true
     · rw[if_pos hc];exact Or.inl o_
     · rw[if_neg hc]
       have f2:=f2 1 o_
       rcases qhJ (has:=E) (Z:=szE g.prods g.nons.length E cy) hl f1 (m:=0) hpm with h|⟨h,h'⟩
       · exact Or.inl h
       · refine Or.inr ?_
         unfold ezP at h h'
         rcases f2 with f2|f2
         · omega
         · rw[Nd.size];omega
theorem Kw {S:Nat→Nat→Bool} {E:Nat→Bool}: ∀(l:List Int) {a:Nat→Bool} {y:Nat},a y=true→(qak S E l a).1 y=true
 |[],a,y,h=>h
 | x ::r,a,y,h=>by
   rw[qak]
   split
   · show (a y || _)=true
     rw[h];rfl
   · split
     · exact Kw r (show (a y || _)=true by rw[h];rfl)
     · show (a y || _)=true
       rw[h];rfl
theorem qbW {g:Grammar} {E cy:Nat→Bool} {S:Nat→Nat→Bool} (hg:GOk g) (hE:jy g false E) (hcy:Jg g.prods g.nons.length E cy) (hS:QL g E S): ∀(d:Nat) {k i j:Nat} {t:Nd} {y:Int} {r:List Int},k<g.nons.length→yZ g qfp d (1000+(k:Int)) i j t→t.yld=y::r→ ∃n:Nat,y=n∧S k n=true
 |0,k,i,j,t,_,_,hk,h,_=>h.elim
 | d + 1, k,i,j,t,y,r,hk,h,hy=>by
   rcases h with ⟨h1,_⟩|⟨m,p,ks,hp,hs,rfl,h⟩
   · omega
   · have hpm :=List.mem_of_getElem? hp
     have hr:=hg.right p hpm
     have hl:p.left=(k:Int):=o_
     rw[Nd.yld,if_neg o_]at hy
     have key : ∀(l:List Int) (i b:Nat) (ks:List Nd) (y:Int) (r:List Int) (a:Nat→Bool),(∀s∈l,Zb g.toks.length g.nons.length s)→Fst (yZ g qfp d) l i b ks→Nd.ylds ks=y::r→ ∃n:Nat,y=n∧(qak S E l a).1 n=true:=by
      intro l
      induction l with
      | nil=>
        rintro i b ks y r a _ ⟨rfl,rfl⟩ hy
        rw[Nd.ylds]at hy;cases hy
      | cons x l ih=>
        rintro i b ks y r a hr ⟨j,q,ks',rfl,h1,h2⟩ hy
        rw[Nd.ylds]at hy
        have htk:=hg.tk2
        rcases hr x (by simp)with ⟨t,rfl,ht⟩|⟨c,rfl,hc⟩
        · cases d with
          |zero=>exact h1.elim
          | succ d=>
            rcases h1 with ⟨_,_,_,rfl⟩|⟨m,p,ks,hp,hs,_⟩
            · rw[Nd.yld,if_pos rfl,List.singleton_append,List.cons.injEq]at hy
              refine⟨t,hy.1.symm,?_⟩
              rw[qak,if_pos o_]
              unfold orS Xz
              rw[Bool.or_eq_true]
              refine Or.inr ?_
              rw[Bool.and_eq_true]
              exact⟨decide_eq_true o_,decide_eq_true (by simp)⟩
            · obtain ⟨u,hu,_⟩:=hg.left p (List.mem_of_getElem? hp)
              omega
        · have e:(1000+(c:Int) - 1000).toNat=c:=o_
          rw[qak,if_neg o_,e]
          cases hq:q.yld with
          | nil=>
            obtain ⟨e1,_⟩:=qay hg hE hcy d hc h1 hq
            rw[if_pos e1]
            rw[hq,List.nil_append]at hy
            exact ih _ _ _ y r _ (fun s h=>hr s (List.mem_cons_of_mem _ h)) h2 hy
          | cons z w=>
            obtain ⟨n,e1,e2⟩:=qbW hg hE hcy hS d hc h1 hq
            rw[hq,List.cons_append,List.cons.injEq]at hy
            refine⟨n,hy.1 ▸ e1,?_⟩
            have ho:orS a (S c) n=true:=by unfold orS;rw[e2,Bool.or_true]
            split
            · exact Kw l ho
            · exact ho
     obtain ⟨n,e1,e2⟩:=key _ _ _ _ y r _ hr h hy
     have:=hS p hpm n e2
     rw[hl]at this
     exact⟨n,e1,by simpa using this⟩
end Go.Proofs
