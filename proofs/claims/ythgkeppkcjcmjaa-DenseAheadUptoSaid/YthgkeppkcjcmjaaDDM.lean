/- Part of a proof that a law of the given program answers true. -/
import Derived.Test.YthgkeppkcjcmjaaDDB
import Derived.Test.YthgkeppkcjcmjaaDDE
set_option linter.unusedSimpArgs false
set_option linter.unusedVariables false
set_option maxHeartbeats 4000000
namespace Go.Proofs
open Go.E
def stp (g:Grammar) (A:List (List (Int×Int))) (G:List (List Int)) (l:List Int) (st:List Nat) (r:RunR):Int ⊕ (Nat×List Nat×RunR):=
 let a:=xV A (st.headD 0) (zw g.toks.length l r.at_)
 if a.1=3 then .inl 1
 else if a.1=1 then .inr (st.length,a.2.toNat::st,{r with at_:=r.at_+1,steps:=r.steps+1,deep:=max r.deep st.length})
 else if a.1=2 then .inr (st.length - qce g a.2.toNat,(KM G ((st.drop (qce g a.2.toNat)).headD 0) (qsY g a.2.toNat)).toNat::st.drop (qce g a.2.toNat),{r with steps:=r.steps+1,deep:=max r.deep (st.length - qce g a.2.toNat),prods:=r.prods++[a.2]})
 else .inl 2
theorem jf (g:Grammar) (A:List (List (Int×Int))) (G:List (List Int)) (l:List Int) (dp sp n:Nat) (st:List Nat) (r:RunR):j5 g A G l dp sp (n+1) st r=
 match stp g A G l st r with
 |.inl k=>{r with kind:=k}
 |.inr (d,st',r')=>if sp≤r.steps∨dp<d then {r with kind:=3} else j5 g A G l dp sp n st' r':=by
 unfold stp
 rw[j5]
 dsimp only
 generalize xV A (st.headD 0) (zw g.toks.length l r.at_)=a
 by_cases h3:a.1=3
 · rw[if_pos h3,if_pos h3]
 · rw[if_neg h3,if_neg h3]
   by_cases h1:a.1=1
   · rw[if_pos h1,if_pos h1]
   · rw[if_neg h1,if_neg h1]
     by_cases h2:a.1=2
     · rw[if_pos h2,if_pos h2]
     · rw[if_neg h2,if_neg h2]
theorem qfQ {g:Grammar} {A:List (List (Int×Int))} {G:List (List Int)} {l:List Int} {st:List Nat} {r:RunR} {k:Int} (h:stp g A G l st r=.inl k):k=1∨k=2:=by
 unfold stp at h
 dsimp only at h
 split at h
 · cases h;exact Or.inl rfl
 · split at h
   · cases h
   · split at h
     · cases h
     · cases h;exact Or.inr rfl
theorem JE {g:Grammar} {A:List (List (Int×Int))} {G:List (List Int)} {l:List Int} {st st':List Nat} {r r':RunR} {d:Nat} (h:stp g A G l st r=.inr (d,st',r')):
 r'.steps=r.steps+1∧r'.deep=max r.deep d∧st'.length=d+1∧d≤st.length∧r'.kind=r.kind∧r.at_≤r'.at_∧ ∃x,r'.prods=r.prods++x:=by
 unfold stp at h
 dsimp only at h
 split at h
 · cases h
 · split at h
   · cases h
     exact⟨rfl,rfl,rfl,Nat.le_refl _,rfl,by dsimp only;omega,[],by simp⟩
   · split at h
     · cases h
       exact⟨rfl,rfl,by simp,by omega,rfl,by dsimp only;omega,_,rfl⟩
     · cases h
theorem jE (g:Grammar) (A:List (List (Int×Int))) (G:List (List Int)) (l:List Int) (dp sp:Nat): ∀(n:Nat) (st:List Nat) (r:RunR),r.steps≤sp→sp<r.steps+n→
 r.steps≤(j5 g A G l dp sp n st r).steps∧(j5 g A G l dp sp n st r).steps≤sp∧r.deep≤(j5 g A G l dp sp n st r).deep∧(j5 g A G l dp sp n st r).deep≤max r.deep dp∧r.at_≤(j5 g A G l dp sp n st r).at_∧
  (∃x,(j5 g A G l dp sp n st r).prods=r.prods++x)∧((j5 g A G l dp sp n st r).kind=1∨(j5 g A G l dp sp n st r).kind=2∨(j5 g A G l dp sp n st r).kind=3)
 |0,st,r,h1,h2=>by omega
 | n + 1,st,r,h1,h2=>by
   rw[jf]
   cases h:stp g A G l st r with
   | inl k=>
     dsimp only
     refine⟨Nat.le_refl _,h1,Nat.le_refl _,by omega,Nat.le_refl _,⟨[],by simp⟩,?_⟩
     rcases qfQ h with e|e
     · exact Or.inl e
     · exact Or.inr (Or.inl e)
   | inr p=>
     obtain ⟨d,st',r'⟩:=p
     dsimp only
     obtain ⟨e1,e2,e3,e4,e5,e6,x,e7⟩:=JE h
     by_cases hl:sp≤r.steps∨dp<d
     · rw[if_pos hl]
       exact⟨Nat.le_refl _,h1,Nat.le_refl _,by dsimp only;omega,Nat.le_refl _,⟨[],by simp⟩,Or.inr (Or.inr rfl)⟩
     · rw[if_neg hl]
       obtain ⟨g1,g2,g3,g4,g5,⟨y,g6⟩,g7⟩:=jE g A G l dp sp n st' r' (by omega) (by omega)
       exact⟨by omega,g2,by omega,by omega,by omega,⟨x++y,by rw[g6,e7,List.append_assoc]⟩,g7⟩
theorem XA {g:Grammar} {A:List (List (Int×Int))} {G:List (List Int)} {l:List Int} {dp dp' sp sp':Nat} (hd:dp≤dp') (hs:sp≤sp'): ∀(n n':Nat) (st:List Nat) (r:RunR),r.steps≤sp→sp<r.steps+n→sp'<r.steps+n'→
 ((j5 g A G l dp sp n st r).kind≠3→j5 g A G l dp' sp' n' st r=j5 g A G l dp sp n st r)∧(j5 g A G l dp sp n st r).steps≤(j5 g A G l dp' sp' n' st r).steps∧(j5 g A G l dp sp n st r).deep≤(j5 g A G l dp' sp' n' st r).deep∧
   ∃x,(j5 g A G l dp' sp' n' st r).prods=(j5 g A G l dp sp n st r).prods++x
 |0,n',st,r,h1,h2,h3=>by omega
 |n+1,0,st,r,h1,h2,h3=>by omega
 | n + 1,n'+1,st,r,h1,h2,h3=>by
   have hgr:=jE g A G l dp' sp' (n'+1) st r (by omega) h3
   rw[jf]at hgr
   rw[jf,jf]
   cases h:stp g A G l st r with
   |inl k=>exact⟨fun _=>rfl,Nat.le_refl _,Nat.le_refl _,[],by simp⟩
   | inr p=>
     obtain ⟨d,st',r'⟩:=p
     rw[h]at hgr
     dsimp only at hgr ⊢
     obtain ⟨e1,e2,e3,e4,e5,e6,x,e7⟩:=JE h
     by_cases hl:sp≤r.steps∨dp<d
     · rw[if_pos hl]
       exact⟨fun h=>absurd rfl h,hgr.1,hgr.2.2.1,hgr.2.2.2.2.2.1⟩
     · rw[if_neg hl,if_neg (by omega)]
       exact XA hd hs n n' st' r' (by omega) (by omega) (by omega)
theorem qaj {g:Grammar} {A:List (List (Int×Int))} {G:List (List Int)} {l:List Int} {dp dp' sp sp':Nat}: ∀(n n':Nat) (st:List Nat) (r:RunR),r.steps≤sp→sp<r.steps+n→sp'<r.steps+n'→
 (j5 g A G l dp sp n st r).kind≠3→
 ((j5 g A G l dp sp n st r).deep≤dp'→(j5 g A G l dp sp n st r).steps≤sp'→j5 g A G l dp' sp' n' st r=j5 g A G l dp sp n st r)∧
 (r.steps≤sp'→sp'<(j5 g A G l dp sp n st r).steps→(j5 g A G l dp' sp' n' st r).kind=3)∧
 (r.steps≤sp'→r.deep≤dp'→dp'<(j5 g A G l dp sp n st r).deep→(j5 g A G l dp' sp' n' st r).kind=3)
 |0,n',st,r,h1,h2,h3,hk=>by omega
 | n+1,0,st,r,h1,h2,h3,hk=>by
   have:=jE g A G l dp sp (n+1) st r h1 h2
   refine⟨fun _ _=>by omega,fun _ _=>by omega,fun _ _ _=>by omega⟩
 | n + 1,n'+1,st,r,h1,h2,h3,hk=>by
   have hgr:=jE g A G l dp sp (n+1) st r h1 h2
   rw[jf]at hk hgr
   rw[jf,jf]
   cases h:stp g A G l st r with
   |inl k=>exact⟨fun _ _=>rfl,fun a b=>by dsimp only at b;omega,fun _ a b=>by dsimp only at b;omega⟩
   | inr p=>
     obtain ⟨d,st',r'⟩:=p
     rw[h]at hk hgr
     dsimp only at hk hgr ⊢
     obtain ⟨e1,e2,e3,e4,e5,e6,x,e7⟩:=JE h
     by_cases hl:sp≤r.steps∨dp<d
     · rw[if_pos hl]at hk;exact absurd rfl hk
     · rw[if_neg hl]at hk hgr ⊢
       have hgr':=jE g A G l dp sp n st' r' (by omega) (by omega)
       obtain ⟨i1,i2,i3⟩:=qaj (dp:=dp) (dp':=dp') (sp:=sp) (sp':=sp') n n' st' r' (by omega) (by omega) (by omega) hk
       refine⟨fun a b=>?_,fun a b=>?_,fun a b c=>?_⟩
       · rw[if_neg (by omega)];exact i1 a b
       · by_cases hl':sp'≤r.steps∨dp'<d
         · rw[if_pos hl']
         · rw[if_neg hl'];exact i2 (by omega) b
       · by_cases hl':sp'≤r.steps∨dp'<d
         · rw[if_pos hl']
         · rw[if_neg hl'];exact i3 (by omega) (by omega) c
theorem qcK {g:Grammar} {A:List (List (Int×Int))} {G:List (List Int)} {l:List Int} {dp sp:Nat}: ∀(n:Nat) (st:List Nat) (r:RunR),r.steps≤sp→sp<r.steps+n→r.deep≤dp→st.length≤r.deep+1→
 (j5 g A G l dp sp n st r).kind=3→(j5 g A G l dp sp n st r).steps=sp∨(j5 g A G l dp sp n st r).deep=dp
 |0,st,r,h1,h2,h3,h4,hk=>by omega
 | n + 1,st,r,h1,h2,h3,h4,hk=>by
   rw[jf]at hk ⊢
   cases h:stp g A G l st r with
   | inl k=>
     rw[h]at hk
     have:k=3:=hk
     rcases qfQ h with e|e<;>omega
   | inr p=>
     obtain ⟨d,st',r'⟩:=p
     rw[h]at hk
     dsimp only at hk ⊢
     obtain ⟨e1,e2,e3,e4,e5,e6,x,e7⟩:=JE h
     by_cases hl:sp≤r.steps∨dp<d
     · rw[if_pos hl];dsimp only;omega
     · rw[if_neg hl]at hk ⊢
       exact qcK n st' r' (by omega) (by omega) (by omega) (by omega) hk
theorem Jq {g:Grammar} {A:List (List (Int×Int))} {G:List (List Int)} {l l':List Int} {dp sp:Nat}: ∀(n:Nat) (st:List Nat) (r:RunR),r.steps≤sp→sp<r.steps+n→
 (∀i≤(j5 g A G l dp sp n st r).at_,zw g.toks.length l i=zw g.toks.length l' i)→j5 g A G l' dp sp n st r=j5 g A G l dp sp n st r
 |0,st,r,h1,h2,hi=>by omega
 | n + 1,st,r,h1,h2,hi=>by
   have hgr:=jE g A G l dp sp (n+1) st r h1 h2
   have ht:=hi r.at_ hgr.2.2.2.2.1
   rw[jf]at hi
   rw[jf,jf]
   have hst:stp g A G l' st r=stp g A G l st r:=by unfold stp;rw[ht]
   rw[hst]
   cases h:stp g A G l st r with
   |inl k=>rfl
   | inr p=>
     obtain ⟨d,st',r'⟩:=p
     rw[h]at hi
     dsimp only at hi ⊢
     obtain ⟨e1,e2,e3,e4,e5,e6,x,e7⟩:=JE h
     by_cases hl:sp≤r.steps∨dp<d
     · rw[if_pos hl,if_pos hl]
     · rw[if_neg hl]at hi
       rw[if_neg hl,if_neg hl]
       exact Jq n st' r' (by omega) (by omega) hi

set_option maxHeartbeats 8000000
theorem Xp {n k:Nat} (h:n≤k):qX (n:Int) k=n:=by unfold qX;omega
theorem qJ5 (x:GrI): ∃E,Pure Try.prog 14 [(qC x).V] (.tup [(qE (qC x)).V,qdW (Jg (qC x) E) (Xj (qC x)),vi (KE (yY (qC x) E)),.bool (zT (qC x))])∧
 (zT (qC x)=true→GOk (qE (qC x))∧MOk (qE (qC x)) (qR (qC x))∧MGo (qE (qC x)) (qR (qC x))∧TabOk (qE (qC x)) (qR (qC x)) (Jg (qC x) E) (Xj (qC x))):=by
 obtain ⟨hf,hS⟩:=qJi x JK 1 _ rfl
 have hE: ∃E,zT (qC x)=true→IsGrow (qE (qC x)) false E:=by
  cases hb:zT (qC x)with
  |false=>exact⟨fun _=>false,fun h=>(by cases h)⟩
  | true=>
    obtain ⟨_,hg,_⟩:=xD hb
    obtain ⟨E,hE,_⟩:=jP hg
    exact⟨E,fun _=>hE⟩
 obtain ⟨E,hE⟩:=hE
 refine⟨E,jX hf hS hE,fun hb=>?_⟩
 obtain ⟨_,hg,hM,hG⟩:=xD hb
 exact⟨hg,hM,hG,qf2 hb⟩
end Go.Proofs
