/-
  Part of a proof that a law of the given program answers true: contracts of its functions, and the law. Holds for inputs of at most 1048576 values and letters in all.
-/
import Derived.Test.YtkcegflhobejmaaGreatDoorXEA
set_option linter.all false
set_option linter.unusedSectionVars false
namespace Go.E
section
variable {P : Program}[Glob P]{β : Nat -> Option Loc}{w : World}{lim : Nat -> Option Nat}{base : Nat}{s : St}{id : Nat}
variable {es:List V}
theorem EL.obj{size:Nat}{cs:Array Value}(h:EL β w lim size es cs)(et:TypeId)
(hg:Grows β (ze β id (some ⟨w.heap.size,0,size⟩)) lim (ze lim w.heap.size (some 0)) base w (w.alloc (.cells cs et))):
 Zp (ze β id (some ⟨w.heap.size,0,size⟩)) (w.alloc (.cells cs et)) (ze lim w.heap.size (some 0)) id (.own size es false):=
 Vo id size es false cs et h.cell (Nat.le_of_eq h.size.symm) hg h.rel
theorem x9{w:World}{b:Nat}{cur:Array Value}{et:TypeId}{fz:Nat×Nat}(h:w.heap[b]?=some (.cells cur et fz)):zQ w b=cur.size:=by simp only[zQ,h]
theorem ZV(w:World)(cs:Array Value)(et:TypeId):zQ (w.alloc (.cells cs et)) w.heap.size=cs.size:=x9 (heap_alloc_new w _)
theorem qdK(hH:RelH s.H s.next β lim base w)(cs:Array Value)(et:TypeId):Post id s s β β lim (ze lim w.heap.size none) base w (w.alloc (.cells cs et)):=
 ⟨QJ hH cs et,qdJ hH cs et,λ_ _ _=>rfl,λ_ _ _ h=>h,Nat.le_refl _,rfl⟩
variable {dst:Option Tmp} {el:TypeId}
theorem qnZ{n:Nat}{a:Act}{type:TypeId}{pos:String}{after:Array Edge}{guard:Option (Nat×Bool)}{t:TypeId}{len:Nat}{parts:Array (Nat×Operand)}
{i:TypeInfo}{zz:Value}{v:V}{ag:Bool}{l:List (Nat×Opd)}(hF:RelF P s β w lim n a)(hu:P.underlying t=some (.slice el))
(hi:P.info? el=some i)(hz:i.zero=some zz)(hm:Qr v zz=true)(hk:v.okCell=true)(hn:v.cells.length=i.size)(h24:len *i.size<=16777216)(hpos:0<i.size)
(hl:Za P n el len parts.toList=some l)(he:xP i.size ag (List.replicate len v) (l.map λ(i,x)=>(i,ev s x))=some es)
(hH:RelH s.H s.next β lim base w)(hf:β id=none/\s.H id=none)(hid:id<s.next):
 Eff P (execOp a.eval {dst,op:= .buildSlice t len parts,type,pos,after,guard}) id s (s.setO id (some (.own i.size es false))) (.msl id i.size 0 len) β lim base w/\
 Eff P (execOp a.eval {dst,op:= .buildSlice t len parts,type,pos,after,guard}) id s s (.sl i.size true es) β lim base w:=by
 obtain ⟨rout,h1,h2,h3⟩:=qbG hF hl he (EL.zero (β:=β) (w:=w) (lim:=lim) hm hk hn len) (by simp);have hrun:(execOp a.eval {dst,op:= .buildSlice t len parts,type,pos,after,guard}).run P w=.ok (.value (.slice (some ⟨w.heap.size,0,none⟩) len len)) (w.alloc (.cells rout el)):=by
  have e1:(parts.map λ(x:Nat×Operand)=>(x.1,a.eval x.2)).toList=parts.toList.map λp=>(p.1,a.eval p.2):=by simp
  have h24': ¬ (len *i.size>2 ^ 24):=o_;have emp:∀z:Array Value,(Array.range 0).map (λx=>z[x % z.size]!)= #[]:=λz=>by simp
  by_cases h0:len *i.size=0
  . have hfill:Instr.fill (λk=>some (k *i.size,i.size)) #[] (parts.map λ(x:Nat×Operand)=>(x.1,a.eval x.2)).toList=some rout:=by
     rw[e1,<- emp zz.cells,<- h0];exact h1
    simp only[execOp,Instr.buildSlice,Sem.run_bind,qU hu,Result.andThen_ok,zf hi,h24',if_false,Sem.run_pure,h0,if_true,emp,hfill,newRow,run_newObj];rfl
  . have hfill:Instr.fill (λk=>some (k *i.size,i.size)) ((Array.range (len *i.size)).map (zz.cells[· % zz.cells.size]!)) (parts.map λ(x:Nat×Operand)=>(x.1,a.eval x.2)).toList=some rout:=by
     rw[e1];exact h1
    simp only[execOp,Instr.buildSlice,Sem.run_bind,qU hu,Result.andThen_ok,zf hi,h24',if_false,Sem.run_pure,h0,Jm hi hz,hfill,newRow,run_newObj];rfl
 have hbig:len<=maxLen:=by
  have:len *1<=len *i.size:=Nat.mul_le_mul_left _ hpos
  simp only[maxLen];omega
 constructor
 . have hg:=jh hH id hf.1 (some ⟨w.heap.size,0,i.size⟩) rout el (some 0);have hp:=kF hH hf hid i.size rout el (some 0) _ (h2.obj el hg);refine⟨_,_,_,_,.inl hrun,hp,?_⟩;have:=R.msl (β:=ze β id (some ⟨w.heap.size,0,i.size⟩)) (w:=w.alloc (.cells rout el)) (lim:=ze lim w.heap.size (some 0)) id 0 len ⟨w.heap.size,0,i.size⟩ len (qi _ _ _) (Nat.le_refl _) hbig
    (by show _<=zQ _ w.heap.size;rw[ZV,h2.size,h3];simp)
   simpa using this
 . refine⟨_,_,_,_,.inl hrun,qdK hH rout el,?_⟩;have:=h2.sl (base:=base) el (by rw[h3];exact hbig) (QJ hH rout el);rw[h3]at this;exact this
theorem qjS{a:Act}{type:TypeId}{pos:String}{after:Array Edge}{guard:Option (Nat×Bool)}{t:TypeId}{x y:Operand}
{i:TypeInfo}{zz:Value}{v:V}{k1 k2:IntKind}{n m:Nat}(hu:P.underlying t=some (.slice el))
(hi:P.info? el=some i)(hz:i.zero=some zz)(hm:Qr v zz=true)(hk:v.okCell=true)(hn:v.cells.length=i.size)
(hx:a.eval x=.int k1 n)(hy:a.eval y=.int k2 m)(hnm:n<=m)(hb:m *i.bytes<=140737488355328)(hml:m<=maxLen)(hpos:0<i.size)
(hH:RelH s.H s.next β lim base w)(hf:β id=none/\s.H id=none)(hid:id<s.next):
 (m=n->Eff P (execOp a.eval {dst,op:= .makeSlice t x y,type,pos,after,guard}) id s (s.setO id (some (.own i.size (List.replicate n v) false))) (.msl id i.size 0 n) β lim base w)/\
 (n=0->Eff P (execOp a.eval {dst,op:= .makeSlice t x y,type,pos,after,guard}) id s (s.setO id (some (.tok 0))) (.asl id 0 i.size []) β lim base w):=by
 have hEL:=EL.zero (β:=β) (w:=w) (lim:=lim) hm hk hn m;have hml':(m:Int)<=9223372036854775807:=by simp only[maxLen]at hml;omega
 have wr:∀q:Nat,q<=m->IntKind.i64.wrap (q:Int)=q:=by
  intro q hq;unfold IntKind.wrap IntKind.bits IntKind.signed;simp only
  have:((q:Int) % 2 ^ 64)=q:=o_
  rw[this]
  have: ¬ ((q:Int)≥2 ^ (64 - 1)):=o_
  simp[this];omega
 generalize hcs:(Array.range (m *i.size)).map (zz.cells[· % zz.cells.size]!)=cs at hEL;have hrun:(execOp a.eval {dst,op:= .makeSlice t x y,type,pos,after,guard}).run P w=.ok (.value (.slice (some ⟨w.heap.size,0,none⟩) n m)) (w.alloc (.cells cs el)):=by
  have h1: ¬ ((i.bytes:Int) *(m:Int)>2 ^ 48):=by
   have:(i.bytes:Int) *(m:Int)=((m *i.bytes:Nat):Int):=by rw[Nat.mul_comm];simp
   rw[this];omega
  have emp:∀z:Array Value,(Array.range 0).map (λx=>z[x % z.size]!)= #[]:=λz=>by simp
  have h2:(decide ((m:Int)<0) || decide ((i.bytes:Int) *(m:Int)>2 ^ 48))=false:=by rw[decide_eq_false h1,decide_eq_false o_];rfl
  have h3: ¬ ((n:Int)>(m:Int)):=o_;have h4: ¬ ((n:Int)<0):=o_;have hti:(typeInfo el).run P w=.ok i w:=by simp[typeInfo,hi]
  simp only[execOp,Instr.makeSlice,Sem.run_bind,qU hu,Result.andThen_ok,hx,hy,asInt,asIntOf,Sem.run_pure,hti,wr n hnm,wr m (Nat.le_refl _)];have hc:((decide ((m:Int)<0) || decide ((i.bytes:Int) *(m:Int)>2 ^ 48)) || decide ((n:Int)<0) || decide ((n:Int)>(m:Int)))=false:=by rw[h2,decide_eq_false h4,decide_eq_false h3];rfl
  by_cases h0:m *i.size=0
  . have hcs0:cs= #[]:=(by rw[<- hcs,h0];exact emp _);simp only[hc,Bool.false_eq_true,if_false,Sem.run_bind,run_askRoom,Result.andThen_ok,zf hi,Int.toNat_natCast,h0,if_true,Sem.run_pure,emp,newRow,run_newObj,hcs0];rfl
  . simp only[hc,Bool.false_eq_true,if_false,Sem.run_bind,run_askRoom,Result.andThen_ok,zf hi,Int.toNat_natCast,h0,Jm hi hz,Sem.run_pure,hcs,newRow,run_newObj];rfl
 constructor
 . rintro rfl;have hg:=jh hH id hf.1 (some ⟨w.heap.size,0,i.size⟩) cs el (some 0);have hp:=kF hH hf hid i.size cs el (some 0) _ (hEL.obj el hg);refine⟨_,_,_,_,.inl hrun,hp,?_⟩;have:=R.msl (β:=ze β id (some ⟨w.heap.size,0,i.size⟩)) (w:=w.alloc (.cells cs el)) (lim:=ze lim w.heap.size (some 0)) id 0 m ⟨w.heap.size,0,i.size⟩ m (qi _ _ _) (Nat.le_refl _) hml
    (by show _<=zQ _ w.heap.size;rw[ZV,hEL.size];simp)
   simpa using this
 . rintro rfl;have hp:=kF hH hf hid i.size cs el (some 0) (.tok 0) (λl hl=>by
    rw[qi]at hl;cases hl;exact⟨cs,el,heap_alloc_new w _,by simp,by rw[qi];simp⟩)
   refine⟨_,_,_,_,.inl hrun,hp,?_⟩;have:=R.asl (β:=ze β id (some ⟨w.heap.size,0,i.size⟩)) (w:=w.alloc (.cells cs el)) (lim:=ze lim w.heap.size (some 0)) id 0 [] ⟨w.heap.size,0,i.size⟩ m (λ_=>undef) (qi _ _ _) (Nat.le_refl _)
    (by simp) (by simp) (by simp) (Nat.zero_le _) hml (by show _<=zQ _ w.heap.size;rw[ZV,hEL.size];simp)
   simpa using this
end
end Go.E

namespace Go.E
section
variable {P : Program}[Glob P]{β : Nat -> Option Loc}{w : World}{lim : Nat -> Option Nat}{base : Nat}{s : St}{id : Nat}
theorem QZ{H:Nat->Option MObj}{next:Nat}(hH:RelH H next β lim base w){b:Nat}{cur cur':Array Value}{et:TypeId}(hb:w.heap[b]?=some (.cells cur et (0,0)))(hbase:base<=b)
(hs:cur'.size=cur.size)(hst:∀i,yP lim b i->cur'[i]?=cur[i]?){β':Nat->Option Loc}(hβ:∀id l,β id=some l->β' id=some l){lim':Nat->Option Nat}(hl:yj w lim lim')(hold:∀x,x<base->lim' x=lim x):
 Grows β β' lim lim' base w (w.setRow b cur') where
 β:=hβ
 ext:=⟨by simp,λx c e fz hx=>by
  by_cases hxb:x=b
  . subst hxb;rw[hb]at hx;cases hx;exact⟨cur',et,(0,0),setRow_heap w x cur cur' et _ hb,hs,hst⟩
  . exact⟨c,e,fz,by rw[setRow_other w b x cur' hxb];exact hx,rfl,λ_ _=>rfl⟩,λx es c _ hx=>by
  by_cases hxb:x=b
  . subst hxb;rw[hb]at hx;cases hx
  . rw[setRow_other w b x cur' hxb];exact hx⟩
 limLe:=hl
 below:=⟨rfl,rfl,rfl,by simp,λk hk=>setRow_other w b k cur' o_⟩
 old:=hold
theorem KA(cur:List Value)(o:Nat)(vs:List Value)(h:o+vs.length<=cur.length)(j:Nat):
 (cur.take o++vs++cur.drop (o+vs.length))[j]?=if o<=j/\j<o+vs.length then vs[j - o]? else cur[j]?:=by
 have ho:(cur.take o).length=o:=so_
 rw[List.append_assoc,List.getElem?_append,ho];split
 . rename_i hj;rw[if_neg o_,List.getElem?_take,if_pos hj]
 . rename_i hj;rw[List.getElem?_append];split
   . rename_i hj2;rw[if_pos ⟨o_,o_⟩]
   . rename_i hj2;rw[if_neg o_,List.getElem?_drop,show o+vs.length+(j - o - vs.length)=j by omega]
theorem qb6{n sz:Nat}{e v e':V}{off:Nat}(h:je n sz e v off=some e')(he:e.cells.length=sz)(hv:v.cells.length=n)(hk:v.okCell=true):
 e'.cells.length=sz/\off+n<=sz/\∀j,e'.cells[j]?=if off<=j/\j<off+n then v.cells[j - off]? else e.cells[j]?:=by
 unfold je at h;split at h
 . rename_i hc;obtain ⟨rfl,rfl,_⟩:=hc;cases h;refine⟨hv,o_,λj=>?_⟩;split
   . simp
   . rename_i hj;rw[List.getElem?_eq_none o_,List.getElem?_eq_none o_]
 . rename_i hneg;clear hneg;split at h
   . rename_i cs vs;simp only[V.cells]at he hv;split at h
     case isFalse=>cases h
     rename_i hle;cases h;subst hv;refine⟨by simp[V.cells];omega,o_,λj=>?_⟩;have ho:(cs.take off).length=off:=so_;simp only[V.cells];rw[List.append_assoc,List.getElem?_append,ho];split
     . rename_i hj;rw[if_neg o_,List.getElem?_take,if_pos hj]
     . rename_i hj;rw[List.getElem?_append];split
       . rename_i hj2;rw[if_pos ⟨o_,o_⟩]
       . rename_i hj2;rw[if_neg o_,List.getElem?_drop,show off+vs.length+(j - off - vs.length)=j by omega]
   . rename_i cs hna;simp only[V.cells]at he;split at h
     case isFalse=>cases h
     rename_i hc;cases h;have hvc:v.cells=[v]:=by
      rcases XD hk with ⟨vs,rfl⟩|hs
      . exact absurd rfl (hna vs)
      . cases v<;>first|rfl|simp[V.scalar]at hs
     refine⟨by simp[V.cells,he],o_,λj=>?_⟩;simp only[V.cells,hvc];rw[List.getElem?_set];by_cases hj:off=j
     . subst hj;rw[if_pos rfl,if_pos hc.2,if_pos ⟨o_,o_⟩];simp
     . rw[if_neg hj,if_neg o_]
   . cases h
variable {a:Act} {dst:Option Tmp}
theorem qjb{type:TypeId}{pos:String}{after:Array Edge}{guard:Option (Nat×Bool)}{t:TypeId}
(hH:RelH s.H s.next β lim base w)(hf:β id=none/\s.H id=none)(hid:id<s.next):
 Eff P (execOp a.eval {dst,op:= .makeMap t none,type,pos,after,guard}) id s (s.setO id (some (.mapo []))) (.map id) β lim base w:=by
 have hg:=qb9 hH id hf.1 (some ⟨w.heap.size,0,0⟩) #[] 0 (some 0);refine⟨.map (some w.heap.size),ze β id (some ⟨w.heap.size,0,0⟩),ze lim w.heap.size (some 0),w.alloc (.map #[] 0),.inl ?_,⟨hg,?_,λj _ hj=>qo _ _ hj,λj _ hj hh=>by rw[zV,qo _ _ hj];exact hh,Nat.le_refl _,rfl⟩,?_⟩
 . simp[execOp,Instr.makeMap]
 . refine hH.step (tb:=w.heap.size) hg (Nat.le_refl _) hid (λb hb _=>⟨zH _ _ hb,qo _ _ o_⟩)
    (λj hj=>qo _ _ hj) (λj o hj hh=>by rw[zV,qo _ _ hj]at hh;exact hh) (λj o l hj hh hl=>by have:=(hH.own j l hl).2;omega)
    (λo' ho'=>by
     rw[zV,qi]at ho';cases ho';exact⟨⟨w.heap.size,0,0⟩,#[],0,qi _ _ _,heap_alloc_new w _,rfl,qi _ _ _⟩) (λl hl=>by
     rw[qi]at hl;cases hl;exact⟨hH.base_le,by simp⟩)
    (λo l _ hl=>by rw[qi]at hl;cases hl;rfl)
 . exact .map id ⟨w.heap.size,0,0⟩ (qi _ _ _)
variable {s':St}
theorem qk5{type:TypeId}{pos:String}{after:Array Edge}{guard:Option (Nat×Bool)}{t k e:TypeId}{f g:Field}{x i y:Operand}{vx vk vy:V}
(ht:P.underlying t=some (.map k e))(hk:P.underlying k=some (.struct #[f,g]))(h1:P.underlying f.type=some (.int .i64))(h2:P.underlying g.type=some (.int .i64))(o1:f.offset=0)(o2:g.offset=1)(he:zW P 12 k=some [1,1])
(hx:R β w lim vx (a.eval x))(hi:R β w lim vk (a.eval i))(hy:R β w lim vy (a.eval y))(h:X5 s vx vk vy=some s')(hH:RelH s.H s.next β lim base w):
 Eff P (execOp a.eval {dst,op:= .mapUpdate t x i y,type,pos,after,guard}) id s s' .undef β lim base w:=by
 unfold X5 at h;split at h
 case h_2=>cases h
 rename_i id0 p q c;split at h
 case h_2=>cases h
 rename_i l hobj;split at h
 case h_2=>cases h
 rename_i hn;cases h;obtain ⟨lc,hβ,hrx⟩:∃lc,β id0=some lc/\a.eval x=.map (some lc.b):=by generalize a.eval x=r at hx;cases hx with|map _ lc hβ=>exact⟨lc,hβ,rfl⟩
 have hrk:a.eval i=.agg #[.int .i64 p,.int .i64 q]:=by
  obtain ⟨rs,h0,h3,h4,h5⟩:=hi.agg_RL;rcases rs with ⟨rs⟩
  match rs,h3,h5 with
  | [u,v],_,h5=>
    have hp:=h5 0 _ u rfl rfl;have hq:=h5 1 _ v rfl rfl;rw[h0,hp.int_inv,hq.int_inv]
 have hry:a.eval y=.int .i64 c:=hy.int_inv;obtain ⟨lc',es,ck,g1,g2,g3,g4⟩:=hH.obj _ _ hobj;rw[hβ]at g1;cases g1;have hrun:=qkS (w:=w) ht hk h1 h2 o1 o2 he (a:=p) (b:=q) g2 g3 hn (.int .i64 c);have hlt:id0<s.next:=by
  rcases Nat.lt_or_ge id0 s.next with h|h
  . exact h
  . rw[(hH.fresh id0 h).2]at hobj;cases hobj
 have hown:=hH.own id0 lc hβ;obtain ⟨at_,oth⟩:=MapKept.heap_set (o':= .map (es.push {key:= .agg #[.int .i64 p,.int .i64 q],val:= .int .i64 c,born:=ck}) (ck+1)) g2;generalize hw':({w with heap:=w.heap.setIfInBounds lc.b (.map (es.push {key:= .agg #[.int .i64 p,.int .i64 q],val:= .int .i64 c,born:=ck}) (ck+1))}:World)=w' at *;have hh':w'.heap=w.heap.setIfInBounds lc.b (.map (es.push {key:= .agg #[.int .i64 p,.int .i64 q],val:= .int .i64 c,born:=ck}) (ck+1)):=by rw[<- hw']
 rw[<- hh']at at_ oth;have hsz:w'.heap.size=w.heap.size:=by rw[hh'];simp
 have hg:Grows β β lim lim base w w':=by
  refine⟨λ_ _ h=>h,⟨o_,λb cur et fz hb=>?_,λb es2 c2 hlb hb=>?_⟩,yj.refl _ _,⟨by rw[<- hw'],by rw[<- hw'],by rw[<- hw'],o_,λb hb=>oth b o_⟩,λ_ _=>rfl⟩
  . have hne:b≠lc.b:=(by rintro rfl;rw[g2]at hb;cases hb);exact⟨cur,et,fz,(oth b hne).trans hb,rfl,λ_ _=>rfl⟩
  . have hne:b≠lc.b:=(by rintro rfl;rw[g4]at hlb;cases hlb);exact(oth b hne).trans hb
 refine⟨undef,β,lim,w',.inr ⟨rfl,?_⟩,⟨hg,?_,λ_ _ _=>rfl,λj _ _ hj=>?_,Nat.le_refl _,rfl⟩,.undef⟩
 . simp only[execOp,Sem.run_bind,hrx,hrk,hry,hrun];rfl
 . refine hH.step (id:=id0) (tb:=lc.b) hg (Nat.le_refl _) hlt (λb hb hne=>⟨oth b hne,rfl⟩) (λ_ _=>rfl) (λj o hj hh=>by
    rw[zV,qo _ _ hj]at hh;exact hh) (λj o l2 hj hh hl2 hb=>?_) (λo ho=>?_) (λl2 hl2=>by
     have:=hH.own id0 l2 hl2;exact⟨this.1,o_⟩) (λo l2 ho hl2=>by rw[hβ]at hl2;cases hl2;rfl)
   . rw[zV,qo _ _ hj]at hh;exact hj (hH.uniq j id0 o _ l2 lc hh hobj hl2 hβ hb)
   . rw[zV,qi]at ho;cases ho;exact⟨lc,_,_,hβ,at_,by simp[g3,qfR],g4⟩
 . have hne:j≠id0:=(by rintro rfl;rw[hobj]at hj;cases hj);rw[zV,qo _ _ hne];exact hj
theorem qg0{type:TypeId}{pos:String}{after:Array Edge}{guard:Option (Nat×Bool)}{t:TypeId}{x y:Operand}{i:TypeInfo}{p v:V}
(hi:P.info? t=some i)(hp:R β w lim p (a.eval x))(hv:R β w lim v (a.eval y))(h:j4 s i.size p v=some s')(hH:RelH s.H s.next β lim base w):
 Eff P (execOp a.eval {dst,op:= .store t x y,type,pos,after,guard}) id s s' .undef β lim base w:=by
 unfold j4 at h;split at h
 case h_2=>cases h
 rename_i id0 k off;split at h
 case h_2=>cases h
 rename_i sz es hobj;split at h
 case h_2=>cases h
 rename_i e he;split at h
 case isFalse=>cases h
 rename_i hc;obtain ⟨hn,hk⟩:=hc;obtain ⟨e',he',rfl⟩:=Option.map_eq_some_iff.1 h;obtain ⟨l,hβ,hr⟩:=hp.ptr_inv;obtain ⟨l',cur,et,h1,h2,h3,h4,h5,h6,h7,h8,h9⟩:=(hH.obj _ _ hobj).elem he;rw[hβ]at h1;cases h1;subst h2;obtain ⟨c1,c2,c3⟩:=hv.cells hk;obtain ⟨s1,s2,s3⟩:=qb6 he' h5 hn hk;have hlt:id0<s.next:=by
  rcases Nat.lt_or_ge id0 s.next with h|h
  . exact h
  . rw[(hH.fresh id0 h).2]at hobj;cases hobj
 generalize hO:l.o+k *l.size+off=O at *;have hlen:(a.eval y).cells.toList.length=i.size:=by simp[c1,hn]
 have hfit:O+0+(a.eval y).cells.toList.length<=cur.size:=by rw[hlen];omega
 have hone:∀u∈(a.eval y).cells.toList,u.oneCell'=true:=by
  intro u hu;obtain ⟨j,hj⟩:=List.getElem?_of_mem hu;have hj':(a.eval y).cells[j]?=some u:=by simpa using hj
  have hjl:j<v.cells.length:=by rw[<- c1];exact(Array.getElem?_eq_some_iff.1 hj').1
  have:=c3 j _ u (List.getElem?_eq_getElem hjl) hj';exact this.oneCell (c2 _ (List.getElem_mem hjl))
 have hst:=run_storeCells_at P l.b O et (a.eval y).cells.toList 0 cur w h3 hfit hone;simp only[Nat.add_zero,hlen]at hst;generalize hcur:(cur.toList.take O++(a.eval y).cells.toList++cur.toList.drop (O+i.size)).toArray=cur' at hst;have hget:∀j,cur'[j]?=if O<=j/\j<O+i.size then(a.eval y).cells[j - O]? else cur[j]?:=by intro j;have:=KA cur.toList O (a.eval y).cells.toList (by simp[c1,hn];omega) j;rw[<- hcur];simp only[List.getElem?_toArray,Array.length_toList,c1,hn]at this ⊢;rw[this];simp
 have hsize:cur'.size=cur.size:=by rw[<- hcur];simp[c1,hn];omega
 have hown:=hH.own id0 l hβ;have hg:Grows β β lim lim base w (w.setRow l.b cur'):=QZ hH h3 hown.1 hsize (λj hj=>by
  unfold yP at hj;rw[h8]at hj;simp at hj) (λ_ _ h=>h) (yj.refl _ _) (λ_ _=>rfl)
 refine⟨undef,β,lim,_,.inr ⟨rfl,?_⟩,⟨hg,?_,λ_ _ _=>rfl,λj _ _ hj=>?_,Nat.le_refl _,rfl⟩,.undef⟩
 . have h0: ¬ ((a.eval y).cells.size≠i.size):=(by simp[c1,hn]);simp only[execOp,Instr.storeAt,Instr.sureAddr,Sem.run_bind,hr,Sem.run_pure,Result.andThen_ok,storeVar,zf hi,h0,if_false];rw[hst];rfl
 . refine hH.step (id:=id0) (tb:=l.b) hg (Nat.le_refl _) hlt (λb hb hne=>⟨setRow_other w l.b b cur' hne,rfl⟩) (λ_ _=>rfl) (λj o hj hh=>by
    rw[zV,qo _ _ hj]at hh;exact hh) (λj o l2 hj hh hl2 hb=>?_) (λo ho=>?_) (λl2 hl2=>by
     have:=hH.own id0 l2 hl2;exact⟨this.1,by simpa using this.2⟩) (λo l2 ho hl2=>by rw[hβ]at hl2;cases hl2;rfl)
   . rw[zV,qo _ _ hj]at hh;exact hj (hH.uniq j id0 o _ l2 l hh hobj hl2 hβ hb)
   . rw [zV, qi]at ho;cases ho;have hkl:=(List.getElem?_eq_some_iff.1 he).1;rcases hH.obj _ _ hobj with ⟨_,h0⟩|⟨l3,cur3,et3,g1,g2,g3,g4,g5,g6,g7⟩
     . subst h0;simp at he
     rw[hβ]at g1;cases g1;rw[h3]at g3;cases g3;refine .inr ⟨l,cur',et,hβ,rfl,setRow_heap w l.b cur cur' et _ h3,by rw[hsize];simpa using g4,h8,λx hx=>?_,λa1 j x c hx hcx=>?_⟩
     . rcases List.mem_or_eq_of_mem_set hx with hx|rfl
       . exact g6 x hx
       . refine⟨s1,λc hc=>?_⟩;obtain ⟨j,hj⟩:=List.getElem?_of_mem hc;rw[s3]at hj;split at hj
         . exact c2 c (List.mem_of_getElem? hj)
         . exact h6 c (List.mem_of_getElem? hj)
     . rw [List.getElem?_set]at hx;by_cases hka:k=a1
       . subst hka;rw[if_pos rfl,if_pos hkl]at hx;cases hx;rw[s3]at hcx;rw[hget];split at hcx
         . rename_i hj;rw[if_pos ⟨o_,o_⟩];rw[show l.o+k *l.size+j - O=j - off by omega];have hjl:=(List.getElem?_eq_some_iff.1 hcx).1;have hjr:j - off<(a.eval y).cells.size:=(by rw[c1];exact hjl);exact⟨_,Array.getElem?_eq_getElem hjr,hg.R (c3 _ c _ hcx (Array.getElem?_eq_getElem hjr))⟩
         . rename_i hj;rw[if_neg o_];obtain ⟨r,hr2,hR2⟩:=g7 k j e c he hcx;exact⟨r,hr2,hg.R hR2⟩
       . rw [if_neg hka]at hx;have hjs:j<l.size:=by
          have:=(List.getElem?_eq_some_iff.1 hcx).1;rw[(g6 x (List.mem_of_getElem? hx)).1]at this;exact this
         rw[hget,if_neg]
         . obtain ⟨r,hr2,hR2⟩:=g7 a1 j x c hx hcx;exact⟨r,hr2,hg.R hR2⟩
         . rintro ⟨ha,hb⟩;rcases Nat.lt_or_gt_of_ne hka with hlt|hlt
           . have:(k+1) *l.size<=a1 *l.size:=Nat.mul_le_mul_right _ hlt
             rw[Nat.succ_mul]at this;omega
           . have:(a1+1) *l.size<=k *l.size:=Nat.mul_le_mul_right _ hlt
             rw[Nat.succ_mul]at this;omega
 . by_cases hje:j=id0
   . subst hje;rw[hj]at hobj;cases hobj
   . rw[zV,qo _ _ hje];exact hj
end
end Go.E

namespace Go.E
section
variable {P : Program}[Glob P]{β : Nat -> Option Loc}{w : World}{lim : Nat -> Option Nat}{base : Nat}{s : St}{id : Nat}
variable {es ys:List V} {cs:Array Value}
theorem EL.append{size:Nat}{ds:Array Value}(h:EL β w lim size es cs)(k:EL β w lim size ys ds):EL β w lim size (es++ys) (cs++ds):=by
 refine⟨by simp[h.size,k.size,Nat.add_mul],λe he=>?_,λi j e c he hc=>?_⟩
 . rcases List.mem_append.1 he with he|he
   . exact h.cell e he
   . exact k.cell e he
 . have hj:j<size:=by
    have:=(List.getElem?_eq_some_iff.1 hc).1;rcases List.mem_append.1 (List.mem_of_getElem? he)with hm|hm
    . rw[(h.cell e hm).1]at this;exact this
    . rw[(k.cell e hm).1]at this;exact this
   rw[List.getElem?_append]at he;split at he
   . rename_i hi;obtain ⟨r,hr,hR⟩:=h.rel i j e c he hc;exact⟨r,by rw[Array.getElem?_append_left (Array.getElem?_eq_some_iff.1 hr).1];exact hr,hR⟩
   . rename_i hi;obtain ⟨r,hr,hR⟩:=k.rel _ j e c he hc;refine⟨r,?_,hR⟩
     have:i *size=(i - es.length) *size+es.length *size:=by rw[<- Nat.add_mul];congr 1;omega
     rw[Array.getElem?_append_right (by rw[h.size];omega),h.size,this,show (i - es.length) *size+es.length *size+j - es.length *size=(i - es.length) *size+j by omega];exact hr
theorem EL.one{size:Nat}(h:EL β w lim size es cs)(hp:0<size):∀u∈cs.toList,u.oneCell'=true:=by
 intro u hu;obtain ⟨k,hk⟩:=List.getElem?_of_mem hu;have hk':cs[k]?=some u:=by simpa using hk
 have hkl:=(Array.getElem?_eq_some_iff.1 hk').1;rw[h.size]at hkl;have hi:k / size<es.length:=by rw[Nat.div_lt_iff_lt_mul hp];exact hkl
 have hm:=h.cell _ (List.getElem_mem hi);have hj:k % size<(es[k / size]).cells.length:=by rw[hm.1];exact Nat.mod_lt _ hp
 obtain ⟨r,hr,hR⟩:=h.rel _ _ _ _ (List.getElem?_eq_getElem hi) (List.getElem?_eq_getElem hj);rw[show k / size *size+k % size=k by rw[Nat.mul_comm];exact Nat.div_add_mod k size]at hr;rw[hk']at hr;cases hr;exact hR.oneCell (hm.2 _ (List.getElem_mem hj))
variable {w':World}
theorem EL.grow{β':Nat->Option Loc}{lim':Nat->Option Nat}{size:Nat}(h:EL β w lim size es cs)(hg:Grows β β' lim lim' base w w'):EL β' w' lim' size es cs:=
 ⟨h.size,h.cell,λi j e c he hc=>let ⟨r,hr,hR⟩:=h.rel i j e c he hc;⟨r,hr,hg.R hR⟩⟩
def Reads(w:World)(p:Option Addr)(cs:Array Value):Prop:=cs.size=0\/ ∃b o,p=some ⟨b,o,none⟩/\∀j v,cs[j]?=some v->w.cell? ⟨b,o+j,none⟩=some v
variable {p:Option Addr} {n cap:Nat}
theorem Ql{size:Nat}(h:Reads w p cs)(hs:cs.size=n *size):(Builtin.firstCells size n (.slice p n cap)).run P w=.ok cs w:=by
 rcases h with h|⟨b,o,rfl,h⟩
 . have h0:n *size=0:=o_;have hc:cs= #[]:=Array.eq_empty_of_size_eq_zero h;subst hc;cases p with
   |none=>simp[Builtin.firstCells]
   |some a=>simp[Builtin.firstCells,h0,loadCells,loadCellsFrom]
 . have:=run_loadCells_list (P:=P) w ⟨b,o,none⟩ cs.toList (λj v hj=>by rw[add0];exact h j v (by simpa using hj));simp only[Builtin.firstCells];rw[<- hs];simpa using this
variable {sz:Nat}
theorem qmF{c:Bool}(h:R β w lim (.sl sz c es) (.slice p n cap)):n=es.length/\∃cs,EL β w lim sz es cs/\Reads w p cs:=by
 cases h with
 |sl0 _ _ a cap _ hm=>exact⟨rfl,#[],⟨by simp,by simp,by simp⟩,.inl rfl⟩
 | sl _ _ _ b o cap rv hlen hst hsz hR hcap hm hc=>
   refine⟨rfl,((List.range (es.length *sz)).map rv).toArray,⟨by simp,hsz,λi j e c he hc=>?_⟩,.inr ⟨b,o,rfl,λj v hj=>?_⟩⟩
   . have hi:=(List.getElem?_eq_some_iff.1 he).1;have hj:j<sz:=(by have:=(List.getElem?_eq_some_iff.1 hc).1;rw[(hsz e (List.mem_of_getElem? he)).1]at this;exact this);have hlt:i *sz+j<es.length *sz:=by
      have:(i+1) *sz<=es.length *sz:=Nat.mul_le_mul_right _ hi
      rw[Nat.succ_mul]at this;omega
     exact⟨rv (i *sz+j),by simp[hlt],hR i j e c he hc⟩
   . have hlt:j<es.length *sz:=(by have:=(Array.getElem?_eq_some_iff.1 hj).1;simpa using this);simp[hlt]at hj;subst hj;exact(hst j hlt).2
theorem ql4{id fin:Nat}(h:R β w lim (.asl id fin sz es) (.slice p n cap)):n=es.length/\∃cs,EL β w lim sz es cs/\Reads w p cs:=qmF (Q6 h)
theorem qjs{id0 off len:Nat}{ro:Bool}{r:Value}(h:R β w lim (.msl id0 sz off len) r)(hobj:Zp β w lim id0 (.own sz es ro))(hle:off+len<=es.length):
 ∃p cap cs,r=.slice p len cap/\len<=cap/\cap<=maxLen/\EL β w lim sz ((es.drop off).take len) cs/\Reads w p cs:=by
 cases h with
 |msl0 _ _ _ a=>exact⟨a,0,#[],rfl,Nat.le_refl _,Nat.zero_le _,⟨by simp,by simp,by simp⟩,.inl rfl⟩
 | msl _ _ _ l cap hβ hcap hm hrow=>
   by_cases hlen:len=0
   . subst hlen;exact⟨_,cap,#[],rfl,Nat.zero_le _,hm,⟨by simp,by simp,by simp⟩,.inl rfl⟩
   rcases hobj with ⟨h1,_⟩|⟨l',cur,et,h1,h2,h3,h4,h5,h6,h7⟩
   . rw[hβ]at h1;cases h1
   . rw [hβ]at h1;cases h1;have hk:(off+len) *l.size<=es.length *l.size:=Nat.mul_le_mul_right _ hle;rw[Nat.add_mul]at hk;have hget:∀i e,((es.drop off).take len)[i]?=some e->i<len/\es[off+i]?=some e:=by
      intro i e he;have hi:=(List.getElem?_eq_some_iff.1 he).1;rw[List.getElem?_take]at he;split at he
      . rw[List.getElem?_drop]at he;exact⟨‹_›,he⟩
      . cases he
     refine⟨_,cap,cur.extract (l.o+off *l.size) (l.o+off *l.size+len *l.size),rfl,hcap,hm,⟨?_,?_,?_⟩,.inr ⟨l.b,l.o+off *l.size,rfl,?_⟩⟩
     . have:((es.drop off).take len).length=len:=by simp;omega
       rw[this];simp;omega
     . exact λe he=>h6 e (List.mem_of_mem_drop (List.mem_of_mem_take he))
     . intro i j e c he hc;obtain ⟨hi,he'⟩:=hget i e he;obtain ⟨r,hr,hR⟩:=h7 _ _ e c he' hc;have hj:j<l.size:=(by have:=(List.getElem?_eq_some_iff.1 hc).1;rw[(h6 e (List.mem_of_getElem? he')).1]at this;exact this);have h1:(i+1) *l.size<=len *l.size:=Nat.mul_le_mul_right _ hi;rw[Nat.succ_mul]at h1;refine⟨r,?_,hR⟩;rw[Array.getElem?_extract,if_pos o_];rw[Nat.add_mul]at hr;rw[show l.o+off *l.size+(i *l.size+j)=l.o+(off *l.size+i *l.size)+j by omega];exact hr
     . intro j v hj;rw[Array.getElem?_extract]at hj;split at hj
       . rename_i hlt;rw[cell_of_row w l.b _ cur et (0,0) h3];exact hj
       . cases hj
theorem qoO{size:Nat}{y:V}{r:Value}(h:qb1 s size y=some ys)(hy:R β w lim y r)(hH:RelH s.H s.next β lim base w):
 ∃news,EL β w lim size ys news/\(Builtin.lenOf r).run P w=.ok ys.length w/\∀w2:World,w2.heap=w.heap->(Builtin.firstCells size ys.length r).run P w2=.ok news w2:=by
 have fin:∀{p:Option Addr} {n cap:Nat} {cs:Array Value},EL β w lim size ys cs->Reads w p cs->n=ys.length->r=.slice p n cap->
  ∃news,EL β w lim size ys news/\(Builtin.lenOf r).run P w=.ok ys.length w/\∀w2:World,w2.heap=w.heap->(Builtin.firstCells size ys.length r).run P w2=.ok news w2:=by
  rintro p n cap cs hE hr rfl rfl;refine⟨cs,hE,rfl,λw2 hw=>Ql ?_ hE.size⟩;rcases hr with hr|⟨b,o,rfl,hr⟩
  . exact .inl hr
  . exact .inr ⟨b,o,rfl,λj v hj=>by have:=hr j v hj;unfold World.cell? at *;rw[hw];exact this⟩
 unfold qb1 at h;split at h
 . rename_i sz c es;split at h
   case isFalse=>cases h
   rename_i hsz;subst hsz;cases h;obtain ⟨p,cap,rfl,_⟩:=KG hy;obtain ⟨h1,cs,h2,h3⟩:=qmF hy;exact fin h2 h3 h1 rfl
 . rename_i id fi sz es;split at h
   case isFalse=>cases h
   rename_i hsz;subst hsz;cases h;obtain ⟨p,cap,rfl,_⟩:=KG (Q6 hy);obtain ⟨h1,cs,h2,h3⟩:=ql4 hy;exact fin h2 h3 h1 rfl
 . rename_i id sz off len;split at h
   case isFalse=>cases h
   rename_i hsz;subst hsz;split at h
   case h_2=>cases h
   rename_i sz' es ro hobj;split at h
   case isFalse=>cases h
   rename_i hc;obtain ⟨rfl,hle⟩:=hc;cases h;obtain ⟨p,cap,cs,rfl,_,_,h2,h3⟩:=qjs hy (hH.obj _ _ hobj) hle;exact fin h2 h3 so_ rfl
 . rename_i l;split at h
   case isFalse=>cases h
   rename_i hs;subst hs;cases h;cases hy.str_inv;refine⟨(l.map λc=>Value.int .u8 c.toNat).toArray,⟨by simp,?_,?_⟩,?_,?_⟩
   . intro e he;obtain ⟨c,_,rfl⟩:=List.mem_map.1 he;simp[V.cells,V.scalar]
   . intro i j e c he hc;simp only[List.getElem?_map,Option.map_eq_some_iff]at he;obtain ⟨x,hx,rfl⟩:=he;cases j with
     | zero=>
       simp[V.cells]at hc;subst hc;exact⟨.int .u8 x.toNat,by simp[hx],.int _ _⟩
     |succ j=>simp[V.cells]at hc
   . simp[Builtin.lenOf,ByteArray.size]
   . intro w2 hw;simp only[Builtin.firstCells,List.length_map,Sem.run_pure];congr 1;apply Array.ext_getElem?;intro i;simp[ByteArray.data_extract]
 . cases h
variable {t1 ty:TypeId} {news:Array Value}
theorem qkQ{t e:TypeId}{i:TypeInfo}{z:Value}{m:Nat}{y:Value}{olds:Array Value}(ht:P.underlying t=some (.slice e))(hi:P.info? e=some i)(hz:i.zero=some z)
(h1:(∃e1,P.underlying t1=some (.slice e1))\/P.underlying t1=some .string)(hl:(Builtin.lenOf y).run P w=.ok m w)
(hn:(Builtin.firstCells i.size m y).run P w.drew=.ok news w.drew)(ho:(Builtin.firstCells i.size n (.slice p n cap)).run P w.drew=.ok olds w.drew)
(hg:cap<n+m)(hb:(n+m) *i.bytes<=140737488355328)(hm:n+m<=maxLen):
 (Builtin.append_ #[t,t1] ty #[.slice p n cap,y]).run P w=.ok (.slice (some ⟨w.heap.size,0,none⟩) (n+m) (grownCap w (n+m) cap e))
  (w.drew.alloc (.cells (olds++news++Builtin.zeroCells z.cells (grownCap w (n+m) cap e - (n+m))) e)):=by
 have hx: ¬ (n+m<=cap):=o_;have h63: ¬ (((n+m:Nat):Int)>IntKind.i64.max/\((False:Prop)\/i.bytes=0)):=by
  have:IntKind.i64.max=9223372036854775807:=dc_
  rw[this];simp only[maxLen]at hm;omega
 have h63': ¬ (9223372036854775807<((n:Int)+(m:Int))):=by simp only[maxLen]at hm;omega
 have h48: ¬ (281474976710656<Builtin.nextslicecap (n+m) cap *i.bytes):=by have:=growslice_fits hg hb;omega
 rcases h1 with ⟨e1,h1⟩|h1<;>
 simp[Builtin.append_,run_underlying ht,run_underlying h1,sizeOf,typeInfo,zeroValue,hi,hz,hl,hx,h63',h48,Question.forced,ho,hn,newRow,grownCap]
theorem qay{t e:TypeId}{i:TypeInfo}{m:Nat}{y:Value}(ht:P.underlying t=some (.slice e))(hi:P.info? e=some i)
(h1:(∃e1,P.underlying t1=some (.slice e1))\/P.underlying t1=some .string)(hl:(Builtin.lenOf y).run P w=.ok m w)
(hn:(Builtin.firstCells i.size m y).run P w=.ok news w)(hg:n+m<=cap)
(hst:∀a,p=some a->(storeCells (a.add (n *i.size)) news.toList).run P w=.ok () w')(hst0:p=none->w'=w):
 (Builtin.append_ #[t,t1] ty #[.slice p n cap,y]).run P w=.ok (.slice p (n+m) cap) w':=by
 cases p with
 | none=>
   rw[hst0 rfl];rcases h1 with ⟨e1,h1⟩|h1<;>simp[Builtin.append_,run_underlying ht,run_underlying h1,sizeOf,typeInfo,hi,hl,hg,hn]
 | some a=>
   have:=hst a rfl;rcases h1 with ⟨e1,h1⟩|h1<;>simp[Builtin.append_,run_underlying ht,run_underlying h1,sizeOf,typeInfo,hi,hl,hg,hn,this]
end
end Go.E

namespace Go.E
section
variable {P : Program}[Glob P]{β : Nat -> Option Loc}{w : World}{lim : Nat -> Option Nat}{base : Nat}{s s' : St}{id : Nat}
structure Turn(id:Nat)(s s':St)(o:MObj):Prop where
 f:s'.f=s.f
 nx:s'.next=s.next
 at_:s'.H id=some o
 other:∀j,j≠id->s'.H j=s.H j\/s'.H j=none
variable {o:MObj}
theorem Turn.some(h:Turn id s s' o){j:Nat}{o':MObj}(hj:j≠id)(hh:s'.H j=some o'):s.H j=some o':=by
 rcases h.other j hj with e|e<;>rw[e]at hh
 . exact hh
 . cases hh
theorem Turn.kH(h:Turn id s s' o):∀j,j<s.next->j≠id->s.H j=none->s'.H j=none:=λj _ hj hh=>by
 rcases h.other j hj with e|e
 . rw[e];exact hh
 . exact e
theorem qtp(o:MObj):Turn id s (s.setO id (some o)) o:=⟨rfl,rfl,qi _ _ _,λj hj=>.inl (qo _ _ hj)⟩
theorem qkf(id0:Nat)(o:MObj):Turn id s ((s.setO id0 none).setO id (some o)) o:=
 ⟨rfl,rfl,qi _ _ _,λj hj=>by
  rw[zV,qo _ _ hj,zV];by_cases h:j=id0
  . subst h;exact .inr (qi _ _ _)
  . exact .inl (qo _ _ h)⟩
theorem qa9(hH:RelH s.H s.next β lim base w)(hf:β id=none/\s.H id=none)(ht:Turn id s s' o)(ho:Zp β w lim id o)(hid:id<s.next):Post id s s' β β lim lim base w w where
 g:=Grows.refl _ _ _ _
 h :=by
  rw[ht.nx];refine⟨λj hj=>⟨(hH.fresh j hj).1,?_⟩,hH.own,λj o' hh=>?_,λi j o1 o2 l l' hi hj hli hlj hb=>?_,hH.base_le⟩
  . have hne:j≠id:=o_;cases hh:s'.H j with
    |none=>rfl
    |some o'=>have:=ht.some hne hh;rw[(hH.fresh j hj).2]at this;cases this
  . by_cases hj:j=id
    . subst hj;rw[ht.at_]at hh;cases hh;exact ho
    . exact hH.obj j o' (ht.some hj hh)
  . have hi':i≠id:=λe=>by rw[e,hf.1]at hli;cases hli
    have hj':j≠id:=λe=>by rw[e,hf.1]at hlj;cases hlj
    exact hH.uniq i j o1 o2 l l' (ht.some hi' hi) (ht.some hj' hj) hli hlj hb
 kβ:=λ_ _ _=>rfl
 kH:=ht.kH
 nx:=by rw[ht.nx];exact Nat.le_refl _
 f:=ht.f
variable {et:TypeId}
theorem qeK{size:Nat}{cs:Array Value}{k:Option Nat}(hH:RelH s.H s.next β lim base w)(hf:β id=none/\s.H id=none)(ht:Turn id s s' o)(hid:id<s.next)
(ho:Zp (ze β id (some ⟨w.heap.size,0,size⟩)) (w.drew.alloc (.cells cs et)) (ze lim w.heap.size k) id o):
 Post id s s' β (ze β id (some ⟨w.heap.size,0,size⟩)) lim (ze lim w.heap.size k) base w (w.drew.alloc (.cells cs et)):=by
 obtain ⟨g0,hH'⟩:=vX hH;have g1:=jh hH' id hf.1 (some ⟨w.heap.size,0,size⟩) cs et k;refine⟨g0.trans g1,?_,λj _ hj=>qo _ _ hj,ht.kH,by rw[ht.nx];exact Nat.le_refl _,ht.f⟩;rw[ht.nx];refine hH'.step (tb:=w.heap.size) g1 (Nat.le_refl _) hid (λb hb _=>⟨zH _ _ hb,qo _ _ (by simp at hb;omega)⟩)
  (λj hj=>qo _ _ hj) (λj o' hj hh=>ht.some hj hh) (λj o' l hj hh hl=>by have:=(hH.own j l hl).2;omega)
  (λo' ho'=>by rw[ht.at_]at ho';cases ho';exact ho) (λl hl=>by
   rw[qi]at hl;cases hl;exact⟨hH.base_le,by simp⟩)
  (λo' l _ hl=>by rw[qi]at hl;cases hl;rfl)
variable {cur:Array Value} {ob:Nat}
theorem qeB{l:Loc}{cur':Array Value}{q':Option Nat}{size id0:Nat}{o0:MObj}(hH:RelH s.H s.next β lim base w)(hf:β id=none/\s.H id=none)(ht:Turn id s s' o)(hid:id<s.next)
(h0:s.H id0=some o0)(h0':s'.H id0=none)(hβ:β id0=some l)(hb:w.heap[l.b]?=some (.cells cur et (0,0)))(hs:cur'.size=cur.size)(hst:∀i,yP lim l.b i->cur'[i]?=cur[i]?)
(hl:∀i,yP lim l.b i->yP (ze lim l.b q') l.b i)
(ho:Zp (ze β id (some ⟨l.b,ob,size⟩)) (w.setRow l.b cur') (ze lim l.b q') id o):
 Post id s s' β (ze β id (some ⟨l.b,ob,size⟩)) lim (ze lim l.b q') base w (w.setRow l.b cur'):=by
 have hown:=hH.own id0 l hβ;have g:Grows β (ze β id (some ⟨l.b,ob,size⟩)) lim (ze lim l.b q') base w (w.setRow l.b cur'):=
  QZ hH hb hown.1 hs hst (λj l2 hj=>by
   by_cases h:j=id
   . subst h;rw[hf.1]at hj;cases hj
   . rw[qo _ _ h];exact hj) (λb i _ hs=>by
     by_cases h:b=l.b
     . subst h;exact hl i hs
     . unfold yP at *;rw[qo _ _ h];exact hs) (λx hx=>qo _ _ (by have:=hown.1;omega))
 refine⟨g,?_,λj _ hj=>qo _ _ hj,ht.kH,by rw[ht.nx];exact Nat.le_refl _,ht.f⟩;rw[ht.nx];refine hH.step (tb:=l.b) g (Nat.le_refl _) hid (λb hb hne=>⟨setRow_other w l.b b cur' hne,qo _ _ hne⟩)
  (λj hj=>qo _ _ hj) (λj o' hj hh=>ht.some hj hh) (λj o' l2 hj hh hl2 hbb=>?_)
  (λo' ho'=>by rw[ht.at_]at ho';cases ho';exact ho) (λl2 hl2=>by
   rw[qi]at hl2;cases hl2;exact⟨hown.1,by simpa using hown.2⟩)
  (λo' l2 _ hl2=>by rw[qi]at hl2;cases hl2;rfl)
 have:j=id0:=hH.uniq j id0 o' o0 l2 l (ht.some hj hh) h0 hl2 hβ hbb
 rw[this,h0']at hh;cases hh
theorem qhB{β':Nat->Option Loc}{lim':Nat->Option Nat}{w':World}{size b cap:Nat}{xs:List V}{cells:Array Value}{fz:Nat×Nat}(hβ:β' id=some ⟨b,ob,size⟩)(hE:EL β' w' lim' size xs cells)
(hb:w'.heap[b]?=some (.cells cur et fz))(hc:∀j v,cells[j]?=some v->cur[ob+j]?=some v)(hst:∀j,j<xs.length *size->yP lim' b (ob+j))(hcap:xs.length<=cap)(hm:cap<=maxLen)
(hrow:ob+cap *size<=cur.size):R β' w' lim' (.asl id xs.length size xs) (.slice (some ⟨b,ob,none⟩) xs.length cap):=by
 have:=R.asl (β:=β') (w:=w') (lim:=lim') id xs.length xs ⟨b,ob,size⟩ cap (λj=>cells.getD j undef) hβ (Nat.le_refl _)
  (λj hj=>by
   simp only[Nat.sub_self,Nat.zero_mul,Nat.add_zero]at hj ⊢;have hlt:j<cells.size:=(by rw[hE.size];exact hj);refine⟨hst j hj,?_⟩;rw[cell_of_row w' b _ cur et fz hb,hc j _ (Array.getElem?_eq_getElem hlt)];simp[hlt])
  hE.cell (λi j e c he hc=>by
   obtain ⟨r,hr,hR⟩:=hE.rel i j e c he hc;rw[Array.getD_eq_getD_getElem?,hr];exact hR) hcap hm (by
   simp only[Nat.sub_self,Nat.zero_add];rw[x9 hb];exact hrow)
 simpa using this
theorem qib{cells z:Array Value}{j:Nat}{v:Value}(h:cells[j]?=some v):(cells++z)[0+j]?=some v:=by rw[Nat.zero_add,Array.getElem?_append_left (Array.getElem?_eq_some_iff.1 h).1];exact h
end
end Go.E

namespace Go.E
section
variable {P : Program}[Glob P]{β : Nat -> Option Loc}{w : World}{lim : Nat -> Option Nat}{base : Nat}{s s' : St}{id : Nat}
theorem VZ(z:Array Value)(n:Nat):(Builtin.zeroCells z n).size=n *z.size:=by simp[Builtin.zeroCells]
variable {t1 ty:TypeId} {cap:Nat} {es ys:List V} {olds news:Array Value}
theorem qaG{t e:TypeId}{i:TypeInfo}{z:Value}{p:Option Addr}{y:Value}(ht:P.underlying t=some (.slice e))(hi:P.info? e=some i)(hz:i.zero=some z)
(hzs:z.cells.size=i.size)(h1:(∃e1,P.underlying t1=some (.slice e1))\/P.underlying t1=some .string)(hl:(Builtin.lenOf y).run P w=.ok ys.length w)
(hn:∀w2:World,w2.heap=w.heap->(Builtin.firstCells i.size ys.length y).run P w2=.ok news w2)(ho:Reads w p olds)(hE:EL β w lim i.size es olds)(hY:EL β w lim i.size ys news)
(hg:cap<es.length+ys.length)(hb:(es.length+ys.length) *i.bytes<=140737488355328)(hm:es.length+ys.length<=maxLen)
(hH:RelH s.H s.next β lim base w)(hf:β id=none/\s.H id=none)(hid:id<s.next):
 (Turn id s s' (.tok (es.length+ys.length))->∃r β' lim' w',(Builtin.append_ #[t,t1] ty #[.slice p es.length cap,y]).run P w=.ok r w'/\Post id s s' β β' lim lim' base w w'/\
  R β' w' lim' (.asl id (es.length+ys.length) i.size (es++ys)) r)/\
 (Turn id s s' (.own i.size (es++ys) false)->∃r β' lim' w',(Builtin.append_ #[t,t1] ty #[.slice p es.length cap,y]).run P w=.ok r w'/\Post id s s' β β' lim lim' base w w'/\
  R β' w' lim' (.msl id i.size 0 (es.length+ys.length)) r):=by
 have ho':(Builtin.firstCells i.size es.length (.slice p es.length cap)).run P w.drew=.ok olds w.drew:=by
  refine Ql (P:=P) (w:=w.drew) ?_ hE.size;rcases ho with ho|⟨b,o,rfl,ho⟩
  . exact .inl ho
  . exact .inr ⟨b,o,rfl,ho⟩
 have hrun:=qkQ (ty:=ty) ht hi hz h1 hl (hn w.drew rfl) ho' hg hb hm;have hC:=grownCap_ge w (es.length+ys.length) cap e;have hC2:=grownCap_le_maxLen w (es.length+ys.length) cap e hm;generalize grownCap w (es.length+ys.length) cap e=C at hrun hC hC2;have hA:=hE.append hY;obtain ⟨g0,hH'⟩:=vX hH;have hcs:(olds++news++Builtin.zeroCells z.cells (C - (es.length+ys.length))).size=C *i.size:=by simp only[Array.size_append,VZ,hE.size,hY.size,hzs,<- Nat.add_mul];congr 1;omega
 generalize hcells:olds++news++Builtin.zeroCells z.cells (C - (es.length+ys.length))=cells at hrun hcs;have hget:∀j v,(olds++news)[j]?=some v->cells[0+j]?=some v:=λj v hj=>by rw[<- hcells];exact qib hj
 have hlen:(es++ys).length=es.length+ys.length:=by simp
 constructor
 . intro hT;have hp:=qeK (size:=i.size) (cs:=cells) (et:=e) (k:=some ((es.length+ys.length) *i.size)) hH hf hT hid (λl hl=>by
    rw[qi]at hl;cases hl;refine⟨cells,e,heap_alloc_new w.drew _,?_,by rw[qi];simp⟩;rw[hcs,Nat.zero_add];exact Nat.mul_le_mul_right _ hC)
   refine⟨_,_,_,_,hrun,hp,?_⟩;have hEL:=hA.grow hp.g;have:=qhB (id:=id) (b:=w.heap.size) (ob:=0) (cap:=C) (cur:=cells) (et:=e) (fz:=(0,0)) (qi _ _ _) hEL (heap_alloc_new w.drew _) hget (λj hj=>by
    unfold yP;rw[qi];simp only[Nat.zero_add];rw[hlen]at hj;exact hj) (by rw[hlen];exact hC) hC2 (by rw[hcs];simp)
   rw[hlen]at this;exact this
 . intro hT;have g1:=jh hH' id hf.1 (some ⟨w.heap.size,0,i.size⟩) cells e (some 0);have hobj:=Vo (β:=β) (w:=w.drew) (lim:=lim) id i.size (es++ys) false cells e hA.cell (by rw[hcs,hlen];exact Nat.mul_le_mul_right _ hC) g1
    (λa j x c hx hc=>by
     obtain ⟨r,hr,hR⟩:=hA.rel a j x c hx hc;exact⟨r,by have:=hget _ _ hr;simpa using this,g0.R hR⟩)
   have hp:=qeK (size:=i.size) (cs:=cells) (et:=e) (k:=some 0) hH hf hT hid hobj;refine⟨_,_,_,_,hrun,hp,?_⟩;have:=R.msl (β:=ze β id (some ⟨w.heap.size,0,i.size⟩)) (w:=w.drew.alloc (.cells cells e)) (lim:=ze lim w.heap.size (some 0)) id 0 (es.length+ys.length) ⟨w.heap.size,0,i.size⟩ C (qi _ _ _) hC hC2
    (by
     have e0:zQ (w.drew.alloc (.cells cells e)) w.heap.size=cells.size:=x9 (heap_alloc_new w.drew _)
     show _<=zQ _ w.heap.size;rw[e0,hcs];simp)
   simpa using this
theorem qek{t e:TypeId}{i:TypeInfo}{l:Loc}{y:Value}{id0 ob q:Nat}{o0:MObj}{cur:Array Value}{et:TypeId}(ht:P.underlying t=some (.slice e))(hi:P.info? e=some i)
(h1:(∃e1,P.underlying t1=some (.slice e1))\/P.underlying t1=some .string)(hl:(Builtin.lenOf y).run P w=.ok ys.length w)
(hn:∀w2:World,w2.heap=w.heap->(Builtin.firstCells i.size ys.length y).run P w2=.ok news w2)(hE:EL β w lim i.size es olds)(hY:EL β w lim i.size ys news)(hpos:0<i.size)
(hrd:∀j v,olds[j]?=some v->cur[ob+j]?=some v)(hg:es.length+ys.length<=cap)(hm:cap<=maxLen)(hrow:ob+cap *i.size<=cur.size)
(hb:w.heap[l.b]?=some (.cells cur et (0,0)))(hβ:β id0=some l)(h0:s.H id0=some o0)(hlim:lim l.b=some q)(hq:q<=ob+es.length *i.size)
(hH:RelH s.H s.next β lim base w)(hf:β id=none/\s.H id=none)(hid:id<s.next):
 (Turn id s s' (.tok (es.length+ys.length))->s'.H id0=none->∃r β' lim' w',(Builtin.append_ #[t,t1] ty #[.slice (some ⟨l.b,ob,none⟩) es.length cap,y]).run P w=.ok r w'/\Post id s s' β β' lim lim' base w w'/\
  R β' w' lim' (.asl id (es.length+ys.length) i.size (es++ys)) r)/\
 (q=0->Turn id s s' (.own i.size (es++ys) false)->s'.H id0=none->∃r β' lim' w',(Builtin.append_ #[t,t1] ty #[.slice (some ⟨l.b,ob,none⟩) es.length cap,y]).run P w=.ok r w'/\Post id s s' β β' lim lim' base w w'/\
  R β' w' lim' (.msl id i.size 0 (es.length+ys.length)) r):=by
 have hA:=hE.append hY;have hlen:(es++ys).length=es.length+ys.length:=by simp
 have hcap:(es.length+ys.length) *i.size<=cap *i.size:=Nat.mul_le_mul_right _ hg;rw[Nat.add_mul]at hcap;have hst:=run_storeCells_at P l.b (ob+es.length *i.size) et news.toList 0 cur w hb (by simp[hY.size];omega) (hY.one hpos);simp only[Nat.add_zero,Array.length_toList]at hst;generalize hcur:(cur.toList.take (ob+es.length *i.size)++news.toList++cur.toList.drop (ob+es.length *i.size+news.size)).toArray=cur' at hst;have hget:∀j,cur'[j]?=if ob+es.length *i.size<=j/\j<ob+es.length *i.size+ys.length *i.size then news[j - (ob+es.length *i.size)]? else cur[j]?:=by intro j;have:=KA cur.toList (ob+es.length *i.size) news.toList (by simp[hY.size];omega) j;rw[<- hcur];simp only[List.getElem?_toArray,Array.length_toList,hY.size]at this ⊢;rw[this];simp
 have hsize:cur'.size=cur.size:=by rw[<- hcur];simp[hY.size];omega
 have hrun:=qay (ty:=ty) (w:=w) (w':=w.setRow l.b cur') (p:=some ⟨l.b,ob,none⟩) ht hi h1 hl (hn w rfl) hg (λa ha=>by
  cases ha;rw[add0];exact hst) (by simp)
 have hstill:∀j,yP lim l.b j->cur'[j]?=cur[j]?:=λj hj=>by unfold yP at hj;rw[hlim]at hj;simp only at hj;rw[hget,if_neg o_]
 have hcells:∀j v,(olds++news)[j]?=some v->cur'[ob+j]?=some v:=λj v hj=>by
  rw[Array.getElem?_append]at hj;rw[hget];split at hj
  . rename_i hjl;rw[hE.size]at hjl;rw[if_neg o_];exact hrd j v hj
  . rename_i hjl;have hjs:=(Array.getElem?_eq_some_iff.1 hj).1;rw[hE.size]at hjl hj hjs;rw[hY.size]at hjs;rw[if_pos ⟨o_,o_⟩,show ob+j - (ob+es.length *i.size)=j - es.length *i.size by omega];exact hj
 have hheap:=setRow_heap w l.b cur cur' et (0,0) hb;constructor
 . intro hT h0';have hp:=qeB (size:=i.size) (ob:=ob) (cur':=cur') (q':=some (ob+(es.length+ys.length) *i.size)) hH hf hT hid h0 h0' hβ hb hsize hstill (λj hj=>by
    unfold yP at *;rw[qi];rw[hlim]at hj;simp only at hj ⊢;rw[Nat.add_mul];omega)
    (λl2 hl2=>by
     rw[qi]at hl2;cases hl2;exact⟨cur',et,hheap,by rw[hsize,Nat.add_mul];simp only;omega,qi _ _ _⟩)
   refine⟨_,_,_,_,hrun,hp,?_⟩;have hEL:=hA.grow hp.g;have:=qhB (id:=id) (b:=l.b) (ob:=ob) (cap:=cap) (cur:=cur') (et:=et) (fz:=(0,0)) (qi _ _ _) hEL hheap hcells (λj hj=>by
    unfold yP;rw[qi];simp only;rw[hlen]at hj;omega) (by rw[hlen];exact hg) hm (by rw[hsize];exact hrow)
   rw[hlen]at this;exact this
 . intro hq0 hT h0';have g:Grows β (ze β id (some ⟨l.b,ob,i.size⟩)) lim (ze lim l.b (some 0)) base w (w.setRow l.b cur'):=
    QZ hH hb (hH.own id0 l hβ).1 hsize hstill (λj l2 hj=>by
     by_cases h:j=id
     . subst h;rw[hf.1]at hj;cases hj
     . rw[qo _ _ h];exact hj) (λb k _ hs=>by
       by_cases h:b=l.b
       . subst h;unfold yP at hs;rw[hlim]at hs;simp only[hq0]at hs;omega
       . unfold yP at *;rw[qo _ _ h];exact hs) (λx hx=>qo _ _ (by have:=(hH.own id0 l hβ).1;omega))
   have hp:=qeB (size:=i.size) (ob:=ob) (cur':=cur') (q':=some 0) hH hf hT hid h0 h0' hβ hb hsize hstill (λj hj=>by
    unfold yP at hj;rw[hlim]at hj;simp only[hq0]at hj;omega)
    (.inr ⟨⟨l.b,ob,i.size⟩,cur',et,qi _ _ _,rfl,hheap,by rw[hsize,hlen];simp only;rw[Nat.add_mul];omega,qi _ _ _,hA.cell,λa j x c hx hc=>by
     obtain ⟨r,hr,hR⟩:=hA.rel a j x c hx hc;refine⟨r,?_,g.R hR⟩;rw[Nat.add_assoc];exact hcells _ _ hr⟩)
   refine⟨_,_,_,_,hrun,hp,?_⟩;have:=R.msl (β:=ze β id (some ⟨l.b,ob,i.size⟩)) (w:=w.setRow l.b cur') (lim:=ze lim l.b (some 0)) id 0 (es.length+ys.length) ⟨l.b,ob,i.size⟩ cap (qi _ _ _) hg hm
    (by show _<=zQ _ l.b;rw[x9 hheap,hsize];simpa using hrow)
   simpa using this
end
end Go.E

namespace Go.E
section
variable {P : Program}[Glob P]{β : Nat -> Option Loc}{w : World}{lim : Nat -> Option Nat}{base : Nat}{s s' : St}{id : Nat}
variable {t1:TypeId} {ys:List V}
theorem qah{t ty e:TypeId}{i:TypeInfo}{z:Value}{r y:Value}{es:List V}{news:Array Value}(ht:P.underlying t=some (.slice e))(hi:P.info? e=some i)(hz:i.zero=some z)
(hzs:z.cells.size=i.size)(h1:(∃e1,P.underlying t1=some (.slice e1))\/P.underlying t1=some .string)(hl:(Builtin.lenOf y).run P w=.ok ys.length w)
(hn:∀w2:World,w2.heap=w.heap->(Builtin.firstCells i.size ys.length y).run P w2=.ok news w2)(hY:EL β w lim i.size ys news)
(hx:R β w lim (.sl i.size true es) r)(hb:(es.length+ys.length) *i.bytes<=140737488355328)(hm:es.length+ys.length<=maxLen)
(hH:RelH s.H s.next β lim base w)(hf:β id=none/\s.H id=none)(hid:id<s.next):
 (Turn id s s' (.tok (es.length+ys.length))->∃r' β' lim' w',(Builtin.append_ #[t,t1] ty #[r,y]).run P w=.ok r' w'/\Post id s s' β β' lim lim' base w w'/\
  R β' w' lim' (.asl id (es.length+ys.length) i.size (es++ys)) r')/\
 (es=[]->Turn id s s' (.own i.size ys false)->∃r' β' lim' w',(Builtin.append_ #[t,t1] ty #[r,y]).run P w=.ok r' w'/\Post id s s' β β' lim lim' base w w'/\
  R β' w' lim' (.msl id i.size 0 ys.length) r'):=by
 obtain ⟨p,cap,rfl,_,_,hc⟩:=KG hx;have hcap:=hc rfl;obtain ⟨_,olds,hE,hrd⟩:=qmF hx;by_cases hm0:ys.length=0
 . have hys:ys=[]:=List.eq_nil_of_length_eq_zero hm0;subst hys;have hnews:news= #[]:=Array.eq_empty_of_size_eq_zero (by simpa using hY.size);subst hnews;have hrun:=qay (ty:=ty) (w:=w) (w':=w) (p:=p) (n:=es.length) (cap:=cap) (m:=0) (news:= #[]) ht hi h1 hl (hn w rfl) o_ (λa _=>by simp[storeCells]) (λ_=>rfl);constructor
   . intro hT;refine⟨_,β,lim,w,hrun,qa9 hH hf hT (λl hl=>by rw[hf.1]at hl;cases hl) hid,?_⟩;simp only[List.length_nil,Nat.add_zero,List.append_nil];exact .aslClip _ _ _ _ _ hx
   . intro hes hT;subst hes;refine⟨_,β,lim,w,hrun,qa9 hH hf hT (.inl ⟨hf.1,rfl⟩) hid,?_⟩;simp only[List.length_nil,Nat.add_zero]at hcap ⊢;subst hcap;exact .msl0 _ _ _ _
 . have hgt:cap<es.length+ys.length:=o_;have:=qaG (s':=s') (ty:=ty) (p:=p) (cap:=cap) ht hi hz hzs h1 hl hn hrd hE hY hgt hb hm hH hf hid;refine⟨this.1,λhes hT=>?_⟩;subst hes;obtain ⟨r',β',lim',w',h1,h2,h3⟩:=this.2 (by simpa using hT);exact⟨r',β',lim',w',h1,h2,by simpa using h3⟩
theorem qfJ{a:Act}{dst:Option Tmp}{type:TypeId}{pos:String}{after:Array Edge}{guard:Option (Nat×Bool)}{t e:TypeId}{x y:Operand}{i:TypeInfo}{z:Value}{mu:Bool}{xv yv v:V}{n:Nat}
(ht:P.underlying t=some (.slice e))(hi:P.info? e=some i)(hz:i.zero=some z)(hzs:z.cells.size=i.size)(hpos:0<i.size)
(h1:(∃e1,P.underlying t1=some (.slice e1))\/P.underlying t1=some .string)(hx:R β w lim xv (a.eval x))(hy:R β w lim yv (a.eval y))
(hs:qb1 s i.size yv=some ys)(h:qO id s mu i.size xv ys=some (v,s',n))(hb:n *i.bytes<=140737488355328)(hm:n<=maxLen)
(hH:RelH s.H s.next β lim base w)(hf:β id=none/\s.H id=none)(hid:id<s.next):
 Eff P (execOp a.eval {dst,op:= .call {callee:= .builtin .append,args:= #[x,y],argTypes:= #[t,t1]},type,pos,after,guard}) id s s' v β lim base w:=by
 obtain ⟨news,hY,hl,hn⟩:=qoO (P:=P) hs hy hH;have run:∀{r:Value} {w':World},(Builtin.append_ #[t,t1] type #[a.eval x,a.eval y]).run P w=.ok r w'->
  (execOp a.eval {dst,op:= .call {callee:= .builtin .append,args:= #[x,y],argTypes:= #[t,t1]},type,pos,after,guard}).run P w=.ok (.value r) w':=by
  intro r w' h;simp only[execOp,resolve,Sem.run_bind,Sem.run_pure,Result.andThen_ok,invoke,builtin,List.map_toArray,List.map_cons,List.map_nil,h]
 have eff:∀{v0:V},(∃r β' lim' w',(Builtin.append_ #[t,t1] type #[a.eval x,a.eval y]).run P w=.ok r w'/\Post id s s' β β' lim lim' base w w'/\R β' w' lim' v0 r)->
  Eff P (execOp a.eval {dst,op:= .call {callee:= .builtin .append,args:= #[x,y],argTypes:= #[t,t1]},type,pos,after,guard}) id s s' v0 β lim base w:=
  λ⟨r,β',lim',w',e1,e2,e3⟩=>⟨r,β',lim',w',.inl (run e1),e2,e3⟩
 unfold qO at h;split at h
 . rename_i sz es;split at h
   case isFalse=>cases h
   rename_i hsz;subst hsz;split at h
   . split at h
     case isFalse=>cases h
     rename_i hes;cases h;subst hes;exact eff ((qah ht hi hz hzs h1 hl hn hY hx (by simpa using hb) (by simpa using hm) hH hf hid).2 rfl (qtp _))
   . cases h;exact eff ((qah ht hi hz hzs h1 hl hn hY hx hb hm hH hf hid).1 (qtp _))
 . rename_i id0 fin sz es;split at h
   case isFalse=>cases h
   rename_i hc;obtain ⟨hsz,_⟩:=hc;split at h
   case h_2=>cases h
   rename_i fin' hobj;split at h
   case isFalse=>cases h
   rename_i hfin;subst hfin;cases h;have hne:id0≠id:=λe=>by rw[e,hf.2]at hobj;cases hobj
   have h0':((s.setO id0 none).setO id (some (.tok (es.length+ys.length)))).H id0=none:=by rw[zV,qo _ _ hne,zV,qi]
   generalize hr:a.eval x=r at *;cases hx with
   | aslClip _ _ _ _ _ hx=>
     subst hsz;exact eff ((qah ht hi hz hzs h1 hl hn hY hx hb hm hH hf hid).1 (qkf id0 _))
   | asl _ _ _ l cap rv hβ hfin hst hsc hR hcap hmc hrow=>
     have hasl:R β w lim (.asl id0 fin' l.size es) (.slice (some ⟨l.b,l.o+(fin' - es.length) *l.size,none⟩) es.length cap):= .asl id0 fin' es l cap rv hβ hfin hst hsc hR hcap hmc hrow;obtain ⟨_,olds,hE,hrd⟩:=ql4 hasl;obtain ⟨cur,et,hb1,hb2,hb3⟩:=hH.obj _ _ hobj l hβ;rw[hsz]at hE;by_cases hg:es.length+ys.length<=cap
     . have hrow':l.o+(fin' - es.length) *l.size+cap *i.size<=cur.size:=by
        rw[x9 hb1,Nat.add_mul]at hrow;rw[<- hsz];omega
       refine eff ((qek (q:=l.o+fin' *l.size) ht hi h1 hl hn hE hY hpos (λj v hj=>?_) hg hmc hrow' hb1 hβ hobj hb3 ?_ hH hf hid).1 (qkf id0 _) h0')
       . rcases hrd with h0|⟨b,o,hbo,h0⟩
         . have:=(Array.getElem?_eq_some_iff.1 hj).1;omega
         . cases hbo;have:=h0 j v hj;rw[cell_of_row w l.b _ cur et (0,0) hb1]at this;exact this
       . rw[<- hsz]
         have:fin' *l.size=(fin' - es.length) *l.size+es.length *l.size:=by rw[<- Nat.add_mul];congr 1;omega
         omega
     . exact eff ((qaG ht hi hz hzs h1 hl hn hrd hE hY o_ hb hm hH hf hid).1 (qkf id0 _))
 . rename_i id0 sz off len;split at h
   case isFalse=>cases h
   rename_i hsz;split at h
   case h_2=>cases h
   rename_i sz' es hobj;split at h
   case isFalse=>cases h
   rename_i hc;obtain ⟨hsz',hle⟩:=hc;subst hsz';cases h;have hne:id0≠id:=λe=>by rw[e,hf.2]at hobj;cases hobj
   have hok:=hH.obj _ _ hobj;have hlen:((es.drop off).take len).length=len:=so_;obtain ⟨p,cap,olds,hr,hlc,hmc,hE,hrd⟩:=qjs hx hok hle;have h0':((s.setO id0 none).setO id (some (.own sz' ((es.drop off).take len++ys) false))).H id0=none:=by rw[zV,qo _ _ hne,zV,qi]
   rw[<- hsz];generalize (es.drop off).take len=L at *;subst hlen;have hT:Turn id s ((s.setO id0 none).setO id (some (.own i.size (L++ys) false))) (.own i.size (L++ys) false):=qkf id0 _;rw[hsz]at h0';rw[hr]at run eff hx;have hE':EL β w lim i.size L olds:=(by rw[<- hsz];exact hE);rw[hsz]at hx ⊢;by_cases hg:L.length+ys.length<=cap
   . by_cases hc0:cap=0
     . subst hc0;have hl0:L=[]:=List.eq_nil_of_length_eq_zero o_;have hys:ys=[]:=List.eq_nil_of_length_eq_zero o_;subst hl0;subst hys;have hnews:news= #[]:=Array.eq_empty_of_size_eq_zero (by simpa using hY.size);subst hnews;have hrun:=qay (ty:=type) (w:=w) (w':=w) (p:=p) (n:=0) (cap:=0) (m:=0) (news:= #[]) ht hi h1 hl (hn w rfl) o_ (λa _=>by simp[storeCells]) (λ_=>rfl);refine eff ⟨_,β,lim,w,by simpa using hrun,qa9 (o:= .own i.size ([]++[]) false) hH hf hT (.inl ⟨hf.1,by simp⟩) hid,?_⟩;simp only[List.length_nil,Nat.add_zero];exact .msl0 _ _ _ _
     . have hloc:∃l,β id0=some l/\l.size=i.size/\p=some ⟨l.b,l.o+off *l.size,none⟩/\l.o+(off+cap) *l.size<=zQ w l.b:=by
        clear run eff hr;generalize hq:i.size=q at hx;generalize hq2:L.length=q2 at hx;cases hx with
        |msl0=>omega
        |msl _ _ _ l cap2 hβ hcap hm2 hrow=>exact⟨l,hβ,rfl,rfl,hrow⟩
       obtain ⟨l,hβ,hls,rfl,hrow⟩:=hloc;rcases hok with ⟨h1',_⟩|⟨l',cur,et,g1,g2,g3,g4,g5,g6,g7⟩
       . rw[hβ]at h1';cases h1'
       rw[hβ]at g1;cases g1;rw[x9 g3]at hrow;refine eff ((qek (q:=0) ht hi h1 hl hn hE' hY hpos (λj v hj=>?_) hg hmc (by rw[Nat.add_mul]at hrow;rw[<- hls];omega) g3 hβ hobj g5 (Nat.zero_le _) hH hf hid).2 rfl hT h0');rcases hrd with h0|⟨b,o,hbo,h0⟩
       . have:=(Array.getElem?_eq_some_iff.1 hj).1;omega
       . cases hbo;have:=h0 j v hj;rw[cell_of_row w l.b _ cur et (0,0) g3]at this;exact this
   . exact eff ((qaG ht hi hz hzs h1 hl hn hrd hE' hY o_ hb hm hH hf hid).2 hT)
 . cases h
end
end Go.E

namespace Go.E
section
variable {P : Program}[Glob P]{β : Nat -> Option Loc}{w : World}{lim : Nat -> Option Nat}{base : Nat}{s s' : St}{id : Nat}
variable {bor:Bool} {v v':V}
theorem Er.keeps{H:Nat->Option MObj}(h:Er bor H v v'):v'.okCell=v.okCell/\v'.isAgg=v.isAgg/\v'.scalar=v.scalar:=by cases h<;>exact⟨rfl,rfl,rfl⟩
def qae(e:V)(rv:Nat->Value):Value:=if e.isAgg then .agg ((List.range e.cells.length).map rv).toArray else rv 0
variable {e:V} {rv:Nat->Value}
theorem qdD{β:Nat->Option Loc}{w:World}{lim:Nat->Option Nat}(hs:∀c∈e.cells,c.scalar=true)(h:∀(j:Nat) c,e.cells[j]?=some c->R β w lim c (rv j)):R β w lim e (qae e rv):=by
 unfold qae;cases he:e.isAgg with
 | true=>
   cases e<;>simp[V.isAgg]at he;rename_i cs;simp only[V.cells]at hs h;simp only[if_true,V.cells];refine .agg cs _ (by simp) hs (λi c r hc hr=>?_);have hi:=(List.getElem?_eq_some_iff.1 hc).1;simp[hi]at hr;subst hr;exact h i c hc
 | false=>
   have:=V.cells_scalar he;simp only[Bool.false_eq_true,if_false];exact h 0 e (by rw[this];rfl)
theorem ZT{e':V}(hs:∀c∈e.cells,c.scalar=true)(hk:e'.okCell=true)(h:R β w lim e' (qae e rv))(ha:e'.isAgg=e.isAgg)(hr1:e.isAgg=false->(rv 0).cells= #[rv 0]):
 e'.cells.length=e.cells.length/\(∀c∈e'.cells,c.scalar=true)/\∀(j:Nat) c,e'.cells[j]?=some c->R β w lim c (rv j):=by
 obtain ⟨h1,h2,h3⟩:=h.cells hk;unfold qae at h1 h3;cases he:e.isAgg with
 | true=>
   simp only[he,if_true,Value.cells]at h1 h3;have hl:e'.cells.length=e.cells.length:=(by rw[<- h1];simp);refine⟨hl,h2,λj c hc=>h3 j c _ hc ?_⟩;have hj:j<e.cells.length:=(by rw[<- hl];exact(List.getElem?_eq_some_iff.1 hc).1);simp[hj]
 | false=>
   simp only[he,Bool.false_eq_true,if_false]at h1 h3;have e1:=V.cells_scalar he;have e2:=V.cells_scalar (ha.trans he);refine⟨by rw[e1,e2];rfl,h2,λj c hc=>?_⟩;rw[e2]at hc;cases j with
   |zero=>exact h3 0 c _ (by rw[e2];exact hc) (by rw[hr1 he];rfl)
   |succ j=>simp at hc
theorem R.one_cells{r:Value}(h:R β w lim v r)(hs:v.scalar=true):r.cells= #[r]:=(h.scalar_cells hs).2
theorem qio(h:v.scalar=true):v.okCell=true:=by cases v<;>simp[V.scalar]at h<;>rfl
theorem cells_ok(h:∀c∈e.cells,c.scalar=true):e.okCell=true:=by
 cases he:e.isAgg with
 |true=>cases e<;>simp[V.isAgg]at he;rfl
 |false=>exact qio (h e (by rw[V.cells_scalar he];simp))
theorem qoB{lim':Nat->Option Nat}{sz:Nat}{es es':List V}(hl:es'.length=es.length)(hsz:∀e∈es,e.cells.length=sz/\∀c∈e.cells,c.scalar=true)
(h:∀(i j:Nat) e c,es[i]?=some e->e.cells[j]?=some c->R β w lim c (rv (i *sz+j)))
(ih:∀(i:Nat) c c',es[i]?=some c->es'[i]?=some c'->(c'.okCell=c.okCell/\c'.isAgg=c.isAgg/\c'.scalar=c.scalar)/\∀r,R β w lim c r->R noβ w lim' c' r):
 (∀e∈es',e.cells.length=sz/\∀c∈e.cells,c.scalar=true)/\∀(i j:Nat) e c,es'[i]?=some e->e.cells[j]?=some c->R noβ w lim' c (rv (i *sz+j)):=by
 have key:∀(i:Nat) e',es'[i]?=some e'->e'.cells.length=sz/\(∀c∈e'.cells,c.scalar=true)/\∀(j:Nat) c,e'.cells[j]?=some c->R noβ w lim' c (rv (i *sz+j)):=by
  intro i e' he';have hi:i<es.length:=by rw[<- hl];exact(List.getElem?_eq_some_iff.1 he').1
  have he:es[i]?=some es[i]:=List.getElem?_eq_getElem hi;obtain ⟨h1,h2⟩:=hsz _ (List.getElem_mem hi);obtain ⟨⟨k1,k2,k3⟩,hR⟩:=ih i _ e' he he';have hw:=hR _ (qdD (rv:=λj=>rv (i *sz+j)) h2 (λj c hc=>h i j _ c he hc));have:=ZT h2 (by rw[k1];exact cells_ok h2) hw k2 (λhna=>by
   have:=h i 0 _ (es[i]) he (by rw[V.cells_scalar hna];rfl);exact this.one_cells (h2 _ (by rw[V.cells_scalar hna];simp)))
  exact⟨this.1.trans h1,this.2.1,this.2.2⟩
 refine⟨λe he=>?_,λi j e c he hc=>(key i e he).2.2 j c hc⟩;obtain ⟨i,hi⟩:=List.getElem?_of_mem he;exact⟨(key i e hi).1,(key i e hi).2.1⟩
def qxD(bor:Bool)(lim:Nat->Option Nat):Nat->Option Nat:=if bor then λ_=>none else lim
structure Still(bor:Bool)(β:Nat->Option Loc)(H:Nat->Option MObj)(lim lim2:Nat->Option Nat):Prop where
 st:∀b i,yP lim b i->yP lim2 b i
 own:bor=true->∀id z es ro l,H id=some (.own z es ro)->β id=some l->lim2 l.b=none
 mapo:bor=true->∀id m l,H id=some (.mapo m)->β id=some l->lim2 l.b=none
theorem Kc(bor:Bool)(β:Nat->Option Loc)(H:Nat->Option MObj)(lim:Nat->Option Nat):Still bor β H lim (qxD bor lim):=by
 unfold qxD;cases bor
 . exact⟨λ_ _ h=>h,by simp,by simp⟩
 . exact⟨λ_ _ _=>trivial,λ_ _ _ _ _ _ _ _=>rfl,λ_ _ _ _ _ _=>rfl⟩
theorem qii{lim:Nat->Option Nat}{b:Nat}(h:∀i,yP lim b i):lim b=none:=by
 cases hl:lim b with
 |none=>rfl
 | some n=>
   have:=h n;unfold yP at this;rw[hl]at this;exact absurd this (Nat.lt_irrefl _)
theorem Er.R{H:Nat->Option MObj}{next:Nat}(hH:RelH H next β lim base w){lim2:Nat->Option Nat}(hS:Still bor β H lim lim2)(h:Er bor H v v'):∀{r:Value},R β w lim v r->R noβ w lim2 v' r:=by
 induction h with
 |bool b=>intro r hr;cases hr;exact .bool _
 |int k n=>intro r hr;cases hr;exact .int _ _
 |str s=>intro r hr;cases hr;exact .str _
 | agg cs cs' hl h ih=>
   intro r hr;cases hr with
   | agg _ rs h1 h2 h3=>
     have key:∀(i:Nat) c',cs'[i]?=some c'->∃c,cs[i]?=some c:=λi c' hc'=>by have hi:i<cs.length:=(by rw[<- hl];exact(List.getElem?_eq_some_iff.1 hc').1);exact⟨_,List.getElem?_eq_getElem hi⟩
     refine .agg cs' rs o_ (λc hc=>?_) (λi c' r hc' hr=>?_)
     . obtain ⟨i,hi⟩:=List.getElem?_of_mem hc;obtain ⟨c0,h0⟩:=key i c hi;rw[(h i c0 c h0 hi).keeps.2.2];exact h2 c0 (List.mem_of_getElem? h0)
     . obtain ⟨c0,h0⟩:=key i c' hc';exact ih i c0 c' h0 hc' (h3 i c0 r h0 hr)
 | tup cs cs' hl h ih=>
   intro r hr;cases hr with
   | tup _ rs h1 h3=>
     refine .tup cs' rs o_ (λi c' r hc' hr=>?_);have hi:i<cs.length:=(by rw[<- hl];exact(List.getElem?_eq_some_iff.1 hc').1);exact ih i _ c' (List.getElem?_eq_getElem hi) hc' (h3 i _ r (List.getElem?_eq_getElem hi) hr)
 | sl sz b cs cs' hl h ih=>
   intro r hr;cases hr with
   | sl0 _ _ a cap hc hm=>
     have:cs'=[]:=List.eq_nil_of_length_eq_zero hl
     subst this;exact .sl0 _ _ _ _ (by simp) hm
   | sl _ _ _ bb o cap rv hlen hst hsz hR hcap hm hc=>
     obtain ⟨e1,e2⟩:=qoB (lim':=lim2) hl hsz hR (λi c c' hc hc'=>⟨(h i c c' hc hc').keeps,λr hr=>ih i c c' hc hc' hr⟩);rw[<- hl];exact .sl sz false cs' bb o cap rv o_ (λj hj=>by rw[hl]at hj;exact⟨hS.st _ _ (hst j hj).1,(hst j hj).2⟩) e1 e2 o_ hm (by simp)
 | asl id fin sz cs cs' hl h ih=>
   intro r hr;have hr':=Q6 hr;cases hr' with
   | sl0 _ _ a cap hc hm=>
     have:cs'=[]:=List.eq_nil_of_length_eq_zero hl
     subst this;exact .sl0 _ _ _ _ (by simp) hm
   | sl _ _ _ bb o cap rv hlen hst hsz hR hcap hm hc=>
     obtain ⟨e1,e2⟩:=qoB (lim':=lim2) hl hsz hR (λi c c' hc hc'=>⟨(h i c c' hc hc').keeps,λr hr=>ih i c c' hc hc' hr⟩);rw[<- hl];exact .sl sz false cs' bb o cap rv o_ (λj hj=>by rw[hl]at hj;exact⟨hS.st _ _ (hst j hj).1,(hst j hj).2⟩) e1 e2 o_ hm (by simp)
 | iptr sz e e' off h ih=>
   intro r hr;cases hr with
   | iptr _ _ _ b o rv hst hsz hs hR=>
     have hw:=ih (qdD hs hR);obtain ⟨k1,k2,k3⟩:=h.keeps;obtain ⟨c1,c2,c3⟩:=ZT hs (by rw[k1];exact cells_ok hs) hw k2 (λhna=>(hR 0 e (by rw[V.cells_scalar hna];rfl)).one_cells (hs _ (by rw[V.cells_scalar hna];simp)));exact .iptr sz e' off b o rv (λj hj=>⟨hS.st _ _ (hst j hj).1,(hst j hj).2⟩) (c1.trans hsz) c2 c3
 | msl id sz off len es ro cs' hb hHo hle hl h ih=>
   intro r hr;subst hb;by_cases h0:len=0
   . subst h0
     have:cs'=[]:=List.eq_nil_of_length_eq_zero hl
     subst this;obtain ⟨p,cap,cs,rfl,_,hm,_⟩:=qjs hr (hH.obj _ _ hHo) hle;exact .sl0 _ _ _ _ (by simp) hm
   . cases hr with
     |msl0=>exact absurd rfl h0
     | msl _ _ _ l cap hβ hcap hm hrow=>
       rcases hH.obj _ _ hHo with ⟨g1,_⟩|⟨l',cur,et,g1,g2,g3,g4,g5,g6,g7⟩
       . rw[hβ]at g1;cases g1
       rw[hβ]at g1;cases g1;have hget:∀(i:Nat),i<len->((es.drop off).take len)[i]?=es[off+i]?:=λi hi=>by rw[List.getElem?_take,if_pos hi,List.getElem?_drop]
       have hlen:((es.drop off).take len).length=len:=so_;obtain ⟨e1,e2⟩:=qoB (β:=β) (w:=w) (lim:=lim) (lim':=lim2) (sz:=l.size) (es:=(es.drop off).take len) (es':=cs') (rv:=λk=>cur.getD (l.o+off *l.size+k) undef) o_
        (λe he=>g6 e (List.mem_of_mem_drop (List.mem_of_mem_take he)))
        (λi j e c he hc=>by
         have hi:i<len:=(by rw[<- hlen];exact(List.getElem?_eq_some_iff.1 he).1);rw[hget i hi]at he;obtain ⟨r,hr,hR⟩:=g7 _ j e c he hc;rw[show l.o+off *l.size+(i *l.size+j)=l.o+(off+i) *l.size+j by rw[Nat.add_mul];omega,Array.getD_eq_getD_getElem?,hr];exact hR)
        (λi c c' hc hc'=>by
         have hi:i<len:=(by rw[<- hlen];exact(List.getElem?_eq_some_iff.1 hc).1);rw[hget i hi]at hc;exact⟨(h i c c' hc hc').keeps,λr hr=>ih i c c' hc hc' hr⟩)
       rw[<- hl];have hk:(off+len) *l.size<=es.length *l.size:=Nat.mul_le_mul_right _ hle;rw[Nat.add_mul]at hk;exact .sl l.size false cs' l.b (l.o+off *l.size) cap _ o_ (λj hj=>⟨by unfold yP;rw[hS.own rfl _ _ _ _ _ hHo hβ];trivial,by rw[hl]at hj;exact cell_of g3 o_⟩) e1 e2 o_ hm (by simp)
 | ptr id i off sz es ro e e' hb hHo he h ih=>
   intro r hr;subst hb;obtain ⟨l,hβ,rfl⟩:=hr.ptr_inv;obtain ⟨l',cur,et,g1,g2,g3,g4,g5,g6,g7,g8,g9⟩:=(hH.obj _ _ hHo).elem he;rw[hβ]at g1;cases g1;subst g2;have hw:=ih (qdD (rv:=λj=>cur.getD (l.o+i *l.size+j) undef) g6 g9);obtain ⟨k1,k2,k3⟩:=h.keeps;obtain ⟨c1,c2,c3⟩:=ZT g6 (by rw[k1];exact cells_ok g6) hw k2 (λhna=>(g9 0 e (by rw[V.cells_scalar hna];rfl)).one_cells (g6 _ (by rw[V.cells_scalar hna];simp)));exact .iptr l.size e' off l.b (l.o+i *l.size) _ (λj hj=>⟨by unfold yP;rw[hS.own rfl _ _ _ _ _ hHo hβ];trivial,cell_of g3 o_⟩) (c1.trans g5) c2 c3
 |nilp=>intro r hr;cases hr;exact .nilp
 |nilfn=>intro r hr;cases hr;exact .nilfn
 |nilmap=>intro r hr;cases hr;exact .nilmap
 |mfn f x x' h ih=>intro r hr;cases hr with|mfn _ _ r h1=>exact .mfn _ _ _ (ih h1)
 |mp l=>intro r hr;cases hr with|mp _ b es c hs hb hes=>exact .mp _ b es c (qii λi=>hS.st b i (by unfold yP;rw[hs];trivial)) hb hes
 | mapo id m hb hHo=>
   intro r hr;subst hb;cases hr with
   | map _ l hβ=>
     obtain ⟨lc,es,ck,g1,g2,g3,g4⟩:=hH.obj _ _ hHo;rw[hβ]at g1;cases g1;exact .mp _ l.b es ck (hS.mapo rfl _ _ _ hHo hβ) g2 g3
 |nilifc=>intro r hr;cases hr;exact .nilifc
 | fn f cs cs' hl h ih=>
   intro r hr;cases hr with
   | fn _ _ rs h1 h3=>
     refine .fn f cs' rs o_ (λi c' r hc' hr=>?_);have hi:i<cs.length:=(by rw[<- hl];exact(List.getElem?_eq_some_iff.1 hc').1);exact ih i _ c' (List.getElem?_eq_getElem hi) hc' (h3 i _ r (List.getElem?_eq_getElem hi) hr)
 | ifc t v v' h ih=>
   intro r hr;cases hr with
   |ifc _ _ r' h1=>exact .ifc _ _ _ (ih h1)
theorem Flat.R(hf:Flat v):∀{β β':Nat->Option Loc} {w w':World} {lim lim':Nat->Option Nat} {r:Value},R β w lim v r->R β' w' lim' v r:=by
 induction hf with
 |bool b=>intro _ _ _ _ _ _ r hr;cases hr;exact .bool _
 |int k n=>intro _ _ _ _ _ _ r hr;cases hr;exact .int _ _
 |str s=>intro _ _ _ _ _ _ r hr;cases hr;exact .str _
 | agg cs h ih=>
   intro _ _ _ _ _ _ r hr;cases hr with
   |agg _ rs h1 h2 h3=>exact .agg cs rs h1 h2 (λi c r hc hr=>ih c (List.mem_of_getElem? hc) (h3 i c r hc hr))
 | tup cs h ih=>
   intro _ _ _ _ _ _ r hr;cases hr with
   |tup _ rs h1 h3=>exact .tup cs rs h1 (λi c r hc hr=>ih c (List.mem_of_getElem? hc) (h3 i c r hc hr))
 |nilp=>intro _ _ _ _ _ _ r hr;cases hr;exact .nilp
 |nilfn=>intro _ _ _ _ _ _ r hr;cases hr;exact .nilfn
 |nilmap=>intro _ _ _ _ _ _ r hr;cases hr;exact .nilmap
 |nilifc=>intro _ _ _ _ _ _ r hr;cases hr;exact .nilifc
end
end Go.E

namespace Go.E
section
variable {P : Program}[Glob P]{β : Nat -> Option Loc}{w : World}{lim : Nat -> Option Nat}{base : Nat}{s : St}{id n : Nat}{a : Act}
variable {w':World}
theorem qhZ{o:Oper}{K:Act->World->Prop}{Q:Exit->Act->World->Prop}{r:Value}(h:qzz P (execOp a.eval o) w r w')(hk:K (a.put o.dst r) w'):o.wp P a w K Q:=by
 unfold Oper.wp;rcases h with h|⟨rfl,h⟩<;>rw[h]
 . exact hk
 . exact hk
theorem Vk{f:FuncId}(h:Enters P f)(args:Array Value):(callFunc f args).run P w=.ok (.enter f args) w:=by
 obtain ⟨fn,h1,h2,h3⟩:=h;have h4:fn.body.isNone=false:=by cases hb:fn.body<;>simp[hb]at h2 ⊢
 simp only[callFunc,Sem.run_bind,run_program,Result.andThen_ok,h1,h3,Bool.false_eq_true,if_false,h4,Sem.run_pure]
variable {rcaps:Array Value}
theorem qdU{f:Operand}{args:Array Operand}{argTypes:Array TypeId}{fid:FuncId}{rfirst:Array Value}{dst:Option Tmp}{type:TypeId}{pos:String}{after:Array Edge}{guard:Option (Nat×Bool)}
(hf:a.eval f=.func (.func fid) rfirst rcaps)(he:Enters P fid):
 (execOp a.eval {dst,op:= .call {callee:= .value f,args,argTypes},type,pos,after,guard}).run P w=.ok (.enter fid (rfirst++args.map a.eval++rcaps)) w:=by
 simp only[execOp,resolve,Deferred.ofValue,hf,Sem.run_bind,Sem.run_pure,Result.andThen_ok,invoke,Vk he]
theorem Vy(hH:RelH s.H s.next β lim base w)(hb:RowKit.Below w.heap.size w w'):Post id s s β β lim (qfe lim w.heap.size) base w w':=by
 have g:Grows β β lim (qfe lim w.heap.size) base w w':=
  ⟨λ_ _ h=>h,⟨hb.size,λb cur et fz h=>⟨cur,et,fz,by rw[hb.block b (Array.getElem?_eq_some_iff.1 h).1];exact h,rfl,λ_ _=>rfl⟩,λb es c _ h=>by rw[hb.block b (Array.getElem?_eq_some_iff.1 h).1];exact h⟩,
   λb i hlt hs=>by unfold yP qfe at *;rw[if_pos hlt];exact hs,hb.mono hH.base_le,λb hlt=>by unfold qfe;rw[if_pos (Nat.lt_of_lt_of_le hlt hH.base_le)]⟩
 refine⟨g,⟨hH.fresh,λj l hl=>⟨(hH.own j l hl).1,Nat.lt_of_lt_of_le (hH.own j l hl).2 hb.size⟩,λj o ho=>(hH.obj j o ho).mono g rfl λl hl=>?_,hH.uniq,Nat.le_trans hH.base_le hb.size⟩,
  λ_ _ _=>rfl,λ_ _ _ h=>h,Nat.le_refl _,rfl⟩
 have:=(hH.own j l hl).2;exact⟨hb.block _ this,by unfold qfe;rw[if_pos this]⟩
theorem qoH(hF:RelF P s β w lim n a){xs:List Operand}{ts:List (Option TypeId)}{l:List Opd}(h:Jl P n ts xs=some l){caps:List V}
(hl:rcaps.size=caps.length)(hc:∀(i:Nat) c r,caps[i]?=some c->rcaps[i]?=some r->R β w lim c r):Rs β w lim (l.map (ev s)++caps) ((xs.map a.eval).toArray++rcaps):=by
 obtain ⟨h1,h2⟩:=Kj hF h;refine⟨by simp[h1,hl],λi v r hv hr=>?_⟩;rw[List.getElem?_append]at hv;rw[Array.getElem?_append]at hr;simp only[List.length_map,List.size_toArray,List.getElem?_toArray,List.getElem?_map,h1]at hv hr;split at hv
 . rename_i hi;rw[if_pos hi]at hr;simp only[Option.map_eq_some_iff]at hv hr;obtain ⟨x,hx,rfl⟩:=hv;obtain ⟨y,hy,rfl⟩:=hr;exact h2 i x y hx hy
 . rename_i hi;rw[if_neg hi]at hr;exact hc _ v r hv hr
theorem qi5{mu:Bool}{cls:Cls}{o:Oper}{e:EOp}{K:V->St->Prop}{K':Act->World->Prop}{Q:Exit->Act->World->Prop}(hc:YK P n mu o=some e)
(hF:RelF P s β w lim n a)(hH:RelH s.H s.next β lim base w)(hf:β id=none/\s.H id=none)(hid:id<s.next)(h:qg P cls id s K e)
(hk:∀v s' r β' lim' w',Post id s s' β β' lim lim' base w w'->R β' w' lim' v r->K v s'->K' (a.put o.dst r) w'):o.wp P a w K' Q:=by
 have fin:∀{v:V} {s':St},Eff P (execOp a.eval o) id s s' v β lim base w->K v s'->o.wp P a w K' Q:=by rintro v s' ⟨r,β',lim',w',h1,h2,h3⟩ hK;exact qhZ h1 (hk v s' r β' lim' w' h2 h3 hK)
 have quiet:onS (qJ s e) (λv=>K v s)->o.wp P a w K' Q:=by intro h;obtain ⟨v,hv,hK⟩:=(qy _ _).1 h;obtain ⟨r,h1,h2⟩:=qcX hc hF hH hv;exact fin ⟨r,β,lim,w,.inl h1,Post.refl hH,h2⟩ hK
 obtain ⟨dst,op,type,pos,after,guard⟩:=o;cases op<;>simp only[YK,Option.bind_eq_bind,Option.bind_eq_some_iff,Option.pure_def,Option.some.injEq,reduceCtorEq,qE,Bool.and_eq_true,decide_eq_true_eq]at hc
 case alloc t=>
  obtain ⟨i,hi,zz,hz,v,hv,_,⟨⟨hm,hl⟩,hok⟩,rfl⟩:=hc;exact fin (qhO hi hz hm hok hl hH hf hid) h
 case box t x=>
  obtain ⟨i,hi,x',hx,rfl⟩:=hc;obtain ⟨h1,h2,h3⟩:=h;exact fin (qpN (zO hx hF) h2 h1 hH hf hid) h3
 case buildSlice t len parts=>
  split at hc
  . rename_i el hu;simp only[Option.bind_eq_some_iff,Option.some.injEq,qE,Bool.and_eq_true,decide_eq_true_eq]at hc;obtain ⟨i,hi,zz,hz,v,hv,ag,hag,_,⟨⟨⟨⟨⟨hm,hl⟩,hok⟩,hva⟩,h24⟩,hpos⟩,l,hlp,rfl⟩:=hc;obtain ⟨es,he,hK⟩:=(qy _ _).1 h;obtain ⟨e1,e2⟩:=qnZ (dst:=dst) (type:=type) (pos:=pos) (after:=after) (guard:=guard) hF hu hi hz hm hok hl h24 hpos hlp he hH hf hid;cases mu
    . exact fin e2 hK
    . exact fin e1 hK
  . cases hc
 case makeSlice t x y=>
  split at hc
  . rename_i el hu;simp only[Option.bind_eq_some_iff,Option.some.injEq,qE,Bool.and_eq_true,decide_eq_true_eq]at hc;obtain ⟨i,hi,zz,hz,v,hv,_,⟨⟨⟨hm,hl⟩,hok⟩,hpos⟩,x',hx,y',hy,rfl⟩:=hc;obtain ⟨p,hp,h⟩:=(qy _ _).1 h;obtain ⟨q,hq,hpq,hb,hml,h⟩:=(qy _ _).1 h;obtain ⟨k1,hk1⟩:=jb hp (zO hx hF);obtain ⟨k2,hk2⟩:=jb hq (zO hy hF);obtain ⟨e1,e2⟩:=qjS (dst:=dst) (type:=type) (pos:=pos) (after:=after) (guard:=guard) hu hi hz hm hok hl hk1 hk2 hpq hb hml hpos hH hf hid;cases mu
    . simp only[Bool.false_eq_true,if_false]at h;exact fin (e2 h.1) h.2
    . simp only[if_true]at h;exact fin (e1 h.1) h.2
  . cases hc
 case store t x y=>
  obtain ⟨i,hi,x',hx,y',hy,rfl⟩:=hc;obtain ⟨s',hs,hK⟩:=(qy _ _).1 (jr h);exact fin (qg0 hi (zO hx hF) (zO hy hF) hs hH) (jr hK)
 case call c=>
  obtain ⟨callee,args,argTypes⟩:=c;cases callee with
  | value f =>
    simp only[Option.bind_eq_some_iff,Option.some.injEq]at hc;obtain ⟨f',hff,l,hl,rfl⟩:=hc;simp only[qg]at h;have hRf:=zO hff hF;split at h
    case h_2=>exact h.elim
    rename_i fid as hfe;obtain ⟨rfirst,rcaps,hrf,hargs⟩:∃rfirst rcaps,a.eval f=.func (.func fid) rfirst rcaps/\Rs β w lim as (rfirst++args.map a.eval++rcaps):=by
     generalize hev:ev s f'=vf at hfe hRf;cases vf<;>simp only[funArgs,Option.some.injEq,Prod.mk.injEq,reduceCtorEq]at hfe
     . rename_i fid0 caps;obtain ⟨rfl,rfl⟩:=hfe;obtain ⟨rcaps,hrf,hcl,hcr⟩:∃rcaps,a.eval f=.func (.func fid0) #[] rcaps/\rcaps.size=caps.length/\∀(i:Nat) c r,caps[i]?=some c->rcaps[i]?=some r->R β w lim c r:=by
        generalize a.eval f=r at hRf;cases hRf with|fn _ _ rs h1 h2=>exact⟨rs,rfl,h1,h2⟩
       have hargs:=qoH hF hl hcl hcr;have e0:(args.toList.map a.eval).toArray++rcaps= #[]++args.map a.eval++rcaps:=(by rw[Array.empty_append];congr 1;apply Array.ext';simp);rw[e0]at hargs;exact⟨#[],rcaps,hrf,hargs⟩
     . rename_i fid0 x;obtain ⟨rfl,rfl⟩:=hfe;obtain ⟨r,hrf,hr⟩:∃r,a.eval f=.func (.func fid0) #[r] #[]/\R β w lim x r:=by
        generalize a.eval f=r at hRf;cases hRf with|mfn _ _ r h1=>exact⟨r,rfl,h1⟩
       obtain ⟨g1,g2⟩:=Kj hF hl;refine⟨#[r],#[],hrf,?_⟩;rw[Array.append_empty];refine⟨?_,λi v u hv hu=>?_⟩
       . simp at g1 ⊢;omega
       . cases i with
         | zero=>
           rw[Array.getElem?_append_left (by simp)]at hu;simp at hv hu;subst hv hu;exact hr
         | succ i=>
           rw[List.getElem?_cons_succ,List.getElem?_map,Option.map_eq_some_iff]at hv;obtain ⟨y,hy,rfl⟩:=hv;have hu2:(args.map a.eval)[i]?=some u:=by rw[Array.getElem?_append_right (by simp)]at hu;simpa using hu
           rw[Array.getElem?_map,Option.map_eq_some_iff]at hu2;obtain ⟨z,hz,rfl⟩:=hu2;exact g2 i y z hy (by simpa using hz)
    rcases h with ⟨bor,as',res,_,hE,hP,hfl,hK⟩|⟨_,v0,H0,n0,hK0,hE⟩
    . unfold Oper.wp;rw[qdU hrf hP.1];simp only[Oper.upon];have hRs:Rs noβ w (qxD bor lim) as' (rfirst++args.map a.eval++rcaps):=by
       refine⟨by rw[hargs.1,hE.1],λi v r hv hr=>?_⟩;have hi:i<as.length:=(by rw[<- hE.1];exact(List.getElem?_eq_some_iff.1 hv).1);have hx:=List.getElem?_eq_getElem hi;exact Er.R hH (Kc bor β s.H lim) (hE.2 i _ v hx hv) (hargs.2 i _ r hx hr)
      refine(hP.2 w (qxD bor lim) _ (hF.glob.mono (Ext.refl _ _) (λb i _ h=>(Kc bor β s.H lim).st b i h)) hRs).mono λe w' ⟨r,he,hb,hR⟩=>?_;subst he;refine hk res s r β (qfe lim w.heap.size) w' (Vy hH hb) ?_ hK;cases bor with
      |true=>exact Flat.R (hfl rfl) hR
      | false=>
        refine R.mono (λid l h=>by cases h) (Ext.refl _ _) (yj.refl _ _) hR
    . unfold Oper.wp;rw[qdU hrf hE.1.1];simp only[Oper.upon];refine(hE.2 w β lim base _ hF.glob hH hargs).mono λe w' ⟨r,v,H',next',β',lim',he,hQ,h1,h2,h3,h4,h5,h6,h7,h8,h9,h10⟩=>?_;subst he;obtain ⟨rfl,rfl,rfl⟩:=hQ;have hQ:=hK0.2;exact hk v {s with H:=H',next:=next'} r β' lim' w' ⟨⟨h3,h4,h5,h6,h10⟩,h1,λj hj _=>h8 j hj,λj hj _ hh=>h9 j hj hh,h7,rfl⟩ h2 hQ
  | builtin b=>
    simp only at hc;have hc0:=hc;unfold kV at hc;split at hc<;>simp only[Option.bind_eq_bind,Option.bind_eq_some_iff,Option.pure_def,Option.some.injEq,qE,reduceCtorEq]at hc
    . obtain ⟨t,ht,hc⟩:=hc;split at hc<;>simp only[Option.bind_eq_some_iff,Option.some.injEq,reduceCtorEq]at hc
      . obtain ⟨x',hx,rfl⟩:=hc;exact quiet h
      . obtain ⟨x',hx,rfl⟩:=hc;exact quiet h
      . subst hc;exact quiet h
    . rename_i x y hxy;obtain ⟨t,ht,t1,ht1,hc⟩:=hc;split at hc
      case h_2=>cases hc
      rename_i el hu;simp only[Option.bind_eq_some_iff,Option.some.injEq,qE,Bool.and_eq_true,Bool.or_eq_true,decide_eq_true_eq]at hc;obtain ⟨i,hi,zz,hz,_,⟨⟨hzs,hpos⟩,h1⟩,x',hx,y',hy,rfl⟩:=hc;simp only[qg]at h;obtain ⟨ys,hys,_,h⟩:=(qy _ _).1 h;obtain ⟨⟨v,s',q⟩,ha,hb,hm,hK⟩:=(qy _ _).1 h;have hargs:args= #[x,y]:=(by apply Array.ext';simpa using hxy);have h1':(∃e1,P.underlying t1=some (.slice e1))\/P.underlying t1=some .string:=by
       rcases h1 with rfl|h1
       . exact .inl ⟨_,hu⟩
       . split at h1
         . rename_i e1 hu1;exact .inl ⟨_,hu1⟩
         . rename_i hu1;exact .inr hu1
         . cases h1
      subst hargs;have key:=qfJ (dst:=dst) (type:=type) (pos:=pos) (after:=after) (guard:=guard) hu hi hz hzs hpos h1' (zO hx hF) (zO hy hF) hys ha hb hm hH hf hid;have hat:∃rest,argTypes.toList=t::t1::rest:=by
       obtain ⟨l⟩:=argTypes;cases l with
       |nil=>simp at ht
       | cons p l=>
         cases l with
         |nil=>simp at ht1
         |cons q l=>simp at ht ht1;subst ht;subst ht1;exact⟨l,rfl⟩
      obtain ⟨r,β',lim',w',e1,e2,e3⟩:=key;refine fin ⟨r,β',lim',w',?_,e2,e3⟩ hK;have hsame:∀(ty:TypeId) (ag:Array Value),Builtin.append_ argTypes ty ag=Builtin.append_ #[t,t1] ty ag:=by intro ty ag;obtain ⟨rest,hr⟩:=hat;have g0:argTypes[0]?=some t:=ht;have g1:argTypes[1]?=some t1:=ht1;unfold Builtin.append_;simp only[g0,g1];rfl
      rcases e1 with e1|⟨e0,e1⟩
      . refine .inl ?_;simp only[execOp,resolve,Sem.run_bind,Sem.run_pure,Result.andThen_ok,invoke,builtin]at e1 ⊢;rw[hsame];exact e1
      . refine .inr ⟨e0,?_⟩;simp only[execOp,resolve,Sem.run_bind,Sem.run_pure,Result.andThen_ok,invoke,builtin]at e1 ⊢;rw[hsame];exact e1
    . obtain ⟨l,hl,_,h2,rfl⟩:=hc;exact quiet h
    . obtain ⟨l,hl,_,h2,rfl⟩:=hc;exact quiet h
    . obtain ⟨x',hx,rfl⟩:=hc;exact quiet h
  |invoke r m=>simp at hc
 case move=>obtain ⟨_,_,rfl⟩:=hc;exact quiet h
 case assign=>obtain ⟨_,_,rfl⟩:=hc;exact quiet h
 case pick=>obtain ⟨_,_,_,_,_,_,rfl⟩:=hc;exact quiet h
 case build=>
  obtain ⟨_,_,_,_,_,_,_,_,hc⟩:=hc;split at hc
  . simp only[Option.bind_eq_some_iff,Option.some.injEq]at hc;obtain ⟨_,_,_,_,rfl⟩:=hc;exact quiet h
  . simp only[Option.bind_eq_some_iff,Option.some.injEq]at hc;obtain ⟨_,_,_,_,rfl⟩:=hc;exact quiet h
  . cases hc
 case load=>obtain ⟨_,_,_,_,_,_,_,_,rfl⟩:=hc;exact quiet (jr h)
 case nilCheck=>obtain ⟨_,_,rfl⟩:=hc;exact quiet h
 case binOp=>
  obtain ⟨_,_,_,_,hc⟩:=hc;split at hc<;>(try simp only[Option.bind_eq_some_iff,Option.some.injEq,reduceCtorEq]at hc);all_goals first|(subst hc;exact quiet h)|(obtain ⟨_,_,_,_,rfl⟩:=hc;exact quiet h)|(obtain ⟨rfl,_⟩:=Xj hc;exact quiet h)
 case unOp=>obtain ⟨_,_,rfl⟩:=hc;exact quiet h
 case convert=>
  obtain ⟨_,_,hc⟩:=hc;split at hc
  . simp only[Option.some.injEq]at hc;subst hc;exact quiet h
  . simp only[Option.some.injEq]at hc;subst hc;exact quiet h
  . obtain ⟨_,_,_,_,rfl⟩:=qb3 hc;exact quiet h
 case makeInterface=>obtain ⟨_,_,_,_,rfl⟩:=hc;exact quiet h
 case makeFunc fn first caps=>
  cases fn<;>simp only[reduceCtorEq]at hc;have hc1:=hc;unfold qqH at hc1;split at hc1
  . obtain ⟨_,_,rfl⟩:=Option.map_eq_some_iff.1 hc1;exact quiet h
  . split at hc1
    . obtain ⟨_,_,rfl⟩:=Option.map_eq_some_iff.1 hc1;exact quiet h
    . cases hc1
  . cases hc1
 case slice=>
  split at hc<;>simp only[Option.bind_eq_some_iff,Option.some.injEq,reduceCtorEq]at hc
  . obtain ⟨_,_,_,_,_,_,_,_,rfl⟩:=hc;exact quiet h
  . obtain ⟨_,_,_,_,_,_,_,_,_,_,rfl⟩:=hc;exact quiet h
 case fieldAddr=>
  split at hc<;>simp only[Option.bind_eq_some_iff,Option.some.injEq,reduceCtorEq]at hc;obtain ⟨_,_,_,_,_,_,_,_,rfl⟩:=hc;exact quiet h
 case field=>
  split at hc<;>simp only[Option.bind_eq_some_iff,Option.some.injEq,reduceCtorEq]at hc;obtain ⟨_,_,_,_,_,_,_,_,_,_,rfl⟩:=hc;exact quiet h
 case indexAddr=>
  split at hc<;>simp only[Option.bind_eq_some_iff,Option.some.injEq,reduceCtorEq]at hc
  . obtain ⟨_,_,_,_,_,_,rfl⟩:=hc;exact quiet h
  . obtain ⟨_,_,_,_,_,_,rfl⟩:=hc;exact quiet h
 case index=>
  split at hc<;>simp only[Option.bind_eq_some_iff,Option.some.injEq,reduceCtorEq]at hc
  . obtain ⟨_,_,_,_,_,_,_,_,_,_,rfl⟩:=hc;exact quiet h
  . obtain ⟨_,_,_,_,rfl⟩:=hc;exact quiet h
 case makeMap t r=>
  obtain ⟨rfl,rfl⟩:=KY hc;exact fin (qjb hH hf hid) h
 case mapUpdate t x i y=>
  obtain ⟨k,el,f,g,x',i',y',hu,hk1,o1,o2,h1,h2,he,hx,hi,hy,rfl⟩:=qce hc;simp only[qg]at h;obtain ⟨s',hs,hK⟩:=(qy _ _).1 h;exact fin (qk5 hu hk1 (JC h1) (JC h2) o1 o2 he (zO hx hF) (zO hi hF) (zO hy hF) hs hH) hK
 case lookup=>
  obtain ⟨_,_,_,_,_,_,_,_,_,_,_,_,_,_,_,_,rfl⟩:=qci hc;exact quiet h
 case extract=>obtain ⟨_,_,rfl⟩:=hc;exact quiet h
end
end Go.E

namespace Go.E
def qx(P:Program)[Glob P](id:Nat)(o:Ins)(K:St->Prop)(s:St):Prop:=match o.gd with
 |none=>qg P o.cls id s (λv s'=>K (s'.put o.dst v)) o.op
 | some (t,want)=>match s.f t with
   |.bool b=>(b=want->qg P o.cls id s (λv s'=>K (s'.put o.dst v)) o.op)/\(b≠want->K (s.put o.dst .undef))
   |.undef=>K (s.put o.dst .undef)
   | _=>False
theorem YR(P:Program)[Glob P](base:Nat)(Q:St->Prop)(i:Nat)(o:Ins)(rest:List Ins)(s:St):Ze P base Q i (o::rest) s=qx P (base+i) o (Ze P base Q (i+1) rest) s:=by
 unfold Ze qx;split
 . rename_i h;rw[h]
 . rename_i t want h;rw[h];rfl
def Xc(P:Program)[Glob P](base:Nat)(ops:List Ins)(Q:St->Prop):List Nat->St->Prop
 |[],s=>Q s
 | i::rest,s=>match ops[i]? with
   |some o=>qx P (base+i) o (Xc P base ops Q rest) s
   |none=>Xc P base ops Q rest s
theorem Ke(P:Program)[Glob P](base:Nat)(ops:List Ins)(Q:St->Prop):∀(k i:Nat) (rest:List Ins),rest=ops.drop i->rest.length=k->∀s,Ze P base Q i rest s->Xc P base ops Q (List.range' i k) s
 | 0,i,rest,h,hl,s,hh=>by
   have:rest=[]:=List.eq_nil_of_length_eq_zero hl
   subst this;simpa[Xc,Ze]using hh
 |k+1,i,[],h,hl,s,hh=>by simp at hl
 | k+1,i,o::rest,h,hl,s,hh=>by
   have ho:ops[i]?=some o:=by
    have:(ops.drop i)[0]?=some o:=by rw[<- h];rfl
    simpa using this
   have hr:rest=ops.drop (i+1):=by
    have:(ops.drop i).tail=rest:=by rw[<- h];rfl
    rw[<- this,List.tail_drop]
   rw[YR]at hh;simp only[List.range'_succ,Xc,ho];have key:Ze P base Q (i+1) rest=Ze P base Q (i+1) rest:=rfl;have ih:=Ke P base ops Q k (i+1) rest hr (by simpa using hl);exact insStep_imp ih hh
where
 insStep_imp {P:Program} [Glob P] {id:Nat} {o:Ins} {K K':St->Prop} (h:∀s,K s->K' s) {s:St} (hh:qx P id o K s):qx P id o K' s:=by
  have st:∀{s:St},qg P o.cls id s (λv s'=>K (s'.put o.dst v)) o.op->qg P o.cls id s (λv s'=>K' (s'.put o.dst v)) o.op:=by intro s hs;exact stepOp_mono (λv s' hk=>h _ hk) hs
  unfold qx at *;split
  . rename_i hg;rw[hg]at hh;exact st hh
  . rename_i t want hg;rw[hg]at hh;simp only at hh;split
    . rename_i b hb;rw[hb]at hh;exact⟨λe=>st (hh.1 e),λe=>h _ (hh.2 e)⟩
    . rename_i hb;rw[hb]at hh;exact h _ hh
    . rename_i h1 h2;split at hh
      . rename_i hb;exact absurd hb (h1 _)
      . rename_i hb;exact absurd hb h2
      . exact hh
 stepOp_mono {P:Program} [Glob P] {cls:Cls} {id:Nat} {s:St} {K K':V->St->Prop} {op:EOp} (h:∀v s',K v s'->K' v s') (hh:qg P cls id s K op):qg P cls id s K' op:=by
  cases op<;>simp only[qg]at hh ⊢
  case alloc=>exact h _ _ hh
  case box=>exact⟨hh.1,hh.2.1,h _ _ hh.2.2⟩
  case lit mu _ _ _ _ _=>
   obtain ⟨es,he,hK⟩:=(qy _ _).1 hh;refine(qy _ _).2 ⟨es,he,?_⟩;cases mu
   . exact h _ _ hK
   . exact h _ _ hK
  case mksl mu _ _ _ _ _=>
   obtain ⟨n,hn,hh⟩:=(qy _ _).1 hh;obtain ⟨m,hm,h1,h2,h3,hK⟩:=(qy _ _).1 hh;refine(qy _ _).2 ⟨n,hn,(qy _ _).2 ⟨m,hm,h1,h2,h3,?_⟩⟩;cases mu
   . exact⟨hK.1,h _ _ hK.2⟩
   . exact⟨hK.1,h _ _ hK.2⟩
  case append=>
   obtain ⟨ys,hy,h1,hh⟩:=(qy _ _).1 hh;obtain ⟨x,hx,h2,h3,hK⟩:=(qy _ _).1 hh;exact(qy _ _).2 ⟨ys,hy,h1,(qy _ _).2 ⟨x,hx,h2,h3,h _ _ hK⟩⟩
  case store=>
   refine kI rfl (λhh=>?_) hh;obtain ⟨s',hs,hK⟩:=(qy _ _).1 hh;exact(qy _ _).2 ⟨s',hs,kI rfl (h _ _) hK⟩
  case load=>
   refine kI rfl (λhh=>?_) hh;obtain ⟨v,hv,hK⟩:=(qy _ _).1 hh;exact(qy _ _).2 ⟨v,hv,h _ _ hK⟩
  case call=>
   split at hh
   . rename_i fid caps hf;rcases hh with ⟨bor,as',res,h0,h1,h2,h3,hK⟩|⟨h1,h2⟩
     . exact .inl ⟨bor,as',res,h0,h1,h2,h3,h _ _ hK⟩
     . exact .inr ⟨h1,h2.mono λv H' n' hK=>⟨hK.1,h _ _ hK.2⟩⟩
   . exact hh.elim
  case mkmap=>exact h _ _ hh
  case mset=>
   obtain ⟨s',hs,hK⟩:=(qy _ _).1 hh;exact(qy _ _).2 ⟨s',hs,h _ _ hK⟩
  all_goals obtain ⟨v,hv,hK⟩:=(qy _ _).1 hh;exact(qy _ _).2 ⟨v,hv,h _ _ hK⟩
structure Ref where
 β:Nat->Option Loc
 lim:Nat->Option Nat
 H:Nat->Option MObj
 next:Nat
 w:World
 base:Nat
structure Rel(P:Program)[Glob P](ρ:Ref)(n:Nat)(s:St)(β:Nat->Option Loc)(lim:Nat->Option Nat)(a:Act)(w:World):Prop where
 F:RelF P s β w lim n a
 H:RelH s.H s.next β lim ρ.base w
 g:Grows ρ.β β ρ.lim lim ρ.base ρ.w w
 kβ:∀j,j<ρ.next->β j=ρ.β j
 kH:∀j,j<ρ.next->ρ.H j=none->s.H j=none
 nx:ρ.next<=s.next
structure RelG(P:Program)[Glob P](ρ:Ref)(n b0:Nat)(todo:Nat->Prop)(s:St)(β:Nat->Option Loc)(lim:Nat->Option Nat)(a:Act)(w:World):Prop extends Rel P ρ n s β lim a w where
 fresh:∀j,todo j->β (b0+j)=none/\s.H (b0+j)=none
 top:∀j,todo j->b0+j<s.next
 low:ρ.next<=b0
section
variable {P : Program}[Glob P]{ρ : Ref}{n b0 : Nat}{todo : Nat -> Prop}{s : St}{β : Nat -> Option Loc}{lim : Nat -> Option Nat}{a : Act}{w : World}
theorem RelF.put(hF:RelF P s β w lim n a){d:Option Nat}{v:V}{r:Value}(hR:R β w lim v r):RelF P (s.put d v) β w lim n (a.put d r):=by
 cases d with
 |none=>exact hF
 | some d=>
   refine⟨by simp[Act.put,hF.size],λi hi=>?_,hF.defers,hF.glob⟩;simp only[St.put,Act.put];have hs:i<a.tmps.size:=(by rw[hF.size];exact hi);by_cases h:i=d
   . subst h;simp[hs,hR]
   . rw[if_neg h];have:=hF.slot i hi;rw[Array.getD_eq_getD_getElem?]at this ⊢;rw[Array.getElem?_setIfInBounds_ne (λe=>h e.symm)];exact this
theorem ku(s:St)(d:Option Nat)(v:V):(s.put d v).H=s.H:=by cases d<;>rfl
theorem jI(s:St)(d:Option Nat)(v:V):(s.put d v).next=s.next:=by cases d<;>rfl
theorem RelG.put(h:RelG P ρ n b0 todo s β lim a w){d:Option Nat}{v:V}{r:Value}(hR:R β w lim v r):RelG P ρ n b0 todo (s.put d v) β lim (a.put d r) w where
 F:=h.F.put hR
 H:=by rw[ku,jI];exact h.H
 g:=h.g
 kβ:=h.kβ
 kH:=by rw[ku];exact h.kH
 nx:=by rw[jI];exact h.nx
 fresh:=by rw[ku];exact h.fresh
 top:=by rw[jI];exact h.top
 low:=h.low
theorem RelG.post(h:RelG P ρ n b0 todo s β lim a w){i:Nat}(hi:todo i){s':St}{β':Nat->Option Loc}{lim':Nat->Option Nat}{w':World}(hp:Post (b0+i) s s' β β' lim lim' ρ.base w w'):
 RelG P ρ n b0 (λj=>todo j/\j≠i) s' β' lim' a w' where
 F:=hp.g.RelF h.F hp.f
 H:=hp.h
 g:=h.g.trans hp.g
 kβ:=λj hj=>by have h1:=h.top i hi;have h2:=h.low;rw[hp.kβ j o_ o_];exact h.kβ j hj
 kH:=λj hj hh=>by have h1:=h.top i hi;have h2:=h.low;exact hp.kH j o_ o_ (h.kH j hj hh)
 nx:=Nat.le_trans h.nx hp.nx
 fresh:=λj hj=>by have h1:=h.top j hj.1;obtain ⟨e1,e2⟩:=h.fresh j hj.1;exact⟨by rw[hp.kβ _ h1 (by have:=hj.2;omega)];exact e1,hp.kH _ h1 (by have:=hj.2;omega) e2⟩
 top:=λj hj=>Nat.lt_of_lt_of_le (h.top j hj.1) hp.nx
 low:=h.low
theorem RelG.less(h:RelG P ρ n b0 todo s β lim a w){todo':Nat->Prop}(hs:∀j,todo' j->todo j):RelG P ρ n b0 todo' s β lim a w:=
 {h with fresh:=λj hj=>h.fresh j (hs j hj),top:=λj hj=>h.top j (hs j hj)}
structure Aligned(P:Program)[Glob P](n:Nat)(ops:Array Oper)(l:List Ins):Prop where
 len:l.length=ops.size
 op:∀(i:Nat) o e,ops[i]?=some o->l[i]?=some e->(∃mu,YK P n mu o=some e.op)/\e.dst=o.dst/\
  (match o.guard with|none=>e.gd=none|some (j,want)=>∃t,(ops[j]?).bind (·.dst)=some t/\t<n/\e.gd=some (t,want))
 tmp:∀(i:Nat) e ag q t,l[i]?=some e->e.op=.load ag q (.t t)->t<n
theorem K9{ops:Array Oper}{l:List Ins}(hal:Aligned P n ops l){i:Nat}{o:Ins}(ho:l[i]?=some o)(hr:RelG P ρ n b0 todo s β lim a w)(hi:todo i){K:St->Prop}
(h:qx P (b0+i) o K s){K':Act->World->Prop}{Q:Exit->Act->World->Prop}
(hk:∀s' β' lim' a' w',RelG P ρ n b0 (λj=>todo j/\j≠i) s' β' lim' a' w'->K s'->K' a' w'):wpOp P ops Q i K' a w:=by
 have hlt:i<ops.size:=by rw[<- hal.len];exact(List.getElem?_eq_some_iff.1 ho).1
 have hoo:ops[i]?=some ops[i]:=Array.getElem?_eq_getElem hlt;obtain ⟨⟨mu,hc⟩,hd,hg⟩:=hal.op i _ o hoo ho;unfold wpOp;simp only[hoo];have run:qg P o.cls (b0+i) s (λv s'=>K (s'.put o.dst v)) o.op->(ops[i]).wp P a w K' Q:=λhh=>
  qi5 hc hr.F hr.H (hr.fresh i hi) (hr.top i hi) hh λv s' r β' lim' w' hp hR hK=>by rw[<- hd];exact hk _ β' lim' _ w' ((hr.post hi hp).put hR) hK
 have skip:K (s.put o.dst .undef)->K' (a.put (ops[i]).dst undef) w:=λhK=>by rw[<- hd];exact hk _ β lim _ w ((hr.put .undef).less λj hj=>hj.1) hK
 unfold qx at h;cases hgd:(ops[i]).guard with
 | none=>
   rw[hgd]at hg;simp only at hg;rw[hg]at h;simp only at h;have hw:Region.wanted ops[i] (yielded ops a.tmps)=true:=(by unfold Region.wanted;rw[hgd]);rw[if_pos hw];exact .inl (run h)
 | some g=>
   obtain ⟨j,want⟩:=g;rw[hgd]at hg;obtain ⟨t,ht,htn,hgg⟩:=hg;rw[hgg]at h;simp only at h;have hts:t<a.tmps.size:=(by rw[hr.F.size];exact htn);have hslot:=hr.F.slot t htn;have hget:a.tmps[t]?=some (a.tmps.getD t undef):=(by simp[hts]);have hw:Region.wanted ops[i] (yielded ops a.tmps)=(yielded ops a.tmps j == some want):=(by unfold Region.wanted;rw[hgd]);have hy:yielded ops a.tmps j=(match a.tmps.getD t undef with|.bool b=>some b| _=>none):=by unfold yielded;rw[ht];simp only[Option.bind_some,hget];cases a.tmps.getD t undef<;>rfl
   rw[hw,hy];split at h
   . rename_i b hb;rw[hb]at hslot;rw[hslot.bool_inv];by_cases hbw:b=want
     . subst hbw;simp only[beq_self_eq_true,if_true];exact .inl (run (h.1 rfl))
     . have:((some b:Option Bool) == some want)=false:=by simp[hbw]
       rw[if_neg (by simp[hbw])];exact skip (h.2 hbw)
   . rename_i hb;rw[hb]at hslot
     have:a.tmps.getD t undef=undef:=by generalize a.tmps.getD t undef=r at hslot;cases hslot;rfl
     rw[this];rw[if_neg (by simp[undef])];exact skip h
   . exact h.elim
theorem VG{ops:Array Oper}{l:List Ins}(hal:Aligned P n ops l){K:St->Prop}{Q:Exit->Act->World->Prop}
(hk:∀s' β' lim' a' w',Rel P ρ n s' β' lim' a' w'->K s'->Q .normal a' w'):∀(k i:Nat) (s:St) (β:Nat->Option Loc) (lim:Nat->Option Nat) (a:Act) (w:World),i+k=ops.size->
  RelG P ρ n b0 (λj=>i<=j/\j<ops.size) s β lim a w->Xc P b0 l K (List.range' i k) s->wpOps P ops Q (List.range' i k) a w
 | 0,i,s,β,lim,a,w,hs,hr,h=>by simp only[List.range'_zero,wpOps];exact hk s β lim a w hr.toRel (by simpa[Xc]using h)
 | k+1,i,s,β,lim,a,w,hs,hr,h=>by have hlt:i<l.length:=(by rw[hal.len];omega);have ho:=List.getElem?_eq_getElem hlt;simp only[List.range'_succ,Xc,ho]at h;rw[List.range'_succ,wpOps_cons];refine K9 hal ho hr ⟨Nat.le_refl _,o_⟩ h λs' β' lim' a' w' hr' hK=>?_;exact VG hal hk k (i+1) s' β' lim' a' w' o_ (hr'.less λj hj=>⟨⟨o_,hj.2⟩,o_⟩) hK
end
end Go.E

namespace Go.E
def qX(o:Ins)(s s':St):Prop:= ∀t∈o.looks,s'.f t=s.f t
variable {s s':St}
theorem qX.ev{o:Ins}(h:qX o s s'){x:Opd}(hx:x∈o.op.opds):ev s' x=ev s x:=by
 cases x with
 |c v=>rfl
 |t n=>exact h n (List.mem_append_left _ (List.mem_filterMap.2 ⟨.t n,hx,rfl⟩))
theorem qX.gd{o:Ins}(h:qX o s s'){t:Nat}{want:Bool}(hg:o.gd=some (t,want)):s'.f t=s.f t:=
 h t (List.mem_append_right _ (by rw[hg];simp))
theorem Yk{l:List Opd}(h:∀x∈l,ev s' x=ev s x):l.map (ev s')=l.map (ev s):=List.map_congr_left h
variable {op:EOp}
theorem Km(h:∀x∈op.opds,ev s' x=ev s x)(hl:∀ag n p,op=.load ag n p->zw s' ag n (ev s p)=zw s ag n (ev s p)):qJ s' op=qJ s op:=by
 cases op<;>simp only[EOp.opds,List.mem_cons,List.not_mem_nil,or_false,forall_eq_or_imp,forall_eq]at h<;>simp only[qJ]
 case mov=>rw[h]
 case pick=>rw[h.1,h.2.1,h.2.2]
 case build zero ps=>
  have:(ps.map λ(p:Nat×Nat×Opd)=>(p.1,p.2.1,ev s' p.2.2))=ps.map λ(p:Nat×Nat×Opd)=>(p.1,p.2.1,ev s p.2.2):=
   List.map_congr_left λp hp=>by rw[h _ (List.mem_map.2 ⟨p,hp,rfl⟩)]
  exact congrArg (λl=>(XU zero l).map V.agg) this
 case load=>rw[h];exact hl _ _ _ rfl
 case nilck=>rw[h]
 case bin=>rw[h.1,h.2]
 case eqb=>rw[h.1,h.2]
 case eqp=>rw[h.1,h.2]
 case eqnil=>rw[h]
 case eqagg=>rw[h.1,h.2]
 case un=>rw[h]
 case conv=>rw[h]
 case b2s=>rw[h]
 case by2s=>rw[h]
 case mkfn=>rw[Yk h]
 case mkmfn=>rw[h]
 case mkifc=>rw[h]
 case slc size x lo hi mx=>
  rw[h.1];have h2:=h.2;cases lo<;>cases hi<;>cases mx<;>simp at h2<;>simp[h2]
 case slcS x lo hi=>
  rw[h.1];have h2:=h.2;cases lo<;>cases hi<;>simp at h2<;>simp[h2]
 case faddr=>rw[h]
 case fld=>rw[h]
 case iaddr=>rw[h.1,h.2]
 case iaddrA=>rw[h.1,h.2]
 case idxA=>rw[h.1,h.2]
 case idxS=>rw[h.1,h.2]
 case mget=>rw[h.1,h.2]
 case ext=>rw[h]
 case len=>rw[h]
 case lenS=>rw[h]
 case minmax=>rw[Yk h]
def qAh(P:Program)[Glob P](cls:Cls)(id:Nat)(s:St)(op:EOp)(v:V)(E:(Nat->Option MObj)->Nat->Option MObj):Prop:=
 qg P cls id s (λv' s'=>v'=v/\s'={s with H:=E s.H}) op
theorem qoC{ov:Option Cls}{c:Cls}(h:zN ov op=c):c≠ .any:=by cases op<;>simp only[zN]at h<;>(try split at h)<;>subst h<;>simp
theorem qiP{x k v:V}(h:X5 s x k v=some s'):s'.f=s.f:=by
 unfold X5 at h;repeat' split at h
 all_goals first|(cases h;done)|(cases h;rfl)
theorem qgb(s:St)(f:Nat->V)(x k v:V):X5 {s with f:=f} x k v=(X5 s x k v).map λs1=>{s1 with f:=f}:=by
 unfold X5;split
 . rename_i id0 a b c;cases s.H id0 with
   |none=>rfl
   | some o=>
     cases o with
     | mapo l=>
       show (match l.find? (λe=>e.1 == a && e.2.1 == b)with|none=>_ |some _=>_)=Option.map _ (match l.find? (λe=>e.1 == a && e.2.1 == b)with|none=>_ |some _=>_);cases l.find? (λe=>e.1 == a && e.2.1 == b)<;>rfl
     | _=>rfl
 . rfl
variable {cls:Cls}
theorem qdv{P:Program}[Glob P]{id:Nat}{K K':V->St->Prop}(h:∀x∈op.opds,ev s' x=ev s x)(hH:s'.H=s.H)(hn:s'.next=s.next)
(hk:∀v s1,s1.f=s.f->K v s1->K' v {s1 with f:=s'.f})(hh:qg P cls id s K op):qg P cls id s' K' op:=by
 have hset:∀(k:Nat) (o:Option MObj),s'.setO k o={s.setO k o with f:=s'.f}:=λk o=>by simp[St.setO,hH,hn]
 have hself:s'={s with f:=s'.f}:=by cases s';cases s;simp at hH hn;subst hH;subst hn;rfl
 have hload:∀ag n p,zw s' ag n p=zw s ag n p:=λag n p=>by unfold zw;rw[hH]
 have quiet:(∀K,qg P cls id s K op=onS (qJ s op) λv=>K v s)->(∀K,qg P cls id s' K op=onS (qJ s' op) λv=>K v s')->qg P cls id s' K' op:=by intro e1 e2;rw[e2,Km h (λag n p _=>hload ag n _)];rw[e1]at hh;obtain ⟨v,hv,hK⟩:=(qy _ _).1 hh;refine(qy _ _).2 ⟨v,hv,?_⟩;rw[hself];exact hk v s rfl hK
 cases op<;>try exact quiet (λ_=>rfl) (λ_=>rfl)
 case load ag n p=>
  have hp:ev s' p=ev s p:=h p (by simp[EOp.opds]);simp only[qg]at hh ⊢;rw[hp];refine kI hH (λhh=>?_) hh;obtain ⟨v,hv,hK⟩:=(qy _ _).1 hh;refine(qy _ _).2 ⟨v,?_,?_⟩
  . rw[<- hv];simp only[qJ];rw[hp];exact hload _ _ _
  . rw[hself];exact hk v s rfl hK
 case alloc n z=>simp only[qg]at hh ⊢;rw[hset];exact hk _ _ rfl hh
 case mkmap=>simp only[qg]at hh ⊢;rw[hset];exact hk _ _ rfl hh
 case mset x k v=>
  simp only[EOp.opds,List.mem_cons,List.not_mem_nil,or_false,forall_eq_or_imp,forall_eq]at h;simp only[qg]at hh ⊢;rw[h.1,h.2.1,h.2.2];obtain ⟨s1,hs,hK⟩:=(qy _ _).1 hh;refine(qy _ _).2 ⟨{s1 with f:=s'.f},?_,hk _ _ (qiP hs) hK⟩;rw[hself,qgb,hs];rfl
 case box n x=>
  simp only[EOp.opds,List.mem_cons,List.not_mem_nil,or_false,forall_eq]at h;simp only[qg]at hh ⊢;rw[h,hset];exact⟨hh.1,hh.2.1,hk _ _ rfl hh.2.2⟩
 case lit mu size agg zero len ps=>
  simp only[qg]at hh ⊢;have e:(ps.map λ(p:Nat×Opd)=>(p.1,ev s' p.2))=ps.map λ(p:Nat×Opd)=>(p.1,ev s p.2):=
   List.map_congr_left λp hp=>by rw[h _ (List.mem_map.2 ⟨p,hp,rfl⟩)]
  obtain ⟨es,he,hK⟩:=(qy _ _).1 hh;refine(qy _ _).2 ⟨es,by rw[<- he];exact congrArg (xP size agg (List.replicate len zero)) e,?_⟩;cases mu
  . simp only[Bool.false_eq_true,if_false]at hK ⊢;rw[hself];exact hk _ _ rfl hK
  . simp only[if_true]at hK ⊢;rw[hset];exact hk _ _ rfl hK
 case mksl mu size bytes zero l c=>
  simp only[EOp.opds,List.mem_cons,List.not_mem_nil,or_false,forall_eq_or_imp,forall_eq]at h;simp only[qg]at hh ⊢;rw[h.1,h.2];obtain ⟨n,hn,hh⟩:=(qy _ _).1 hh;obtain ⟨m,hm,h1,h2,h3,hK⟩:=(qy _ _).1 hh;refine(qy _ _).2 ⟨n,hn,(qy _ _).2 ⟨m,hm,h1,h2,h3,?_⟩⟩;cases mu
  . simp only[Bool.false_eq_true,if_false]at hK ⊢;rw[hset];exact⟨hK.1,hk _ _ rfl hK.2⟩
  . simp only[if_true]at hK ⊢;rw[hset];exact⟨hK.1,hk _ _ rfl hK.2⟩
 case append mu size bytes x y=>
  simp only[EOp.opds,List.mem_cons,List.not_mem_nil,or_false,forall_eq_or_imp,forall_eq]at h;simp only[qg]at hh ⊢;rw[h.1,h.2];obtain ⟨ys,hy,h1,hh⟩:=(qy _ _).1 hh;obtain ⟨⟨v,s1,n⟩,hx,h2,h3,hK⟩:=(qy _ _).1 hh;have e1:qb1 s' size (ev s y)=some ys:=by rw[<- hy];unfold qb1;rw[hH]
  have e2:qO id s' mu size (ev s x) ys=some (v,{s1 with f:=s'.f},n)/\s1.f=s.f:=by
   unfold qO at hx ⊢;rw[hH];split at hx<;>(try(cases hx;done))
   . split at hx<;>(try(cases hx;done));split at hx
     . split at hx<;>(try(cases hx;done));cases hx;rw[if_pos ‹_›,if_pos ‹_›,if_pos ‹_›,hset];exact⟨rfl,rfl⟩
     . cases hx;rw[if_pos ‹_›,if_neg ‹_›,hset];exact⟨rfl,rfl⟩
   . split at hx<;>(try(cases hx;done));split at hx<;>(try(cases hx;done));split at hx<;>(try(cases hx;done));cases hx;rw[if_pos ‹_›];rename_i hob hf;simp only[hob,hf,if_true];exact⟨by simp[St.setO,hH,hn],rfl⟩
   . split at hx<;>(try(cases hx;done));split at hx<;>(try(cases hx;done));split at hx<;>(try(cases hx;done));cases hx;rw[if_pos ‹_›];rename_i hob hf;simp only[hob,hf,and_self,if_true];exact⟨by simp[St.setO,hH,hn],rfl⟩
  exact(qy _ _).2 ⟨ys,e1,h1,(qy _ _).2 ⟨(v,{s1 with f:=s'.f},n),e2.1,h2,h3,hk _ _ e2.2 hK⟩⟩
 case store n p x=>
  simp only[EOp.opds,List.mem_cons,List.not_mem_nil,or_false,forall_eq_or_imp,forall_eq]at h;simp only[qg]at hh ⊢;rw[h.1,h.2];refine kI hH (λhh=>?_) hh;obtain ⟨s1,hx,hK⟩:=(qy _ _).1 hh;have e2:j4 s' n (ev s p) (ev s x)=some {s1 with f:=s'.f}/\s1.f=s.f:=by unfold j4 at hx ⊢;rw[hH];split at hx<;>(try(cases hx;done));split at hx<;>(try(cases hx;done));rename_i hob;split at hx<;>(try(cases hx;done));rename_i hel;split at hx<;>(try(cases hx;done));rename_i hcd;obtain ⟨e',he,rfl⟩:=Option.map_eq_some_iff.1 hx;rw[if_pos hcd,he,Option.map_some,hset];exact⟨rfl,rfl⟩
  exact(qy _ _).2 ⟨_,e2.1,kI rfl (hk _ _ e2.2) hK⟩
 case call f l=>
  have hf:ev s' f=ev s f:=h f (by simp[EOp.opds]);have hl:l.map (ev s')=l.map (ev s):=Yk λx hx=>h x (by simp[EOp.opds,hx]);simp only[qg]at hh ⊢;rw[hf,hl];split at hh
  . rename_i fid caps hfe;rw[hH,hn];rcases hh with ⟨bor,as',res,h0,h1,h2,h3,hK⟩|⟨h1,h2⟩
    . exact .inl ⟨bor,as',res,h0,h1,h2,h3,by rw[hself];exact hk _ _ rfl hK⟩
    . exact .inr ⟨h1,h2.mono λv H' n' hK=>by
       have:=hk v {s with H:=H',next:=n'} rfl hK.2;rw[hself];exact⟨hK.1,this⟩⟩
  . exact hh.elim
theorem qdA{P:Program}[Glob P]{id:Nat}{K:V->St->Prop}(hh:qg P cls id s K op):∃v s1,s1.f=s.f/\K v s1:=by
 have quiet:(∀K,qg P cls id s K op=onS (qJ s op) λv=>K v s)->∃v s1,s1.f=s.f/\K v s1:=by intro e1;rw[e1]at hh;obtain ⟨v,hv,hK⟩:=(qy _ _).1 hh;exact⟨v,s,rfl,hK⟩
 cases op<;>try exact quiet (λ_=>rfl)
 case load ag n p=>
  obtain ⟨v,hv,hK⟩:=(qy _ _).1 (jr hh);exact⟨v,s,rfl,hK⟩
 case alloc n z=>refine⟨_,_,?_,hh⟩;rfl
 case mkmap=>refine⟨_,_,?_,hh⟩;rfl
 case mset x k v=>
  obtain ⟨s1,hs,hK⟩:=(qy _ _).1 hh;exact⟨_,s1,qiP hs,hK⟩
 case box n x=>refine⟨_,_,?_,hh.2.2⟩;rfl
 case lit mu size agg zero len ps=>
  obtain ⟨es,he,hK⟩:=(qy _ _).1 hh;cases mu
  . refine⟨_,_,?_,hK⟩;rfl
  . refine⟨_,_,?_,hK⟩;rfl
 case mksl mu size bytes zero l c=>
  obtain ⟨n,hn,hh⟩:=(qy _ _).1 hh;obtain ⟨m,hm,h1,h2,h3,hK⟩:=(qy _ _).1 hh;cases mu
  . refine⟨_,_,?_,hK.2⟩;rfl
  . refine⟨_,_,?_,hK.2⟩;rfl
 case append mu size bytes x y=>
  obtain ⟨ys,hy,h1,hh⟩:=(qy _ _).1 hh;obtain ⟨⟨v,s1,n⟩,hx,h2,h3,hK⟩:=(qy _ _).1 hh
  have:s1.f=s.f:=by
   unfold qO at hx;repeat' split at hx
   all_goals first|(cases hx;done)|(cases hx;rfl)
  exact⟨_,_,this,hK⟩
 case store n p x=>
  obtain ⟨s1,hx,hK⟩:=(qy _ _).1 (jr hh);have hK:=jr hK
  have:s1.f=s.f:=by
   unfold j4 at hx;repeat' split at hx
   all_goals first|(cases hx;done)|(obtain ⟨e',he,rfl⟩:=Option.map_eq_some_iff.1 hx;rfl)
  exact⟨_,_,this,hK⟩
 case call f l=>
  simp only[qg]at hh;split at hh
  . rcases hh with ⟨bor,as',res,h0,h1,h2,h3,hK⟩|⟨h1,h2⟩
    . refine⟨_,_,?_,hK⟩;rfl
    . obtain ⟨v,H',n',hK,_⟩:=h2;refine⟨_,_,?_,hK.2⟩;rfl
  . exact hh.elim
end Go.E

namespace Go.E
variable {s:St} {d:Option Nat} {v:V}
theorem Ya{t:Nat}(h:d≠some t):(s.put d v).f t=s.f t:=by
 cases d with
 |none=>rfl
 | some d=>
   have:t≠d:=λe=>h (by rw[e])
   simp[St.put,this]
theorem put_comm{e:Option Nat}{u:V}(h:∀x,d=some x->e≠some x):(s.put d v).put e u=(s.put e u).put d v:=by
 cases d with
 |none=>cases e<;>rfl
 | some d=>
   cases e with
   |none=>rfl
   | some e=>
     have hne:d≠e:=λhe=>h d rfl (by rw[he]);simp only[St.put];congr 1;funext i;by_cases h1:i=e
     . subst h1;simp[Ne.symm hne]
     . by_cases h2:i=d
       . subst h2;simp[hne]
       . simp[h1,h2]
theorem qdW(s:St)(d:Option Nat)(v:V)(H:Nat->Option MObj):({s.put d v with H:=H}:St)=({s with H:=H}:St).put d v:=by cases d<;>rfl
theorem jL{x y:Ins}(h:QD x y=true):(∀d,x.dst=some d->d ∉ y.looks)/\(∀d,x.dst=some d->y.dst≠some d)/\(∀d,y.dst=some d->d ∉ x.looks):=by
 unfold QD at h;rw[Bool.and_eq_true]at h;refine⟨λd hd=>?_,λd hd=>?_,λd hd=>?_⟩
 . have:=h.1;rw[hd]at this;simp at this;exact this.1
 . have:=h.1;rw[hd]at this;simp at this;exact this.2
 . have:=h.2;rw[hd]at this;simpa using this
variable {o:Ins} {s':St}
theorem qX.put(h:qX o s s')(hd:∀x,d=some x->x ∉ o.looks):qX o s (s'.put d v):=λt ht=>by rw[Ya (λe=>hd t e ht)];exact h t ht
theorem qX.refl(o:Ins)(s:St):qX o s s:=λ_ _=>rfl
theorem qX.symm(h:qX o s s'):qX o s' s:=λt ht=>(h t ht).symm
theorem qX.trans{a b c:St}(h:qX o a b)(k:qX o b c):qX o a c:=λt ht=>(k t ht).trans (h t ht)
variable {P:Program} {K:St->Prop}
theorem XE[Glob P]{id:Nat}{K':St->Prop}(h:qX o s s')(hH:s'.H=s.H)(hn:s'.next=s.next)
(hk:∀(s1:St) (v:V),s1.f=s.f->K (s1.put o.dst v)->K' (({s1 with f:=s'.f}:St).put o.dst v))(hh:qx P id o K s):qx P id o K' s':=by
 have st:qg P o.cls id s (λv s1=>K (s1.put o.dst v)) o.op->qg P o.cls id s' (λv s1=>K' (s1.put o.dst v)) o.op:=λhs=>
  qdv (λx hx=>h.ev hx) hH hn (λv s1 hf hK=>hk s1 v hf hK) hs
 have hself:s'={s with f:=s'.f}:=by cases s';cases s;simp at hH hn;subst hH;subst hn;rfl
 unfold qx at *;split
 . rename_i hg;rw[hg]at hh;exact st hh
 . rename_i t want hg;rw[hg]at hh;simp only at hh;rw[h.gd hg];split
   . rename_i b hb;rw[hb]at hh;exact⟨λe=>st (hh.1 e),λe=>by rw[hself];exact hk s _ rfl (hh.2 e)⟩
   . rename_i hb;rw[hb]at hh;rw[hself];exact hk s _ rfl hh
   . rename_i h1 h2;split at hh
     . rename_i hb;exact absurd hb (h1 _)
     . rename_i hb;exact absurd hb h2
     . exact hh
theorem XL[Glob P]{id:Nat}(hh:qx P id o K s):∃(s1:St) (v:V),s1.f=s.f/\K (s1.put o.dst v):=by
 have st:qg P o.cls id s (λv s1=>K (s1.put o.dst v)) o.op->∃(s1:St) (v:V),s1.f=s.f/\K (s1.put o.dst v):=λhs=>
  let ⟨v,s1,h1,h2⟩:=qdA hs
  ⟨s1,v,h1,h2⟩
 unfold qx at hh;split at hh
 . exact st hh
 . rename_i t want hg;split at hh
   . rename_i b hb;by_cases e:b=want
     . exact st (hh.1 e)
     . exact⟨s,_,rfl,hh.2 e⟩
   . exact⟨s,_,rfl,hh⟩
   . exact hh.elim
def nOp(s:St):EOp->Option V
 |.lit _ size agg zero len ps=>(xP size agg (List.replicate len zero) (ps.map λ(i,x)=>(i,ev s x))).map (V.sl size true)
 |op=>qJ s op
def qq0(s:St)(o:Ins):Option V:=match o.gd with
 |none=>nOp s o.op
 | some (t,want)=>match s.f t with
   |.bool b=>if b=want then nOp s o.op else some .undef
   |.undef=>some .undef
   | _=>none
variable {ov:Option Cls} {op:EOp}
theorem qe5[Glob P]{cls:Cls}{id:Nat}(h:zN ov op=.n)(K:V->St->Prop):qg P cls id s K op=onS (nOp s op) λv=>K v s:=by
 cases op<;>simp only[zN]at h<;>try rfl
 all_goals try(cases h;done)
 case lit mu size agg zero len ps=>
  cases mu
  . simp only[qg,nOp,Bool.false_eq_true,if_false];cases xP size agg (List.replicate len zero) (ps.map λ(i,x)=>(i,ev s x))<;>rfl
  . cases h
 case mksl mu _ _ _ _ _=>cases mu<;>cases h
 case append=>split at h<;>cases h
 case call=>split at h<;>cases h
 case load=>split at h<;>cases h
 case store=>split at h<;>cases h
theorem kz[Glob P]{id:Nat}(h:zN ov o.op=.n):qx P id o K s↔onS (qq0 s o) λv=>K (s.put o.dst v):=by
 unfold qx qq0;cases hg:o.gd with
 |none=>simp only;rw[qe5 h]
 | some g=>
   obtain ⟨t,want⟩:=g;simp only;cases hb:s.f t<;>simp only[zF,qkX];rw[qe5 h];rename_i b;by_cases e:b=want
   . simp[e]
   . simp[e]
theorem qlr(h:zN ov op=.n)(hs:∀x∈op.opds,ev s' x=ev s x):nOp s' op=nOp s op:=by
 cases op<;>simp only[nOp]<;>first|(simp[zN]at h;done)|(simp only[zN]at h;split at h<;>cases h;done)|exact Km hs (λ_ _ _ e=>nomatch e)|skip
 case lit mu size agg zero len ps=>
  have e:(ps.map λ(p:Nat×Opd)=>(p.1,ev s' p.2))=ps.map λ(p:Nat×Opd)=>(p.1,ev s p.2):=
   List.map_congr_left λp hp=>by rw[hs _ (List.mem_map.2 ⟨p,hp,rfl⟩)]
  exact congrArg (λl=>(xP size agg (List.replicate len zero) l).map (V.sl size true)) e
theorem YP(h:zN ov o.op=.n)(hs:qX o s s'):qq0 s' o=qq0 s o:=by
 unfold qq0;rw[qlr h (λx hx=>hs.ev hx)];split
 . rfl
 . rename_i t want hg;rw[hs.gd hg]
variable {oj oi:Ins}
theorem qnT[Glob P]{j i:Nat}(hap:QD oj oi=true)(hc:zN ov oj.op=.n)
(h:qx P j oj (qx P i oi K) s):qx P i oi (qx P j oj K) s:=by
 obtain ⟨h1,h2,h3⟩:=jL hap;obtain ⟨v,hv,hh⟩:=(qy _ _).1 ((kz hc).1 h);refine XE (s:=s.put oj.dst v) ((qX.refl oi s).put h1).symm (ku _ _ _).symm (jI _ _ _).symm (λs1 u hf hK=>?_) hh;rw[kz hc];have hs:qX oj s (({s1 with f:=s.f}:St).put oi.dst u):=qX.put (λ_ _=>rfl) h3;rw[YP hc hs,hv];simp only[zF];rw[<- put_comm h2]
 have:({s1 with f:=s.f}:St).put oj.dst v=s1:=by cases s1;simp only at hf;subst hf;cases oj.dst<;>rfl
 rw[this];exact hK
theorem qh7[Glob P]{j i:Nat}(hap:QD oj oi=true)(hc:zN ov oi.op=.n)
(h:qx P j oj (qx P i oi K) s):qx P i oi (qx P j oj K) s:=by
 obtain ⟨h1,h2,h3⟩:=jL hap;obtain ⟨s1,v,hf,hh⟩:=XL h;obtain ⟨u,hu,_⟩:=(qy _ _).1 ((kz hc).1 hh);have hs:∀(s1:St) v,s1.f=s.f->qX oi s (s1.put oj.dst v):=λs1 v hf=>qX.put (λt _=>by rw[hf]) h1;rw[YP hc (hs s1 v hf)]at hu;rw[kz hc,hu];simp only[zF];refine XE (s:=s) ((qX.refl oj s).put h3) (ku _ _ _) (jI _ _ _) (λs2 v2 hf2 hK=>?_) h;rw[kz hc,YP hc (hs s2 v2 hf2),hu]at hK;simp only[zF]at hK;rw[put_comm h2]at hK
 have:({s2 with f:=(s.put oi.dst u).f}:St)=s2.put oi.dst u:=by cases s2;simp only at hf2;subst hf2;cases oi.dst<;>rfl
 rw[this];exact hK
end Go.E

namespace Go.E
def qoS(H H2:Nat->Option MObj):Prop:= ∀id o,(∀fin,o≠ .tok fin)->H id=some o->H2 id=some o
theorem Er.less{bor:Bool}{H H2:Nat->Option MObj}(hb:bor=true->qoS H H2){v v':V}(h:Er bor H v v'):Er bor H2 v v':=by
 induction h with
 |bool b=>exact .bool _
 |int k n=>exact .int _ _
 |str s=>exact .str _
 |agg cs cs' hl h ih=>exact .agg cs cs' hl ih
 |tup cs cs' hl h ih=>exact .tup cs cs' hl ih
 |sl sz b cs cs' hl h ih=>exact .sl sz b cs cs' hl ih
 |asl id fin sz cs cs' hl h ih=>exact .asl id fin sz cs cs' hl ih
 |iptr sz e e' off h ih=>exact .iptr sz e e' off ih
 |msl id sz off len es ro cs' hb' hH hle hl h ih=>exact .msl id sz off len es ro cs' hb' (hb hb' _ _ (λ_ h=>by cases h) hH) hle hl ih
 |ptr id i off sz es ro e e' hb' hH he h ih=>exact .ptr id i off sz es ro e e' hb' (hb hb' _ _ (λ_ h=>by cases h) hH) he ih
 |nilp=>exact .nilp
 |nilfn=>exact .nilfn
 |nilmap=>exact .nilmap
 |mp l=>exact .mp l
 |mfn f x x' h ih=>exact .mfn f x x' ih
 |mapo id l hb' hH=>exact .mapo id l hb' (hb hb' _ _ (λ_ h=>by cases h) hH)
 |nilifc=>exact .nilifc
 |fn f cs cs' hl h ih=>exact .fn f cs cs' hl ih
 |ifc t v v' h ih=>exact .ifc t v v' ih
inductive Kind(s:St)(id:Nat)(o:Ins):Cls->((Nat->Option MObj)->Nat->Option MObj)->((Nat->Option MObj)->Prop)->Prop
 |idle (c:Cls):Kind s id o c (λH=>H) (λ_=>True)
 |load (ag:Bool) (n t idp k off:Nat) (ob:MObj) (h:o.op=.load ag n (.t t)) (hp:s.f t=.ptr idp k off) (sz:Nat) (es:List V) (ro:Bool) (ho:s.H idp=some (.own sz es ro)):
  Kind s id o .r (λH=>H) (λH2=>H2 idp=s.H idp)
 |loadL (z:Nat) (ag:Bool) (n t idp k off:Nat) (h:o.op=.load ag n (.t t)) (hp:s.f t=.ptr idp k off) (sz:Nat) (es:List V) (ro:Bool) (ho:s.H idp=some (.own sz es ro)) (hl:lab (.own sz es ro)=z):
  Kind s id o (.l z) (λH=>H) (λH2=>H2 idp=s.H idp)
 |sto (z idp sz:Nat) (es es':List V) (ho:s.H idp=some (.own sz es false)) (hl:lab (.own sz es false)=z) (hl':lab (.own sz es' false)=z):
  Kind s id o (.s z) (λH=>ze H idp (some (.own sz es' false))) (λH2=>H2 idp=s.H idp)
 |lent:Kind s id o .b (λH=>H) (λH2=>qoS s.H H2)
 |made (ob:MObj) (hno:∀fin,ob≠ .tok fin):Kind s id o .a (λH=>ze H id (some ob)) (λ_=>True)
 |app (k:Nat):Kind s id o .t (λH=>ze H id (some (.tok k))) (λ_=>True)
 |appK (id0 fin k:Nat) (h:s.H id0=some (.tok fin)):Kind s id o .t (λH=>ze (ze H id0 none) id (some (.tok k))) (λH2=>H2 id0=s.H id0)
structure InsOut(P:Program)[Glob P](id:Nat)(s:St)(o:Ins)(v:V)(E:(Nat->Option MObj)->Nat->Option MObj)(need:(Nat->Option MObj)->Prop):Prop where
 at_:need s.H
 any:∀(s2:St),qX o s s2->need s2.H->∀K:St->Prop,K (({s2 with H:=E s2.H}:St).put o.dst v)->qx P id o K s2
section
variable {P : Program}[Glob P]{id : Nat}{s : St}{o : Ins}{ov : Option Cls}{K : V -> St -> Prop}
structure OpOut(P:Program)[Glob P](cls:Cls)(id:Nat)(s:St)(op:EOp)(v:V)(E:(Nat->Option MObj)->Nat->Option MObj)(need:(Nat->Option MObj)->Prop):Prop where
 at_:need s.H
 any:∀(s2:St),(∀x∈op.opds,ev s2 x=ev s x)->need s2.H->∀K:V->St->Prop,K v {s2 with H:=E s2.H}->qg P cls id s2 K op
variable {cls:Cls}
theorem qqN(hcl:cls=.r)(hc:zN ov o.op=.r)(hlt:j6 o.op=true)(h:qg P cls id s K o.op):
 ∃v E need,OpOut P cls id s o.op v E need/\Kind s id o .r E need/\K v {s with H:=E s.H}:=by
 generalize hop:o.op=op at *;cases op<;>simp only[zN]at hc<;>(first|(cases hc;done)|(split at hc<;>cases hc;done)|skip)
 case load ag n p=>
  cases p with
  |c v=>cases hlt
  | t t=>
    subst hcl;have h:onS (qJ s (.load ag n (.t t))) λv=>K v s:=jr (show QA (Cls.ldz .r) s (ev s (.t t)) _ from h);obtain ⟨v,hv,hK⟩:=(qy _ _).1 h;simp only[qJ,ev]at hv;by_cases hp:∃idp k off,s.f t=.ptr idp k off
    . obtain ⟨idp,k,off,hp⟩:=hp;rw[hp]at hv;simp only[zw]at hv;split at hv
      case h_2=>cases hv
      rename_i sz es ro hob;refine⟨v,λH=>H,λH2=>H2 idp=s.H idp,⟨rfl,λs2 hs hn K hk=>(qy _ _).2 ⟨v,?_,hk⟩⟩,.load ag n t idp k off (.tok 0) hop hp sz es ro hob,hK⟩;have:=hs (.t t) (by simp[EOp.opds]);simp only[ev]at this;simp only[qJ,ev,this,hp,zw,hn,hob];exact hv
    . refine⟨v,λH=>H,λ_=>True,⟨trivial,λs2 hs hn K hk=>(qy _ _).2 ⟨v,?_,hk⟩⟩,.idle _,hK⟩;have:=hs (.t t) (by simp[EOp.opds]);simp only[ev]at this;simp only[qJ,ev,this];rw[<- hv];cases hft:s.f t<;>simp only[zw];exact absurd ⟨_,_,_,hft⟩ hp
 case call f l=>
  simp only[qg]at h;split at h
  case h_2=>exact h.elim
  rename_i fid caps hf;rcases h with ⟨bor,as',res,h0,h1,h2,h3,hK⟩|⟨h1,_⟩
  . have hb:=h0 hcl;subst hb;refine⟨res,λH=>H,λ_=>True,⟨trivial,λs2 hs hn K hk=>?_⟩,.idle _,hK⟩;have e1:=hs f (by simp[EOp.opds]);have e2:l.map (ev s2)=l.map (ev s):=Yk λx hx=>hs x (by simp[EOp.opds,hx]);simp only[qg,e1,hf,e2];exact .inl ⟨false,as',res,λ_=>rfl,⟨h1.1,λi c c' hc hc'=>(h1.2 i c c' hc hc').less (by simp)⟩,h2,h3,hk⟩
  . subst hcl;cases h1
theorem qml{z:Nat}(hcl:cls=.l z)(hc:zN ov o.op=.l z)(hlt:j6 o.op=true)(h:qg P cls id s K o.op):
 ∃v E need,OpOut P cls id s o.op v E need/\Kind s id o (.l z) E need/\K v {s with H:=E s.H}:=by
 generalize hop:o.op=op at *;cases op<;>simp only[zN]at hc<;>(first|(cases hc;done)|(split at hc<;>cases hc;done)|skip)
 case load ag n p=>
  cases p with
  |c v=>cases hlt
  | t t=>
    subst hcl;obtain ⟨v,hv,hK⟩:=(qy _ _).1 (jr h);simp only[qJ,ev]at hv;by_cases hp:∃idp k off,s.f t=.ptr idp k off
    . obtain ⟨idp,k,off,hp⟩:=hp;have hl:(s.H idp).map lab=some z:=by
       have h0:QA (Cls.ldz (.l z)) s (s.f t) (onS (qJ s (.load ag n (.t t))) λv=>K v s):=h;rw[hp]at h0;exact h0.1
      rw[hp]at hv;simp only[zw]at hv;split at hv
      case h_2=>cases hv
      rename_i sz es ro hob;rw[hob]at hl;refine⟨v,λH=>H,λH2=>H2 idp=s.H idp,⟨rfl,λs2 hs hn K hk=>?_⟩,.loadL z ag n t idp k off hop hp sz es ro hob (by simpa using hl),hK⟩;have:=hs (.t t) (by simp[EOp.opds]);simp only[ev]at this
      show QA (Cls.ldz (.l z)) s2 (s2.f t) (onS (qJ s2 (.load ag n (.t t))) λv=>K v s2);rw[this,hp];refine⟨by rw[hn,hob];simpa using hl,(qy _ _).2 ⟨v,?_,hk⟩⟩;simp only[qJ,ev,this,hp,zw,hn,hob];exact hv
    . refine⟨v,λH=>H,λ_=>True,⟨trivial,λs2 hs hn K hk=>?_⟩,.idle _,hK⟩;have:=hs (.t t) (by simp[EOp.opds]);simp only[ev]at this
      show QA (Cls.ldz (.l z)) s2 (s2.f t) (onS (qJ s2 (.load ag n (.t t))) λv=>K v s2);have hq:onS (qJ s2 (.load ag n (.t t))) λv=>K v s2:=by refine(qy _ _).2 ⟨v,?_,hk⟩;simp only[qJ,ev,this];rw[<- hv];cases hft:s.f t<;>simp only[zw];exact absurd ⟨_,_,_,hft⟩ hp
      rw[this];cases hft:s.f t<;>first|exact hq|exact absurd ⟨_,_,_,hft⟩ hp
theorem qo0{z:Nat}(hcl:cls=.s z)(hc:zN ov o.op=.s z)(h:qg P cls id s K o.op):
 ∃v E need,OpOut P cls id s o.op v E need/\Kind s id o (.s z) E need/\K v {s with H:=E s.H}:=by
 generalize hop:o.op=op at *;cases op<;>simp only[zN]at hc<;>(first|(cases hc;done)|(split at hc<;>cases hc;done)|skip)
 case store n p x=>
  subst hcl;have h0:QA (Cls.stz (.s z)) s (ev s p) (onS (j4 s n (ev s p) (ev s x)) λs'=>QA (Cls.stz (.s z)) s' (ev s p) (K .undef s')):=h;obtain ⟨s',hs,hK0⟩:=(qy _ _).1 (jr h0);have hs0:=hs;unfold j4 at hs;split at hs<;>(try(cases hs;done));rename_i idp k off hpe;rw[hpe]at h0 hK0;split at hs<;>(try(cases hs;done));rename_i sz es hob;split at hs<;>(try(cases hs;done));rename_i e he;split at hs<;>(try(cases hs;done));rename_i hcd;obtain ⟨e',he',rfl⟩:=Option.map_eq_some_iff.1 hs;have hl:lab (.own sz es false)=z:=by have:=h0.1;rw[hob]at this;simpa using this
  have hl':lab (.own sz (es.set k e') false)=z:=by have:=hK0.1;simp only[St.setO,↓reduceIte]at this;simpa using this
  have hK:=jr hK0;refine⟨.undef,λH=>ze H idp (some (.own sz (es.set k e') false)),λH2=>H2 idp=s.H idp,⟨rfl,λs2 hs2 hn K hk=>?_⟩,.sto z idp sz es (es.set k e') hob hl hl',hK⟩;have e1:=hs2 p (by simp[EOp.opds]);have e2:=hs2 x (by simp[EOp.opds])
  show QA (Cls.stz (.s z)) s2 (ev s2 p) (onS (j4 s2 n (ev s2 p) (ev s2 x)) λs'=>QA (Cls.stz (.s z)) s' (ev s2 p) (K .undef s'));rw[e1,e2,hpe];refine⟨by rw[hn,hob];simpa using hl,(qy _ _).2 ⟨s2.setO idp (some (.own sz (es.set k e') false)),?_,?_⟩⟩
  . simp only[j4,hn,hob,he];rw[if_pos hcd,he'];rfl
  . exact⟨by simp only[St.setO,↓reduceIte];simpa using hl',hk⟩
def Big(c:Cls):Prop:=c=.r\/c=.b\/c=.a\/c=.t\/(∃z,c=.l z)\/ ∃z,c=.s z
theorem qo8(hcl:cls=.b)(hc:zN ov o.op=.b)(h:qg P cls id s K o.op):
 ∃v E need,OpOut P cls id s o.op v E need/\Kind s id o .b E need/\K v {s with H:=E s.H}:=by
 generalize hop:o.op=op at *;cases op<;>simp only[zN]at hc<;>(first|(cases hc;done)|(split at hc<;>cases hc;done)|skip)
 case call f l=>
  simp only[qg]at h;split at h
  case h_2=>exact h.elim
  rename_i fid caps hf;rcases h with ⟨bor,as',res,h0,h1,h2,h3,hK⟩|⟨h1,_⟩
  . refine⟨res,λH=>H,λH2=>qoS s.H H2,⟨λ_ _ _ h=>h,λs2 hs hn K hk=>?_⟩,.lent,hK⟩;have e1:=hs f (by simp[EOp.opds]);have e2:l.map (ev s2)=l.map (ev s):=Yk λx hx=>hs x (by simp[EOp.opds,hx]);simp only[qg,e1,hf,e2];have hx:cls=.r->bor=false:=λe=>by rw[hcl]at e;cases e
    exact .inl ⟨bor,as',res,hx,⟨h1.1,λi c c' hc hc'=>(h1.2 i c c' hc hc').less (λ_=>hn)⟩,h2,h3,hk⟩
  . subst hcl;cases h1
theorem qpr(hc:zN ov o.op=.a)(h:qg P cls id s K o.op):
 ∃v E need,OpOut P cls id s o.op v E need/\Kind s id o .a E need/\K v {s with H:=E s.H}:=by
 generalize hop:o.op=op at *;cases op<;>simp only[zN]at hc<;>(first|(cases hc;done)|(split at hc<;>cases hc;done)|skip)
 case alloc n z=>exact⟨.ptr id 0 0,λH=>ze H id (some (.own n [z] false)),λ_=>True,⟨trivial,λs2 hs hn K hk=>hk⟩,.made _ (λ_ h=>by cases h),h⟩
 case mkmap=>exact⟨.map id,λH=>ze H id (some (.mapo [])),λ_=>True,⟨trivial,λs2 hs hn K hk=>hk⟩,.made _ (λ_ h=>by cases h),h⟩
 case box n x=>
  obtain ⟨h1,h2,h3⟩:=h;refine⟨.ptr id 0 0,λH=>ze H id (some (.own n [ev s x] false)),λ_=>True,⟨trivial,λs2 hs hn K hk=>?_⟩,.made _ (λ_ h=>by cases h),h3⟩;have e:=hs x (by simp[EOp.opds]);simp only[qg,e];exact⟨h1,h2,hk⟩
 case lit mu size agg zero len ps=>
  have hmu:mu=true:=by cases mu<;>simp at hc ⊢
  simp only[qg]at h;obtain ⟨es,he,hK⟩:=(qy _ _).1 h;rw[if_pos hmu]at hK;refine⟨_,λH=>ze H id (some (.own size es false)),λ_=>True,⟨trivial,λs2 hs hn K hk=>?_⟩,.made _ (λ_ h=>by cases h),hK⟩;have e:(ps.map λ(p:Nat×Opd)=>(p.1,ev s2 p.2))=ps.map λ(p:Nat×Opd)=>(p.1,ev s p.2):=
   List.map_congr_left λp hp=>by rw[hs _ (List.mem_map.2 ⟨p,hp,rfl⟩)]
  refine(qy _ _).2 ⟨es,by rw[<- he];exact congrArg (xP size agg (List.replicate len zero)) e,?_⟩;rw[if_pos hmu];exact hk
 case mksl mu size bytes zero l c=>
  have hmu:mu=true:=by cases mu<;>simp at hc ⊢
  simp only[qg]at h;obtain ⟨n,hn,h⟩:=(qy _ _).1 h;obtain ⟨m,hm,h1,h2,h3,hK⟩:=(qy _ _).1 h;rw[if_pos hmu]at hK;refine⟨_,λH=>ze H id (some (.own size (List.replicate n zero) false)),λ_=>True,⟨trivial,λs2 hs _ K hk=>?_⟩,.made _ (λ_ h=>by cases h),hK.2⟩;have e1:=hs l (by simp[EOp.opds]);have e2:=hs c (by simp[EOp.opds]);simp only[qg,e1,e2];refine(qy _ _).2 ⟨n,hn,(qy _ _).2 ⟨m,hm,h1,h2,h3,?_⟩⟩;rw[if_pos hmu];exact⟨hK.1,hk⟩
theorem qqB(hcl:cls=.t)(hc:zN ov o.op=.t)(h:qg P cls id s K o.op):
 ∃v E need,OpOut P cls id s o.op v E need/\Kind s id o .t E need/\K v {s with H:=E s.H}:=by
 generalize hop:o.op=op at *;cases op<;>simp only[zN]at hc<;>(first|(cases hc;done)|(split at hc<;>cases hc;done)|skip)
 case append mu size bytes x y=>
  simp only[qg]at h;obtain ⟨ys,hy,hm,h⟩:=(qy _ _).1 h;obtain ⟨m1,m2,m3⟩:=hm hcl;obtain ⟨⟨v,s1,n⟩,hx,h2,h3,hK⟩:=(qy _ _).1 h;subst m3;have e0:∀s2:St,ev s2 y=ev s y->qb1 s2 size (ev s2 y)=some ys:=by intro s2 he;rw[he,<- hy];unfold qb1;cases hyv:ev s y<;>simp only[hyv,qgf]at m2 ⊢;cases m2
  have fin:∀(s2:St) (K:V->St->Prop) (s3:St),ev s2 y=ev s y->ev s2 x=ev s x->qO id s2 false size (ev s x) ys=some (v,s3,n)->K v s3->qg P cls id s2 K (.append false size bytes x y):=by intro s2 K s3 e1 e2 ha hk;simp only[qg];refine(qy _ _).2 ⟨ys,e0 s2 e1,λ_=>⟨by rw[e2];exact m1,by rw[e1];exact m2,by trivial⟩,(qy _ _).2 ⟨(v,s3,n),by rw[e2];exact ha,h2,h3,hk⟩⟩
  unfold qO at hx;split at hx
  . rename_i sz es hxe;split at hx<;>(try(cases hx;done));rename_i hsz;simp only[Bool.false_eq_true,if_false]at hx;cases hx;refine⟨_,λH=>ze H id (some (.tok (es.length+ys.length))),λ_=>True,⟨trivial,λs2 hs hn K hk=>fin s2 K _ (hs y (by simp[EOp.opds])) (hs x (by simp[EOp.opds])) ?_ hk⟩,.app _,hK⟩;rw[hxe];simp only[qO,if_pos hsz,Bool.false_eq_true,if_false];rfl
  . rename_i id0 fi sz es hxe;split at hx<;>(try(cases hx;done));rename_i hsz;split at hx<;>(try(cases hx;done));rename_i fi' hob;split at hx<;>(try(cases hx;done));rename_i hfe;cases hx;refine⟨_,λH=>ze (ze H id0 none) id (some (.tok (es.length+ys.length))),λH2=>H2 id0=s.H id0,⟨rfl,λs2 hs hn K hk=>fin s2 K _ (hs y (by simp[EOp.opds])) (hs x (by simp[EOp.opds])) ?_ hk⟩,.appK id0 fi' _ hob,hK⟩;rw[hxe];simp only[qO];have hsz':sz=size/\True:=⟨hsz.1,trivial⟩;rw[if_pos hsz',hn,hob];simp only[hfe,if_true];rfl
  . rename_i hxe;rw[hxe]at m1;cases m1
  . cases hx
theorem K8{c:Cls}(hcls:o.cls=c)(hc:zN ov o.op=c)(hr:Big c)(hlt:j6 o.op=true){K:St->Prop}(h:qx P id o K s):
 ∃v E need,InsOut P id s o v E need/\Kind s id o c E need/\K (({s with H:=E s.H}:St).put o.dst v):=by
 have st:qg P o.cls id s (λv s1=>K (s1.put o.dst v)) o.op->∃v E need,OpOut P o.cls id s o.op v E need/\Kind s id o c E need/\K (({s with H:=E s.H}:St).put o.dst v):=by
  intro h;rcases hr with rfl|rfl|rfl|rfl|⟨z,rfl⟩|⟨z,rfl⟩
  . exact qqN hcls hc hlt h
  . exact qo8 hcls hc h
  . exact qpr hc h
  . exact qqB hcls hc h
  . exact qml hcls hc hlt h
  . exact qo0 hcls hc h
 have idle:K (s.put o.dst .undef)->(∀s2:St,qX o s s2->∀K:St->Prop,K (s2.put o.dst .undef)->qx P id o K s2)->
  ∃v E need,InsOut P id s o v E need/\Kind s id o c E need/\K (({s with H:=E s.H}:St).put o.dst v):=
  λhK hany=>⟨.undef,λH=>H,λ_=>True,⟨trivial,λs2 hs _ K hk=>hany s2 hs K hk⟩,.idle _,hK⟩
 cases hg:o.gd with
 | none=>
   unfold qx at h;rw[hg]at h;obtain ⟨v,E,need,h1,h2,h3⟩:=st h;refine⟨v,E,need,⟨h1.at_,λs2 hs hn K hk=>?_⟩,h2,h3⟩;unfold qx;rw[hg];exact h1.any s2 (λx hx=>hs.ev hx) hn _ hk
 | some g=>
   obtain ⟨t,want⟩:=g;unfold qx at h;rw[hg]at h;simp only at h;have gd:∀s2:St,qX o s s2->s2.f t=s.f t:=λs2 hs=>hs.gd hg;split at h
   . rename_i b hb;by_cases e:b=want
     . obtain ⟨v,E,need,h1,h2,h3⟩:=st (h.1 e);refine⟨v,E,need,⟨h1.at_,λs2 hs hn K hk=>?_⟩,h2,h3⟩;unfold qx;rw[hg];simp only[gd s2 hs,hb];exact⟨λ_=>h1.any s2 (λx hx=>hs.ev hx) hn _ hk,λne=>absurd e ne⟩
     . refine idle (h.2 e) λs2 hs K hk=>?_;unfold qx;rw[hg];simp only[gd s2 hs,hb];exact⟨λe'=>absurd e' e,λ_=>hk⟩
   . rename_i hb;refine idle h λs2 hs K hk=>?_;unfold qx;rw[hg];simp only[gd s2 hs,hb];exact hk
   . exact h.elim
end
theorem yD{α:Type}(f:Nat->α){i j:Nat}(h:i≠j)(x y:α):ze (ze f i x) j y=ze (ze f j y) i x:=by
 funext k;unfold ze;by_cases h1:k=j
 . subst h1;simp[Ne.symm h]
 . simp[h1]
end Go.E

namespace Go.E
variable {s:St} {pj pi:Nat} {oj oi:Ins}
theorem qfT{s1:St}{cj ci:Cls}{Ej Ei:(Nat->Option MObj)->Nat->Option MObj}{nj ni:(Nat->Option MObj)->Prop}(hne:pj≠pi)
(fj:s.H pj=none)(fi:s.H pi=none)(kj:Kind s pj oj cj Ej nj)(hs1:s1.H=Ej s.H)(ki:Kind s1 pi oi ci Ei ni)(hok:Xe cj ci=true)
(sc:∀ag n t idp k off,oi.op=.load ag n (.t t)->s1.f t=.ptr idp k off->idp≠pj)(hnj:nj s.H)(hni:ni s1.H):
 ni s.H/\nj (Ei s.H)/\Ej (Ei s.H)=Ei (Ej s.H):=by
 cases kj with
 | idle=>
   simp only at hs1;rw[hs1]at hni;exact⟨hni,trivial,rfl⟩
 | load ag n t idp k off ob hop hp sz es ro ho=>
   simp only at hs1;rw[hs1]at hni;refine⟨hni,?_,rfl⟩;cases ki with
   |idle=>rfl
   |load=>rfl
   |loadL=>rfl
   |sto=>cases hok
   |lent=>rfl
   |made ob2 hno2=>exact qo _ _ (λe=>by rw[e,fi]at ho;cases ho)
   |app k=>exact qo _ _ (λe=>by rw[e,fi]at ho;cases ho)
   | appK id0 fin k h=>
     rw[hs1]at h
     show ze (ze s.H id0 none) pi _ idp=s.H idp;rw[qo _ _ (λe=>by rw[e,fi]at ho;cases ho),qo _ _ (λe=>by rw[e,h]at ho;cases ho)]
 | loadL z ag n t idp k off hop hp sz es ro ho hlz=>
   simp only at hs1;rw[hs1]at hni;refine⟨hni,?_,rfl⟩;cases ki with
   |idle=>rfl
   |load=>rfl
   |loadL=>rfl
   | sto z2 id2 sz2 es2 es2' ho2 hl2 hl2'=>
     rw[hs1]at ho2;refine qo _ _ (λe=>?_);rw[e,ho2]at ho;cases ho;rw[hl2]at hlz;subst hlz;simp[Xe]at hok
   |lent=>rfl
   |made ob2 hno2=>exact qo _ _ (λe=>by rw[e,fi]at ho;cases ho)
   |app k=>exact qo _ _ (λe=>by rw[e,fi]at ho;cases ho)
   | appK id0 fin k h=>
     rw[hs1]at h
     show ze (ze s.H id0 none) pi _ idp=s.H idp;rw[qo _ _ (λe=>by rw[e,fi]at ho;cases ho),qo _ _ (λe=>by rw[e,h]at ho;cases ho)]
 | sto z id2 sz2 es2 es2' ho2 hl2 hl2'=>
   simp only at hs1;cases ki with
   |idle=>exact⟨trivial,rfl,rfl⟩
   |load=>cases hok
   | loadL z1 ag n t idp k off hop hp sz es ro ho hlz=>
     have hne2:idp≠id2:=by intro e;rw[hs1,e,qi]at ho;cases ho;rw[hl2']at hlz;subst hlz;simp[Xe]at hok
     refine⟨?_,rfl,rfl⟩
     show s.H idp=s1.H idp;rw[hs1,qo _ _ hne2]
   |sto=>cases hok
   |lent=>cases hok
   |made=>cases hok
   |app=>cases hok
   |appK=>cases hok
 | lent=>
   simp only at hs1;rw[hs1]at hni;refine⟨hni,?_,rfl⟩;cases ki with
   |idle=>exact λ_ _ _ h=>h
   |load=>exact λ_ _ _ h=>h
   |loadL=>exact λ_ _ _ h=>h
   |sto=>cases hok
   |lent=>exact λ_ _ _ h=>h
   |made ob2 hno2=>exact λa _ hno h=>(qo _ _ (λe=>by rw[e,fi]at h;cases h)).trans h
   |app k=>exact λa _ hno h=>(qo _ _ (λe=>by rw[e,fi]at h;cases h)).trans h
   | appK id0 fin k h0=>
     rw[hs1]at h0;exact λa _ hno h=>by show ze (ze s.H id0 none) pi _ a=_;rw[qo _ _ (λe=>by rw[e,fi]at h;cases h),qo _ _ (λe=>by rw[e,h0]at h;cases h;exact hno _ rfl)];exact h
 | made ob hno=>
   simp only at hs1;refine⟨?_,trivial,?_⟩
   . cases ki with
     |idle=>trivial
     | load ag n t idp k off ob hop hp sz2 es2 ro2 ho=>
       have:=sc ag n t idp k off hop hp
       show s.H idp=s1.H idp;rw[hs1,qo _ _ this]
     | loadL z ag n t idp k off hop hp sz2 es2 ro2 ho=>
       have:=sc ag n t idp k off hop hp
       show s.H idp=s1.H idp;rw[hs1,qo _ _ this]
     |sto=>cases hok
     |lent=>cases hok
     |made=>trivial
     |app=>trivial
     | appK id0 fin k h=>
       rw[hs1]at h
       have:id0≠pj:=λe=>by rw[e,qi]at h;cases h;exact hno _ rfl
       show s.H id0=s1.H id0;rw[hs1,qo _ _ this]
   . cases ki with
     |idle=>rfl
     |load=>rfl
     |loadL=>rfl
     |sto=>cases hok
     |lent=>rfl
     |made ob2 hno2=>exact yD _ (Ne.symm hne) _ _
     |app k=>exact yD _ (Ne.symm hne) _ _
     | appK id0 fin k h=>
       rw[hs1]at h
       have:id0≠pj:=λe=>by rw[e,qi]at h;cases h;exact hno _ rfl
       show ze (ze (ze s.H id0 none) pi _) pj _=ze (ze (ze s.H pj _) id0 none) pi _;rw[yD _ (Ne.symm hne),yD s.H this]
 | app k=>
   simp only at hs1;refine⟨?_,trivial,?_⟩
   . cases ki with
     |idle=>trivial
     | load ag n t idp k off ob hop hp sz2 es2 ro2 ho=>
       have:=sc ag n t idp k off hop hp
       show s.H idp=s1.H idp;rw[hs1,qo _ _ this]
     | loadL z ag n t idp k off hop hp sz2 es2 ro2 ho=>
       have:=sc ag n t idp k off hop hp
       show s.H idp=s1.H idp;rw[hs1,qo _ _ this]
     |sto=>cases hok
     | lent=>
       intro a o2 hno2 h;rw[hs1]at h
       have:a≠pj:=λe=>by rw[e,qi]at h;cases h;exact hno2 _ rfl
       rw[qo _ _ this]at h;exact h
     |made=>trivial
     |app=>cases hok
     |appK=>cases hok
   . cases ki with
     |idle=>rfl
     |load=>rfl
     |loadL=>rfl
     |sto=>cases hok
     |lent=>rfl
     |made ob2 hno2=>exact yD _ (Ne.symm hne) _ _
     |app=>cases hok
     |appK=>cases hok
 | appK id0 fin k h0=>
   simp only at hs1;have hi0:id0≠pi:=λe=>by rw[e,fi]at h0;cases h0
   refine⟨?_,?_,?_⟩
   . cases ki with
     |idle=>trivial
     | load ag n t idp k off ob hop hp sz2 es2 ro2 ho=>
       have:=sc ag n t idp k off hop hp;rw[hs1,qo _ _ this]at ho;have h3:idp≠id0:=λe=>by rw[e,qi]at ho;cases ho
       show s.H idp=s1.H idp;rw[hs1,qo _ _ this,qo _ _ h3]
     | loadL z ag n t idp k off hop hp sz es ro ho=>
       have:=sc ag n t idp k off hop hp;rw[hs1,qo _ _ this]at ho;have h3:idp≠id0:=λe=>by rw[e,qi]at ho;cases ho
       show s.H idp=s1.H idp;rw[hs1,qo _ _ this,qo _ _ h3]
     |sto=>cases hok
     | lent=>
       intro a o2 hno2 h;rw[hs1]at h;have h2:a≠pj:=λe=>by rw[e,qi]at h;cases h;exact hno2 _ rfl
       rw[qo _ _ h2]at h;have h3:a≠id0:=λe=>by rw[e,qi]at h;cases h
       rw[qo _ _ h3]at h;exact h
     |made=>trivial
     |app=>cases hok
     |appK=>cases hok
   . cases ki with
     |idle=>rfl
     |load=>rfl
     |loadL=>rfl
     |sto=>cases hok
     |lent=>rfl
     |made ob2 hno2=>exact qo _ _ hi0
     |app=>cases hok
     |appK=>cases hok
   . cases ki with
     |idle=>rfl
     |load=>rfl
     |loadL=>rfl
     |sto=>cases hok
     |lent=>rfl
     | made ob2 hno2=>
       show ze (ze (ze s.H pi _) id0 none) pj _=ze (ze (ze s.H id0 none) pj _) pi _;rw[yD s.H (Ne.symm hi0),yD _ (Ne.symm hne)]
     |app=>cases hok
     |appK=>cases hok
variable {P:Program} {K:St->Prop} {vj:Option Cls}
theorem qjg[Glob P]{vi:Option Cls}(hne:pj≠pi)(fj:s.H pj=none)(fi:s.H pi=none)(hap:QD oj oi=true)
(hcj:zN vj oj.op=oj.cls)(hci:zN vi oi.op=oi.cls)(hok:Xe oj.cls oi.cls=true)(hr:Big oj.cls)(hri:Big oi.cls)
(hlj:j6 oj.op=true)(hli:j6 oi.op=true)(sc:∀ag n t idp k off,oi.op=.load ag n (.t t)->s.f t=.ptr idp k off->idp≠pj)
(h:qx P pj oj (qx P pi oi K) s):qx P pi oi (qx P pj oj K) s:=by
 obtain ⟨a1,a2,a3⟩:=jL hap;obtain ⟨v,Ej,nj,oj1,kj,h⟩:=K8 rfl hcj hr hlj h;obtain ⟨u,Ei,ni,oi1,ki,hK⟩:=K8 rfl hci hri hli h;have hs1:(({s with H:=Ej s.H}:St).put oj.dst v).H=Ej s.H:=ku _ _ _;have hsame1:qX oi s (({s with H:=Ej s.H}:St).put oj.dst v):=qX.put (λ_ _=>rfl) a1;obtain ⟨c1,c2,c3⟩:=qfT hne fj fi kj hs1 ki hok (λag n t idp k off hop hp=>by
  have:t∈oi.looks:=List.mem_append_left _ (List.mem_filterMap.2 ⟨.t t,by rw[hop];simp[EOp.opds],rfl⟩)
  rw[hsame1 t this]at hp;exact sc ag n t idp k off hop hp) oj1.at_ oi1.at_
 refine oi1.any s hsame1.symm c1 _ ?_;refine oj1.any (({s with H:=Ei s.H}:St).put oi.dst u) (qX.put (λ_ _=>rfl) a3) (by rw[ku];exact c2) _ ?_;have e:(({({s with H:=Ei s.H}:St).put oi.dst u with H:=Ej (({s with H:=Ei s.H}:St).put oi.dst u).H}:St).put oj.dst v)=
  (({({s with H:=Ej s.H}:St).put oj.dst v with H:=Ei (({s with H:=Ej s.H}:St).put oj.dst v).H}:St).put oi.dst u):=by
  rw[ku,ku,qdW,qdW,c3];rw[put_comm a2]
 rw[e];exact hK
variable {z:Nat}
theorem qqL[Glob P]{vi:Option Cls}(fr:∀id,s.next<=id->s.H id=none)(hap:QD oj oi=true)
(hcj:zN vj oj.op=oj.cls)(hci:zN vi oi.op=oi.cls)(cj:oj.cls=.l z)(ci:oi.cls=.v z)(hlj:j6 oj.op=true)
(h:qx P pj oj (qx P pi oi K) s):qx P pi oi (qx P pj oj K) s:=by
 obtain ⟨a1,a2,a3⟩:=jL hap;obtain ⟨v,Ej,nj,oj1,kj,h⟩:=K8 rfl hcj (by rw[cj];exact .inr (.inr (.inr (.inr (.inl ⟨z,rfl⟩))))) hlj h;have hE:Ej=(λH=>H)/\∀H' n',qcr (.v z) s.next s.H H' n'->nj H':=by
  rw[cj]at kj;cases kj with
  |idle=>exact⟨rfl,λ_ _ _=>trivial⟩
  |loadL _ ag n t idp k off h hp sz es ro ho hl=>exact⟨rfl,λH' _ hk=>(hk _ _ (Nat.lt_of_not_le λe=>by rw[fr _ e]at ho;cases ho) ho hl).trans ho.symm⟩
 obtain ⟨rfl,hn⟩:=hE;have hH:(({s with H:=s.H}:St).put oj.dst v).H=s.H:=ku _ _ _;have hN:(({s with H:=s.H}:St).put oj.dst v).next=s.next:=jI _ _ _;have hsame:qX oi s (({s with H:=s.H}:St).put oj.dst v):=qX.put (λ_ _=>rfl) a1;have fin:∀(H':Nat->Option MObj) (n':Nat) (u:V),qcr (.v z) s.next s.H H' n'->K (({(({s with H:=s.H}:St).put oj.dst v)with H:=H',next:=n'}:St).put oi.dst u)->
  qx P pj oj K (({s with H:=H',next:=n'}:St).put oi.dst u):=by
  intro H' n' u hk hK;refine oj1.any (({s with H:=H',next:=n'}:St).put oi.dst u) (qX.put (λ_ _=>rfl) a3) (by rw[ku];exact hn _ _ hk) _ ?_;have e:(({({s with H:=H',next:=n'}:St).put oi.dst u with H:=(({s with H:=H',next:=n'}:St).put oi.dst u).H}:St).put oj.dst v)=(({(({s with H:=s.H}:St).put oj.dst v)with H:=H',next:=n'}:St).put oi.dst u):=by
   have e2:({(({s with H:=s.H}:St).put oj.dst v)with H:=H',next:=n'}:St)=({s with H:=H',next:=n'}:St).put oj.dst v:=by unfold St.put;cases oj.dst<;>rfl
   rw[e2];exact(put_comm a2).symm
  rw[e];exact hK
 have same:∀(H':Nat->Option MObj) n',H'=s.H->qcr (.v z) s.next s.H H' n':=λH' n' e id ob _ h _=>by rw[e];exact h
 have st:qg P oi.cls pi (({s with H:=s.H}:St).put oj.dst v) (λu s'=>K (s'.put oi.dst u)) oi.op->qg P oi.cls pi s (λu s'=>qx P pj oj K (s'.put oi.dst u)) oi.op:=by
  intro h;generalize hop:oi.op=op at *;rw[ci]at hci h ⊢;cases op<;>simp only[zN]at hci<;>(first|(cases hci;done)|(split at hci<;>cases hci;done)|skip)
  case call f l=>
   have e1:=hsame.ev (x:=f) (by rw[hop];simp[EOp.opds]);have e2:l.map (ev (({s with H:=s.H}:St).put oj.dst v))=l.map (ev s):=Yk λx hx=>hsame.ev (by rw[hop];simp[EOp.opds,hx]);simp only[qg]at h ⊢;rw[e1,e2,hH,hN]at h;split at h
   case h_2=>exact h.elim
   rename_i fid caps hf;rcases h with ⟨bor,as',res,h0,h1,h2,h3,h4⟩|⟨h1,h2⟩
   . refine .inl ⟨bor,as',res,h0,h1,h2,h3,?_⟩;refine fin s.H s.next res (same _ _ rfl) ?_;have e3:({(({s with H:=s.H}:St).put oj.dst v)with H:=s.H,next:=s.next}:St)=({s with H:=s.H}:St).put oj.dst v:=by
      unfold St.put;cases oj.dst<;>rfl
     rw[e3];exact h4
   . exact .inr ⟨h1,h2.mono λu H' n' hk=>⟨hk.1,fin H' n' u hk.1 hk.2⟩⟩
 have gd:∀u,K ((({s with H:=s.H}:St).put oj.dst v).put oi.dst u)->qx P pj oj K (s.put oi.dst u):=by
  intro u hK;refine fin s.H s.next u (same _ _ rfl) ?_;have e3:({(({s with H:=s.H}:St).put oj.dst v)with H:=s.H,next:=s.next}:St)=({s with H:=s.H}:St).put oj.dst v:=by unfold St.put;cases oj.dst<;>rfl
  rw[e3];exact hK
 show qx P pi oi (qx P pj oj K) s;cases hg:oi.gd with
 | none=>
   unfold qx at h;rw[hg]at h;unfold qx;rw[hg];exact st h
 | some g=>
   obtain ⟨t,want⟩:=g;unfold qx at h;rw[hg]at h;simp only at h;rw[hsame.gd hg]at h;unfold qx;rw[hg];simp only;split at h
   . rename_i b hb;exact⟨λe=>st (h.1 e),λe=>gd _ (h.2 e)⟩
   . rename_i hb;exact gd _ h
   . exact h.elim
theorem qdp[Glob P]{id:Nat}{o:Ins}{vo:Option Cls}
(hc:zN vo o.op=o.cls)(cl:o.cls=.k z)(h:qx P id o K s):
 ∃v H' n',qf2 z s.next n' s.H H'/\K (({s with H:=H',next:=n'}:St).put o.dst v)/\
  ∀s2:St,qX o s s2->s2.H=s.H->s2.next=s.next->∀K:St->Prop,K (({s2 with H:=H',next:=n'}:St).put o.dst v)->qx P id o K s2:=by
 have same:qf2 z s.next s.next s.H s.H:=⟨Nat.le_refl _,λ_ _ h=>h,λ_ _ _ _=>Iff.rfl⟩;have st:qg P o.cls id s (λv s1=>K (s1.put o.dst v)) o.op->∃v H' n',qf2 z s.next n' s.H H'/\K (({s with H:=H',next:=n'}:St).put o.dst v)/\
  ∀s2:St,qX o s s2->s2.H=s.H->s2.next=s.next->∀K:St->Prop,K (({s2 with H:=H',next:=n'}:St).put o.dst v)->qg P o.cls id s2 (λv s1=>K (s1.put o.dst v)) o.op:=by
  intro h;generalize hop:o.op=op at *;rw[cl]at hc h ⊢;cases op<;>simp only[zN]at hc<;>(first|(cases hc;done)|(split at hc<;>cases hc;done)|skip)
  case call f l=>
   simp only[qg]at h;split at h
   case h_2=>exact h.elim
   rename_i fid caps hf;have eqs:∀s2:St,qX o s s2->ev s2 f=ev s f/\l.map (ev s2)=l.map (ev s):=λs2 hs=>
    ⟨hs.ev (by rw[hop];simp[EOp.opds]),Yk λx hx=>hs.ev (by rw[hop];simp[EOp.opds,hx])⟩
   rcases h with ⟨bor,as',res,h0,h1,h2,h3,hK⟩|⟨h1,v,H',n',⟨hk,hK⟩,h2⟩
   . refine⟨res,s.H,s.next,same,hK,λs2 hs hH hN K hk=>?_⟩;obtain ⟨e1,e2⟩:=eqs s2 hs;simp only[qg,e1,hf,e2,hH];exact .inl ⟨bor,as',res,h0,h1,h2,h3,by rw[<- hH,<- hN]at hk;exact hk⟩
   . refine⟨v,H',n',hk,hK,λs2 hs hH hN K hk2=>?_⟩;obtain ⟨e1,e2⟩:=eqs s2 hs;simp only[qg,e1,hf,e2,hH,hN];exact .inr ⟨rfl,v,H',n',⟨hk,hk2⟩,h2⟩
 have idle:K (s.put o.dst .undef)->(∀s2:St,qX o s s2->∀K:St->Prop,K (s2.put o.dst .undef)->qx P id o K s2)->
  ∃v H' n',qf2 z s.next n' s.H H'/\K (({s with H:=H',next:=n'}:St).put o.dst v)/\
  ∀s2:St,qX o s s2->s2.H=s.H->s2.next=s.next->∀K:St->Prop,K (({s2 with H:=H',next:=n'}:St).put o.dst v)->qx P id o K s2:=
  λhK hany=>⟨.undef,s.H,s.next,same,hK,λs2 hs hH hN K hk=>hany s2 hs K (by rw[<- hH,<- hN]at hk;exact hk)⟩
 cases hg:o.gd with
 | none=>
   unfold qx at h;rw[hg]at h;obtain ⟨v,H',n',h1,h2,h3⟩:=st h;refine⟨v,H',n',h1,h2,λs2 hs hH hN K hk=>?_⟩;unfold qx;rw[hg];exact h3 s2 hs hH hN K hk
 | some g=>
   obtain ⟨t,want⟩:=g;unfold qx at h;rw[hg]at h;simp only at h;have gd:∀s2:St,qX o s s2->s2.f t=s.f t:=λs2 hs=>hs.gd hg;split at h
   . rename_i b hb;by_cases e:b=want
     . obtain ⟨v,H',n',h1,h2,h3⟩:=st (h.1 e);refine⟨v,H',n',h1,h2,λs2 hs hH hN K hk=>?_⟩;unfold qx;rw[hg];simp only[gd s2 hs,hb];exact⟨λ_=>h3 s2 hs hH hN K hk,λne=>absurd e ne⟩
     . refine idle (h.2 e) λs2 hs K hk=>?_;unfold qx;rw[hg];simp only[gd s2 hs,hb];exact⟨λe'=>absurd e' e,λ_=>hk⟩
   . rename_i hb;refine idle h λs2 hs K hk=>?_;unfold qx;rw[hg];simp only[gd s2 hs,hb];exact hk
   . exact h.elim
theorem qeu{H:Nat->Option MObj}{n:Nat}{d:Option Nat}{v:V}:({s.put d v with H:=H,next:=n}:St)=({s with H:=H,next:=n}:St).put d v:=by unfold St.put;cases d<;>rfl
theorem qn4[Glob P]{vi:Option Cls}(hap:QD oj oi=true)
(hcj:zN vj oj.op=oj.cls)(hci:zN vi oi.op=oi.cls)(cj:oj.cls=.k z)(ci:oi.cls=.l z)(hli:j6 oi.op=true)
(sb:∀ag n t idp k off,oi.op=.load ag n (.t t)->s.f t=.ptr idp k off->idp<s.next)
(h:qx P pj oj (qx P pi oi K) s):qx P pi oi (qx P pj oj K) s:=by
 obtain ⟨a1,a2,a3⟩:=jL hap;obtain ⟨v,H',n',hk,hK,any⟩:=qdp hcj cj h;have hsame:qX oi s (({s with H:=H',next:=n'}:St).put oj.dst v):=qX.put (λ_ _=>rfl) a1;obtain ⟨u,E,need,oi1,ki,hK2⟩:=K8 rfl hci (by rw[ci];exact .inr (.inr (.inr (.inr (.inl ⟨z,rfl⟩))))) hli hK;have hE:E=(λH=>H)/\need s.H:=by
  rw[ci]at ki;cases ki with
  |idle=>exact⟨rfl,trivial⟩
  | loadL _ ag n t idp k off hop hp sz es ro ho hl=>
    refine⟨rfl,?_⟩;have ht:t∈oi.looks:=List.mem_append_left _ (List.mem_filterMap.2 ⟨.t t,by rw[hop];simp[EOp.opds],rfl⟩);have hp':s.f t=.ptr idp k off:=(hsame t ht).symm.trans hp;rw[ku]at ho ⊢;exact((hk.2.2 idp _ (sb _ _ _ _ _ _ hop hp') hl).2 ho).trans ho.symm
 obtain ⟨rfl,hn⟩:=hE;refine oi1.any s hsame.symm hn _ ?_;refine any _ (qX.put (λ_ _=>rfl) a3) (by rw[ku]) (by rw[jI]) K ?_;have e:(({({s with H:=s.H}:St).put oi.dst u with H:=H',next:=n'}:St).put oj.dst v)=
  (({({s with H:=H',next:=n'}:St).put oj.dst v with H:=(({s with H:=H',next:=n'}:St).put oj.dst v).H}:St).put oi.dst u):=by
  rw[qeu];exact put_comm (λd h1 h2=>a2 d h2 h1)
 rw[e];exact hK2
theorem qmZ[Glob P]{vi:Option Cls}(fr:∀id,s.next<=id->s.H id=none)(hap:QD oj oi=true)
(hcj:zN vj oj.op=oj.cls)(hci:zN vi oi.op=oi.cls)(cj:oj.cls=.l z)(ci:oi.cls=.k z)(hlj:j6 oj.op=true)
(h:qx P pj oj (qx P pi oi K) s):qx P pi oi (qx P pj oj K) s:=by
 obtain ⟨a1,a2,a3⟩:=jL hap;obtain ⟨v,Ej,nj,oj1,kj,h⟩:=K8 rfl hcj (by rw[cj];exact .inr (.inr (.inr (.inr (.inl ⟨z,rfl⟩))))) hlj h;have hE:Ej=(λH=>H)/\∀H' n',qf2 z s.next n' s.H H'->nj H':=by
  rw[cj]at kj;cases kj with
  |idle=>exact⟨rfl,λ_ _ _=>trivial⟩
  |loadL _ ag n t idp k off h hp sz es ro ho hl=>exact⟨rfl,λH' n' hk=>((hk.2.2 _ _ (Nat.lt_of_not_le λe=>by rw[fr _ e]at ho;cases ho) hl).1 ho).trans ho.symm⟩
 obtain ⟨rfl,hn⟩:=hE;have hH:(({s with H:=s.H}:St).put oj.dst v).H=s.H:=ku _ _ _;have hN:(({s with H:=s.H}:St).put oj.dst v).next=s.next:=jI _ _ _;have hsame:qX oi s (({s with H:=s.H}:St).put oj.dst v):=qX.put (λ_ _=>rfl) a1;obtain ⟨u,H',n',hk,hK,any⟩:=qdp hci ci h;rw[hH,hN]at hk;refine any s hsame.symm hH.symm hN.symm _ ?_;refine oj1.any (({s with H:=H',next:=n'}:St).put oi.dst u) (qX.put (λ_ _=>rfl) a3) (by rw[ku];exact hn _ _ hk) _ ?_;have e:(({({s with H:=H',next:=n'}:St).put oi.dst u with H:=(({s with H:=H',next:=n'}:St).put oi.dst u).H}:St).put oj.dst v)=(({(({s with H:=s.H}:St).put oj.dst v)with H:=H',next:=n'}:St).put oi.dst u):=by have e2:({(({s with H:=s.H}:St).put oj.dst v)with H:=H',next:=n'}:St)=({s with H:=H',next:=n'}:St).put oj.dst v:=qeu;rw[e2];exact(put_comm a2).symm
 rw[e];exact hK
structure Free(oj oi:Ins):Prop where
 apart:QD oj oi=true
 cj:∃v,zN v oj.op=oj.cls
 ci:∃v,zN v oi.op=oi.cls
 ok:Xe oj.cls oi.cls=true
 lj:j6 oj.op=true
 li:j6 oi.op=true
theorem swap[Glob P](hf:Free oj oi)(fr:((∃z,oi.cls=.v z)\/ ∃z,oi.cls=.k z)->∀id,s.next<=id->s.H id=none)(hne:pj≠pi)(fj:s.H pj=none)(fi:s.H pi=none)
(sc:∀ag n t idp k off,oi.op=.load ag n (.t t)->s.f t=.ptr idp k off->idp≠pj)(sb:∀ag n t idp k off,oi.op=.load ag n (.t t)->s.f t=.ptr idp k off->idp<s.next)
(h:qx P pj oj (qx P pi oi K) s):qx P pi oi (qx P pj oj K) s:=by
 obtain ⟨vj,hcj⟩:=hf.cj;obtain ⟨vi,hci⟩:=hf.ci;by_cases hj:oj.cls=.n
 . exact qnT hf.apart (hcj.trans hj) h
 by_cases hi:oi.cls=.n
 . exact qh7 hf.apart (hci.trans hi) h
 have hok:=hf.ok;by_cases hv:(∃z,oi.cls=.v z)\/ ∃z,oi.cls=.k z
 . have:∃z,oj.cls=.l z/\(oi.cls=.v z\/oi.cls=.k z):=by
    rcases hv with ⟨z,hv⟩|⟨z,hv⟩<;>rw[hv]at hok ⊢ <;>refine⟨z,?_,by simp⟩<;>cases hjc:oj.cls<;>simp[hjc,Xe]at hok hj ⊢ <;>exact hok
   have fr:=fr hv;obtain ⟨z,hl,hv|hv⟩:=this
   . exact qqL fr hf.apart hcj hci hl hv hf.lj h
   . exact qmZ fr hf.apart hcj hci hl hv hf.lj h
 by_cases hk:∃z,oj.cls=.k z
 . obtain ⟨z,hk⟩:=hk;rw[hk]at hok;have hl:oi.cls=.l z:=by
    cases hic:oi.cls<;>simp[hic,Xe]at hok hi ⊢;exact hok.symm
   exact qn4 hf.apart hcj hci hk hl hf.li sb h
 have big:∀(x y:Cls),x≠ .n->y≠ .n->(¬((∃z,y=.v z)\/ ∃z,y=.k z))->(¬∃ z,x=.k z)->Xe x y=true->Big x/\Big y:=by intro x y hx hy hyv hxk h;unfold Big;cases x<;>cases y<;>simp_all [Xe]
 obtain ⟨b1,b2⟩:=big _ _ hj hi hv hk hok;exact qjg hne fj fi hf.apart hcj hci hok b1 b2 hf.lj hf.li sc h
end Go.E

namespace Go.E
theorem qga{x y:Ins}(h:qkY x y=true)(hx:∃v,zN v x.op=x.cls)(hy:∃v,zN v y.op=y.cls):Free x y:=by unfold qkY at h;simp only[Bool.and_eq_true]at h;exact⟨h.1.1.1,hx,hy,h.1.1.2,h.1.2,h.2⟩
variable {K K':St->Prop}
theorem XG{P:Program}[Glob P]{id:Nat}{o:Ins}(h:∀s,K s->K' s){s:St}(hh:qx P id o K s):qx P id o K' s:=Ke.insStep_imp h hh
theorem qaT{P:Program}[Glob P]{id:Nat}{o:Ins}{s:St}(hc:∃v,zN v o.op=o.cls)(hl:j6 o.op=true)(hw:o.cls≠ .w)(hv:∀z,o.cls≠ .v z)(hk:∀z,o.cls≠ .k z)
(h:∀s1,s1.next=s.next->(∀t,o.dst≠some t->s1.f t=s.f t)->(∀k,k≠id->s.H k=none->s1.H k=none)->K s1->K' s1)(hh:qx P id o K s):qx P id o K' s:=by
 obtain ⟨ov,hc⟩:=hc;by_cases hn:o.cls=.n
 . rw[kz (hc.trans hn)]at hh ⊢;obtain ⟨v,hv,hK⟩:=(qy _ _).1 hh;exact(qy _ _).2 ⟨v,hv,h _ (jI _ _ _) (λt ht=>Ya ht) (λk _ hk=>by rw[ku];exact hk) hK⟩
 . have hr:Big o.cls:=by
    have:=qoC hc;unfold Big;cases ho:o.cls<;>simp[ho]at hn hw hv hk this ⊢
   obtain ⟨c,hcc⟩:∃c,o.cls=c:=⟨_,rfl⟩;obtain ⟨v,E,need,h1,h2,h3⟩:=K8 hcc (hc.trans hcc) (by rw[<- hcc];exact hr) hl hh;refine h1.any s (qX.refl _ _) h1.at_ _ (h _ (jI _ _ _) (λt ht=>Ya ht) (λk hk hs=>?_) h3);rw[ku];cases h2 with
   |idle=>exact hs
   |load=>exact hs
   |loadL=>exact hs
   |sto z idp sz es es' ho hl hl'=>exact(qo _ _ (λe=>by rw[e,ho]at hs;cases hs)).trans hs
   |lent=>exact hs
   |made=>exact(qo _ _ hk).trans hs
   |app=>exact(qo _ _ hk).trans hs
   | appK id0 fin kk h0=>
     show ze (ze s.H id0 none) id _ k=none;rw[qo _ _ hk];by_cases e:k=id0
     . rw[e,qi]
     . rw[qo _ _ e];exact hs
theorem qeS{P:Program}[Glob P]{b0 i:Nat}{l:List Ins}{oi:Ins}{K:St->Prop}(hi:l[i]?=some oi){v:Option Cls}(hn:zN v oi.op=.n):∀(l1 l2:List Nat) (s:St),
 (∀j∈l1,∃oj,l[j]?=some oj/\QD oj oi=true)->Xc P b0 l K (l1++i::l2) s->qx P (b0+i) oi (Xc P b0 l K (l1++l2)) s
 |[],l2,s,_,h=>by simpa[Xc,hi]using h
 | j::l1,l2,s,hf,h=>by
   obtain ⟨oj,hj,hfj⟩:=hf j (by simp);simp only[List.cons_append,Xc,hj]at h;have ih:=qeS (K:=K) (P:=P) (b0:=b0) hi hn l1 l2;have h2:=XG (λs' hs'=>ih s' (λk hk=>hf k (by simp[hk])) hs') h;have h3:=qh7 hfj hn h2;have e:Xc P b0 l K ((j::l1)++l2)=qx P (b0+j) oj (Xc P b0 l K (l1++l2)):=by funext s';simp[Xc,hj]
   rw[e];exact h3
variable {i:Nat}
theorem bubble{P:Program}[Glob P]{b0:Nat}{l:List Ins}{oi:Ins}(hi:l[i]?=some oi)(hci:∃v,zN v oi.op=oi.cls):∀(l1 l2:List Nat) (s:St),l1.Nodup->i ∉ l1->
 (∀j∈l1,∃oj,l[j]?=some oj/\Free oj oi)->(((∃z,oi.cls=.v z)\/ ∃z,oi.cls=.k z)->∀id,s.next<=id->s.H id=none)->(∀j∈l1,b0+j<s.next)->(∀j∈l1,s.H (b0+j)=none)->b0+i<s.next->s.H (b0+i)=none->
 (∀ag n t idp k off,oi.op=.load ag n (.t t)->s.f t=.ptr idp k off->idp<s.next/\∀j∈l1,idp≠b0+j)->
 Xc P b0 l K (l1++i::l2) s->qx P (b0+i) oi (Xc P b0 l K (l1++l2)) s:=by
 intro l1;obtain ⟨vi,hci'⟩:=hci;by_cases hn:oi.cls=.n
 . intro l2 s _ _ hf _ _ _ _ _ _ h;exact qeS hi (hci'.trans hn) l1 l2 s (λj hj=>let ⟨oj,h1,h2⟩:=hf j hj;⟨oj,h1,h2.apart⟩) h
 induction l1 with
 |nil=>intro l2 s _ _ _ _ _ _ _ _ _ h;simpa[Xc,hi]using h
 | cons j l1 ih=>
   intro l2 s hnd hnot hf fr flt hH hil hHi sc h;obtain ⟨oj,hj,hfj⟩:=hf j (by simp);have hji:j≠i:=λe=>hnot (by simp[e]);have hw:oj.cls≠ .w:=λe=>by have:=hfj.ok;rw[e]at this;cases hc:oi.cls<;>simp[hc,Xe]at this hn
   have hv:∀z,oj.cls≠ .v z:=λz e=>by have:=hfj.ok;rw[e]at this;cases hc:oi.cls<;>simp[hc,Xe]at this hn
   have ha:=jL hfj.apart;simp only[List.cons_append,Xc,hj]at h;have next:∀s1:St,s.next<=s1.next->(((∃z,oi.cls=.v z)\/ ∃z,oi.cls=.k z)->∀id,s1.next<=id->s1.H id=none)->(∀t,oj.dst≠some t->s1.f t=s.f t)->(∀k,k≠b0+j->k<s.next->s.H k=none->s1.H k=none)->s1.H (b0+i)=none->
    Xc P b0 l K (l1++i::l2) s1->qx P (b0+i) oi (Xc P b0 l K (l1++l2)) s1:=by
    intro s1 hnx hfr hs1 hk hi1 hK;refine ih l2 s1 (List.nodup_cons.1 hnd).2 (λe=>hnot (by simp[e])) (λk hk=>hf k (by simp[hk])) hfr (λk hk=>by have:=flt k (by simp[hk]);omega) (λk hkm=>hk _ (λe=>?_) (flt k (by simp[hkm])) (hH k (by simp[hkm]))) o_ hi1 ?_ hK
    . have:k=j:=o_
      subst this;exact(List.nodup_cons.1 hnd).1 hkm
    . intro ag n t idp k off hop hp;have ht:t∈oi.looks:=List.mem_append_left _ (List.mem_filterMap.2 ⟨.t t,by rw[hop];simp[EOp.opds],rfl⟩);rw[hs1 t (λe=>ha.1 t e ht)]at hp;have:=sc ag n t idp k off hop hp;exact⟨o_,λm hm=>this.2 m (by simp[hm])⟩
   have h2:qx P (b0+j) oj (qx P (b0+i) oi (Xc P b0 l K (l1++l2))) s:=by
    by_cases hkj:∃z,oj.cls=.k z
    . obtain ⟨z,hkj⟩:=hkj;obtain ⟨vj,hcj⟩:=hfj.cj;obtain ⟨v,H',n',hkk,hK,any⟩:=qdp hcj hkj h;refine any s (qX.refl _ _) rfl rfl _ (next _ ?_ ?_ (λt ht=>Ya ht) ?_ ?_ hK)
      . rw[jI];exact hkk.1
      . intro e;have:=hfj.ok;rw[hkj]at this;rcases e with ⟨y,e⟩|⟨y,e⟩<;>rw[e]at this<;>simp[Xe]at this
      . intro k _ hk1 hk2;rw[ku];exact hkk.2.1 k hk1 hk2
      . rw[ku];exact hkk.2.1 _ hil hHi
    . exact qaT (K':=qx P (b0+i) oi (Xc P b0 l K (l1++l2))) hfj.cj hfj.lj hw hv (λz e=>hkj ⟨z,e⟩) (λs1 hnx hs1 hk hK=>next s1 o_ (λe id hid=>hk _ (λe=>by have:=flt j (by simp);omega) (fr e id o_)) hs1 (λk h1 _ h2=>hk k h1 h2) (hk _ (λe=>hji o_) hHi) hK) h
   have h3:=swap hfj fr o_ (hH j (by simp)) hHi (λag n t idp k off hop hp=>(sc ag n t idp k off hop hp).2 j (by simp)) (λag n t idp k off hop hp=>(sc ag n t idp k off hop hp).1) h2;have e:Xc P b0 l K ((j::l1)++l2)=qx P (b0+j) oj (Xc P b0 l K (l1++l2)):=by funext s';simp[Xc,hj]
   rw[e];exact h3
theorem qeV:∀(r:List Oper) (acc:List (List Nat)),(∀i,i<acc.length->(qjB acc r)[i]?=acc[i]?)/\
 ∀(i:Nat) o,r[i]?=some o->∀j,j∈(qjB acc r).getD (acc.length+i) []->∃p∈X3 o,j=p\/(p<acc.length+i/\j∈(qjB acc r).getD p [])
 |[],acc=>⟨λ_ _=>rfl,λi o h=>by simp at h⟩
 | o :: r, acc=>by
   obtain ⟨h1,h2⟩:=qeV r (acc++[((X3 o).flatMap λp=>p::acc.getD p []).eraseDups]);simp only[qjB];refine⟨λi hi=>?_,λi o' ho j hj=>?_⟩
   . rw[h1 i so_,List.getElem?_append_left hi]
   . cases i with
     | zero=>
       simp at ho;subst ho;have e:(qjB (acc++[((X3 o).flatMap λp=>p::acc.getD p []).eraseDups]) r).getD (acc.length+0) []=((X3 o).flatMap λp=>p::acc.getD p []).eraseDups:=by rw[List.getD_eq_getElem?_getD,Nat.add_zero,h1 acc.length (by simp)];simp
       rw[e]at hj;obtain ⟨p,hp,hj⟩:=List.mem_flatMap.1 (List.mem_eraseDups.1 hj);refine⟨p,hp,?_⟩;rcases List.mem_cons.1 hj with rfl|hj
       . exact .inl rfl
       . right;by_cases hlt:p<acc.length
         . refine⟨hlt,?_⟩;rw[List.getD_eq_getElem?_getD,h1 p so_,List.getElem?_append_left hlt,<- List.getD_eq_getElem?_getD];exact hj
         . rw[List.getD_eq_getElem?_getD,List.getElem?_eq_none o_]at hj;simp at hj
     | succ i=>
       have e:acc.length+(i+1)=(acc++[((X3 o).flatMap λp=>p::acc.getD p []).eraseDups]).length+i:=so_;rw[e]at hj;obtain ⟨p,hp,h⟩:=h2 i o' (by simpa using ho) j hj;refine⟨p,hp,h.imp id λh=>⟨by simp at h;omega,h.2⟩⟩
def Jo(size:Nat)(listed:Array Bool):List Nat:=(List.range size).filter λj=> !listed.getD j true
variable {listed:Array Bool}
theorem YQ{size:Nat}(hi:i<size)(hl:listed.getD i true=false):
 ∃l1 l2,Jo size listed=l1++i::l2/\Jo size (listed.setIfInBounds i true)=l1++l2/\(∀j∈l1,j<i/\listed.getD j true=false)/\l1.Nodup:=by
 have hr:List.range size=List.range' 0 i++i::List.range' (i+1) (size - i - 1):=by rw[List.range_eq_range',show size=i+(1+(size - i - 1)) by omega,<- List.range'_append_1,<- List.range'_append_1];simp
 refine⟨(List.range' 0 i).filter λj=> !listed.getD j true,(List.range' (i+1) (size - i - 1)).filter λj=> !listed.getD j true,?_,?_,λj hj=>?_,?_⟩
 . unfold Jo;rw[hr,List.filter_append,List.filter_cons,hl];simp
 . unfold Jo;rw[hr,List.filter_append,List.filter_cons]
   have:(listed.setIfInBounds i true).getD i true=true:=by simp[Array.getD_eq_getD_getElem?,Array.getElem?_setIfInBounds];split<;>simp
   rw[this];simp only[Bool.not_true,Bool.false_eq_true,if_false];congr 1
   . apply List.filter_congr;intro j hj
     have:j<i:=by simpa using hj
     rw[getD_set_ne true (show i≠j by omega)]
   . apply List.filter_congr;intro j hj
     have:i+1<=j:=by have:=List.mem_range'_1.1 hj;omega
     rw[getD_set_ne true (show i≠j by omega)]
 . obtain ⟨h1,h2⟩:=List.mem_filter.1 hj
   have:j<i:=by simpa using h1
   exact⟨this,by simpa using h2⟩
 . exact List.Pairwise.filter _ List.nodup_range'
theorem qbs{j:Nat}:(listed.setIfInBounds i true).getD j true=false↔listed.getD j true=false/\j≠i:=by
 by_cases h:i=j
 . subst h
   have:(listed.setIfInBounds i true).getD i true=true:=by simp[Array.getD_eq_getD_getElem?,Array.getElem?_setIfInBounds];split<;>simp
   rw[this];simp
 . rw[getD_set_ne true h];simp[Ne.symm h]
section
variable {P : Program}[Glob P]{ρ : Ref}{n b0 : Nat}
theorem qfO{ops:Array Oper}{l:List Ins}(hal:Aligned P n ops l)(hcls:∀(i:Nat) (o:Ins),l[i]?=some o->∃v,zN v o.op=o.cls)(hd:qdS ops l=true){K:St->Prop}{Q:Exit->Act->World->Prop}
(hk:∀s' β' lim' a' w',Rel P ρ n s' β' lim' a' w'->K s'->Q .normal a' w'):∀(fuel:Nat) (listed:Array Bool) (s:St) (β:Nat->Option Loc) (lim:Nat->Option Nat) (a:Act) (w:World),listed.size=ops.size->
  (Jo ops.size listed).length=fuel->(∀i j,i<ops.size->listed.getD i true=true->j∈(qjB [] ops.toList).getD i []->listed.getD j false=true)->
  RelG P ρ n b0 (λj=>j<ops.size/\listed.getD j true=false) s β lim a w->Xc P b0 l K (Jo ops.size listed) s->wpAny P .any ops Q fuel listed a w:=by
 have hdraw:∀i,i<ops.size->(∀p∈((ops[i]?).map X3).getD [],p<i)/\∀j,j<i->j∈(qjB [] ops.toList).getD i []\/ ∃x y,l[j]?=some x/\l[i]?=some y/\qkY x y=true:=by
  intro i hi;unfold qdS at hd;have:=List.all_eq_true.1 hd i (List.mem_range.2 hi);simp only[Bool.and_eq_true,List.all_eq_true,decide_eq_true_eq,List.mem_range,Bool.or_eq_true,List.contains_iff_mem]at this;refine⟨this.1,λj hj=>?_⟩;rcases this.2 j hj with h|h
  . exact .inl h
  . right;split at h
    . rename_i x y hx hy;exact⟨x,y,hx,hy,h⟩
    . cases h
 have hbef:∀i,i<ops.size->∀j,j∈(qjB [] ops.toList).getD i []->∃p∈((ops[i]?).map X3).getD [],j=p\/j∈(qjB [] ops.toList).getD p []:=by intro i hi j hj;have ho:ops[i]?=some ops[i]:=Array.getElem?_eq_getElem hi;have:=(qeV ops.toList []).2 i ops[i] (by simp[hi]) j (by simpa using hj);obtain ⟨p,hp,h⟩:=this;exact⟨p,by rw[ho];exact hp,h.imp id (·.2)⟩
 have hready:∀(listed:Array Bool) (i:Nat),i∈Region.ready .any ops listed->i<ops.size/\listed.getD i true=false/\∀p∈((ops[i]?).map X3).getD [],listed.getD p false=true:=by intro listed i hi;obtain ⟨h1,o,ho,h2⟩:=mem_ready.1 hi;refine⟨(Array.getElem?_eq_some_iff.1 ho).1,h1,λp hp=>?_⟩;rw[ho]at hp;simp only[Option.map_some,Option.getD_some,X3,List.mem_map,List.mem_filter]at hp;obtain ⟨e,⟨he,hb⟩,rfl⟩:=hp;exact h2 e (by simpa using he) hb
 intro fuel
 induction fuel with
 | zero=>
   intro listed s β lim a w hsz hlen hcl hr h;have hnil:Jo ops.size listed=[]:=List.eq_nil_of_length_eq_zero hlen;refine⟨?_,?_⟩
   . cases hrd:Region.ready .any ops listed with
     |nil=>rfl
     | cons i r=>
       obtain ⟨h1,h2,_⟩:=hready listed i (by rw[hrd];simp)
       have:i∈Jo ops.size listed:=List.mem_filter.2 ⟨List.mem_range.2 h1,by simp[h2]⟩
       rw[hnil]at this;cases this
   . rw[hnil]at h;exact hk s β lim a w hr.toRel h
 | succ fuel ih=>
   intro listed s β lim a w hsz hlen hcl hr h;refine⟨λhnone=>?_,λi hi=>?_⟩
   ·
    exfalso;cases hrem:Jo ops.size listed with
    |nil=>rw[hrem]at hlen;simp at hlen
    | cons i r=>
      have hi:i∈Jo ops.size listed:=(by rw[hrem];simp);obtain ⟨h1,h2⟩:=List.mem_filter.1 hi;have hlt:=List.mem_range.1 h1;have hun:listed.getD i true=false:=(by simpa using h2);have hmin:∀p,p<i->listed.getD p false=true:=by
       intro p hp;have hps:p<listed.size:=o_;cases hpl:listed.getD p true with
       |true=>simp[Array.getD_eq_getD_getElem?,hps]at hpl ⊢;exact hpl
       | false=>
         obtain ⟨l1,l2,e1,_,e3,_⟩:=YQ (listed:=listed) hlt hun;have hpm:p∈Jo ops.size listed:=List.mem_filter.2 ⟨List.mem_range.2 o_,by simp[hpl]⟩
         have:l1=[]:=by
          cases l1 with
          |nil=>rfl
          | cons x l1=>
            rw[hrem]at e1;simp at e1;have:=(e3 x (by simp)).1;omega
         subst this;rw[hrem]at hpm e1;rcases List.mem_cons.1 hpm with rfl|hpm
         . omega
         . have hsorted:(Jo ops.size listed).Pairwise (· < ·):=List.Pairwise.filter _ (List.pairwise_lt_range);rw[hrem]at hsorted;have:=(List.pairwise_cons.1 hsorted).1 p hpm;omega
      have:i∈Region.ready .any ops listed:=by refine mem_ready.2 ⟨hun,ops[i],Array.getElem?_eq_getElem hlt,λe he hb=>hmin _ ?_⟩;refine(hdraw i hlt).1 e.on ?_;rw[Array.getElem?_eq_getElem hlt];simp only[Option.map_some,Option.getD_some,X3,List.mem_map,List.mem_filter];exact⟨e,⟨by simpa using he,hb⟩,rfl⟩
      rw[hnone]at this;cases this
   . obtain ⟨hlt,hun,hpre⟩:=hready listed i hi;obtain ⟨l1,l2,e1,e2,e3,e4⟩:=YQ (listed:=listed) hlt hun;have hli:i<l.length:=(by rw[hal.len];exact hlt);have ho:=List.getElem?_eq_getElem hli;rw[e1]at h;have hb:=bubble ho (hcls i _ ho) l1 l2 s e4 (λhm=>by have:=(e3 i hm).1;omega) (λj hj=>by
      obtain ⟨hji,hju⟩:=e3 j hj;rcases (hdraw i hlt).2 j hji with hbf|⟨x,y,hx,hy,hf⟩
      . exfalso;obtain ⟨p,hp,hjp⟩:=hbef i hlt j hbf;have hpl:=hpre p hp;have hps:p<ops.size:=(by have:=(hdraw i hlt).1 p hp;omega);have hjl:listed.getD j false=true:=by
         rcases hjp with rfl|hjp
         . exact hpl
         . refine hcl p j hps ?_ hjp
           have:p<listed.size:=o_
           simp[Array.getD_eq_getD_getElem?,this]at hpl ⊢;exact hpl
        have:j<listed.size:=o_
        simp[Array.getD_eq_getD_getElem?,this]at hjl hju;rw[hjl]at hju;cases hju
      . rw[ho]at hy;cases hy;exact⟨x,hx,qga hf (hcls j x hx) (hcls i _ ho)⟩)
      (λ_ id hid=>(hr.H.fresh id hid).2) (λj hj=>hr.top j ⟨by have:=(e3 j hj).1;omega,(e3 j hj).2⟩)
      (λj hj=>(hr.fresh j ⟨by have:=(e3 j hj).1;omega,(e3 j hj).2⟩).2) (hr.top i ⟨hlt,hun⟩) (hr.fresh i ⟨hlt,hun⟩).2
      (λag q t idp k off hop hp=>by
       have htn:t<n:=hal.tmp i _ ag q t ho hop;have hslot:=hr.F.slot t htn;rw[hp]at hslot;obtain ⟨lo,hβ,_⟩:=hslot.ptr_inv;refine⟨Nat.lt_of_not_le λe=>(by rw[(hr.H.fresh idp e).1]at hβ;cases hβ),λj hj e=>?_⟩;have hj':=hr.fresh j ⟨by have:=(e3 j hj).1;omega,(e3 j hj).2⟩;rw[e,hj'.1]at hβ;cases hβ) h
     refine K9 hal ho hr ⟨hlt,hun⟩ hb λs' β' lim' a' w' hr' hK=>?_;refine ih (listed.setIfInBounds i true) s' β' lim' a' w' (by simpa using hsz) ?_ ?_ (hr'.less λj hj=>?_) (by rw[e2];exact hK)
     . rw[e2];rw[e1]at hlen;simp at hlen ⊢;omega
     . intro k j hks hkl hj;by_cases hki:k=i
       . subst hki;obtain ⟨p,hp,hjp⟩:=hbef k hlt j hj;have hpl:=hpre p hp;have hps:p<ops.size:=(by have:=(hdraw k hlt).1 p hp;omega);apply getD_set_true;rcases hjp with rfl|hjp
         . exact hpl
         . refine hcl p j hps ?_ hjp
           have:p<listed.size:=o_
           simp[Array.getD_eq_getD_getElem?,this]at hpl ⊢;exact hpl
       . rw[getD_set_ne true (Ne.symm hki)]at hkl;exact getD_set_true (hcl k j hks hkl hj)
     . have:=qbs.1 hj.2;exact⟨⟨hj.1,this.1⟩,this.2⟩
end
end Go.E

namespace Go.E
section
variable {P : Program}[Glob P]{ρ : Ref}{n : Nat}{pol : Pol}
theorem Jd{id:Nat}{draw:Bool}{ops:Array Oper}:∀{i:Nat} {r:List Oper} {l:List Ins},ZQ P n pol id draw ops i r=some l->l.length=r.length/\
 ∀(k:Nat) o e,r[k]?=some o->l[k]?=some e->((∃mu,YK P n mu o=some e.op)/\e.dst=o.dst/\
  (match o.guard with|none=>e.gd=none|some (j,want)=>∃t,(ops[j]?).bind (·.dst)=some t/\t<n/\e.gd=some (t,want)))/\
  qhk n e.op=true/\(draw=true->∃v,zN v e.op=e.cls)
 |i,[],l,h=>by simp[ZQ]at h;subst h;simp
 | i, o ::r,l,h=>by
   simp only[ZQ,Option.bind_eq_bind,Option.bind_eq_some_iff,Option.pure_def,Option.some.injEq,qE,Bool.and_eq_true]at h;obtain ⟨e,he,_,⟨hd,hlt⟩,gd,hgd,l',hl',rfl⟩:=h;obtain ⟨h1,h2⟩:=Jd hl';refine⟨by simp[h1],λk o' e' ho he'=>?_⟩;cases k with
   | zero=>
     simp at ho he';subst ho;subst he';refine⟨⟨⟨_,he⟩,rfl,?_⟩,hlt,λhdr=>⟨pol.cl id i,by simp[hdr]⟩⟩;cases hg:o.guard with
     |none=>rw[hg]at hgd;simp only[Option.some.injEq]at hgd;exact hgd.symm
     | some g=>
       obtain ⟨j,want⟩:=g;rw[hg]at hgd;simp only[Option.bind_eq_some_iff]at hgd;obtain ⟨t,⟨o2,ho2,ht⟩,h3⟩:=hgd;split at h3
       . rename_i hlt2;cases h3;exact⟨t,by rw[ho2];exact ht,hlt2,rfl⟩
       . cases h3
   |succ k=>exact h2 k o' e' (by simpa using ho) (by simpa using he')
variable {ops:Array Oper}
theorem Yn{id:Nat}{draw:Bool}{l:List Ins}(h:ZQ P n pol id draw ops 0 ops.toList=some l):Aligned P n ops l:=by
 obtain ⟨h1,h2⟩:=Jd h;refine⟨by simpa using h1,λi o e ho he=>(h2 i o e (by simpa using ho) he).1,λi e ag q t he hop=>?_⟩;have hi:i<ops.size:=by have:=(List.getElem?_eq_some_iff.1 he).1;rw[h1]at this;simpa using this
 have:=(h2 i ops[i] e (by simp[hi]) he).2.1;rw[hop]at this;simpa[qhk]using this
theorem qdf{id:Nat}{l:List Ins}(h:ZQ P n pol id true ops 0 ops.toList=some l):∀(i:Nat) (o:Ins),l[i]?=some o->∃v,zN v o.op=o.cls:=by
 obtain ⟨h1,h2⟩:=Jd h;intro i o ho;have hi:i<ops.size:=by have:=(List.getElem?_eq_some_iff.1 ho).1;rw[h1]at this;simpa using this
 exact(h2 i ops[i] o (by simp[hi]) ho).2.2 rfl
variable {lim:Nat->Option Nat} {a:Act} {w:World}
theorem Rel.region{s:St}{β:Nat->Option Loc}(h:Rel P ρ n s β lim a w)(k:Nat){todo:Nat->Prop}(ht:∀j,todo j->j<k):
 RelG P ρ n s.next todo (s.bump k) β lim a w where
 F:=⟨h.F.size,h.F.slot,h.F.defers,h.F.glob⟩
 H:=h.H.later (Nat.le_add_right _ _)
 g:=h.g
 kβ:=h.kβ
 kH:=h.kH
 nx:=Nat.le_trans h.nx (Nat.le_add_right _ _)
 fresh:=λj _=>h.H.fresh _ (Nat.le_add_right _ _)
 top:=λj hj=>Nat.add_lt_add_left (ht j hj) _
 low:=h.nx
theorem Rel.drew{s:St}{β:Nat->Option Loc}(h:Rel P ρ n s β lim a w):Rel P ρ n s β lim a w.drew where
 F:=(vX h.H).1.RelF h.F rfl
 H:=(vX h.H).2
 g:=h.g.trans (vX h.H).1
 kβ:=h.kβ
 kH:=h.kH
 nx:=h.nx
theorem wp_loop_ghost{G:Type}{c:Code}{Q:Exit->Act->World->Prop}(I:G->Act->World->Prop)(μ:G->Nat){g:G}(h₀:I g a w)
(round:∀g a w,I g a w->c.wp P (Exit.then (λa' w'=>∃g',I g' a' w'/\μ g'<μ g) Q) a w):(Code.loop c).wp P Q a w:=by
 intro b k cs;have key:∀m g a w,μ g=m->I g a w->
  ∃e a' w',Q e a' w'/\Arrives P (lone (b.at a (.code c:: .inLoop c::k)) cs w) b k cs e a' w':=by
  intro m
  induction m using Nat.strongRecOn with
  | _ m ih=>
    intro g a w hn hI;obtain ⟨e,a₁,w₁,hq,harr⟩:=round g a w hI b (.inLoop c::k) cs;cases e with
    | normal=>
      obtain ⟨g',hI₁,hlt⟩:=hq;obtain ⟨e₂,a₂,w₂,hq₂,harr₂⟩:=ih (μ g') (hn ▸ hlt) g' a₁ w₁ rfl hI₁;exact⟨e₂,a₂,w₂,hq₂,.of_steps (Steps.trans harr (.one step_inLoop)) harr₂⟩
    |exit id=>exact⟨_,a₁,w₁,hq,.pass (x:= .inLoop c) rfl (λ_ _=>.inl (by simp)) harr⟩
    |goto l=>exact⟨_,a₁,w₁,hq,.pass (x:= .inLoop c) rfl (λ_ _=>.inl (by simp)) harr⟩
    |ret=>exact⟨_,a₁,w₁,hq,.pass (x:= .inLoop c) rfl (λ_ _=>.inl (by simp)) harr⟩
    |panic ch=>exact⟨_,a₁,w₁,hq,.pass (x:= .inLoop c) rfl (λ_ _=>.inl (by simp)) harr⟩
    |outgrown=>exact⟨_,a₁,w₁,hq,.pass (x:= .inLoop c) rfl (λ_ _=>.inl (by simp)) harr⟩
 obtain ⟨e,a',w',hq,harr⟩:=key _ g a w rfl h₀;exact⟨e,a',w',hq,.of_steps (.one step_loop) harr⟩
def After(P:Program)[Glob P](ρ:Ref)(n:Nat)(Q:Exit->St->Prop)(e:Exit)(a:Act)(w:World):Prop:= ∃s β lim,Rel P ρ n s β lim a w/\Q e s
theorem Jr:∀{c:Code} {ec:EC} {Q:Exit->St->Prop} {s:St} {β:Nat->Option Loc} {lim:Nat->Option Nat} {a:Act} {w:World},compile P n pol c=some ec->ewp P ec Q s->Rel P ρ n s β lim a w->
 c.wp P (After P ρ n Q) a w:=by
 intro c
 induction c with
 | skip=>
   intro ec Q s β lim a w hc h hr;simp only[compile,Option.some.injEq]at hc;subst hc;exact wp_skip ⟨s,β,lim,hr,h⟩
 | label l=>
   intro ec Q s β lim a w hc h hr;simp only[compile,Option.some.injEq]at hc;subst hc;exact wp_label ⟨s,β,lim,hr,h⟩
 | exit id=>
   intro ec Q s β lim a w hc h hr;simp only[compile,Option.some.injEq]at hc;subst hc;exact wp_exit ⟨s,β,lim,hr,h⟩
 | ret=>
   intro ec Q s β lim a w hc h hr;simp only[compile,Option.some.injEq]at hc;subst hc;exact wp_ret ⟨s,β,lim,hr,h⟩
 | region id ops draw=>
   intro ec Q s β lim a w hc h hr;simp only[compile,Option.bind_eq_bind,Option.bind_eq_some_iff,Option.pure_def,Option.some.injEq]at hc;obtain ⟨l,hl,hc⟩:=hc;have hal:=Yn hl;cases draw with
   | false=>
     have hc:EC.reg l=ec:=(by simpa using hc);subst hc;simp only[ewp]at h;have h2:=Ke P s.next l (Q .normal) l.length 0 l (by simp) rfl _ h;rw[hal.len]at h2;have hreg:=hr.region ops.size (todo:=λj=>0<=j/\j<ops.size) (λj hj=>hj.2);refine wp_region ?_;rw[List.range_eq_range'];exact VG hal (λs' β' lim' a' w' hr' hK=>⟨s',β',lim',hr',hK⟩) ops.size 0 _ β lim a w o_ hreg h2
   | true=>
     have hc':(ja (qdS ops l && P.follows .mixedOrders)).bind (λ_=>some (EC.reg l))=some ec:=(by simpa using hc);obtain ⟨_,hg,hc2⟩:=Option.bind_eq_some_iff.1 hc';obtain ⟨hd,hm⟩:=(Bool.and_eq_true _ _).mp (qE.1 hg);have hc:EC.reg l=ec:=(by simpa using hc2);subst hc;simp only[ewp]at h;have h2:=Ke P s.next l (Q .normal) l.length 0 l (by simp) rfl _ h;rw[hal.len,<- List.range_eq_range']at h2;have hrep:∀j,j<ops.size->(Array.replicate ops.size false).getD j true=false:=λj hj=>by simp[Array.getD_eq_getD_getElem?,hj]
     have hrem:Jo ops.size (Array.replicate ops.size false)=List.range ops.size:=by unfold Jo;rw[List.filter_eq_self];intro j hj;rw[hrep j (List.mem_range.1 hj)];rfl
     refine wp_region_any hm ?_;have hreg:=hr.drew.region ops.size (todo:=λj=>j<ops.size/\(Array.replicate ops.size false).getD j true=false) (λj hj=>hj.1);refine qfO hal (qdf hl) hd (λs' β' lim' a' w' hr' hK=>⟨s',β',lim',hr',hK⟩) ops.size _ _ β lim a _ (by simp) (by rw[hrem];simp) (λi j hi hl _=>?_) hreg (by rw[hrem];exact h2);rw[hrep i hi]at hl;cases hl
 | seq x y ihx ihy=>
   intro ec Q s β lim a w hc h hr;simp only[compile,Option.bind_eq_bind,Option.bind_eq_some_iff,Option.pure_def,Option.some.injEq]at hc;obtain ⟨x',hx,y',hy,rfl⟩:=hc;simp only[ewp]at h;refine wp_seq (wp_mono (ihx hx h hr) ?_);rintro e a' w' ⟨s',β',lim',hr',hQ⟩;cases e with
   |normal=>exact ihy hy hQ hr'
   | _=>exact⟨s',β',lim',hr',hQ⟩
 | cond c x y ihx ihy=>
   intro ec Q s β lim a w hc h hr;simp only[compile,Option.bind_eq_bind,Option.bind_eq_some_iff,Option.pure_def,Option.some.injEq]at hc;obtain ⟨c',hc',x',hx,y',hy,rfl⟩:=hc;simp only[ewp]at h;have hR:=zO hc' hr.F;split at h
   case h_2=>exact h.elim
   rename_i t ht;rw[ht]at hR;refine wp_cond_split hR.bool_inv (λe=>ihx hx (h.1 e) hr) (λe=>ihy hy (h.2 e) hr)
 | block id b ih=>
   intro ec Q s β lim a w hc h hr;simp only[compile,Option.bind_eq_bind,Option.bind_eq_some_iff,Option.pure_def,Option.some.injEq]at hc;obtain ⟨b',hb,rfl⟩:=hc;simp only[ewp]at h;refine wp_block (wp_mono (ih hb h hr) ?_);rintro e a' w' ⟨s',β',lim',hr',hQ⟩;cases e with
   | exit id'=>
     simp only[jT,Exit.inBlock]at hQ ⊢;split at hQ
     . rename_i he;rw[if_pos he];exact⟨s',β',lim',hr',hQ⟩
     . rename_i he;rw[if_neg he];exact⟨s',β',lim',hr',hQ⟩
   | _=>exact⟨s',β',lim',hr',hQ⟩
 | loop b ih=>
   intro ec Q s β lim a w hc h hr;simp only[compile,Option.bind_eq_bind,Option.bind_eq_some_iff,Option.pure_def,Option.some.injEq]at hc;obtain ⟨b',hb,rfl⟩:=hc;simp only[ewp]at h;obtain ⟨I,μ,h0,hround⟩:=h;refine wp_loop_ghost (λ(g:St) a w=>∃β lim,Rel P ρ n g β lim a w/\I g) μ (g:=s) ⟨β,lim,hr,h0⟩ ?_;rintro g a w ⟨β,lim,hr,hI⟩;refine wp_mono (ih hb (hround g hI) hr) ?_;rintro e a' w' ⟨s',β',lim',hr',hQ⟩;cases e with
   |normal=>exact⟨s',⟨β',lim',hr',hQ.1⟩,hQ.2⟩
   | _=>exact⟨s',β',lim',hr',hQ⟩
 |rangeFunc=>intro ec Q s β lim a w hc h hr;simp only[compile,Option.some.injEq]at hc;subst hc;exact h.elim
 |scope=>intro ec Q s β lim a w hc h hr;simp only[compile,Option.some.injEq]at hc;subst hc;exact h.elim
 |goto=>intro ec Q s β lim a w hc h hr;simp only[compile,Option.some.injEq]at hc;subst hc;exact h.elim
 |refuse=>intro ec Q s β lim a w hc h hr;simp only[compile,Option.some.injEq]at hc;subst hc;exact h.elim
end
end Go.E

namespace Go.E
def qb4(s:St):List (Sum Nat (Nat×Bool×Nat))->Option (List V)
 |[]=>some []
 |.inl t::r=>(qb4 s r).map (s.f t:: ·)
 |.inr (a,ag,n)::r=>(zw s ag n (s.f a)).bind λv=>(qb4 s r).map (v:: ·)
def one:List V->V
 |[v]=>v
 |vs=>.tup vs
def qcM(s:St)(l:List (Sum Nat (Nat×Bool×Nat))):Option V:=(qb4 s l).map one
def entry(args:List V)(H:Nat->Option MObj)(next:Nat):St:={f:=λi=>args.getD i .undef,H,next}
section
variable {P : Program}[Glob P]{ρ : Ref}{n : Nat}{pol : Pol}
theorem qba{s:St}{β:Nat->Option Loc}{lim:Nat->Option Nat}{a:Act}{w:World}(hr:Rel P ρ n s β lim a w):∀{rs:List ResultVar} {l:List (Sum Nat (Nat×Bool×Nat))} {vs:List V},
 kY P n rs=some l->qb4 s l=some vs->
 ∃xs:List Value,(rs.mapM λ(r:ResultVar)=>(match r with|.tmp t=>pure (a.tmps.getD t undef)|.cell a0 t=>do loadVar t (<- asAddr (a.tmps.getD a0 undef)):Sem Value)).run P w=.ok xs w/\
  xs.length=vs.length/\∀(i:Nat) v r,vs[i]?=some v->xs[i]?=some r->R β w lim v r
 | [],l,vs,hc,hv=>by simp[kY]at hc;subst hc;simp[qb4]at hv;subst hv;exact⟨[],by simp,rfl,by simp⟩
 | .tmp t::rs,l,vs,hc,hv=>by
   simp only[kY]at hc;split at hc
   case isFalse=>cases hc
   rename_i ht;obtain ⟨l',hl',rfl⟩:=Option.map_eq_some_iff.1 hc;simp only[qb4]at hv;obtain ⟨vs',hvs,rfl⟩:=Option.map_eq_some_iff.1 hv;obtain ⟨xs,h1,h2,h3⟩:=qba hr hl' hvs;refine⟨a.tmps.getD t undef::xs,by simp only[List.mapM_cons,Sem.run_bind,Sem.run_pure,Result.andThen_ok,h1],by simp[h2],λi v r hv hr'=>?_⟩;cases i with
   |zero=>simp only[List.getElem?_cons_zero,Option.some.injEq]at hv hr';subst hv;subst hr';exact hr.F.slot t ht
   |succ i=>exact h3 i v r (by simpa using hv) (by simpa using hr')
 | .cell a0 t::rs,l,vs,hc,hv=>by
   simp only[kY,Option.bind_eq_bind,Option.bind_eq_some_iff,qE,Bool.and_eq_true,decide_eq_true_eq,Bool.or_eq_true]at hc;obtain ⟨i,hi,ag,hag,_,⟨ha,hs⟩,hc⟩:=hc;obtain ⟨l',hl',rfl⟩:=Option.map_eq_some_iff.1 hc;simp only[qb4,Option.bind_eq_some_iff]at hv;obtain ⟨v0,hv0,hv⟩:=hv;obtain ⟨vs',hvs,rfl⟩:=Option.map_eq_some_iff.1 hv;obtain ⟨xs,h1,h2,h3⟩:=qba hr hl' hvs;have hR:=hr.F.slot a0 ha;obtain ⟨x,hx,hRx⟩:=qcl (P:=P) hr.H hi hag hs hR hv0;have hrun:(do loadVar t (<- asAddr (a.tmps.getD a0 undef)):Sem Value).run P w=.ok x w:=by
    have hp:∃p,a.tmps.getD a0 undef=.pointer (some p):=by
     unfold zw at hv0;split at hv0
     . rename_i he;rw[he]at hR;exact kC hR rfl
     . rename_i he;rw[he]at hR;exact kC hR rfl
     . cases hv0
    obtain ⟨p,hp⟩:=hp;rw[hp]at hx ⊢;simpa[Instr.loadAt,Instr.sureAddr,asAddr]using hx
   refine⟨x::xs,by simp only[List.mapM_cons,Sem.run_bind,Sem.run_pure]at hrun ⊢;rw[hrun];simp only[Result.andThen_ok,h1],by simp[h2],λi v r hv hr'=>?_⟩;cases i with
   |zero=>simp only[List.getElem?_cons_zero,Option.some.injEq]at hv hr';subst hv;subst hr';exact hRx
   |succ i=>exact h3 i v r (by simpa using hv) (by simpa using hr')
variable {fn:Func} {lim:Nat->Option Nat}
theorem YO{s:St}{β:Nat->Option Loc}{a:Act}{w:World}(hr:Rel P ρ n s β lim a w){l:List (Sum Nat (Nat×Bool×Nat))}{v:V}
(hc:kY P n fn.results.toList=some l)(hv:qcM s l=some v):∃r,(results fn a.tmps).run P w=.ok r w/\R β w lim v r:=by
 obtain ⟨vs,hvs,rfl⟩:=Option.map_eq_some_iff.1 hv;obtain ⟨xs,h1,h2,h3⟩:=qba hr hc hvs;unfold results;have hm:(fn.results.mapM λ(r:ResultVar)=>(match r with|.tmp t=>pure (a.tmps.getD t undef)|.cell a0 t=>do loadVar t (<- asAddr (a.tmps.getD a0 undef)):Sem Value)).run P w=.ok xs.toArray w:=by rw[<- Array.toArray_toList (xs:=fn.results)];rw[List.mapM_toArray,Sem.run_map,h1];rfl
 refine⟨if h:xs.toArray.size=1 then xs.toArray[0]else .tuple xs.toArray,?_,?_⟩
 . rw[Sem.run_bind]
   erw [hm]
   rfl
 . cases vs with
   | nil=>
     have:xs=[]:=List.eq_nil_of_length_eq_zero h2
     subst this;simp only[List.size_toArray,List.length_nil];exact .tup [] #[] rfl (by simp)
   | cons v0 vs=>
     cases vs with
     | nil=>
       obtain ⟨x,rfl⟩:=List.length_eq_one_iff.1 h2;simp[one];exact h3 0 v0 x rfl rfl
     | cons v1 vs=>
       have: ¬ xs.toArray.size=1:=by simp[h2]
       rw[dif_neg this];exact .tup _ _ (by simpa using h2) (λi c r hc hr=>h3 i c r hc (by simpa using hr))
variable {args:List V}
theorem qhg{ra:Array Value}{β:Nat->Option Loc}{w:World}{H:Nat->Option MObj}{next:Nat}(h:Rs β w lim args ra)(hn:args.length<=n)(hG:GOk P w lim):
 RelF P (entry args H next) β w lim n {tmps:=ra++Array.replicate (n - ra.size) undef,defers:=[]} where
 size:=by simp[h.1];omega
 slot:=λi hi=>by
  simp only[entry];by_cases hlt:i<args.length
  . have hr:i<ra.size:=(by rw[h.1];exact hlt);have e1:args.getD i .undef=args[i]:=(by simp[hlt]);have e2:(ra++Array.replicate (n - ra.size) undef).getD i undef=ra[i]:=by
     simp[Array.getD_eq_getD_getElem?,Array.getElem?_append_left hr,hr]
    rw[e1,e2];exact h.2 i _ _ (List.getElem?_eq_getElem hlt) (Array.getElem?_eq_getElem hr)
  . have e1:args.getD i .undef=.undef:=(by simp[List.getD_eq_getElem?_getD,List.getElem?_eq_none (Nat.le_of_not_lt hlt)]);have e2:(ra++Array.replicate (n - ra.size) undef).getD i undef=undef:=by
     rw[Array.getD_eq_getD_getElem?,Array.getElem?_append_right (by rw[h.1];omega)];simp[Array.getElem?_replicate];split<;>rfl
    rw[e1,e2];exact .undef
 defers:=rfl
 glob:=hG
variable {ef:EF}
theorem XC(h:qc P pol fn=some ef):∃b,fn.body=some b/\compile P fn.ntmps pol b=some ef.body/\kY P fn.ntmps fn.results.toList=some ef.res/\ef.n=fn.ntmps:=by simp only[qc,Option.bind_eq_bind,Option.bind_eq_some_iff,Option.pure_def,Option.some.injEq]at h;obtain ⟨b,hb,body,hbody,res,hres,_,_,rfl⟩:=h;exact⟨b,hb,hbody,hres,rfl⟩
def z8(ef:EF)(res:V)(e:Exit)(s:St):Prop:=(e=.normal\/e=.ret)/\∃v,qcM s ef.res=some v/\Er true s.H v res
theorem pure_intro{f:FuncId}{res:V}(hf:P.funcs[f]?=some fn)(hname:(fn.name == "runtime.NumGoroutine")=false)(hc:qc P pol fn=some ef)
(hlen:args.length<=ef.n)(h:ewp P ef.body (z8 ef res) (entry args (λ_=>none) 0)):Pure P f args res:=by
 obtain ⟨b,hb,hbody,hres,hn⟩:=XC hc;refine⟨⟨fn,hf,by rw[hb];rfl,hname⟩,λw lim ra hG hra=>?_⟩;refine calls_of_wp hf hb ?_;rw[hn]at hlen
 let ρ:Ref:={β:=noβ,lim,H:=λ_=>none,next:=0,w,base:=w.heap.size}
 have hH:RelH (λ_=>none) 0 noβ lim w.heap.size w:=⟨λ_ _=>⟨rfl,rfl⟩,λ_ _ h=>(by cases h),λ_ _ h=>(by cases h),λ_ _ _ _ _ _ h=>(by cases h),Nat.le_refl _⟩;have hr:Rel P ρ fn.ntmps (entry args (λ_=>none) 0) noβ lim {tmps:=ra++Array.replicate (fn.ntmps - ra.size) undef,defers:=[]} w:=
  ⟨qhg hra hlen hG,hH,Grows.refl _ _ _ _,λ_ _=>rfl,λ_ _ h=>h,Nat.le_refl _⟩
 refine wp_mono (Jr hbody h hr) ?_;rintro e a' w' ⟨s',β',lim',hr',he,v,hv,hE⟩;obtain ⟨r,h1,h2⟩:=YO hr' hres hv;have hS:Still true β' s'.H lim' (qfe lim w.heap.size):=⟨λb i hs=>by
  by_cases hlt:b<w.heap.size
  . have h0:lim' b=lim b:=hr'.g.old b hlt;unfold yP qfe at *;rw[if_pos hlt,<- h0];exact hs
  . unfold yP qfe;rw[if_neg hlt];trivial,λ_ _ _ _ _ l _ hb=>by unfold qfe;rw[if_neg (Nat.not_lt.2 (hr'.H.own _ l hb).1)],λ_ _ _ l _ hb=>by unfold qfe;rw[if_neg (Nat.not_lt.2 (hr'.H.own _ l hb).1)]⟩
 have hR:=Er.R hr'.H hS hE h2;have hfin:a'.defers=[]/\∃v,(results fn a'.tmps).run P w'=.ok v w'/\∃r,Ending.returned v=.returned r/\RowKit.Below w.heap.size w w'/\R noβ w' (qfe lim w.heap.size) res r:=
  ⟨hr'.F.defers,r,h1,r,rfl,hr'.g.below,hR⟩
 rcases he with rfl|rfl
 . exact hfin
 . exact hfin
theorem qdl{id:Nat}{o:Ins}{s:St}{K:St->Prop}(hh:qx P id o K s):∃s1,K s1:=let ⟨s1,v,_,h⟩:=XL hh;⟨_,h⟩
theorem qd6{b0:Nat}{Q:St->Prop}:∀{l:List Ins} {i:Nat} {s:St},Ze P b0 Q i l s->∃s',Q s'
 |[],i,s,h=>⟨s,h⟩
 | o::r,i,s,h=>by rw[YR]at h;obtain ⟨s1,h1⟩:=qdl h;exact qd6 h1
theorem qn0:∀{ec:EC} {Q:Exit->St->Prop} {s:St},ewp P ec Q s->∃e s',Q e s':=by
 intro ec
 induction ec with
 |skip=>intro Q s h;exact⟨_,_,h⟩
 |reg ops=>intro Q s h;obtain ⟨s',h'⟩:=qd6 h;exact⟨_,_,h'⟩
 | seq a b iha ihb=>
   intro Q s h;obtain ⟨e,s',h'⟩:=iha h;cases e with
   |normal=>exact ihb h'
   | _=>exact⟨_,_,h'⟩
 | cond c a b iha ihb=>
   intro Q s h;simp only[ewp]at h;split at h
   . rename_i t ht;cases t
     . exact ihb (h.2 rfl)
     . exact iha (h.1 rfl)
   . exact h.elim
 | block id b ih=>
   intro Q s h;obtain ⟨e,s',h'⟩:=ih h;cases e with
   | exit id'=>
     simp only[jT]at h';split at h'
     . exact⟨_,_,h'⟩
     . exact⟨_,_,h'⟩
   | _=>exact⟨_,_,h'⟩
 | loop b ih=>
   intro Q s h;obtain ⟨I,μ,h0,hround⟩:=h;have key:∀m s,μ s=m->I s->∃e s',Q e s':=by
    intro m
    induction m using Nat.strongRecOn with
    | _ m ihm=>
      intro s hm hI;obtain ⟨e,s',h'⟩:=ih (hround s hI);cases e with
      |normal=>exact ihm (μ s') (hm ▸ h'.2) s' rfl h'.1
      | _=>exact⟨_,_,h'⟩
   exact key _ s rfl h0
 |exit id=>intro Q s h;exact⟨_,_,h⟩
 |ret=>intro Q s h;exact⟨_,_,h⟩
 |stop=>intro Q s h;exact h.elim
def xW(ef:EF)(Q:V->(Nat->Option MObj)->Nat->Prop)(e:Exit)(s:St):Prop:=(e=.normal\/e=.ret)/\∃v,qcM s ef.res=some v/\Q v s.H s.next
theorem qaK{f:FuncId}{H:Nat->Option MObj}{next:Nat}{Q:V->(Nat->Option MObj)->Nat->Prop}(hf:P.funcs[f]?=some fn)
(hname:(fn.name == "runtime.NumGoroutine")=false)(hc:qc P pol fn=some ef)(hlen:args.length<=ef.n)(h:ewp P ef.body (xW ef Q) (entry args H next)):VF P f args H next Q:=by
 obtain ⟨b,hb,hbody,hres,hn⟩:=XC hc;obtain ⟨e,s0,_,v0,_,hQ0⟩:=qn0 h;refine⟨⟨⟨fn,hf,by rw[hb];rfl,hname⟩,_,_,_,hQ0⟩,λw β lim base ra hG hH hra=>?_⟩;refine calls_of_wp hf hb ?_;rw[hn]at hlen
 let ρ:Ref:={β,lim,H,next,w,base}
 have hr:Rel P ρ fn.ntmps (entry args H next) β lim {tmps:=ra++Array.replicate (fn.ntmps - ra.size) undef,defers:=[]} w:=
  ⟨qhg hra hlen hG,hH,Grows.refl _ _ _ _,λ_ _=>rfl,λ_ _ h=>h,Nat.le_refl _⟩
 refine wp_mono (Jr hbody h hr) ?_;rintro e a' w' ⟨s',β',lim',hr',he,v,hv,hQ⟩;obtain ⟨r,h1,h2⟩:=YO hr' hres hv;have hfin:a'.defers=[]/\∃v,(results fn a'.tmps).run P w'=.ok v w'/\∃r v_1 H' next' β' lim',Ending.returned v=.returned r/\Q v_1 H' next'/\RelH H' next' β' lim' base w'/\R β' w' lim' v_1 r/\
  (∀id l,β id=some l->β' id=some l)/\Ext lim w w'/\yj w lim lim'/\RowKit.Below base w w'/\next<=next'/\(∀j,j<next->β' j=β j)/\(∀j,j<next->H j=none->H' j=none)/\(∀b,b<base->lim' b=lim b):=
  ⟨hr'.F.defers,r,h1,r,v,s'.H,s'.next,β',lim',rfl,hQ,hr'.H,h2,hr'.g.β,hr'.g.ext,hr'.g.limLe,hr'.g.below,hr'.nx,hr'.kβ,hr'.kH,hr'.g.old⟩
 rcases he with rfl|rfl
 . exact hfin
 . exact hfin
end
end Go.E
