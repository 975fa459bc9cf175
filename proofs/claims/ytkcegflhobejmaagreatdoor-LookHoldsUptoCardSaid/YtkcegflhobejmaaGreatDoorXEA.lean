/-
  Part of a proof that a law of the given program answers true: contracts of its functions, and the law. Holds for inputs of at most 1048576 values and letters in all.
-/
import Derived.Calls
import Derived.Orders
import Derived.Below
import Derived.Scope
import Derived.Laws.Append
import Derived.Laws.CopyRow
import Derived.Laws.Rows
import Derived.Laws.Strings
import Derived.Laws.Small
import Derived.Laws.StructEq
import Derived.WideKeyRuns
import Derived.Laws.BytesArg
import Derived.Laws.Cells
import Derived.Laws.AppendOwn
namespace Go.E
theorem o_{p:Prop}(h:p:=by first|omega|exact True.intro):p:=h
theorem d_{p:Prop}(h:p:=by dsimp only;omega):p:=h
theorem fs_{p:Prop}(h:p:=by first|rfl|(simp[*];done)):p:=h
theorem ls_{p:Prop}(h:p:=by first|omega|(simp only[List.length_set];omega)):p:=h
theorem dc_{p:Prop}(h:p:=by decide):p:=h
theorem so_{p:Prop}(h:p:=by simp;omega):p:=h
theorem as_{p:Prop}(h:p:=by assumption):p:=h
inductive V where
 |undef
 |bool (b:Bool)
 |int (k:IntKind) (n:Int)
 |str (s:List UInt8)
 |agg (cs:List V)
 |tup (vs:List V)
 |sl (sz:Nat) (clip:Bool) (es:List V)
 |asl (id fin sz:Nat) (es:List V)
 |msl (id sz off len:Nat)
 |ptr (id i off:Nat)
 |iptr (sz:Nat) (e:V) (off:Nat)
 |nilp
 |fn (f:FuncId) (caps:List V)
 |nilfn
 |map (id:Nat)
 |nilmap
 |mp (l:List (Int×Int×Int))
 |mfn (f:FuncId) (x:V)
 |ifc (t:TypeId) (v:V)
 |nilifc
 deriving Inhabited
def V.cells:V->List V
 |.agg cs=>cs
 |v=>[v]
def V.scalar:V->Bool
 |.agg _ |.tup _ |.undef=>false
 | _=>true
structure Loc where
 b:Nat
 o:Nat
 size:Nat
def yP(lim:Nat->Option Nat)(b i:Nat):Prop:=match lim b with
 |none=>True
 |some n=>i<n
def zQ(w:World)(b:Nat):Nat:=match w.heap[b]? with
 |some (.cells cur _ _)=>cur.size
 | _=>0
def qfR(e:Int×Int×Int):Value×Value:=(.agg #[.int .i64 e.1,.int .i64 e.2.1],.int .i64 e.2.2)
inductive R(β:Nat->Option Loc)(w:World)(lim:Nat->Option Nat):V->Value->Prop
 |undef:R β w lim .undef Go.undef
 |bool (b:Bool):R β w lim (.bool b) (.bool b)
 |int (k:IntKind) (n:Int):R β w lim (.int k n) (.int k n)
 |str (s:List UInt8):R β w lim (.str s) (.string ⟨s.toArray⟩)
 |agg (cs:List V) (rs:Array Value) (hl:rs.size=cs.length) (hs:∀c∈cs,c.scalar=true)
  (h:∀(i:Nat) c r,cs[i]?=some c->rs[i]?=some r->R β w lim c r):R β w lim (.agg cs) (.agg rs)
 |tup (vs:List V) (rs:Array Value) (hl:rs.size=vs.length)
  (h:∀(i:Nat) c r,vs[i]?=some c->rs[i]?=some r->R β w lim c r):R β w lim (.tup vs) (.tuple rs)
 |sl0 (size:Nat) (clip:Bool) (a:Option Addr) (cap:Nat) (hc:clip=true->cap=0) (hm:cap<=maxLen):R β w lim (.sl size clip []) (.slice a 0 cap)
 |sl (size:Nat) (clip:Bool) (es:List V) (b o cap:Nat) (rv:Nat->Value) (hlen:0<es.length)
  (hst:∀j,j<es.length *size->yP lim b (o+j)/\w.cell? ⟨b,o+j,none⟩=some (rv j))
  (hsz:∀e∈es,e.cells.length=size/\∀c∈e.cells,c.scalar=true)
  (h:∀(i j:Nat) e c,es[i]?=some e->e.cells[j]?=some c->R β w lim c (rv (i *size+j)))
  (hcap:es.length<=cap) (hm:cap<=maxLen) (hc:clip=true->cap=es.length):
  R β w lim (.sl size clip es) (.slice (some ⟨b,o,none⟩) es.length cap)
 |aslClip (id fin size:Nat) (es:List V) (r:Value) (h:R β w lim (.sl size true es) r):R β w lim (.asl id fin size es) r
 |asl (id fin:Nat) (es:List V) (l:Loc) (cap:Nat) (rv:Nat->Value) (hβ:β id=some l) (hfin:es.length<=fin)
  (hst:∀j,j<es.length *l.size->yP lim l.b (l.o+(fin - es.length) *l.size+j)/\w.cell? ⟨l.b,l.o+(fin - es.length) *l.size+j,none⟩=some (rv j))
  (hsz:∀e∈es,e.cells.length=l.size/\∀c∈e.cells,c.scalar=true)
  (h:∀(i j:Nat) e c,es[i]?=some e->e.cells[j]?=some c->R β w lim c (rv (i *l.size+j)))
  (hcap:es.length<=cap) (hm:cap<=maxLen) (hrow:l.o+(fin - es.length+cap) *l.size<=zQ w l.b):
  R β w lim (.asl id fin l.size es) (.slice (some ⟨l.b,l.o+(fin - es.length) *l.size,none⟩) es.length cap)
 |msl0 (id size off:Nat) (a:Option Addr):R β w lim (.msl id size off 0) (.slice a 0 0)
 |msl (id off len:Nat) (l:Loc) (cap:Nat) (hβ:β id=some l) (hcap:len<=cap) (hm:cap<=maxLen)
  (hrow:l.o+(off+cap) *l.size<=zQ w l.b):
  R β w lim (.msl id l.size off len) (.slice (some ⟨l.b,l.o+off *l.size,none⟩) len cap)
 |ptr (id i off:Nat) (l:Loc) (hβ:β id=some l):R β w lim (.ptr id i off) (.pointer (some ⟨l.b,l.o+i *l.size+off,none⟩))
 |iptr (sz:Nat) (e:V) (off b o:Nat) (rv:Nat->Value)
  (hst:∀j,j<sz->yP lim b (o+j)/\w.cell? ⟨b,o+j,none⟩=some (rv j)) (hsz:e.cells.length=sz) (hs:∀c∈e.cells,c.scalar=true)
  (h:∀(j:Nat) c,e.cells[j]?=some c->R β w lim c (rv j)):R β w lim (.iptr sz e off) (.pointer (some ⟨b,o+off,none⟩))
 |nilp:R β w lim .nilp (.pointer none)
 |fn (f:FuncId) (caps:List V) (rs:Array Value) (hl:rs.size=caps.length)
  (h:∀(i:Nat) c r,caps[i]?=some c->rs[i]?=some r->R β w lim c r):R β w lim (.fn f caps) (.func (.func f) #[] rs)
 |nilfn:R β w lim .nilfn .nilFunc
 |mfn (f:FuncId) (x:V) (r:Value) (h:R β w lim x r):R β w lim (.mfn f x) (.func (.func f) #[r] #[])
 |map (id:Nat) (l:Loc) (hβ:β id=some l):R β w lim (.map id) (.map (some l.b))
 |nilmap:R β w lim .nilmap (.map none)
 |mp (l:List (Int×Int×Int)) (b:Nat) (es:Array MapEntry) (clock:Nat) (hs:lim b=none) (hb:w.heap[b]?=some (.map es clock)) (hes:es.toList.map (λe=>(e.key,e.val))=l.map qfR):R β w lim (.mp l) (.map (some b))
 |ifc (t:TypeId) (v:V) (r:Value) (h:R β w lim v r):R β w lim (.ifc t v) (.iface t r)
 |nilifc:R β w lim .nilifc .nilIface
structure Ext(lim:Nat->Option Nat)(w w':World):Prop where
 size:w.heap.size<=w'.heap.size
 row:∀(b:Nat) cur et fz,w.heap[b]?=some (.cells cur et fz)->
  ∃cur' et' fz',w'.heap[b]?=some (.cells cur' et' fz')/\cur'.size=cur.size/\∀i,yP lim b i->cur'[i]?=cur[i]?
 maps:∀(b:Nat) es c,lim b=none->w.heap[b]?=some (.map es c)->w'.heap[b]?=some (.map es c)
theorem Ext.refl(lim:Nat->Option Nat)(w:World):Ext lim w w:=⟨Nat.le_refl _,λ_ cur et fz h=>⟨cur,et,fz,h,rfl,λ_ _=>rfl⟩,λ_ _ _ _ h=>h⟩
def yj(w:World)(lim lim':Nat->Option Nat):Prop:= ∀b i,b<w.heap.size->yP lim b i->yP lim' b i
theorem yj.refl(w:World)(lim:Nat->Option Nat):yj w lim lim:=λ_ _ _ h=>h
variable {w:World} {lim lim':Nat->Option Nat} {b:Nat}
theorem yj.none(h:yj w lim lim')(hb:b<w.heap.size)(hn:lim b=none):lim' b=none:=by
 cases hl:lim' b with
 |none=>rfl
 | some n=>
   have:=h b n hb (by unfold yP;rw[hn];trivial);unfold yP at this;rw[hl]at this;exact absurd this (Nat.lt_irrefl _)
theorem Ext.trans{a b c:World}(h:Ext lim a b)(hl:yj a lim lim')(k:Ext lim' b c):Ext lim a c:=by refine⟨Nat.le_trans h.size k.size,λx cur et fz hx=>?_,λb es c hn hb=>k.maps b es c (hl.none (Array.getElem?_eq_some_iff.1 hb).1 hn) (h.maps b es c hn hb)⟩;obtain ⟨c1,et1,fz1,h1,s1,e1⟩:=h.row x cur et fz hx;obtain ⟨c2,et2,fz2,h2,s2,e2⟩:=k.row x c1 et1 fz1 h1;have hlt:x<a.heap.size:=(Array.getElem?_eq_some_iff.1 hx).1;exact⟨c2,et2,fz2,h2,s2.trans s1,λi hi=>(e2 i (hl x i hlt hi)).trans (e1 i hi)⟩
variable {w':World}
theorem Ext.zQ(h:Ext lim w w')(b:Nat):zQ w b<=zQ w' b:=by
 unfold Go.E.zQ;split
 . rename_i cur et fz hb;obtain ⟨c,_,_,hc,hs,_⟩:=h.row b cur et fz hb;rw[hc];simp[hs]
 . exact Nat.zero_le _
theorem Ext.cell(h:Ext lim w w'){i:Nat}{v:Value}(hs:yP lim b i)(hc:w.cell? ⟨b,i,none⟩=some v):
 w'.cell? ⟨b,i,none⟩=some v:=by
 unfold World.cell? at *;dsimp only at *;cases hb:w.heap[b]? with
 |none=>simp[hb]at hc
 | some ob=>
   cases ob<;>simp[hb]at hc;rename_i cur et fz;obtain ⟨c,_,_,hc',_,he⟩:=h.row b cur et fz hb;rw[hc'];simp[he i hs,hc]
theorem qdd{i:Nat}{v:Value}(hc:w.cell? ⟨b,i,none⟩=some v):b<w.heap.size:=block_lt_of_cell hc
theorem R.mono{β β':Nat->Option Loc}
(hβ:∀id l,β id=some l->β' id=some l)(hx:Ext lim w w')(hl:yj w lim lim'){v:V}{r:Value}(h:R β w lim v r):R β' w' lim' v r:=by
 induction h with
 |undef=>exact .undef
 |bool b=>exact .bool b
 |int k n=>exact .int k n
 |str s=>exact .str s
 |agg cs rs h1 h2 _ ih=>exact .agg cs rs h1 h2 ih
 |tup vs rs h1 _ ih=>exact .tup vs rs h1 ih
 |sl0 sz clip a cap h1 h2=>exact .sl0 sz clip a cap h1 h2
 | sl size clip es b o cap rv hlen hst hsz _ hcap hm hc ih=>
   exact .sl size clip es b o cap rv hlen (λj hj=>⟨hl _ _ (qdd (hst j hj).2) (hst j hj).1,hx.cell (hst j hj).1 (hst j hj).2⟩) hsz ih hcap hm hc
 |aslClip id fin sz es r _ ih=>exact .aslClip id fin sz es r ih
 | asl id fin es l cap rv h1 hfin hst hsz _ hcap hm hrow ih=>
   exact .asl id fin es l cap rv (hβ _ _ h1) hfin (λj hj=>⟨hl _ _ (qdd (hst j hj).2) (hst j hj).1,hx.cell (hst j hj).1 (hst j hj).2⟩) hsz ih hcap hm (Nat.le_trans hrow (hx.zQ _))
 |msl0 id sz off a=>exact .msl0 id sz off a
 |msl id off len l cap h1 hcap hm hrow=>exact .msl id off len l cap (hβ _ _ h1) hcap hm (Nat.le_trans hrow (hx.zQ _))
 |ptr id i off l h1=>exact .ptr id i off l (hβ _ _ h1)
 |iptr sz e off b o rv hst hsz hs _ ih=>exact .iptr sz e off b o rv (λj hj=>⟨hl _ _ (qdd (hst j hj).2) (hst j hj).1,hx.cell (hst j hj).1 (hst j hj).2⟩) hsz hs ih
 |nilp=>exact .nilp
 |fn f caps rs hl _ ih=>exact .fn f caps rs hl ih
 |nilfn=>exact .nilfn
 |mfn f x r _ ih=>exact .mfn f x r ih
 |map id l h1=>exact .map id l (hβ _ _ h1)
 |nilmap=>exact .nilmap
 |mp l b es c hs hb hes=>exact .mp l b es c (hl.none (Array.getElem?_eq_some_iff.1 hb).1 hs) (hx.maps _ _ _ hs hb) hes
 |ifc t v r _ ih=>exact .ifc t v r ih
 |nilifc=>exact .nilifc
theorem R.oneCell{β:Nat->Option Loc}{v:V}{r:Value}(h:R β w lim v r)(hs:v.scalar=true):r.oneCell'=true:=by
 induction h<;>first|rfl|(simp[V.scalar]at hs;done)|skip
 rename_i ih;exact ih rfl
end Go.E

namespace Go.E
inductive Opd where
 |t (n:Nat)
 |c (v:V)
 deriving Inhabited
inductive Cls where
 |n|r|b|a|t|w|any|l (z:Nat)|s (z:Nat)|v (z:Nat)|k (z:Nat)
 deriving DecidableEq,Inhabited
inductive EOp where
 |mov (x:Opd)
 |pick (c a b:Opd)
 |build (zero:List V) (parts:List (Nat×Nat×Opd))
 |load (agg:Bool) (n:Nat) (p:Opd)
 |nilck (x:Opd)
 |bin (op:BinOp) (x y:Opd)
 |eqb (neg:Bool) (x y:Opd)
 |eqp (neg:Bool) (x y:Opd)
 |eqnil (neg:Bool) (x:Opd)
 |eqagg (neg:Bool) (tags:List Nat) (x y:Opd)
 |un (op:UnOp) (x:Opd)
 |conv (k:IntKind) (x:Opd)
 |b2s (x:Opd)
 |by2s (x:Opd)
 |mkfn (f:FuncId) (caps:List Opd)
 |mkmfn (f:FuncId) (x:Opd)
 |mkifc (t:TypeId) (x:Opd)
 |slc (size:Nat) (x:Opd) (lo hi mx:Option Opd)
 |slcS (x:Opd) (lo hi:Option Opd)
 |faddr (off:Nat) (p:Opd)
 |fld (agg:Bool) (off n:Nat) (x:Opd)
 |iaddr (size:Nat) (x i:Opd)
 |iaddrA (len size:Nat) (x i:Opd)
 |idxA (agg:Bool) (len size:Nat) (x i:Opd)
 |idxS (x i:Opd)
 |mget (ok:Bool) (x k:Opd)
 |ext (x:Opd) (i:Nat)
 |len (x:Opd)
 |lenS (x:Opd)
 |lenc (n:Nat)
 |minmax (mx:Bool) (xs:List Opd)
 |mkmap
 |mset (x k v:Opd)
 |alloc (n:Nat) (z:V)
 |box (n:Nat) (x:Opd)
 |lit (mu:Bool) (size:Nat) (agg:Bool) (zero:V) (len:Nat) (parts:List (Nat×Opd))
 |mksl (mu:Bool) (size bytes:Nat) (zero:V) (l c:Opd)
 |append (mu:Bool) (size bytes:Nat) (x y:Opd)
 |store (n:Nat) (p x:Opd)
 |copy (size:Nat) (x y:Opd)
 |clear (size:Nat) (zero:V) (x:Opd)
 |call (f:Opd) (args:List Opd)
 deriving Inhabited
structure Ins where
 dst:Option Nat
 gd:Option (Nat×Bool)
 op:EOp
 cls:Cls
 deriving Inhabited
inductive EC where
 |skip
 |reg (ops:List Ins)
 |seq (a b:EC)
 |cond (c:Opd) (a b:EC)
 |block (id:Nat) (b:EC)
 |loop (b:EC)
 |exit (id:Nat)
 |ret
 |stop
 deriving Inhabited
def EOp.opds:EOp->List Opd
 |.mov x|.nilck x|.eqnil _ x|.un _ x|.conv _ x|.b2s x|.by2s x|.mkifc _ x|.faddr _ x|.fld _ _ _ x|.ext x _ |.mkmfn _ x|.len x|.lenS x|.box _ x|.load _ _ x=>[x]
 |.pick a b c=>[a,b,c]
 |.build _ ps=>ps.map λp=>p.2.2
 |.bin _ x y|.eqb _ x y|.eqp _ x y|.eqagg _ _ x y|.iaddr _ x y|.iaddrA _ _ x y|.idxA _ _ _ x y|.idxS x y|.mget _ x y=>[x,y]
 |.mkfn _ l|.minmax _ l=>l
 |.slc _ x lo hi mx=>x::(lo.toList++hi.toList++mx.toList)
 |.slcS x lo hi=>x::(lo.toList++hi.toList)
 |.lenc _ |.alloc .. |.mkmap=>[]
 |.mset x k v=>[x,k,v]
 |.lit _ _ _ _ _ ps=>ps.map (·.2)
 |.mksl _ _ _ _ l c=>[l,c]
 |.append _ _ _ x y|.store _ x y|.copy _ x y=>[x,y]
 |.clear _ _ x=>[x]
 |.call f l=>f::l
def qxT:Opd->Option Nat
 |.t n=>some n
 |.c _=>none
def Ins.looks(o:Ins):List Nat:=o.op.opds.filterMap qxT++(match o.gd with|some (t,_)=>[t]|none=>[])
def QD(x y:Ins):Bool:=
 (match x.dst with|some d=> !(y.looks).contains d && y.dst != some d|none=>true) && (match y.dst with|some d=> !(x.looks).contains d|none=>true)
def j6:EOp->Bool
 |.load _ _ (.c _)=>false
 | _=>true
inductive MObj where
 |tok (fin:Nat)
 |own (sz:Nat) (es:List V) (ro:Bool)
 |mapo (l:List (Int×Int×Int))
structure St where
 f:Nat->V
 H:Nat->Option MObj
 next:Nat
def St.put(s:St)(d:Option Nat)(v:V):St:=match d with
 |some d=>{s with f:=λi=>if i=d then v else s.f i}
 |none=>s
def St.setO(s:St)(id:Nat)(o:Option MObj):St:={s with H:=λi=>if i=id then o else s.H i}
def St.bump(s:St)(n:Nat):St:={s with next:=s.next+n}
def ev(s:St):Opd->V
 |.t n=>s.f n
 |.c v=>v
def V.isAgg:V->Bool
 |.agg _=>true
 | _=>false
def V.okCell:V->Bool
 |.tup _ |.undef=>false
 | _=>true
def QH(agg:Bool)(n:Nat)(cs:List V)(off:Nat):Option V:=
 if agg then(if off+n<=cs.length then some (.agg ((cs.drop off).take n))else none)else if n=1 then cs[off]? else none
def jD(agg:Bool)(n sz:Nat)(e:V)(off:Nat):Option V:=
 if off=0/\n=sz/\e.isAgg=agg then some e else QH agg n e.cells off
def je(n sz:Nat)(e v:V)(off:Nat):Option V:=
 if off=0/\n=sz/\e.isAgg=v.isAgg then some v else match e,v with
 |.agg cs,.agg vs=>if off+n<=cs.length then some (.agg (cs.take off++vs++cs.drop (off+n)))else none
 |.agg cs,v=>if n=1/\off<cs.length then some (.agg (cs.set off v))else none
 | _,_=>none
def XU(cells:List V):List (Nat×Nat×V)->Option (List V)
 |[]=>some cells
 | (off,n,v)::r=>
   if v.cells.length=n/\off+n<=cells.length/\v.okCell=true then XU (cells.take off++v.cells++cells.drop (off+n)) r else none
def xP(size:Nat)(agg:Bool)(es:List V):List (Nat×V)->Option (List V)
 |[]=>some es
 |(i,v)::r=>if v.cells.length=size/\v.okCell=true/\v.isAgg=agg then xP size agg (es.set i v) r else none
def xV(op:BinOp)(k:IntKind)(x y:Int):Option V:=match op with
 |.add=>some (.int k (k.wrap (x+y)))
 |.sub=>some (.int k (k.wrap (x - y)))
 |.mul=>some (.int k (k.wrap (x *y)))
 |.quo=>if y=0 then none else some (.int k (k.wrap (x.tdiv y)))
 |.rem=>if y=0 then none else some (.int k (x.tmod y))
 |.and=>some (.int k (k.wrap (BitVec.ofInt k.bits x &&& BitVec.ofInt k.bits y).toNat))
 |.or=>some (.int k (k.wrap (BitVec.ofInt k.bits x ||| BitVec.ofInt k.bits y).toNat))
 |.xor=>some (.int k (k.wrap (BitVec.ofInt k.bits x ^^^ BitVec.ofInt k.bits y).toNat))
 |.andNot=>some (.int k (k.wrap (BitVec.ofInt k.bits x &&& ~~~BitVec.ofInt k.bits y).toNat))
 |.eql=>some (.bool (decide (x=y)))
 |.neq=>some (.bool (!decide (x=y)))
 |.lss=>some (.bool (decide (x<y)))
 |.leq=>some (.bool (decide (x<=y)))
 |.gtr=>some (.bool (decide (x>y)))
 |.geq=>some (.bool (decide (x≥y)))
 | _=>none
def Vf(op:BinOp)(k:IntKind)(x y:Int):Option V:=
 if y<0 then none else match op with
 |.shl=>some (.int k (k.wrap (x *2 ^ (min y.toNat k.bits))))
 |.shr=>some (.int k (x.fdiv (2 ^ (min y.toNat k.bits))))
 | _=>none
def qb0(op:BinOp)(a b:List UInt8):Option V:=match op with
 |.add=>if a.length+b.length<=9223372036854775807 then some (.str (a++b))else none
 |.eql=>some (.bool (decide (a=b)))
 |.neq=>some (.bool (!decide (a=b)))
 |.lss=>some (.bool (Op.bytesLess a b))
 |.leq=>some (.bool (Op.bytesLess a b || decide (a=b)))
 |.gtr=>some (.bool !(Op.bytesLess a b || decide (a=b)))
 |.geq=>some (.bool !(Op.bytesLess a b))
 | _=>none
def jS:BinOp->Bool
 |.shl|.shr=>true
 | _=>false
def xU(op:BinOp)(x y:V):Option V:=match x,y with
 |.int k a,.int k' b=>if jS op then Vf op k a b else if k=k' then xV op k a b else none
 |.str a,.str b=>qb0 op a b
 | _,_=>none
def qqT(neg:Bool)(x y:V):Option V:=match x,y with
 |.bool a,.bool b=>some (.bool ((a == b) != neg))
 | _,_=>none
def qhV:V->Bool
 |.ptr .. |.iptr .. =>true
 | _=>false
def qxB(neg:Bool)(x y:V):Option V:=match x,y with
 |.nilp,.nilp=>some (.bool (!neg))
 |.nilp,y=>if qhV y then some (.bool neg)else none
 |x,.nilp=>if qhV x then some (.bool neg)else none
 | _,_=>none
def qcR:Nat->V->V->Bool
 |0,.bool _,.bool _=>true
 |1,.int k _,.int k' _=>decide (k=k')
 |2,.str _,.str _=>true
 | _,_,_=>false
def eq1:V->V->Bool
 |.int _ a,.int _ b=>decide (a=b)
 |.str a,.str b=>decide (a=b)
 |.bool a,.bool b=>a == b
 | _,_=>false
def qF:List Nat->List V->List V->Option Bool
 |[],[],[]=>some true
 |t::ts,a::x,b::y=>if qcR t a b then(qF ts x y).map (eq1 a b && ·)else none
 | _,_,_=>none
def unV(op:UnOp)(x:V):Option V:=match op,x with
 |.not,.bool b=>some (.bool !b)
 |.neg,.int k n=>xV .sub k 0 n
 |.xor,.int k n=>xV .xor k (if k.signed then -1 else k.max) n
 | _,_=>none
def qcS:V->Option Nat
 |.sl _ _ es=>some es.length
 |.asl _ _ _ es=>some es.length
 |.msl _ _ _ n=>some n
 | _=>none
inductive Er(bor:Bool)(H:Nat->Option MObj):V->V->Prop
 |bool (b:Bool):Er bor H (.bool b) (.bool b)
 |int (k:IntKind) (n:Int):Er bor H (.int k n) (.int k n)
 |str (s:List UInt8):Er bor H (.str s) (.str s)
 |agg (cs cs':List V) (hl:cs'.length=cs.length) (h:∀(i:Nat) c c',cs[i]?=some c->cs'[i]?=some c'->Er bor H c c'):Er bor H (.agg cs) (.agg cs')
 |tup (cs cs':List V) (hl:cs'.length=cs.length) (h:∀(i:Nat) c c',cs[i]?=some c->cs'[i]?=some c'->Er bor H c c'):Er bor H (.tup cs) (.tup cs')
 |sl (sz:Nat) (b:Bool) (cs cs':List V) (hl:cs'.length=cs.length) (h:∀(i:Nat) c c',cs[i]?=some c->cs'[i]?=some c'->Er bor H c c'):Er bor H (.sl sz b cs) (.sl sz false cs')
 |asl (id fin sz:Nat) (cs cs':List V) (hl:cs'.length=cs.length) (h:∀(i:Nat) c c',cs[i]?=some c->cs'[i]?=some c'->Er bor H c c'):Er bor H (.asl id fin sz cs) (.sl sz false cs')
 |iptr (sz:Nat) (e e':V) (off:Nat) (h:Er bor H e e'):Er bor H (.iptr sz e off) (.iptr sz e' off)
 |msl (id sz off len:Nat) (es:List V) (ro:Bool) (cs':List V) (hb:bor=true) (hH:H id=some (.own sz es ro)) (hle:off+len<=es.length)
  (hl:cs'.length=len) (h:∀(i:Nat) c c',es[off+i]?=some c->cs'[i]?=some c'->Er bor H c c'):Er bor H (.msl id sz off len) (.sl sz false cs')
 |ptr (id i off sz:Nat) (es:List V) (ro:Bool) (e e':V) (hb:bor=true) (hH:H id=some (.own sz es ro)) (he:es[i]?=some e)
  (h:Er bor H e e'):Er bor H (.ptr id i off) (.iptr sz e' off)
 |nilp:Er bor H .nilp .nilp
 |nilfn:Er bor H .nilfn .nilfn
 |nilmap:Er bor H .nilmap .nilmap
 |mp (l:List (Int×Int×Int)):Er bor H (.mp l) (.mp l)
 |mapo (id:Nat) (l:List (Int×Int×Int)) (hb:bor=true) (hH:H id=some (.mapo l)):Er bor H (.map id) (.mp l)
 |mfn (f:FuncId) (x x':V) (h:Er bor H x x'):Er bor H (.mfn f x) (.mfn f x')
 |nilifc:Er bor H .nilifc .nilifc
 |fn (f:FuncId) (cs cs':List V) (hl:cs'.length=cs.length) (h:∀(i:Nat) c c',cs[i]?=some c->cs'[i]?=some c'->Er bor H c c'):Er bor H (.fn f cs) (.fn f cs')
 |ifc (t:TypeId) (v v':V) (h:Er bor H v v'):Er bor H (.ifc t v) (.ifc t v')
def Ers(bor:Bool)(H:Nat->Option MObj)(l l':List V):Prop:=l'.length=l.length/\∀(i:Nat) c c',l[i]?=some c->l'[i]?=some c'->Er bor H c c'
inductive Flat:V->Prop
 |bool (b:Bool):Flat (.bool b)
 |int (k:IntKind) (n:Int):Flat (.int k n)
 |str (s:List UInt8):Flat (.str s)
 |agg (cs:List V) (h:∀c∈cs,Flat c):Flat (.agg cs)
 |tup (cs:List V) (h:∀c∈cs,Flat c):Flat (.tup cs)
 |nilp:Flat .nilp
 |nilfn:Flat .nilfn
 |nilmap:Flat .nilmap
 |nilifc:Flat .nilifc
def Zp(β:Nat->Option Loc)(w:World)(lim:Nat->Option Nat)(id:Nat):MObj->Prop
 |.tok fin=>∀l,β id=some l->∃cur et,w.heap[l.b]?=some (.cells cur et (0,0))/\l.o+fin *l.size<=cur.size/\lim l.b=some (l.o+fin *l.size)
 |.own sz es ro=>(β id=none/\es=[])\/ ∃l cur et,β id=some l/\l.size=sz/\w.heap[l.b]?=some (.cells cur et (0,0))/\l.o+es.length *sz<=cur.size/\
  (lim l.b=if ro then none else some 0)/\(∀e∈es,e.cells.length=sz/\∀c∈e.cells,c.scalar=true)/\
  ∀(i j:Nat) e c,es[i]?=some e->e.cells[j]?=some c->∃r,cur[l.o+i *sz+j]?=some r/\R β w lim c r
 |.mapo l=>∃lc es clock,β id=some lc/\w.heap[lc.b]?=some (.map es clock)/\es.toList.map (λe=>(e.key,e.val))=l.map qfR/\lim lc.b=some 0
structure RelH(H:Nat->Option MObj)(next:Nat)(β:Nat->Option Loc)(lim:Nat->Option Nat)(base:Nat)(w:World):Prop where
 fresh:∀id,next<=id->β id=none/\H id=none
 own:∀id l,β id=some l->base<=l.b/\l.b<w.heap.size
 obj:∀id o,H id=some o->Zp β w lim id o
 uniq:∀i j o o' l l',H i=some o->H j=some o'->β i=some l->β j=some l'->l.b=l'.b->i=j
 base_le:base<=w.heap.size
def Rs(β:Nat->Option Loc)(w:World)(lim:Nat->Option Nat)(vs:List V)(rs:Array Value):Prop:=
 rs.size=vs.length/\∀(i:Nat) v r,vs[i]?=some v->rs[i]?=some r->R β w lim v r
def noβ:Nat->Option Loc:=λ_=>none
def qfe(lim:Nat->Option Nat)(n:Nat):Nat->Option Nat:=λb=>if b<n then lim b else none
def Enters(P:Program)(f:FuncId):Prop:= ∃fn,P.funcs[f]?=some fn/\fn.body.isSome=true/\(fn.name == "runtime.NumGoroutine")=false
class Glob (P:Program) where
 G:Nat->V
def GOk(P:Program)[Glob P](w:World)(lim:Nat->Option Nat):Prop:= ∀g,R noβ w lim (Glob.G P g) (.pointer (some ⟨g,0,none⟩))
variable {P:Program}
theorem GOk.mono[Glob P]{w w':World}{lim lim':Nat->Option Nat}(h:GOk P w lim)(hx:Ext lim w w')(hl:yj w lim lim'):GOk P w' lim':=
 λg=>(h g).mono (λ_ _ h=>h) hx hl
def Pure(P:Program)[Glob P](f:FuncId)(args:List V)(res:V):Prop:=
 Enters P f/\∀(w:World) (lim:Nat->Option Nat) (ra:Array Value),GOk P w lim->Rs noβ w lim args ra->
  Calls P f ra w λe w'=>∃r,e=.returned r/\RowKit.Below w.heap.size w w'/\R noβ w' (qfe lim w.heap.size) res r
def VF(P:Program)[Glob P](f:FuncId)(args:List V)(H:Nat->Option MObj)(next:Nat)(Q:V->(Nat->Option MObj)->Nat->Prop):Prop:=
 (Enters P f/\∃v H' next',Q v H' next')/\∀(w:World) (β:Nat->Option Loc) (lim:Nat->Option Nat) (base:Nat) (ra:Array Value),GOk P w lim->RelH H next β lim base w->Rs β w lim args ra->
  Calls P f ra w λe w'=>∃r v H' next' β' lim',e=.returned r/\Q v H' next'/\RelH H' next' β' lim' base w'/\R β' w' lim' v r/\
   (∀id l,β id=some l->β' id=some l)/\Ext lim w w'/\yj w lim lim'/\RowKit.Below base w w'/\next<=next'/\
   (∀j,j<next->β' j=β j)/\(∀j,j<next->H j=none->H' j=none)/\(∀b,b<base->lim' b=lim b)
variable {args:List V} {Q':V->(Nat->Option MObj)->Nat->Prop}
theorem VF.mono[Glob P]{f:FuncId}{H:Nat->Option MObj}{next:Nat}{Q:V->(Nat->Option MObj)->Nat->Prop}
(h:VF P f args H next Q)(hq:∀v H' n',Q v H' n'->Q' v H' n'):VF P f args H next Q':=
 ⟨⟨h.1.1,let ⟨v,H',n',hh⟩:=h.1.2;⟨v,H',n',hq _ _ _ hh⟩⟩,λw β lim base ra h0 h1 h2=>(h.2 w β lim base ra h0 h1 h2).mono λ_ _ ⟨r,v,H',n',β',lim',he,hQ,rest⟩=>⟨r,v,H',n',β',lim',he,hq _ _ _ hQ,rest⟩⟩
def zh(P:Program)[Glob P](f:FuncId)(args:List V)(H:Nat->Option MObj)(next:Nat)(Q:V->(Nat->Option MObj)->Nat->Prop):Prop:=
 ∃v H' n',Q v H' n'/\VF P f args H next λv1 H1 n1=>v1=v/\H1=H'/\n1=n'
theorem zh.mono[Glob P]{f:FuncId}{H:Nat->Option MObj}{next:Nat}{Q:V->(Nat->Option MObj)->Nat->Prop}
(h:zh P f args H next Q)(hq:∀v H' n',Q v H' n'->Q' v H' n'):zh P f args H next Q':=
 let ⟨v,H',n',h1,h2⟩:=h;⟨v,H',n',hq _ _ _ h1,h2⟩
def onS{α:Type}(o:Option α)(K:α->Prop):Prop:=match o with
 |some v=>K v
 |none=>False
@[simp] theorem zF{α:Type}(v:α)(K:α->Prop):onS (some v) K=K v:=rfl
@[simp] theorem qkX{α:Type}(K:α->Prop):onS none K=False:=rfl
theorem qy{α:Type}(o:Option α)(K:α->Prop):onS o K↔ ∃v,o=some v/\K v:=by cases o<;>simp[onS]
def idxOf(v:V):Option Nat:=match v with
 |.int _ n=>if 0<=n then some n.toNat else none
 | _=>none
def zw(s:St)(agg:Bool)(n:Nat):V->Option V
 | .ptr id k off=>match s.H id with
   |some (.own sz es _)=>(match es[k]? with|some e=>jD agg n sz e off|none=>none)
   | _=>none
 |.iptr sz e off=>jD agg n sz e off
 | _=>none
def jR(len:Nat)(lo hi:Option V):Option (Nat×Nat):=
 match (match hi with|some h=>idxOf h|none=>some len)with
 | some h=>if h<=len then
  match (match lo with|some l=>idxOf l|none=>some 0)with
  |some l=>if l<=h then some (l,h)else none
  |none=>none
   else none
 |none=>none
def xK(size:Nat)(x:V)(lo hi mx:Option V):Option V:=match x with
 | .sl sz clip es=>if sz=size then(match jR es.length lo hi with
   | some (l,h)=>(match mx with
     |none=>some (.sl sz (clip && decide (h=es.length)) ((es.take h).drop l))
     |some m=>if hi.isSome=true/\idxOf m=some h then some (.sl sz true ((es.take h).drop l))else none)
   |none=>none)else none
 | .asl id fin sz es=>if sz=size then(match jR es.length lo hi with
   | some (l,h)=>(match mx with
     |none=>if h=es.length then some (.asl id fin sz (es.drop l))else some (.sl sz false ((es.take h).drop l))
     |some m=>if hi.isSome=true/\idxOf m=some h then some (.sl sz true ((es.take h).drop l))else none)
   |none=>none)else none
 | .msl id sz off len=>if sz=size then(match jR len lo hi with
   |some (l,h)=>(match mx with|none=>some (.msl id sz (off+l) (h - l))|some _=>none)
   |none=>none)else none
 | _=>none
def yI(x:V)(lo hi:Option V):Option V:=match x with
 |.str s=>(match jR s.length lo hi with|some (l,h)=>some (.str ((s.take h).drop l))|none=>none)
 | _=>none
def Xo(mx:Bool):List V->Option V
 |.int k x::r=>(r.foldlM (λ(a:Int) v=>match v with|V.int k1 y=>if k=k1 then some (if mx then(if y>a then y else a)else(if y<a then y else a))else none| _=>none) x).map (V.int k)
 | _=>none
def Jj:List V->Option (List UInt8)
 |[]=>some []
 |.int .u8 n::r=>if 0<=n/\n<256 then(Jj r).map (UInt8.ofNat n.toNat:: ·)else none
 | _::_=>none
def VJ(ok:Bool)(l:List (Int×Int×Int))(a b:Int):V:=match l.find? (λe=>e.1 == a && e.2.1 == b)with
 |some e=>if ok then .tup [.int .i64 e.2.2,.bool true]else .int .i64 e.2.2
 |none=>if ok then .tup [.int .i64 0,.bool false]else .int .i64 0
def qJ(s:St):EOp->Option V
 |.mov x=>some (ev s x)
 |.pick c a b=>(match ev s c with|.bool t=>some (if t then ev s a else ev s b)| _=>none)
 |.build zero parts=>(XU zero (parts.map λ(o,n,x)=>(o,n,ev s x))).map .agg
 |.load agg n p=>zw s agg n (ev s p)
 |.nilck x=>(match ev s x with|.ptr id i off=>some (.ptr id i off)|.iptr sz e off=>some (.iptr sz e off)|.fn f caps=>some (.fn f caps)| _=>none)
 |.bin op x y=>xU op (ev s x) (ev s y)
 |.eqb neg x y=>qqT neg (ev s x) (ev s y)
 |.eqp neg x y=>qxB neg (ev s x) (ev s y)
 |.eqnil neg x=>(match qcS (ev s x)with|some (_+1)=>some (.bool neg)| _=>none)
 |.eqagg neg tags x y=>(match ev s x,ev s y with|.agg a,.agg b=>(qF tags a b).map λt=>V.bool (t != neg)| _,_=>none)
 |.mget ok x k=>(match ev s x,ev s k with|.mp l,.agg [.int .i64 a,.int .i64 b]=>some (VJ ok l a b)| _,_=>none)
 |.un op x=>unV op (ev s x)
 |.conv k x=>(match ev s x with|.int _ n=>some (.int k (k.wrap n))| _=>none)
 |.b2s x=>(match ev s x with|.str s=>some (.str s)| _=>none)
 |.by2s x=>(match ev s x with|.sl 1 _ es=>(Jj es).map .str| _=>none)
 |.mkfn f caps=>some (.fn f (caps.map (ev s)))
 |.mkmfn f x=>some (.mfn f (ev s x))
 |.mkifc t x=>some (.ifc t (ev s x))
 |.slc size x lo hi mx=>xK size (ev s x) (lo.map (ev s)) (hi.map (ev s)) (mx.map (ev s))
 |.slcS x lo hi=>yI (ev s x) (lo.map (ev s)) (hi.map (ev s))
 |.faddr off p=>(match ev s p with|.ptr id i o=>some (.ptr id i (o+off))|.iptr sz e o=>some (.iptr sz e (o+off))| _=>none)
 |.fld agg off n x=>(match ev s x with|.agg cs=>QH agg n cs off| _=>none)
 | .iaddr size x i=>(match idxOf (ev s i)with
   |none=>none
   | some i=>match ev s x with
     |.sl sz _ es=>if sz=size then es[i]?.map λe=>V.iptr sz e 0 else none
     |.asl _ _ sz es=>if sz=size then es[i]?.map λe=>V.iptr sz e 0 else none
     |.msl id sz off len=>if sz=size/\i<len then some (.ptr id (off+i) 0)else none
     | _=>none)
 | .iaddrA len size x i=>(match idxOf (ev s i)with
   |none=>none
   |some i=>if i<len then(match ev s x with|.ptr id k o=>some (.ptr id k (o+i *size))|.iptr sz e o=>some (.iptr sz e (o+i *size))| _=>none)else none)
 | .idxA agg len size x i=>(match idxOf (ev s i)with
   |none=>none
   |some i=>if i<len then(match ev s x with|.agg cs=>QH agg size cs (i *size)| _=>none)else none)
 |.idxS x i=>(match idxOf (ev s i),ev s x with|some i,.str l=>l[i]?.map λc=>V.int .u8 c.toNat| _,_=>none)
 |.ext x i=>(match ev s x with|.tup vs=>vs[i]?| _=>none)
 |.len x=>(qcS (ev s x)).map λn=>V.int .i64 n
 |.lenS x=>(match ev s x with|.str l=>some (.int .i64 l.length)| _=>none)
 |.lenc n=>some (.int .i64 n)
 |.minmax mx xs=>Xo mx (xs.map (ev s))
 | _=>none
def qb1(s:St)(size:Nat):V->Option (List V)
 |.sl sz _ es=>if sz=size then some es else none
 |.asl _ _ sz es=>if sz=size then some es else none
 |.msl id sz off len=>if sz=size then(match s.H id with|some (.own sz' es _)=>if sz'=sz/\off+len<=es.length then some ((es.drop off).take len)else none| _=>none)else none
 |.str l=>if size=1 then some (l.map λc=>V.int .u8 c.toNat)else none
 | _=>none
def qgf:V->Bool
 |.msl .. =>true
 | _=>false
def qO(id:Nat)(s:St)(mu:Bool)(size:Nat)(x:V)(ys:List V):Option (V×St×Nat):=match x with
 | .sl sz true es=>
   if sz=size then
    if mu then(if es=[]then some (.msl id size 0 ys.length,s.setO id (some (.own size ys false)),ys.length)else none)
    else some (.asl id (es.length+ys.length) size (es++ys),s.setO id (some (.tok (es.length+ys.length))),es.length+ys.length)
   else none
 | .asl id0 fin sz es=>
   if sz=size/\mu=false then(match s.H id0 with
    |some (.tok fin')=>if fin'=fin then some (.asl id (es.length+ys.length) size (es++ys),(s.setO id0 none).setO id (some (.tok (es.length+ys.length))),es.length+ys.length)else none
    | _=>none)
   else none
 | .msl id0 sz off len=>
   if sz=size then(match s.H id0 with
    |some (.own sz' es false)=>if sz'=sz/\off+len<=es.length then some (.msl id size 0 (len+ys.length),(s.setO id0 none).setO id (some (.own size ((es.drop off).take len++ys) false)),len+ys.length)else none
    | _=>none)
   else none
 | _=>none
def j4(s:St)(n:Nat)(p v:V):Option St:=match p with
 | .ptr id k off=>(match s.H id with
   | some (.own sz es false)=>(match es[k]? with
     |some e=>if v.cells.length=n/\v.okCell=true then(je n sz e v off).map λe'=>s.setO id (some (.own sz (es.set k e') false))else none
     |none=>none)
   | _=>none)
 | _=>none
def X5(s:St)(x k v:V):Option St:=match x,k,v with
 | .map id,.agg [.int .i64 a,.int .i64 b],.int .i64 c=>(match s.H id with
   | some (.mapo l)=>(match l.find? (λe=>e.1 == a && e.2.1 == b)with
     |none=>some (s.setO id (some (.mapo (l++[(a,b,c)]))))
     |some _=>none)
   | _=>none)
 | _,_,_=>none
def lab:MObj->Nat
 |.own sz (e::_) _=>2 *sz+(match e.cells with|.str _::_=>1| _=>0)
 |.own sz [] _=>2 *sz
 |.tok _=>1
 |.mapo _=>1
def Cls.ldz:Cls->Option Nat
 |.l z=>some z
 | _=>none
def Cls.stz:Cls->Option Nat
 |.s z=>some z
 | _=>none
def qxl:Cls->Bool
 |.w|.any|.v _ |.k _=>true
 | _=>false
def qf2(z next next':Nat)(H H':Nat->Option MObj):Prop:=next<=next'/\(∀id,id<next->H id=none->H' id=none)/\
 ∀id ob,id<next->lab ob=z->(H id=some ob↔H' id=some ob)
def qcr(cls:Cls)(next:Nat)(H H':Nat->Option MObj)(next':Nat):Prop:=match cls with
 |.v z=>∀id ob,id<next->H id=some ob->lab ob=z->H' id=some ob
 |.k z=>qf2 z next next' H H'
 | _=>True
def QA(want:Option Nat)(s:St)(p:V)(X:Prop):Prop:=match want,p with
 |some z,.ptr id _ _=>(s.H id).map lab=some z/\X
 | _,_=>X
variable {want:Option Nat}
theorem jr{s:St}{p:V}{X:Prop}(h:QA want s p X):X:=by
 unfold QA at h;split at h
 . exact h.2
 . exact h
theorem kI{s s':St}{p:V}{X Y:Prop}(hH:s'.H=s.H)(hx:X->Y)(h:QA want s p X):QA want s' p Y:=by
 unfold QA at h ⊢;split at h
 . rw[hH];exact⟨h.1,hx h.2⟩
 . exact hx h
def funArgs(f:V)(as:List V):Option (FuncId×List V):=match f with
 |.fn fid caps=>some (fid,as++caps)
 |.mfn fid x=>some (fid,x::as)
 | _=>none
def qg(P:Program)[Glob P](cls:Cls)(id:Nat)(s:St)(K:V->St->Prop)(op:EOp):Prop:=match op with
 |.alloc n z=>K (.ptr id 0 0) (s.setO id (some (.own n [z] false)))
 |.box n x=>(ev s x).cells.length=n/\(ev s x).okCell=true/\K (.ptr id 0 0) (s.setO id (some (.own n [ev s x] false)))
 |.lit mu size agg zero len parts=>onS (xP size agg (List.replicate len zero) (parts.map λ(i,x)=>(i,ev s x))) λes=>
  if mu then K (.msl id size 0 len) (s.setO id (some (.own size es false)))else K (.sl size true es) s
 |.mksl mu size bytes zero l c=>onS (idxOf (ev s l)) λn=>onS (idxOf (ev s c)) λm=>n<=m/\m *bytes<=140737488355328/\m<=maxLen/\
  if mu then m=n/\K (.msl id size 0 n) (s.setO id (some (.own size (List.replicate n zero) false)))else n=0/\K (.asl id 0 size []) (s.setO id (some (.tok 0)))
 |.append mu size bytes x y=>onS (qb1 s size (ev s y)) λys=>(cls=.t->qgf (ev s x)=false/\qgf (ev s y)=false/\mu=false)/\
  onS (qO id s mu size (ev s x) ys) λ(v,s',n)=>n *bytes<=140737488355328/\n<=maxLen/\K v s'
 |.mkmap=>K (.map id) (s.setO id (some (.mapo [])))
 |.mset x k v=>onS (X5 s (ev s x) (ev s k) (ev s v)) λs'=>K .undef s'
 |.load agg n p=>QA cls.ldz s (ev s p) (onS (qJ s (.load agg n p)) λv=>K v s)
 |.store n p x=>QA cls.stz s (ev s p) (onS (j4 s n (ev s p) (ev s x)) λs'=>QA cls.stz s' (ev s p) (K .undef s'))
 | .call f args=>(match funArgs (ev s f) (args.map (ev s))with
   | some (fid,as)=>
     (∃bor as' res,(cls=.r->bor=false)/\Ers bor s.H as as'/\Pure P fid as' res/\(bor=true->Flat res)/\K res s)\/
     (qxl cls=true/\zh P fid as s.H s.next λv H' next'=>qcr cls s.next s.H H' next'/\K v {s with H:=H',next:=next'})
   |none=>False)
 |op=>onS (qJ s op) λv=>K v s
def Ze(P:Program)[Glob P](base:Nat)(Q:St->Prop):Nat->List Ins->St->Prop
 | _,[],s=>Q s
 | i, o::rest,s=>match o.gd with
   |none=>qg P o.cls (base+i) s (λv s'=>Ze P base Q (i+1) rest (s'.put o.dst v)) o.op
   | some (t,want)=>match s.f t with
     |.bool b=>(b=want->qg P o.cls (base+i) s (λv s'=>Ze P base Q (i+1) rest (s'.put o.dst v)) o.op)/\
      (b≠want->Ze P base Q (i+1) rest (s.put o.dst .undef))
     |.undef=>Ze P base Q (i+1) rest (s.put o.dst .undef)
     | _=>False
def Qm(next:St->Prop)(Q:Exit->St->Prop):Exit->St->Prop
 |.normal,s=>next s
 |e,s=>Q e s
def jT(id:Nat)(Q:Exit->St->Prop):Exit->St->Prop
 |.exit id',s=>if id'=id then Q .normal s else Q (.exit id') s
 |e,s=>Q e s
def ewp(P:Program)[Glob P]:EC->(Exit->St->Prop)->St->Prop
 |.skip,Q,s=>Q .normal s
 |.reg ops,Q,s=>Ze P s.next (Q .normal) 0 ops (s.bump ops.length)
 |.seq a b,Q,s=>ewp P a (Qm (ewp P b Q) Q) s
 | .cond c a b,Q,s=>match ev s c with
   |.bool t=>(t=true->ewp P a Q s)/\(t=false->ewp P b Q s)
   | _=>False
 |.block id b,Q,s=>ewp P b (jT id Q) s
 |.loop b,Q,s=>∃(I:St->Prop) (μ:St->Nat),I s/\∀s,I s->ewp P b (Qm (λs'=>I s'/\μ s'<μ s) Q) s
 |.exit id,Q,s=>Q (.exit id) s
 |.ret,Q,s=>Q .ret s
 |.stop,_,_=>False
end Go.E

namespace Go.E
def qd5:V->Value->Bool
 |.bool a,.bool b=>a == b
 |.int k n,.int k' n'=>decide (k=k') && decide (n=n')
 |.str s,.string t=>decide (s=t.data.toList)
 |.sl _ _ [],.slice none 0 0=>true
 |.nilp,.pointer none=>true
 |.nilfn,.nilFunc=>true
 |.nilmap,.map none=>true
 |.nilifc,.nilIface=>true
 | _,_=>false
def Ku:List V->List Value->Bool
 |[],[]=>true
 |a::x,b::y=>qd5 a b && a.scalar && Ku x y
 | _,_=>false
def Qr:V->Value->Bool
 |.agg cs,.agg rs=>Ku cs rs.toList
 |v,r=>qd5 v r
variable {β:Nat->Option Loc} {w:World} {lim:Nat->Option Nat}
theorem qe7{v:V}{r:Value}(h:qd5 v r=true):R β w lim v r:=by
 unfold qd5 at h;split at h<;>simp at h
 . subst h;exact .bool _
 . obtain ⟨rfl,rfl⟩:=h;exact .int _ _
 . subst h;rename_i t;cases t;exact .str _
 . exact .sl0 _ _ _ _ (λ_=>rfl) (Nat.zero_le _)
 . exact .nilp
 . exact .nilfn
 . exact .nilmap
 . exact .nilifc
theorem qeR{β:Nat->Option Loc}{w:World}{lim:Nat->Option Nat}:∀{vs:List V} {rs:List Value},Ku vs rs=true->
 rs.length=vs.length/\(∀c∈vs,c.scalar=true)/\∀(i:Nat) c r,vs[i]?=some c->rs[i]?=some r->R β w lim c r
 |[],[],_=>⟨rfl,by simp,by simp⟩
 | a::x,b::y,h=>by
   simp[Ku]at h;obtain ⟨⟨h1,h2⟩,h3⟩:=h;obtain ⟨i1,i2,i3⟩:=qeR (β:=β) (w:=w) (lim:=lim) h3;refine⟨by simp[i1],by simpa[h2]using i2,λi c r hc hr=>?_⟩;cases i with
   |zero=>simp at hc hr;subst hc;subst hr;exact qe7 h1
   |succ i=>exact i3 i c r (by simpa using hc) (by simpa using hr)
 |[],_::_,h=>by simp[Ku]at h
 | _::_,[],h=>by simp[Ku]at h
theorem X8{v:V}{r:Value}(h:Qr v r=true):R β w lim v r:=by
 unfold Qr at h;split at h
 . rename_i cs rs;obtain ⟨h1,h2,h3⟩:=qeR (β:=β) (w:=w) (lim:=lim) h;exact .agg cs rs (by simpa using h1) h2 (λi c r hc hr=>h3 i c r hc (by simpa using hr))
 . exact qe7 h
def zeroV(P:Program)[Glob P]:Nat->TypeId->Option V
 |0,_=>none
 | n+1,t=>match P.underlying t with
   |some .bool=>some (.bool false)
   |some (.int k)=>some (.int k 0)
   |some .string=>some (.str [])
   |some (.pointer _)=>some .nilp
   |some (.slice e)=>some (.sl (P.cellsOf e) true [])
   |some (.map _ _)=>some .nilmap
   |some (.func ..)=>some .nilfn
   |some (.interface _)=>some .nilifc
   |some (.array k e)=>(zeroV P n e).map λz=>.agg (List.replicate k z.cells).flatten
   |some (.struct fs)=>(fs.toList.mapM λf=>(zeroV P n f.type).map V.cells).map λl=>.agg l.flatten
   | _=>none
def zm(P:Program)[Glob P](t:TypeId):Option Bool:=(P.underlying t).map λ|.struct _ |.array _ _=>true| _=>false
def qhX(P:Program)[Glob P](ty:Option TypeId)(v:Value):Option V:=match v with
 |.bool b=>some (.bool b)
 |.int k n=>some (.int k n)
 |.string s=>some (.str s.data.toList)
 |.pointer none=>some .nilp
 |.nilFunc=>some .nilfn
 |.map none=>some .nilmap
 |.nilIface=>some .nilifc
 | v=>match ty with
   |some t=>(zeroV P 12 t).bind λz=>if Qr z v then some z else none
   |none=>none
variable {P:Program} {ty:Option TypeId}
theorem qkI[Glob P]{v:Value}{x:V}(h:qhX P ty v=some x)(β:Nat->Option Loc)(w:World)(lim:Nat->Option Nat):R β w lim x v:=by
 unfold qhX at h;split at h
 . cases h;exact .bool _
 . cases h;exact .int _ _
 . cases h;rename_i s;cases s;exact .str _
 . cases h;exact .nilp
 . cases h;exact .nilfn
 . cases h;exact .nilmap
 . cases h;exact .nilifc
 . split at h
   . obtain ⟨z,_,hz⟩:=Option.bind_eq_some_iff.1 h;split at hz
     . cases hz;exact X8 ‹_›
     . cases hz
   . cases h
def zn(P:Program)[Glob P](ty:Option TypeId)(n:Nat):Operand->Option Opd
 |.tmp t=>if t<n then some (.t t)else none
 |.const v=>(qhX P ty v).map .c
 |.func f=>some (.c (.fn f []))
 |.global g=>some (.c (Glob.G P g))
structure RelF(P:Program)[Glob P](s:St)(β:Nat->Option Loc)(w:World)(lim:Nat->Option Nat)(n:Nat)(a:Act):Prop where
 size:a.tmps.size=n
 slot:∀i,i<n->R β w lim (s.f i) (a.tmps.getD i undef)
 defers:a.defers=[]
 glob:GOk P w lim
variable {n:Nat} {x:Operand}
theorem zO[Glob P]{x':Opd}{s:St}{a:Act}
(h:zn P ty n x=some x')(hF:RelF P s β w lim n a):R β w lim (ev s x') (a.eval x):=by
 cases x with
 | tmp t=>
   simp only[zn]at h;split at h
   . cases h;exact hF.slot t ‹_›
   . cases h
 | const v=>
   simp only[zn,Option.map_eq_some_iff]at h;obtain ⟨c,hc,rfl⟩:=h;exact qkI hc β w lim
 |func f=>simp only[zn]at h;cases h;exact .fn f [] #[] rfl (by simp)
 |global g=>simp only[zn]at h;cases h;exact(hF.glob g).mono (λ_ _ h=>by cases h) (Ext.refl _ _) (yj.refl _ _)
def Jl(P:Program)[Glob P](n:Nat):List (Option TypeId)->List Operand->Option (List Opd)
 | _,[]=>some []
 |ts,x::xs=>(zn P ts.head?.join n x).bind λx'=>(Jl P n ts.tail xs).map λl=>x'::l
theorem Kj{P:Program}[Glob P]{n:Nat}{s:St}{β:Nat->Option Loc}{w:World}{lim:Nat->Option Nat}{a:Act}(hF:RelF P s β w lim n a):
 ∀{xs:List Operand} {ts:List (Option TypeId)} {l:List Opd},Jl P n ts xs=some l->
  xs.length=l.length/\∀(i:Nat) x y,l[i]?=some x->xs[i]?=some y->R β w lim (ev s x) (a.eval y)
 |[],ts,l,h=>by simp[Jl]at h;subst h;simp
 | x::xs,ts,l,h=>by
   simp only[Jl,Option.bind_eq_some_iff,Option.map_eq_some_iff]at h;obtain ⟨x',hx,l',hl,rfl⟩:=h;obtain ⟨h1,h2⟩:=Kj hF hl;refine⟨by simp[h1],λi a b ha hb=>?_⟩;cases i with
   |zero=>simp at ha hb;subst ha;subst hb;exact zO hx hF
   |succ i=>exact h2 i a b (by simpa using ha) (by simpa using hb)
def XK(P:Program)[Glob P](n:Nat):Option Operand->Option (Option Opd)
 |none=>some none
 |some x=>(zn P none n x).map some
def QI(P:Program)[Glob P](f:TypeId->Option (List Nat)):Nat->List Field->Option (List Nat)
 | _,[]=>some []
 |off,fd::r=>if fd.name="_"\/fd.offset≠off then none else(f fd.type).bind λl=>(QI P f (off+l.length) r).map (l++ ·)
def zW(P:Program)[Glob P]:Nat->TypeId->Option (List Nat)
 |0,_=>none
 | n+1,t=>(match P.underlying t with
   |some .bool=>some [0]
   |some (.int _)=>some [1]
   |some .string=>some [2]
   |some (.struct fs)=>if P.stoodInHeld t then none else QI P (zW P n) 0 fs.toList
   |some (.array k e)=>(zW P n e).map λl=>(List.replicate k l).flatten
   | _=>none).bind λl=>if (P.info? t).map TypeInfo.size=some l.length then some l else none
def partsOf(P:Program)[Glob P](n:Nat)(place:Nat->Option (Nat×Nat×TypeId)):List (Nat×Operand)->Option (List (Nat×Nat×Opd))
 |[]=>some []
 |(i,x)::r=>(place i).bind λ(off,size,t)=>(zn P (some t) n x).bind λx'=>(partsOf P n place r).map λl=>(off,size,x')::l
def Za(P:Program)[Glob P](n:Nat)(t:TypeId)(len:Nat):List (Nat×Operand)->Option (List (Nat×Opd))
 |[]=>some []
 |(i,x)::r=>if i<len then(zn P (some t) n x).bind λx'=>(Za P n t len r).map λl=>(i,x')::l else none
def ja(b:Bool):Option Unit:=if b then some ()else none
def kV(P:Program)[Glob P](n:Nat)(mu:Bool)(b:Builtin)(argTypes:Array TypeId)(args:List Operand):Option EOp:=
 match b,args with
 | .len,[x]=>do
   let t <- argTypes[0]?
   match P.underlying t with
   |some .string=>do let x' <- zn P (some t) n x;pure (.lenS x')
   |some (.slice _)=>do let x' <- zn P (some t) n x;pure (.len x')
   |some (.array k _)=>pure (.lenc k)
   | _=>none
 | .append,[x,y]=>do
   let t <- argTypes[0]?
   let t1 <- argTypes[1]?
   match P.underlying t with
   | some (.slice e)=>do
     let i <- P.info? e
     let z <- i.zero
     ja (decide (z.cells.size=i.size) && decide (0<i.size) && (decide (t1=t) || (match P.underlying t1 with|some (.slice e1)=>decide (e1=e)|some .string=>decide (i.size=1)| _=>false)))
     let x' <- zn P (some t) n x
     let y' <- zn P (some t1) n y
     pure (.append mu i.size i.bytes x' y')
   | _=>none
 |.min,xs=>do let l <- Jl P n [] xs;ja (decide (2<=l.length));pure (.minmax false l)
 |.max,xs=>do let l <- Jl P n [] xs;ja (decide (2<=l.length));pure (.minmax true l)
 |.clear,[x]=>do let x' <- zn P none n x;pure (.clear 0 .undef x')
 | _,_=>none
def qzC(P:Program)(e:TypeId):Bool:=match P.underlying e with
 |some (.int .u8)=>true
 | _=>false
def isStr(P:Program)(e:TypeId):Bool:=match P.underlying e with
 |some .string=>true
 | _=>false
def qiW(P:Program)(t:TypeId):Option TypeId:=match P.underlying t with
 |some (.slice e)=>some e
 | _=>none
def qns(P:Program)(src dst:TypeId)(x:Opd):Option EOp:=(qiW P src).bind λe=>if qzC P e=true/\isStr P dst=true then some (.by2s x)else none
def VY(P:Program)(t:TypeId):Bool:=match P.underlying t with
 |some (.int .i64)=>true
 | _=>false
def qd2(P:Program)(k:TypeId):Option (Field×Field):=match P.underlying k with
 |some (.struct ⟨[f,g]⟩)=>some (f,g)
 | _=>none
def qi6(P:Program)(e:TypeId):Bool:=match (P.info? e).bind TypeInfo.zero with
 |some (.int .i64 0)=>true
 | _=>false
def mapOf(P:Program)(t:TypeId):Option (TypeId×TypeId):=match P.underlying t with
 |some (.map k e)=>some (k,e)
 | _=>none
def qpd(P:Program)[Glob P](n:Nat)(t:TypeId)(x i:Operand)(ok:Bool):Option EOp:=(mapOf P t).bind λm=>(qd2 P m.1).bind λp=>
 if p.1.offset=0/\p.2.offset=1/\VY P p.1.type=true/\VY P p.2.type=true/\zW P 12 m.1=some [1,1]/\qi6 P m.2=true then
  (zn P (some t) n x).bind λx'=>(zn P (some m.1) n i).map λi'=>.mget ok x' i' else none
variable {t:TypeId}
theorem qcy{k e:TypeId}(h:mapOf P t=some (k,e)):P.underlying t=some (.map k e):=by
 unfold mapOf at h;split at h
 . rename_i h2;cases h;exact h2
 . cases h
theorem KL{k:TypeId}{f g:Field}(h:qd2 P k=some (f,g)):P.underlying k=some (.struct #[f,g]):=by
 unfold qd2 at h;split at h
 . rename_i h2;cases h;exact h2
 . cases h
variable {e:EOp}
theorem qci[Glob P]{i:Operand}{ok:Bool}(h:qpd P n t x i ok=some e):
 ∃k el f g x' i',P.underlying t=some (.map k el)/\P.underlying k=some (.struct #[f,g])/\f.offset=0/\g.offset=1/\VY P f.type=true/\VY P g.type=true/\zW P 12 k=some [1,1]/\qi6 P el=true/\
  zn P (some t) n x=some x'/\zn P (some k) n i=some i'/\e=.mget ok x' i':=by
 unfold qpd at h;obtain ⟨⟨k,el⟩,h1,h⟩:=Option.bind_eq_some_iff.1 h;obtain ⟨⟨f,g⟩,h2,h⟩:=Option.bind_eq_some_iff.1 h;split at h
 . rename_i c;obtain ⟨x',hx,h⟩:=Option.bind_eq_some_iff.1 h;obtain ⟨i',hi,h⟩:=Option.map_eq_some_iff.1 h;exact⟨k,el,f,g,x',i',qcy h1,KL h2,c.1,c.2.1,c.2.2.1,c.2.2.2.1,c.2.2.2.2.1,c.2.2.2.2.2,hx,hi,h.symm⟩
 . cases h
def qpT(P:Program)[Glob P](n:Nat)(t:TypeId)(x i v:Operand):Option EOp:=(mapOf P t).bind λm=>(qd2 P m.1).bind λp=>
 if p.1.offset=0/\p.2.offset=1/\VY P p.1.type=true/\VY P p.2.type=true/\zW P 12 m.1=some [1,1]then
  (zn P (some t) n x).bind λx'=>(zn P (some m.1) n i).bind λi'=>(zn P (some m.2) n v).map λv'=>.mset x' i' v' else none
theorem qce[Glob P]{i v:Operand}(h:qpT P n t x i v=some e):
 ∃k el f g x' i' v',P.underlying t=some (.map k el)/\P.underlying k=some (.struct #[f,g])/\f.offset=0/\g.offset=1/\VY P f.type=true/\VY P g.type=true/\zW P 12 k=some [1,1]/\
  zn P (some t) n x=some x'/\zn P (some k) n i=some i'/\zn P (some el) n v=some v'/\e=.mset x' i' v':=by
 unfold qpT at h;obtain ⟨⟨k,el⟩,h1,h⟩:=Option.bind_eq_some_iff.1 h;obtain ⟨⟨f,g⟩,h2,h⟩:=Option.bind_eq_some_iff.1 h;split at h
 . rename_i c;obtain ⟨x',hx,h⟩:=Option.bind_eq_some_iff.1 h;obtain ⟨i',hi,h⟩:=Option.bind_eq_some_iff.1 h;obtain ⟨v',hv,h⟩:=Option.map_eq_some_iff.1 h;exact⟨k,el,f,g,x',i',v',qcy h1,KL h2,c.1,c.2.1,c.2.2.1,c.2.2.2.1,c.2.2.2.2,hx,hi,hv,h.symm⟩
 . cases h
def qhe(P:Program)(t:TypeId)(r:Option Operand):Option EOp:=if r.isNone=true then(mapOf P t).map λ_=>.mkmap else none
theorem KY{r:Option Operand}(h:qhe P t r=some e):r=none/\e=.mkmap:=by
 unfold qhe at h;split at h
 . rename_i hr;obtain ⟨_,_,rfl⟩:=Option.map_eq_some_iff.1 h;exact⟨by cases r<;>simp at hr ⊢,rfl⟩
 . cases h
def qqH(P:Program)[Glob P](n:Nat)(f:FuncId)(first caps:List Operand):Option EOp:=match first with
 |[]=>(Jl P n [] caps).map λl=>.mkfn f l
 |[x]=>if caps=[]then(zn P none n x).map λx'=>.mkmfn f x' else none
 | _=>none
def qdQ(neg:Bool)(x:Opd):Operand->Option EOp
 |.const (.slice none _ _)=>some (.eqnil neg x)
 | _=>none
theorem Xj{neg:Bool}{x:Opd}{y:Operand}(h:qdQ neg x y=some e):e=.eqnil neg x/\∃n c,y=.const (.slice none n c):=by
 unfold qdQ at h;split at h
 . cases h;exact⟨rfl,_,_,rfl⟩
 . cases h
def YK(P:Program)[Glob P](n:Nat)(mu:Bool)(o:Oper):Option EOp:=match o.op with
 |.move x|.assign x=>do let x' <- zn P (some o.type) n x;pure (.mov x')
 |.pick c a b=>do let c' <- zn P none n c;let a' <- zn P (some o.type) n a;let b' <- zn P (some o.type) n b;pure (.pick c' a' b')
 | .alloc t=>do
   let i <- P.info? t;let z <- i.zero;let v <- zeroV P 12 t
   ja (Qr v z && decide (v.cells.length=i.size) && v.okCell)
   pure (.alloc i.size v)
 |.box t x=>do let i <- P.info? t;let x' <- zn P (some t) n x;pure (.box i.size x')
 | .build t parts=>do
   let i <- P.info? t;let z <- i.zero;let v <- zeroV P 12 t
   ja (Qr v z && v.isAgg)
   match P.underlying t with
   | some (.struct fs)=>do
     ja (fs.toList.all λf=>(P.info? f.type).isSome)
     let l <- partsOf P n (λi=>fs[i]?.bind λf=>(P.info? f.type).map λi=>(f.offset,i.size,f.type)) parts.toList
     pure (.build v.cells l)
   | some (.array _ e)=>do
     let ie <- P.info? e
     let l <- partsOf P n (λi=>some (i *ie.size,ie.size,e)) parts.toList
     pure (.build v.cells l)
   | _=>none
 | .buildSlice t len parts=>match P.underlying t with
   | some (.slice e)=>do
     let i <- P.info? e;let z <- i.zero;let v <- zeroV P 12 e;let ag <- zm P e
     ja (Qr v z && decide (v.cells.length=i.size) && v.okCell && decide (v.isAgg=ag) && decide (len *i.size<=16777216) && decide (0<i.size))
     let l <- Za P n e len parts.toList
     pure (.lit mu i.size ag v len l)
   | _=>none
 |.load t p=>do let i <- P.info? t;let ag <- zm P t;let p' <- zn P none n p;ja (ag || decide (i.size=1));pure (.load ag i.size p')
 |.store t p x=>do let i <- P.info? t;let p' <- zn P none n p;let x' <- zn P (some t) n x;pure (.store i.size p' x')
 |.nilCheck x=>do let x' <- zn P none n x;pure (.nilck x')
 | .binOp op t x y ty=>do
   let x' <- zn P (some t) n x;let y' <- zn P (some ty) n y
   match P.underlying t,op with
   |some (.struct _),.eql=>do let l <- zW P 12 t;ja (!(P.eqGuardType P.depth t));pure (.eqagg false l x' y')
   |some (.struct _),.neq=>do let l <- zW P 12 t;ja (!(P.eqGuardType P.depth t));pure (.eqagg true l x' y')
   |some (.array ..),.eql=>do let l <- zW P 12 t;ja (!(P.eqGuardType P.depth t));pure (.eqagg false l x' y')
   |some (.array ..),.neq=>do let l <- zW P 12 t;ja (!(P.eqGuardType P.depth t));pure (.eqagg true l x' y')
   |some .bool,.eql=>pure (.eqb false x' y')
   |some .bool,.neq=>pure (.eqb true x' y')
   |some (.pointer _),.eql=>pure (.eqp false x' y')
   |some (.pointer _),.neq=>pure (.eqp true x' y')
   |some (.slice _),.eql=>qdQ false x' y
   |some (.slice _),.neq=>qdQ true x' y
   |some (.int _),_ |some .string,_=>pure (.bin op x' y')
   | _,_=>none
 |.unOp op _ x=>do let x' <- zn P none n x;pure (.un op x')
 | .convert src dst x=>do
   let x' <- zn P none n x
   match P.underlying src,P.underlying dst with
   |some (.int _),some (.int k)=>pure (.conv k x')
   |some .string,some .string=>pure (.b2s x')
   | _,_=>qns P src dst x'
 |.makeFunc (.func f) first caps=>qqH P n f first.toList caps.toList
 |.makeInterface t x=>do let x' <- zn P (some t) n x;ja (match P.underlying t with|some (.interface _)|none=>false| _=>true);pure (.mkifc t x')
 | .makeSlice t l c=>match P.underlying t with
   | some (.slice e)=>do
     let i <- P.info? e;let z <- i.zero;let v <- zeroV P 12 e
     ja (Qr v z && decide (v.cells.length=i.size) && v.okCell && decide (0<i.size))
     let l' <- zn P none n l;let c' <- zn P none n c
     pure (.mksl mu i.size i.bytes v l' c')
   | _=>none
 | .slice t x lo hi mx=>match P.underlying t with
   |some .string=>do let x' <- zn P (some t) n x;let lo' <- XK P n lo;let hi' <- XK P n hi;ja mx.isNone;pure (.slcS x' lo' hi')
   |some (.slice e)=>do let i <- P.info? e;let x' <- zn P (some t) n x;let lo' <- XK P n lo;let hi' <- XK P n hi;let mx' <- XK P n mx;pure (.slc i.size x' lo' hi' mx')
   | _=>none
 | .fieldAddr t p f=>match P.underlying t with
   |some (.struct fs)=>do let fd <- fs[f]?;let fi <- P.info? fd.type;let p' <- zn P none n p;ja (decide (fi.size≠0));pure (.faddr fd.offset p')
   | _=>none
 | .field t x f=>match P.underlying t with
   |some (.struct fs)=>do let fd <- fs[f]?;let i <- P.info? fd.type;let ag <- zm P fd.type;let x' <- zn P (some t) n x;ja (ag || decide (i.size=1));pure (.fld ag fd.offset i.size x')
   | _=>none
 | .indexAddr t x i=>match P.underlying t with
   |some (.slice e)=>do let ie <- P.info? e;let x' <- zn P (some t) n x;let i' <- zn P none n i;pure (.iaddr ie.size x' i')
   |some (.array k e)=>do let ie <- P.info? e;let x' <- zn P none n x;let i' <- zn P none n i;pure (.iaddrA k ie.size x' i')
   | _=>none
 | .index t x i=>match P.underlying t with
   |some (.array k e)=>do let ie <- P.info? e;let ag <- zm P e;let x' <- zn P (some t) n x;let i' <- zn P none n i;ja (ag || decide (ie.size=1));pure (.idxA ag k ie.size x' i')
   |some .string=>do let x' <- zn P (some t) n x;let i' <- zn P none n i;pure (.idxS x' i')
   | _=>none
 |.extract x i=>do let x' <- zn P none n x;pure (.ext x' i)
 |.lookup t x i ok=>qpd P n t x i ok
 |.makeMap t r=>qhe P t r
 |.mapUpdate t x i v=>qpT P n t x i v
 |.call {callee:= .builtin b,args,argTypes}=>kV P n mu b argTypes args.toList
 | .call {callee:= .value f,args,argTypes}=>do
   let f' <- zn P none n f
   let l <- Jl P n (argTypes.toList.map some) args.toList
   pure (.call f' l)
 | _=>none
def zN(ov:Option Cls):EOp->Cls
 |.load .. =>(match ov with|some (.l z)=>.l z| _=>.r)
 |.call .. =>(match ov with|some .b=>.b|some .w=>.w|some (.v z)=>.v z|some (.k z)=>.k z| _=>.r)
 |.alloc .. |.box .. =>.a
 |.mksl mu .. =>if mu then .a else .w
 |.lit mu .. =>if mu then .a else .n
 |.append .. =>(match ov with|some .w=>.w| _=>.t)
 |.store .. =>(match ov with|some (.s z)=>.s z| _=>.w)
 |.copy .. |.clear .. |.mset .. =>.w
 |.mkmap=>.a
 | _=>.n
def Xe:Cls->Cls->Bool
 |.any,_ | _,.any=>false
 |.n,_ | _,.n=>true
 |.r,.r|.r,.b|.b,.r|.b,.b=>true
 |.l _,.l _ |.l _,.r|.r,.l _ |.l _,.b|.b,.l _ |.l _,.a|.a,.l _ |.l _,.t|.t,.l _=>true
 |.l x,.s y|.s x,.l y=>x != y
 |.l x,.v y=>x == y
 |.l x,.k y|.k x,.l y=>x == y
 |.r,.a|.b,.a|.a,.r|.a,.a=>true
 |.r,.t|.b,.t|.t,.r|.t,.b|.a,.t|.t,.a=>true
 | _,_=>false
def X3(o:Oper):List Nat:=(o.after.toList.filter (Region.binds .any)).map (·.on)
def qjB(acc:List (List Nat)):List Oper->List (List Nat)
 |[]=>acc
 |o::r=>qjB (acc++[((X3 o).flatMap λp=>p::acc.getD p []).eraseDups]) r
def qkY(x y:Ins):Bool:=QD x y && Xe x.cls y.cls && j6 x.op && j6 y.op
def qdS(ops:Array Oper)(l:List Ins):Bool:=
 let bf:=qjB [] ops.toList
 (List.range ops.size).all λi=>(((ops[i]?).map X3).getD []).all (λp=>decide (p<i)) &&
  (List.range i).all λj=>(bf.getD i []).contains j || (match l[j]?,l[i]? with|some x,some y=>qkY x y| _,_=>false)
structure Pol where
 mu:Nat->Bool:=λ_=>false
 cl:Nat->Nat->Option Cls:=λ_ _=>none
def qhk(n:Nat):EOp->Bool
 |.load _ _ (.t t)=>decide (t<n)
 | _=>true
def ZQ(P:Program)[Glob P](n:Nat)(pol:Pol)(id:Nat)(draw:Bool)(ops:Array Oper):Nat->List Oper->Option (List Ins)
 | _,[]=>some []
 | i,o::r=>do
   let e <- YK P n ((o.dst.map pol.mu).getD false) o
   ja ((o.dst.map λd=>decide (d<n)).getD true && qhk n e)
   let gd <- (match o.guard with
    |none=>some none
    |some (j,want)=>((ops[j]?).bind (·.dst)).bind λt=>if t<n then some (some (t,want))else none)
   let l <- ZQ P n pol id draw ops (i+1) r
   pure ({dst:=o.dst,gd,op:=e,cls:=if draw then zN (pol.cl id i) e else .any}::l)
def compile(P:Program)[Glob P](n:Nat)(pol:Pol):Code->Option EC
 |.skip=>some .skip
 | .region id ops draw=>do
   let l <- ZQ P n pol id draw ops 0 ops.toList
   if draw then ja (qdS ops l && P.follows .mixedOrders)else pure ()
   pure (.reg l)
 |.seq a b=>do let a' <- compile P n pol a;let b' <- compile P n pol b;pure (.seq a' b')
 |.cond c a b=>do let c' <- zn P none n c;let a' <- compile P n pol a;let b' <- compile P n pol b;pure (.cond c' a' b')
 |.block id b=>do let b' <- compile P n pol b;pure (.block id b')
 |.loop b=>do let b' <- compile P n pol b;pure (.loop b')
 |.exit id=>some (.exit id)
 |.ret=>some .ret
 |.label _=>some .skip
 | _=>some .stop
structure EF where
 n:Nat
 nargs:Nat
 res:List (Sum Nat (Nat×Bool×Nat))
 body:EC
def kY(P:Program)[Glob P](n:Nat):List ResultVar->Option (List (Sum Nat (Nat×Bool×Nat)))
 |[]=>some []
 |.tmp t::r=>if t<n then(kY P n r).map (Sum.inl t:: ·)else none
 |.cell a t::r=>do let i <- P.info? t;let ag <- zm P t;ja (decide (a<n) && (ag || decide (i.size=1)));(kY P n r).map (Sum.inr (a,ag,i.size):: ·)
def qc(P:Program)[Glob P](pol:Pol)(fn:Func):Option EF:=do
 let b <- fn.body
 let nargs:=fn.params.size+fn.nfree
 let body <- compile P fn.ntmps pol b
 let res <- kY P fn.ntmps fn.results.toList
 ja (decide (nargs<=fn.ntmps))
 pure {n:=fn.ntmps,nargs,res,body}
end Go.E

set_option linter.all false
set_option linter.unusedSectionVars false
namespace Go.E
section
variable {P : Program}[Glob P]{β : Nat -> Option Loc}{w : World}{lim : Nat -> Option Nat}
theorem add0(b o j:Nat):(⟨b,o,none⟩:Addr).add j=⟨b,o+j,none⟩:=by unfold Addr.add;split<;>simp_all
theorem qE{b:Bool}{u:Unit}:ja b=some u↔b=true:=by cases b<;>simp[ja]
variable {t:TypeId} {ag:Bool}
theorem yg(h:zm P t=some ag):(isAgg t).run P w=.ok ag w:=by unfold zm at h;obtain ⟨d,hd,rfl⟩:=Option.map_eq_some_iff.1 h;simp only[isAgg,underlying,Sem.run_bind,run_program,Result.andThen_ok,hd,Sem.run_pure];cases d<;>rfl
variable {i:TypeInfo}
theorem zf(h:P.info? t=some i):(sizeOf t).run P w=.ok i.size w:=by simp[sizeOf,typeInfo,h]
theorem Jm{z:Value}(h:P.info? t=some i)(hz:i.zero=some z):(zeroValue t).run P w=.ok z w:=by simp[zeroValue,typeInfo,h,hz]
theorem qU{d:TypeDesc}(h:P.underlying t=some d):(underlying t).run P w=.ok d w:=by simp[underlying,h]
theorem YH(hi:P.info? t=some i)(ha:zm P t=some ag){b o:Nat}{rv:Nat->Value}
(hs:ag=true\/i.size=1)(hc:∀j,j<i.size->w.cell? ⟨b,o+j,none⟩=some (rv j)):
 (loadVar t ⟨b,o,none⟩).run P w=.ok (if ag then .agg ((List.range i.size).map rv).toArray else rv 0) w:=by
 unfold loadVar;rw[Sem.run_bind,yg ha];cases ag with
 | true=>
   simp only[Result.andThen_ok,if_true,Sem.run_bind,zf hi,Sem.run_pure];rw[run_loadCells w _ _ rv (λj hj=>by rw[add0];exact hc j hj)];rfl
 | false=>
   have h1:i.size=1:=(by simpa using hs);have h0:=hc 0 o_;simp only[Nat.add_zero]at h0;simp[run_load,h0]
theorem QG{α:Type}(cs:List α)(off n:Nat)(h:off+n<=cs.length)(i:Nat)(hi:i<n):((cs.drop off).take n)[i]?=cs[off+i]?:=by rw[List.getElem?_take,if_pos hi,List.getElem?_drop]
theorem V.cells_scalar{v:V}(h:v.isAgg=false):v.cells=[v]:=by cases v<;>first|rfl|simp[V.isAgg]at h
theorem qhl{ag:Bool}{n sz:Nat}{e:V}{off:Nat}{v:V}{rv:Nat->Value}(h:jD ag n sz e off=some v)(hl:e.cells.length=sz)
(hs:∀c∈e.cells,c.scalar=true)(hr:∀(j:Nat) c,e.cells[j]?=some c->R β w lim c (rv j))(hn:ag=true\/n=1):
 off+n<=sz/\R β w lim v (if ag then .agg ((List.range n).map λj=>rv (off+j)).toArray else rv off):=by
 unfold jD at h;split at h
 . rename_i hc;obtain ⟨rfl,rfl,ha⟩:=hc;cases h;refine⟨o_,?_⟩;cases ag with
   | true=>
     cases e<;>simp[V.isAgg]at ha;rename_i cs;simp only[V.cells]at hl hs hr;subst hl;refine .agg cs _ (by simp) hs (λi c r hc hr'=>?_)
     have:i<cs.length:=(List.getElem?_eq_some_iff.1 hc).1
     simp only[List.getElem?_toArray,List.getElem?_map,List.getElem?_range this,Option.map_some,Option.some.injEq,Nat.zero_add]at hr';subst hr';exact hr i c hc
   | false=>
     have:=V.cells_scalar ha;exact hr 0 e (by rw[this];rfl)
 . unfold QH at h;cases ag with
   | true=>
     simp only[if_true]at h;split at h
     . rename_i hle;cases h;refine⟨o_,?_⟩;have hlen:((e.cells.drop off).take n).length=n:=so_;refine .agg _ _ so_ (λc hc=>hs c (List.mem_of_mem_drop (List.mem_of_mem_take hc))) (λi c r hc hr'=>?_);have hi:i<n:=(by have:=(List.getElem?_eq_some_iff.1 hc).1;omega);rw[QG _ _ _ hle _ hi]at hc;simp only[List.getElem?_toArray,List.getElem?_map,List.getElem?_range hi,Option.map_some,Option.some.injEq]at hr';subst hr';exact hr _ _ hc
     . cases h
   | false=>
     simp only[Bool.false_eq_true,if_false]at h;split at h
     . rename_i h1;subst h1;have hlt:=(List.getElem?_eq_some_iff.1 h).1;exact⟨o_,hr _ _ h⟩
     . cases h
theorem Zp.elem{id sz:Nat}{es:List V}{ro:Bool}(h:Zp β w lim id (.own sz es ro)){k:Nat}{e:V}(he:es[k]?=some e):
 ∃l cur et,β id=some l/\l.size=sz/\w.heap[l.b]?=some (.cells cur et (0,0))/\l.o+es.length *sz<=cur.size/\e.cells.length=sz/\
  (∀c∈e.cells,c.scalar=true)/\l.o+k *sz+sz<=cur.size/\(lim l.b=if ro then none else some 0)/\
  ∀(j:Nat) c,e.cells[j]?=some c->R β w lim c (cur.getD (l.o+k *sz+j) undef):=by
 rcases h with ⟨_,h⟩|⟨l,cur,et,h1,h2,h3,h4,h5,h6,h7⟩
 . subst h;simp at he
 . have hk:=(List.getElem?_eq_some_iff.1 he).1;have hm:=h6 e (List.mem_of_getElem? he);refine⟨l,cur,et,h1,h2,h3,h4,hm.1,hm.2,?_,h5,λj c hc=>?_⟩
   . have:(k+1) *sz<=es.length *sz:=Nat.mul_le_mul_right _ hk
     rw[Nat.succ_mul]at this;omega
   . obtain ⟨r,hr,hR⟩:=h7 k j e c he hc;simpa[Array.getD_eq_getD_getElem?,hr]using hR
theorem cell_of{b i:Nat}{cur:Array Value}{et:TypeId}{fz:Nat×Nat}(h:w.heap[b]?=some (.cells cur et fz))(hi:i<cur.size):
 w.cell? ⟨b,i,none⟩=some (cur.getD i undef):=by
 rw[cell_of_row w b i cur et fz h];simp[hi]
theorem R.ptr_inv{id i off:Nat}{r:Value}(h:R β w lim (.ptr id i off) r):∃l,β id=some l/\r=.pointer (some ⟨l.b,l.o+i *l.size+off,none⟩):=by cases h with|ptr _ _ _ l hβ=>exact⟨l,hβ,rfl⟩
theorem qcl{s:St}{base:Nat}(hH:RelH s.H s.next β lim base w)(hi:P.info? t=some i)(ha:zm P t=some ag)
(hs:ag=true\/i.size=1){p:V}{r:Value}(hp:R β w lim p r){v:V}(hv:zw s ag i.size p=some v):
 ∃x,(Instr.loadAt t r).run P w=.ok x w/\R β w lim v x:=by
 unfold zw at hv;split at hv
 . rename_i id k off;obtain ⟨l,hβ,rfl⟩:=hp.ptr_inv;split at hv
   . rename_i sz es ro hobj;split at hv
     . rename_i e he;obtain ⟨l',cur,et,h1,h2,h3,h4,h5,h6,h7,h8,h9⟩:=(hH.obj _ _ hobj).elem he;rw[hβ]at h1;cases h1;subst h2;obtain ⟨hle,hR⟩:=qhl (β:=β) (w:=w) (lim:=lim) (rv:=λj=>cur.getD (l.o+k *l.size+j) undef) hv h5 h6 h9 hs;refine⟨_,?_,hR⟩;simp only[Instr.loadAt,Instr.sureAddr,Sem.run_bind,Sem.run_pure,Result.andThen_ok];rw[YH hi ha (rv:=λj=>cur.getD (l.o+k *l.size+(off+j)) undef) hs (λj hj=>by
        rw[show l.o+k *l.size+off+j=l.o+k *l.size+(off+j) by omega];exact cell_of h3 o_)]
       simp
     . cases hv
   . cases hv
 . rename_i sz e off;cases hp with
   | iptr _ _ _ b o rv hst hsz hsc hR0=>
     obtain ⟨hle,hR⟩:=qhl (β:=β) (w:=w) (lim:=lim) (rv:=rv) hv hsz hsc hR0 hs;refine⟨_,?_,hR⟩;simp only[Instr.loadAt,Instr.sureAddr,Sem.run_bind,Sem.run_pure,Result.andThen_ok];rw[YH hi ha (rv:=λj=>rv (off+j)) hs (λj hj=>by
      rw[show o+off+j=o+(off+j) by omega];exact(hst _ o_).2)]
     simp
 . cases hv
end
end Go.E

namespace Go.E
section
variable {P : Program}[Glob P]{β : Nat -> Option Loc}{w : World}{lim : Nat -> Option Nat}
variable {k:IntKind} {r:Value}
theorem R.int_inv{n:Int}(h:R β w lim (.int k n) r):r=.int k n:=by cases h;rfl
theorem R.bool_inv{b:Bool}(h:R β w lim (.bool b) r):r=.bool b:=by cases h;rfl
theorem R.str_inv{s:List UInt8}(h:R β w lim (.str s) r):r=.string ⟨s.toArray⟩:=by cases h;rfl
variable {op:BinOp} {v:V}
theorem Xt{x y:Int}(h:xV op k x y=some v)(hs:jS op=false)(t:TypeId):
 ∃r,(binOp op t (.int k x) (.int k y)).run P w=.ok r w/\R β w lim v r:=by
 cases op<;>simp only[xV,jS,Option.some.injEq,reduceCtorEq,Bool.true_eq_false]at h hs
 case quo=>
  split at h
  . cases h
  . rename_i hy;cases h;exact⟨.int k (k.wrap (x.tdiv y)),by simp[binOp,Op.intDiv,hy],.int _ _⟩
 case rem=>
  split at h
  . cases h
  . rename_i hy;cases h;exact⟨.int k (x.tmod y),by simp[binOp,Op.intDiv,hy],.int _ _⟩
 case add=>subst h;exact⟨.int k (k.wrap (x+y)),by simp[binOp,Op.intArith],.int _ _⟩
 case sub=>subst h;exact⟨.int k (k.wrap (x - y)),by simp[binOp,Op.intArith],.int _ _⟩
 case mul=>subst h;exact⟨.int k (k.wrap (x *y)),by simp[binOp,Op.intArith],.int _ _⟩
 case eql=>subst h;exact⟨.bool (x == y),by simp[binOp,Op.intCmp],.bool _⟩
 case neq=>subst h;exact⟨.bool (x != y),by simp[binOp,Op.intCmp],.bool _⟩
 case lss=>subst h;exact⟨.bool (decide (x<y)),by simp[binOp,Op.intCmp],.bool _⟩
 case leq=>subst h;exact⟨.bool (decide (x<=y)),by simp[binOp,Op.intCmp],.bool _⟩
 case gtr=>subst h;exact⟨.bool (decide (x>y)),by simp[binOp,Op.intCmp],.bool _⟩
 case geq=>subst h;exact⟨.bool (decide (x≥y)),by simp[binOp,Op.intCmp],.bool _⟩
 all_goals subst h;refine⟨_,?_,.int _ _⟩;simp only[binOp,Op.intBits,Sem.run_pure,ne_eq,not_true_eq_false,if_false]
theorem qgj{k':IntKind}{x y:Int}(h:Vf op k x y=some v)(t:TypeId):
 ∃r,(binOp op t (.int k x) (.int k' y)).run P w=.ok r w/\R β w lim v r:=by
 unfold Vf at h;split at h
 . cases h
 . rename_i hy;cases op<;>simp only[Option.some.injEq,reduceCtorEq]at h;all_goals subst h
   all_goals refine⟨_,?_,.int _ _⟩;simp only[binOp,Op.shift,hy,if_false,Sem.run_pure]
theorem Yx(s:List UInt8):(⟨s.toArray⟩:ByteArray).toList=s:=by rw[ByteArray.toList_eq]
theorem qfq{a b:List UInt8}(h:qb0 op a b=some v)(t:TypeId):
 ∃r,(binOp op t (.string ⟨a.toArray⟩) (.string ⟨b.toArray⟩)).run P w=.ok r w/\R β w lim v r:=by
 have e1:(a == b)=decide (a=b):=by rw[Bool.eq_iff_iff];simp
 cases op<;>simp only[qb0,Option.some.injEq,reduceCtorEq]at h
 case add=>
  split at h
  case isFalse=>cases h
  rename_i hle;cases h;refine⟨.string ⟨(a++b).toArray⟩,?_,.str _⟩;have h2: ¬ ((((⟨a.toArray⟩:ByteArray).size+(⟨b.toArray⟩:ByteArray).size:Nat):Int)>IntKind.i64.max):=by
   have:IntKind.i64.max=9223372036854775807:=dc_
   rw[this];simp only[ByteArray.size,List.size_toArray];omega
  simp only[binOp,Op.stringOp,h2,if_false,Sem.run_pure];congr 2
 all_goals subst h
 all_goals refine⟨_,?_,.bool _⟩;simp only[binOp,Op.stringOp,Yx,e1,Sem.run_pure]
variable {t:TypeId} {x:V} {a:Value}
theorem qla{y:V}{b:Value}(h:xU op x y=some v)(hx:R β w lim x a)(hy:R β w lim y b):
 ∃r,(binOp op t a b).run P w=.ok r w/\R β w lim v r:=by
 cases x<;>cases y<;>simp only[xU,reduceCtorEq]at h
 . cases hx.int_inv;cases hy.int_inv;split at h
   . exact qgj h t
   . rename_i hs;split at h
     . rename_i hk;subst hk;exact Xt h (by simpa using hs) t
     . cases h
 . cases hx.str_inv;cases hy.str_inv;exact qfq h t
theorem Qh(op:BinOp)(t:TypeId)(x y:Operand)(a b:Value)(h:(∀q,a≠ .agg q)/\a≠ .nilIface):(eqGuard op t x y a b).run P w=.ok () w:=by cases op<;>cases a<;>first|exact absurd rfl h.2|exact absurd rfl (h.1 _)|simp[eqGuard]
theorem qqC(ht:P.underlying t=some .bool)(neg:Bool)(a b:Bool):
 (binOp (if neg then .neq else .eql) t (.bool a) (.bool b)).run P w=.ok (.bool ((a == b) != neg)) w:=by
 cases neg
 . simp[run_eql_bool w t a b ht]
 . simp[run_neq_bool w t a b ht]
variable {e:TypeId}
theorem qbP(ht:P.underlying t=some (.pointer e))(a b:Option Addr)(h:a=none\/b=none):
 (Op.equal t (.pointer a) (.pointer b)).run P w=.ok (decide (a=none/\b=none)) w:=by
 unfold Op.equal;rw[show Op.maxDepth=9999+1 from rfl];generalize 9999=d;cases a<;>cases b<;>simp at h<;>simp[Op.equalIn,qU ht]
theorem qdx(ht:P.underlying t=some (.pointer e))(neg:Bool)(a b:Option Addr)(h:a=none\/b=none):
 (binOp (if neg then .neq else .eql) t (.pointer a) (.pointer b)).run P w=.ok (.bool (decide (a=none/\b=none) != neg)) w:=by
 cases neg
 . simp[binOp,qbP ht a b h]
 . simp[binOp,qbP ht a b h]
theorem kC(h:R β w lim x a)(hp:qhV x=true):∃p,a=.pointer (some p):=by
 cases h<;>simp[qhV]at hp
 . exact⟨_,rfl⟩
 . exact⟨_,rfl⟩
theorem qki(ht:P.underlying t=some (.pointer e)){neg:Bool}{y:V}{b:Value}(h:qxB neg x y=some v)(hx:R β w lim x a)(hy:R β w lim y b):
 ∃r,(binOp (if neg then .neq else .eql) t a b).run P w=.ok r w/\R β w lim v r:=by
 unfold qxB at h;split at h
 . cases hx;cases hy;cases h;exact⟨_,qdx ht neg none none (.inl rfl),by cases neg<;>exact .bool _⟩
 . split at h
   . cases h;obtain ⟨p,rfl⟩:=kC hy ‹_›;cases hx;exact⟨_,qdx ht neg none _ (.inl rfl),by cases neg<;>exact .bool _⟩
   . cases h
 . split at h
   . cases h;obtain ⟨p,rfl⟩:=kC hx ‹_›;cases hy;exact⟨_,qdx ht neg _ none (.inr rfl),by cases neg<;>exact .bool _⟩
   . cases h
 . cases h
theorem qo2{op:UnOp}(h:unV op x=some v)(hx:R β w lim x a):∃r,(Op.unary op a).run P w=.ok r w/\R β w lim v r:=by
 unfold unV at h;split at h
 . cases hx.bool_inv;cases h;exact⟨_,by simp[Op.unary],.bool _⟩
 . cases hx.int_inv;obtain ⟨r,h1,h2⟩:=Xt (P:=P) (w:=w) (β:=β) (lim:=lim) h rfl 0;refine⟨r,?_,h2⟩;simpa[Op.unary,binOp]using h1
 . cases hx.int_inv;obtain ⟨r,h1,h2⟩:=Xt (P:=P) (w:=w) (β:=β) (lim:=lim) h rfl 0;refine⟨r,?_,h2⟩;simpa[Op.unary,binOp]using h1
 . cases h
theorem jb{i:Nat}(h:idxOf v=some i)(hx:R β w lim v a):∃k,a=.int k (i:Int):=by
 unfold idxOf at h;split at h
 . cases hx.int_inv;split at h
   . cases h;rename_i hn;exact⟨_,by rw[Int.toNat_of_nonneg hn]⟩
   . cases h
 . cases h
theorem qdu(h:R β w lim x a):(∃sz c es,x=.sl sz c es)\/(∃id fin sz es,x=.asl id fin sz es)\/(∃id sz off len,x=.msl id sz off len)->
 ∃p n c,a=.slice p n c/\n<=c/\c<=maxLen/\qcS x=some n:=by
 rintro (⟨sz,c,es,rfl⟩|⟨id,fin,sz,es,rfl⟩|⟨id,sz,off,len,rfl⟩)
 . cases h with
   |sl0 _ _ a cap _ hm=>exact⟨_,_,_,rfl,Nat.zero_le _,hm,rfl⟩
   |sl _ _ _ b o cap rv _ _ _ _ hcap hm _=>exact⟨_,_,_,rfl,hcap,hm,rfl⟩
 . cases h with
   | aslClip _ _ _ _ _ h=>
     cases h with
     |sl0 _ _ a cap _ hm=>exact⟨_,_,_,rfl,Nat.zero_le _,hm,rfl⟩
     |sl _ _ _ b o cap rv _ _ _ _ hcap hm _=>exact⟨_,_,_,rfl,hcap,hm,rfl⟩
   |asl _ _ _ l cap rv _ _ _ _ _ hcap hm _=>exact⟨_,_,_,rfl,hcap,hm,rfl⟩
 . cases h with
   |msl0=>exact⟨_,_,_,rfl,Nat.le_refl _,Nat.zero_le _,rfl⟩
   |msl _ _ _ l cap _ hcap hm _=>exact⟨_,_,_,rfl,hcap,hm,rfl⟩
theorem jK{isS:Bool}{len cap:Nat}{lo hi:Option V}{lo' hi':Option Value}{l h:Nat}(hb:jR len lo hi=some (l,h))(hlc:len<=cap)
(hlo:∀x,lo=some x->∃y,lo'=some y/\R β w lim x y)(hlo0:lo=none->lo'=none)
(hhi:∀x,hi=some x->∃y,hi'=some y/\R β w lim x y)(hhi0:hi=none->hi'=none):
 l<=h/\h<=len/\(Instr.sliceBounds isS len cap lo' hi' none).run P w=.ok (l,h,cap) w:=by
 unfold jR at hb;split at hb
 case h_2=>cases hb
 rename_i h' hh;split at hb
 case isFalse=>cases hb
 rename_i hle;split at hb
 case h_2=>cases hb
 rename_i l' hl;split at hb
 case isFalse=>cases hb
 rename_i hlh;cases hb;refine⟨hlh,hle,?_⟩;have bound:∀{k:IntKind} {i y:Nat} {code:BoundsCode},i<=y->(Instr.sliceBound (.int k (i:Int)) y code).run P w=.ok i w:=by
  intro k i y code hiy
  have:(0:Int)<=(i:Int)/\(i:Int)<=(y:Int):=⟨o_,o_⟩
  simp[Instr.sliceBound,asIntOf,hiy]
 unfold Instr.sliceBounds;cases hi with
 | none=>
   simp only[Option.some.injEq]at hh;subst hh;rw[hhi0 rfl];cases lo with
   |none=>simp only[Option.some.injEq]at hl;subst hl;rw[hlo0 rfl];simp
   | some lx=>
     obtain ⟨y,rfl,hy⟩:=hlo lx rfl;obtain ⟨k,rfl⟩:=jb hl hy;simp[bound hlh]
 | some hx=>
   obtain ⟨y,rfl,hy⟩:=hhi hx rfl;obtain ⟨k,rfl⟩:=jb hh hy;cases lo with
   |none=>simp only[Option.some.injEq]at hl;subst hl;rw[hlo0 rfl];simp[bound (show h<=cap by omega)]
   | some lx=>
     obtain ⟨y2,rfl,hy2⟩:=hlo lx rfl;obtain ⟨k2,rfl⟩:=jb hl hy2;simp[bound (show h<=cap by omega),bound hlh]
end
end Go.E

namespace Go.E
section
variable {P : Program}[Glob P]{β : Nat -> Option Loc}{w : World}{lim : Nat -> Option Nat}
theorem Yh(a b c:Nat)(h:a<=b):a *c<=b *c:=Nat.mul_le_mul_right _ h
variable {es:List V} {l:Nat}
theorem qtl{size:Nat}{clip':Bool}{b o:Nat}{rv:Nat->Value}
(hst:∀j,j<es.length *size->yP lim b (o+j)/\w.cell? ⟨b,o+j,none⟩=some (rv j))
(hsz:∀e∈es,e.cells.length=size/\∀c∈e.cells,c.scalar=true)
(h:∀(i j:Nat) e c,es[i]?=some e->e.cells[j]?=some c->R β w lim c (rv (i *size+j)))
{k cap':Nat}{a:Option Addr}(hlk:l<=k)(hk:k<=es.length)(hcap:k - l<=cap')(hm:cap'<=maxLen)(hc:clip'=true->cap'=k - l)
(ha:k≠l->a=some ⟨b,o+l *size,none⟩):R β w lim (.sl size clip' ((es.take k).drop l)) (.slice a (k - l) cap'):=by
 by_cases hkl:k=l
 . subst hkl
   have:(es.take k).drop k=[]:=by apply List.drop_eq_nil_of_le;simp;omega
   rw[this,Nat.sub_self];exact .sl0 _ _ _ _ (λh=>by have:=hc h;omega) hm
 . rw[ha hkl];have hlen:((es.take k).drop l).length=k - l:=so_;have hget:∀i e,((es.take k).drop l)[i]?=some e->i<k - l/\es[l+i]?=some e:=by
    intro i e he;have hi:=(List.getElem?_eq_some_iff.1 he).1;rw[List.getElem?_drop,List.getElem?_take]at he;split at he
    . exact⟨o_,he⟩
    . cases he
   have hmem:∀e,e∈(es.take k).drop l->e∈es:=λe he=>List.mem_of_mem_take (List.mem_of_mem_drop he);have:=R.sl (β:=β) (w:=w) (lim:=lim) size clip' ((es.take k).drop l) b (o+l *size) cap' (λj=>rv (l *size+j)) o_
    (λj hj=>by
     rw[hlen]at hj;have h1:(k - l) *size=k *size - l *size:=Nat.sub_mul _ _ _;have h2:=Yh k es.length size hk;have h3:=Yh l k size hlk;have:=hst (l *size+j) o_;rw[show o+l *size+j=o+(l *size+j) by omega];exact this)
    (λe he=>hsz e (hmem e he))
    (λi j e c he hcx=>by
     obtain ⟨hi,he'⟩:=hget i e he;have:=h (l+i) j e c he' hcx;rw[Nat.add_mul]at this;rw[show l *size+(i *size+j)=l *size+i *size+j by omega];exact this)
    o_ hm (λh=>by rw[hlen];exact hc h)
   rw[hlen]at this;exact this
variable {t:TypeId}
theorem kR{e:TypeId}{i:TypeInfo}(ht:P.underlying t=some (.slice e))(hi:P.info? e=some i)(a:Option Addr)(len cap:Nat)(lo hi' mx:Option Value)(l h m:Nat)
(hb:(Instr.sliceBounds true len cap lo hi' mx).run P w=.ok (l,h,m) w):
 (Instr.sliceAt t (.slice a len cap) lo hi' mx).run P w=.ok (.slice (if m=l then a else a.map (·.add (l *i.size))) (h - l) (m - l)) w:=by
 simp[Instr.sliceAt,Instr.slice,qU ht,hb,zf hi]
variable {cap:Nat} {lo:Option V} {lo' mx':Option Value}
theorem Vv{len:Nat}{hi:Option V}{m:V}{hi':Option Value}{h:Nat}(hb:jR len lo hi=some (l,h))(hlc:len<=cap)
(hlo:∀x,lo=some x->∃y,lo'=some y/\R β w lim x y)(hlo0:lo=none->lo'=none)
(hhi:∀x,hi=some x->∃y,hi'=some y/\R β w lim x y)(hhi1:hi≠none)
{mr:Value}(hmx:mx'=some mr)(hmr:R β w lim m mr)(hm:idxOf m=some h):
 (Instr.sliceBounds true len cap lo' hi' mx').run P w=.ok (l,h,h) w:=by
 subst hmx;obtain ⟨km,rfl⟩:=jb hm hmr;unfold jR at hb;split at hb
 case h_2=>cases hb
 rename_i h' hh;split at hb
 case isFalse=>cases hb
 rename_i hle;split at hb
 case h_2=>cases hb
 rename_i l' hl;split at hb
 case isFalse=>cases hb
 rename_i hlh;cases hb;have bound:∀{k:IntKind} {i y:Nat} {code:BoundsCode},i<=y->(Instr.sliceBound (.int k (i:Int)) y code).run P w=.ok i w:=by intro k i y code hiy;simp[Instr.sliceBound,asIntOf,hiy]
 unfold Instr.sliceBounds;cases hi with
 |none=>exact absurd rfl hhi1
 | some hx=>
   obtain ⟨y,rfl,hy⟩:=hhi hx rfl;obtain ⟨k,rfl⟩:=jb hh hy;cases lo with
   |none=>simp only[Option.some.injEq]at hl;subst hl;rw[hlo0 rfl];simp[bound (show h<=cap by omega),bound (Nat.le_refl h)]
   | some lx=>
     obtain ⟨y2,rfl,hy2⟩:=hlo lx rfl;obtain ⟨k2,rfl⟩:=jb hl hy2;simp[bound (show h<=cap by omega),bound (Nat.le_refl h),bound hlh]
variable {sz:Nat} {a:Value}
theorem Q6{id fin:Nat}(h:R β w lim (.asl id fin sz es) a):R β w lim (.sl sz false es) a:=by
 cases h with
 | aslClip _ _ _ _ _ h=>
   cases h with
   |sl0 _ _ a cap _ hm=>exact .sl0 _ _ _ _ (by simp) hm
   |sl _ _ _ b o cap rv h1 h2 h3 h4 hcap hm _=>exact .sl _ _ _ _ _ _ _ h1 h2 h3 h4 hcap hm (by simp)
 | asl _ _ _ l cap rv hβ hfin h2 h3 h4 hcap hm _=>
   by_cases he:es=[]
   . subst he;exact .sl0 _ _ _ _ (by simp) hm
   . exact .sl _ _ _ _ _ _ _ (List.length_pos_iff.2 he) h2 h3 h4 hcap hm (by simp)
variable {c:Bool}
theorem qiu(h:R β w lim (.sl sz c es) a):R β w lim (.sl sz false es) a:=by
 cases h with
 |sl0 _ _ a cap _ hm=>exact .sl0 _ _ _ _ (by simp) hm
 |sl _ _ _ b o cap rv h1 h2 h3 h4 hcap hm _=>exact .sl _ _ _ _ _ _ _ h1 h2 h3 h4 hcap hm (by simp)
theorem qbJ{c':Bool}{p:Option Addr}{n:Nat}(h:R β w lim (.sl sz c es) (.slice p n cap)){k m:Nat}(hlk:l<=k)(hk:k<=es.length)
(hm:k<=m/\m<=cap)(hc:c'=true->m=k):R β w lim (.sl sz c' ((es.take k).drop l)) (.slice (if m=l then p else p.map (·.add (l *sz))) (k - l) (m - l)):=by
 cases h with
 | sl0 _ _ a cap _ hm'=>
   have hk0:k=0:=(by simpa using hk);have hl0:l=0:=o_;subst hk0;subst hl0;exact .sl0 _ _ _ _ (λh=>by have:=hc h;omega) o_
 | sl _ _ _ b o cap rv h1 h2 h3 h4 hcap hm' _=>
   refine qtl h2 h3 h4 hlk hk o_ o_ (λh=>by have:=hc h;omega) (λhne=>?_);rw[if_neg o_];simp[add0]
theorem KG(h:R β w lim (.sl sz c es) a):∃p cap,a=.slice p es.length cap/\es.length<=cap/\cap<=maxLen/\(c=true->cap=es.length):=by
 cases h with
 |sl0 _ _ a cap hc hm=>exact⟨_,_,rfl,Nat.zero_le _,hm,λh=>hc h⟩
 |sl _ _ _ b o cap rv h1 h2 h3 h4 hcap hm hc=>exact⟨_,_,rfl,hcap,hm,hc⟩
variable {hi':Option V} {hi'':Option Value}
theorem qfu{e:TypeId}{i:TypeInfo}(ht:P.underlying t=some (.slice e))(hi:P.info? e=some i){x:V}(hx:R β w lim x a)
{mx:Option V}
(hlo:∀x,lo=some x->∃y,lo'=some y/\R β w lim x y)(hlo0:lo=none->lo'=none)
(hhi:∀x,hi'=some x->∃y,hi''=some y/\R β w lim x y)(hhi0:hi'=none->hi''=none)
(hmx:∀x,mx=some x->∃y,mx'=some y/\R β w lim x y)(hmx0:mx=none->mx'=none)
{v:V}(h:xK i.size x lo hi' mx=some v):∃r,(Instr.sliceAt t a lo' hi'' mx').run P w=.ok r w/\R β w lim v r:=by
 unfold xK at h;split at h
 . rename_i sz clip es;split at h
   case isFalse=>cases h
   rename_i hsz;subst hsz;split at h
   case h_2=>cases h
   rename_i l k hb;obtain ⟨p,cap,rfl,hc1,hc2,hc3⟩:=KG hx;obtain ⟨hlk,hk,_⟩:=jK (P:=P) (isS:=true) (w:=w) hb hc1 hlo hlo0 hhi hhi0;cases mx with
   | none=>
     cases h;rw[hmx0 rfl];refine⟨_,kR ht hi _ _ _ _ _ _ _ _ _ (jK hb hc1 hlo hlo0 hhi hhi0).2.2,?_⟩;refine qbJ hx hlk hk ⟨o_,o_⟩ (λh=>?_);simp at h;have:=hc3 h.1;omega
   | some m=>
     simp only at h;split at h
     case isFalse=>cases h
     rename_i hm;cases h;obtain ⟨mr,hmr,hR⟩:=hmx m rfl;refine⟨_,kR ht hi _ _ _ _ _ _ _ _ _ (Vv hb hc1 hlo hlo0 hhi (by intro h0;simp[h0]at hm) hmr hR hm.2),?_⟩;exact qbJ hx hlk hk ⟨o_,o_⟩ (λ_=>rfl)
 . rename_i id fin sz es;split at h
   case isFalse=>cases h
   rename_i hsz;split at h
   case h_2=>cases h
   rename_i l k hb;have hx':=Q6 hx;obtain ⟨p,cap,rfl,hc1,hc2,hc3⟩:=KG hx';obtain ⟨hlk,hk,_⟩:=jK (P:=P) (isS:=true) (w:=w) hb hc1 hlo hlo0 hhi hhi0;cases mx with
   | none =>
     rw[hmx0 rfl];simp only at h;have hrun:=kR ht hi p es.length cap _ _ _ _ _ _ (jK hb hc1 hlo hlo0 hhi hhi0).2.2;rw[<- hsz]at hrun;split at h
     . rename_i hkl;cases h;subst hkl;refine⟨_,hrun,?_⟩;have htk:(es.take es.length).drop l=es.drop l:=(by rw[List.take_length]);cases hx with
       | aslClip _ _ _ _ _ h=>
         obtain ⟨_,_,he,_,_,hcc⟩:=KG h;cases he;have:=qbJ (c':=true) h hlk hk (m:=cap) ⟨hc1,Nat.le_refl _⟩ (λ_=>hcc rfl);rw[htk]at this;exact .aslClip _ _ _ _ _ this
       | asl _ _ _ ll _ rv hβ hfin h2 h3 h4 hcap hm hrow=>
         by_cases hcl:cap=l
         . have hel:es.length=l:=o_;have hnil:es.drop l=[]:=(by apply List.drop_eq_nil_of_le;omega);rw[hnil,hcl,<- hel];exact .aslClip _ _ _ _ _ (by rw[Nat.sub_self];exact .sl0 _ _ _ _ (λ_=>rfl) (Nat.zero_le _))
         . rw[if_neg hcl];have hdl:(es.drop l).length=es.length - l:=(by simp);have e1:fin - (es.length - l)=fin - es.length+l:=o_;have:=R.asl (β:=β) (w:=w) (lim:=lim) id fin (es.drop l) ll (cap - l) (λj=>rv (l *ll.size+j)) hβ o_
            (λj hj=>by
             rw[hdl]at hj ⊢;have h1:(es.length - l) *ll.size=es.length *ll.size - l *ll.size:=Nat.sub_mul _ _ _;have h3:=Yh l es.length ll.size hlk;have:=h2 (l *ll.size+j) o_;rw[e1,Nat.add_mul];rw[show ll.o+((fin - es.length) *ll.size+l *ll.size)+j=ll.o+(fin - es.length) *ll.size+(l *ll.size+j) by omega];exact this)
            (λe he=>h3 e (List.mem_of_mem_drop he))
            (λi j e c he hcx=>by
             rw[List.getElem?_drop]at he;have:=h4 (l+i) j e c he hcx;rw[Nat.add_mul]at this;rw[show l *ll.size+(i *ll.size+j)=l *ll.size+i *ll.size+j by omega];exact this)
            o_ o_ (by
             rw[hdl,e1,show fin - es.length+l+(cap - l)=fin - es.length+cap by omega];exact hrow)
           rw[hdl,e1,Nat.add_mul]at this;simp only[Option.map_some,add0];rw[Nat.add_assoc];exact this
     . cases h;exact⟨_,hrun,qbJ hx' hlk hk ⟨o_,o_⟩ (by simp)⟩
   | some m=>
     simp only at h;split at h
     case isFalse=>cases h
     rename_i hm;cases h;obtain ⟨mr,hmr,hR⟩:=hmx m rfl;have hrun:=kR ht hi p es.length cap _ _ _ _ _ _ (Vv hb hc1 hlo hlo0 hhi (by intro h0;simp[h0]at hm) hmr hR hm.2);rw[<- hsz]at hrun;refine⟨_,hrun,?_⟩;exact qbJ hx' hlk hk ⟨o_,o_⟩ (λ_=>rfl)
 . rename_i id sz off len;split at h
   case isFalse=>cases h
   rename_i hsz;split at h
   case h_2=>cases h
   rename_i l k hb;cases mx with
   |some m=>cases h
   | none=>
     cases h;rw[hmx0 rfl];cases hx with
     | msl0 _ _ _ p=>
       obtain ⟨hlk,hk,hrun⟩:=jK (P:=P) (isS:=true) (w:=w) hb (Nat.le_refl _) hlo hlo0 hhi hhi0;obtain rfl:k=0:=o_;obtain rfl:l=0:=o_;exact⟨_,kR ht hi _ _ _ _ _ _ _ _ _ hrun,.msl0 _ _ _ _⟩
     | msl _ _ _ ll cap hβ hcap hm hrow=>
       obtain ⟨hlk,hk,hrun⟩:=jK (P:=P) (isS:=true) (w:=w) hb hcap hlo hlo0 hhi hhi0;have hrun:=kR ht hi (some ⟨ll.b,ll.o+off *ll.size,none⟩) len cap _ _ _ _ _ _ hrun;rw[<- hsz]at hrun;refine⟨_,hrun,?_⟩;by_cases hcl:cap=l
       . obtain rfl:k=l:=o_;rw[hcl,Nat.sub_self];exact .msl0 _ _ _ _
       . rw[if_neg hcl];have:=R.msl (β:=β) (w:=w) (lim:=lim) id (off+l) (k - l) ll (cap - l) hβ o_ o_ (by rw[show off+l+(cap - l)=off+cap by omega];exact hrow);simp only[Option.map_some,add0];rw[Nat.add_mul]at this;rw[Nat.add_assoc];exact this
 . cases h
theorem qcf(ht:P.underlying t=some .string){s:List UInt8}

(hlo:∀x,lo=some x->∃y,lo'=some y/\R β w lim x y)(hlo0:lo=none->lo'=none)
(hhi:∀x,hi'=some x->∃y,hi''=some y/\R β w lim x y)(hhi0:hi'=none->hi''=none)
{v:V}(h:yI (.str s) lo hi'=some v):∃r,(Instr.sliceAt t (.string ⟨s.toArray⟩) lo' hi'' none).run P w=.ok r w/\R β w lim v r:=by
 simp only[yI]at h;split at h
 . rename_i l k hb;cases h;have hs:(⟨s.toArray⟩:ByteArray).size=s.length:=(by simp[ByteArray.size]);obtain ⟨hlk,hk,hrun⟩:=jK (P:=P) (isS:=false) (w:=w) hb (Nat.le_refl _) hlo hlo0 hhi hhi0;refine⟨.string ((⟨s.toArray⟩:ByteArray).extract l k),?_,?_⟩
   . simp[Instr.sliceAt,Instr.slice,qU ht,hs,hrun]
   . have:(⟨s.toArray⟩:ByteArray).extract l k=⟨((s.take k).drop l).toArray⟩:=by
      apply ByteArray.ext;simp[List.extract_eq_take_drop,List.drop_take]
     rw[this];exact .str _
 . cases h
end
end Go.E

namespace Go.E
section
variable {P : Program}[Glob P]{β : Nat -> Option Loc}{w : World}{lim : Nat -> Option Nat}
variable {v:V} {r:Value}
theorem R.scalar_cells(h:R β w lim v r)(hs:v.scalar=true):v.cells=[v]/\r.cells= #[r]:=by have h1:=h.oneCell hs;refine⟨by cases v<;>first|rfl|simp[V.scalar]at hs,by cases r<;>first|rfl|simp[Value.oneCell']at h1⟩
theorem XD(h:v.okCell=true):(∃cs,v=.agg cs)\/v.scalar=true:=by cases v<;>simp[V.okCell,V.scalar]at h ⊢
theorem R.cells(h:R β w lim v r)(hk:v.okCell=true):
 r.cells.size=v.cells.length/\(∀c∈v.cells,c.scalar=true)/\∀(j:Nat) c x,v.cells[j]?=some c->r.cells[j]?=some x->R β w lim c x:=by
 rcases XD hk with ⟨cs,rfl⟩|hs
 . cases h with
   |agg _ rs hl hsc hR=>exact⟨hl,hsc,hR⟩
 . obtain ⟨h1,h2⟩:=h.scalar_cells hs;rw[h1,h2];refine⟨rfl,by simpa using hs,λj c x hc hx=>?_⟩;cases j with
   |zero=>simp at hc hx;subst hc;subst hx;exact h
   |succ j=>simp at hc
def RL(β:Nat->Option Loc)(w:World)(lim:Nat->Option Nat)(cs:List V)(rs:Array Value):Prop:=
 rs.size=cs.length/\(∀c∈cs,c.scalar=true)/\∀(j:Nat) c x,cs[j]?=some c->rs[j]?=some x->R β w lim c x
theorem foldl_set(off:Nat):∀(vs:List Value) (k:Nat) (cells:Array Value),
 ((vs.zipIdx k).foldl (λcs (p:Value×Nat)=>cs.setIfInBounds (off+p.2) p.1) cells).size=cells.size/\
 ∀j,((vs.zipIdx k).foldl (λcs (p:Value×Nat)=>cs.setIfInBounds (off+p.2) p.1) cells)[j]?=
  if off+k<=j/\j<off+k+vs.length/\j<cells.size then vs[j - (off+k)]? else cells[j]?
 | [],k,cells=>by refine⟨rfl,λj=>?_⟩;simp;intro h1 h2;omega
 | v ::vs,k,cells=>by
   obtain ⟨h1,h2⟩:=foldl_set off vs (k+1) (cells.setIfInBounds (off+k) v);simp only[List.zipIdx_cons,List.foldl_cons];refine⟨by rw[h1];simp,λj=>?_⟩;rw[h2 j];simp only[Array.size_setIfInBounds,List.length_cons];by_cases hj:j=off+k
   . subst hj;by_cases hlt:off+k<cells.size
     . rw[if_neg o_,if_pos ⟨o_,o_,hlt⟩];simp[hlt]
     . rw[if_neg o_,if_neg o_];rw[Array.getElem?_eq_none so_,Array.getElem?_eq_none o_]
   . have hne:(cells.setIfInBounds (off+k) v)[j]?=cells[j]?:=Array.getElem?_setIfInBounds_ne o_;rw[hne];by_cases hin:off+(k+1)<=j/\j<off+(k+1)+vs.length/\j<cells.size
     . rw[if_pos hin,if_pos ⟨o_,o_,hin.2.2⟩];rw[show j - (off+k)=(j - (off+(k+1)))+1 by omega];simp
     . rw[if_neg hin,if_neg o_]
variable {cs:List V} {rs:Array Value} {off:Nat}
theorem RL.splice(h:RL β w lim cs rs)(hv:R β w lim v r)(hk:v.okCell=true)(hle:off+v.cells.length<=cs.length):
 RL β w lim (cs.take off++v.cells++cs.drop (off+v.cells.length)) (r.cells.zipIdx.foldl (λcs (p:Value×Nat)=>cs.setIfInBounds (off+p.2) p.1) rs):=by
 obtain ⟨h1,h2,h3⟩:=h;obtain ⟨c1,c2,c3⟩:=hv.cells hk;have hf:=foldl_set off r.cells.toList 0 rs;have e:r.cells.zipIdx.foldl (λcs (p:Value×Nat)=>cs.setIfInBounds (off+p.2) p.1) rs=(r.cells.toList.zipIdx 0).foldl (λcs (p:Value×Nat)=>cs.setIfInBounds (off+p.2) p.1) rs:=by rw[<- Array.foldl_toList];simp
 rw[e];refine⟨by rw[hf.1,h1];simp;omega,λc hc=>?_,λj c x hc hx=>?_⟩
 . rcases List.mem_append.1 hc with hc|hc
   . rcases List.mem_append.1 hc with hc|hc
     . exact h2 c (List.mem_of_mem_take hc)
     . exact c2 c hc
   . exact h2 c (List.mem_of_mem_drop hc)
 . rw [hf.2 j]at hx;simp only[Nat.add_zero,Array.length_toList,c1]at hx;have hlt:(cs.take off).length=off:=so_;rw[List.append_assoc,List.getElem?_append,hlt]at hc;split at hc
   . rename_i hj;rw[if_neg o_]at hx;rw[List.getElem?_take,if_pos hj]at hc;exact h3 j c x hc hx
   . rename_i hj;rw[List.getElem?_append]at hc;split at hc
     . rename_i hj2;rw[if_pos ⟨o_,o_,o_⟩]at hx;exact c3 _ c x hc (by simpa using hx)
     . rename_i hj2;rw[if_neg o_]at hx;rw[List.getElem?_drop]at hc;rw[show off+v.cells.length+(j - off - v.cells.length)=j by omega]at hc;exact h3 j c x hc hx
theorem Vz{s:St}{n:Nat}{a:Act}(hF:RelF P s β w lim n a){place:Nat->Option (Nat×Nat×TypeId)}:
 ∀{parts:List (Nat×Operand)} {l:List (Nat×Nat×Opd)} {cs:List V} {rs:Array Value} {out:List V},partsOf P n place parts=some l->
  XU cs (l.map λ(o,n,x)=>(o,n,ev s x))=some out->RL β w lim cs rs->
  ∃rout,Instr.fill (λi=>(place i).map λp=>(p.1,p.2.1)) rs (parts.map λp=>(p.1,a.eval p.2))=some rout/\RL β w lim out rout
 | [],l,cs,rs,out,hp,hf,h=>by simp[partsOf]at hp;subst hp;simp[XU]at hf;subst hf;exact⟨rs,rfl,h⟩
 | (i,x)::r,l,cs,rs,out,hp,hf,h=>by
   simp only[partsOf,Option.bind_eq_some_iff,Option.map_eq_some_iff]at hp;obtain ⟨⟨off,size,t⟩,hpl,x',hx,l',hl,rfl⟩:=hp;simp only[List.map_cons,XU]at hf;split at hf
   case isFalse=>cases hf
   rename_i hc;obtain ⟨hc1,hc2,hc3⟩:=hc;have hR:=zO hx hF;subst hc1;have hcell:=hR.cells hc3;obtain ⟨rout,h1,h2⟩:=Vz hF hl hf (h.splice hR hc3 hc2);refine⟨rout,?_,h2⟩;simp only[List.map_cons,Instr.fill,hpl,Option.map_some];rw[if_neg (by simp[hcell.1,h.1];omega)];exact h1
theorem qbI{z:Value}(h:Qr v z=true)(ha:v.isAgg=true):RL β w lim v.cells z.cells:=by
 cases v<;>simp[V.isAgg]at ha;rename_i cs;have hR:=X8 (β:=β) (w:=w) (lim:=lim) h;cases hR with
 |agg _ rs hl hs hR=>exact⟨hl,hs,hR⟩
theorem qeT{t:TypeId}{i:TypeInfo}{ag:Bool}(hi:P.info? t=some i)(ha:zm P t=some ag)(hs:ag=true\/i.size=1)
(hR:RL β w lim cs rs)(h:QH ag i.size cs off=some v):∃x,(part t rs off).run P w=.ok x w/\R β w lim v x:=by
 unfold QH at h;unfold part;rw[Sem.run_bind,yg ha];cases ag with
 | true=>
   simp only[if_true]at h;split at h
   case isFalse=>cases h
   rename_i hle;cases h;refine⟨.agg (rs.extract off (off+i.size)),by simp[zf hi],?_⟩;refine .agg _ _ (by have:=hR.1;simp;omega) (λc hc=>hR.2.1 c (List.mem_of_mem_drop (List.mem_of_mem_take hc))) (λj c r hc hr=>?_);have hj:j<i.size:=(by have:=(List.getElem?_eq_some_iff.1 hc).1;simp at this;omega);rw[QG _ _ _ hle _ hj]at hc;refine hR.2.2 _ c r hc ?_;rw[Array.getElem?_extract]at hr;split at hr
   . exact hr
   . cases hr
 | false=>
   have h1:i.size=1:=(by simpa using hs);simp only[Bool.false_eq_true,if_false,h1,if_true]at h;have hlt:=(List.getElem?_eq_some_iff.1 h).1;have hlt':off<rs.size:=by rw[hR.1];exact hlt
   have:rs[off]?=some rs[off]:=Array.getElem?_eq_getElem hlt'
   refine⟨rs[off],?_,hR.2.2 _ _ _ h this⟩;simp only[Result.andThen_ok,Bool.false_eq_true,if_false,this,Sem.run_pure]
theorem R.agg_RL(h:R β w lim (.agg cs) r):∃rs,r=.agg rs/\RL β w lim cs rs:=by
 cases h with
 |agg _ rs hl hs hR=>exact⟨rs,rfl,hl,hs,hR⟩
theorem Xh(mx:Bool):∀{l:List V} {rs:List Value} {k:IntKind} {x:Int} {y:Int},rs.length=l.length->(∀(i:Nat) v r,l[i]?=some v->rs[i]?=some r->R β w lim v r)->
 l.foldlM (λ(a:Int) v=>match v with|V.int k' y=>if k=k' then some (if mx then(if y>a then y else a)else(if y<a then y else a))else none| _=>none) x=some y->
 (rs.foldlM (if mx then Builtin.max2 else Builtin.min2) (.int k x)).run P w=.ok (.int k y) w
 |[],[],k,x,y,_,_,h=>by simp at h;subst h;simp
 | v ::l,r::rs,k,x,y,hl,hR,h=>by
   simp only[List.foldlM_cons,Option.bind_eq_bind,Option.bind_eq_some_iff]at h;obtain ⟨x',hx',h⟩:=h;have h0:=hR 0 v r rfl rfl;cases v<;>simp at hx';rename_i k' n;obtain ⟨rfl,rfl⟩:=hx';cases h0.int_inv;have ih:=Xh mx (by simpa using hl) (λi v r hv hr=>hR (i+1) v r (by simpa using hv) (by simpa using hr)) h;cases mx
   . simp only[Bool.false_eq_true,if_false,List.foldlM_cons,Sem.run_bind,Builtin.min2,Sem.run_pure,Result.andThen_ok]at ih ⊢;exact ih
   . simp only[if_true,List.foldlM_cons,Sem.run_bind,Builtin.max2,Sem.run_pure,Result.andThen_ok]at ih ⊢;exact ih
end
end Go.E

namespace Go.E
section
variable {P : Program}[Glob P]{β : Nat -> Option Loc}{w : World}{lim : Nat -> Option Nat}
def vQ:V->Value
 |.bool b=>.bool b
 |.int k n=>.int k n
 |.str s=>.string ⟨s.toArray⟩
 | _=>undef
theorem jO:∀{ts:List Nat} {x y:List V} {b:Bool},qF ts x y=some b->x.length=ts.length/\y.length=ts.length
 |[],[],[],_,_=>⟨rfl,rfl⟩
 | t ::ts,a::x,c::y,b,h=>by
   simp only[qF]at h;split at h
   . obtain ⟨r,hr,_⟩:=Option.map_eq_some_iff.1 h;have:=jO hr;simp[this.1,this.2]
   . cases h
 |[],_::_,_,_,h=>by simp[qF]at h
 |[],[],_::_,_,h=>by simp[qF]at h
 | _::_,[],_,_,h=>by simp[qF]at h
 | _::_,_::_,[],_,h=>by simp[qF]at h
theorem Q8:∀{ts us:List Nat} {x y:List V} {b:Bool},qF (ts++us) x y=some b->
 ∃b1 b2,qF ts (x.take ts.length) (y.take ts.length)=some b1/\qF us (x.drop ts.length) (y.drop ts.length)=some b2/\b=(b1 && b2)
 |[],us,x,y,b,h=>⟨true,b,rfl,by simpa using h,by simp⟩
 |t::ts,us,[],y,b,h=>by simp[qF]at h
 |t::ts,us,a::x,[],b,h=>by simp[qF]at h
 | t ::ts,us,a::x,c::y,b,h=>by
   simp only[List.cons_append,qF]at h;split at h
   . rename_i ht;obtain ⟨r,hr,hb⟩:=Option.map_eq_some_iff.1 h;obtain ⟨b1,b2,h1,h2,h3⟩:=Q8 hr;refine⟨eq1 a c && b1,b2,?_,by simpa using h2,?_⟩
     . simp[qF,ht,h1]
     . rw[<- hb,h3,Bool.and_assoc]
   . cases h
theorem qxH{β:Nat->Option Loc}:∀{ts:List Nat} {x y:List V} {b:Bool},qF ts x y=some b->
 ∀{rs rs':Array Value},RL β w lim x rs->RL β w lim y rs'->rs=(x.map vQ).toArray/\rs'=(y.map vQ).toArray:=by
 intro ts x y b h rs rs' h1 h2;have key :∀{ts:List Nat} {x y:List V} {b:Bool},qF ts x y=some b->∀(i:Nat) c,(x[i]?=some c\/y[i]?=some c)->∀r,R β w lim c r->r=vQ c:=by
  intro ts
  induction ts with
  |nil=>intro x y b h i c hc;have:=jO h;simp at this;simp[this.1,this.2]at hc
  | cons t ts ih=>
    intro x y b h i c hc r hr;cases x with
    |nil=>simp[qF]at h
    | cons a x=>
      cases y with
      |nil=>simp[qF]at h
      | cons a' y=>
        simp only[qF]at h;split at h
        . rename_i ht;obtain ⟨b',hb',_⟩:=Option.map_eq_some_iff.1 h;cases i with
          | zero=>
            simp at hc;unfold qcR at ht;split at ht<;>simp at ht<;>rcases hc with rfl|rfl<;>cases hr<;>rfl
          |succ i=>exact ih hb' i c (by simpa using hc) r hr
        . cases h
 have fin:∀{z:List V} {rz:Array Value},RL β w lim z rz->(∀(i:Nat) c,z[i]?=some c->∀r,R β w lim c r->r=vQ c)->rz=(z.map vQ).toArray:=by
  intro z rz hz hk;apply Array.ext_getElem?;intro i;simp only[List.getElem?_toArray,List.getElem?_map];by_cases hi:i<z.length
  . have hi':i<rz.size:=(by rw[hz.1];exact hi);have e1:z[i]?=some z[i]:=List.getElem?_eq_getElem hi;have e2:rz[i]?=some rz[i]:=Array.getElem?_eq_getElem hi';rw[e1,e2,Option.map_some,hk i _ e1 _ (hz.2.2 i _ _ e1 e2)]
  . rw[List.getElem?_eq_none o_,Array.getElem?_eq_none (by rw[hz.1];omega)];rfl
 exact⟨fin h1 λi c hc=>key h i c (.inl hc),fin h2 λi c hc=>key h i c (.inr hc)⟩
def qaF(P:Program)[Glob P](t:TypeId)(cs:List V):Value:=if (zm P t).getD false then .agg (cs.map vQ).toArray else(cs.map vQ).getD 0 undef
variable {t:TypeId} {off:Nat}
theorem qbM{i:TypeInfo}(hi:P.info? t=some i){ag:Bool}(ha:zm P t=some ag)(hs:ag=true\/i.size=1){cs:List V}(hle:off+i.size<=cs.length):
 (part t (cs.map vQ).toArray off).run P w=.ok (qaF P t ((cs.drop off).take i.size)) w:=by
 unfold part qaF;rw[Sem.run_bind,yg ha,ha];cases ag with
 | true=>
   simp only[Result.andThen_ok,if_true,Sem.run_bind,zf hi,Sem.run_pure,Option.getD_some];congr 2;apply Array.ext_getElem?;intro j;simp[Array.getElem?_extract,List.getElem?_drop,List.getElem?_take]
 | false=>
   have h1:i.size=1:=(by simpa using hs);have hlt:off<cs.length:=o_;have e:((cs.drop off).take i.size)=[cs[off]]:=by
    rw[h1];apply List.ext_getElem?;intro j;cases j with
    |zero=>simp[List.getElem?_take,List.getElem?_drop,hlt]
    |succ j=>simp[List.getElem?_take]
   have e2:((cs.map vQ).toArray)[off]?=some (vQ cs[off]):=(by simp[hlt]);simp only[Result.andThen_ok,Bool.false_eq_true,if_false,e2,Sem.run_pure,Option.getD_some,e];rfl
variable {n:Nat} {tags:List Nat}
theorem Ja(h:zW P n t=some tags):∃i,P.info? t=some i/\i.size=tags.length:=by
 cases n with
 |zero=>simp[zW]at h
 | succ n=>
   simp only[zW,Option.bind_eq_some_iff]at h;obtain ⟨l,_,h⟩:=h;split at h
   . rename_i hs;cases h;obtain ⟨i,hi,hsz⟩:=Option.map_eq_some_iff.1 hs;exact⟨i,hi,hsz⟩
   . cases h
theorem K6(h:zW P n t=some tags):∃ag,zm P t=some ag/\(ag=true\/tags.length=1):=by
 cases n with
 |zero=>simp[zW]at h
 | succ n=>
   simp only[zW,Option.bind_eq_some_iff]at h;obtain ⟨l,h1,h2⟩:=h;split at h2
   case isFalse=>cases h2
   cases h2;unfold zm;split at h1<;>first|(cases h1;done)|(rename_i hu;simp only[hu,Option.map_some])
   . cases h1;exact⟨_,rfl,.inr rfl⟩
   . cases h1;exact⟨_,rfl,.inr rfl⟩
   . cases h1;exact⟨_,rfl,.inr rfl⟩
   . exact⟨_,rfl,.inl rfl⟩
   . exact⟨_,rfl,.inl rfl⟩
def qbK(P:Program)[Glob P](n d:Nat)(t:TypeId):Prop:= ∀(w:World) (tags:List Nat) (x y:List V) (b:Bool),zW P n t=some tags->qF tags x y=some b->
 (Op.equalIn d t (qaF P t x) (qaF P t y)).run P w=.ok b w
theorem step_eq{d:Nat}(ih:∀t,qbK P n d t){us:List Nat}(ht:zW P n t=some tags){x y:List V}{b:Bool}
(h:qF (tags++us) (x.drop off) (y.drop off)=some b)(w:World):
 ∃b1 b2,(part t (x.map vQ).toArray off).run P w=.ok (qaF P t ((x.drop off).take tags.length)) w/\(part t (y.map vQ).toArray off).run P w=.ok (qaF P t ((y.drop off).take tags.length)) w/\
  (Op.equalIn d t (qaF P t ((x.drop off).take tags.length)) (qaF P t ((y.drop off).take tags.length))).run P w=.ok b1 w/\
  qF us (x.drop (off+tags.length)) (y.drop (off+tags.length))=some b2/\b=(b1 && b2):=by
 obtain ⟨i,hi,hsz⟩:=Ja ht;obtain ⟨ag,ha,hs⟩:=K6 ht;obtain ⟨b1,b2,h1,h2,h3⟩:=Q8 h;have hl:=jO h;simp only[List.length_drop,List.length_append]at hl;rw[List.drop_drop,List.drop_drop]at h2;have hx:off+i.size<=x.length\/i.size=0:=o_;refine⟨b1,b2,?_,?_,ih t w tags _ _ b1 ht h1,h2,h3⟩
 . rw[<- hsz];by_cases hle:off+i.size<=x.length
   . exact qbM hi ha (by rw[hsz];exact hs) hle
   . have h0:i.size=0:=o_;have hag:ag=true:=(by rcases hs with h|h;exact h;omega);subst hag;unfold part qaF;rw[Sem.run_bind,yg ha,ha];simp only[Result.andThen_ok,if_true,Sem.run_bind,zf hi,Sem.run_pure,Option.getD_some,h0];congr 2;apply Array.ext_getElem?;intro j;simp[Array.getElem?_extract]
 . rw[<- hsz];by_cases hle:off+i.size<=y.length
   . exact qbM hi ha (by rw[hsz];exact hs) hle
   . have h0:i.size=0:=o_;have hag:ag=true:=(by rcases hs with h|h;exact h;omega);subst hag;unfold part qaF;rw[Sem.run_bind,yg ha,ha];simp only[Result.andThen_ok,if_true,Sem.run_bind,zf hi,Sem.run_pure,Option.getD_some,h0];congr 2;apply Array.ext_getElem?;intro j;simp[Array.getElem?_extract]
theorem Jt{n d:Nat}(ih:∀t,qbK P n d t)(x y:List V):∀(fs:List Field) (off:Nat) (tags:List Nat) (b:Bool) (w:World),QI P (zW P n) off fs=some tags->
 qF tags (x.drop off) (y.drop off)=some b->(Op.eqFields d (x.map vQ).toArray (y.map vQ).toArray fs).run P w=.ok b w
 | [],off,tags,b,w,h,hc=>by simp[QI]at h;subst h;have hl:=jO hc;have e1:x.drop off=[]:=List.eq_nil_of_length_eq_zero hl.1;have e2:y.drop off=[]:=List.eq_nil_of_length_eq_zero hl.2;rw[e1,e2]at hc;simp[qF]at hc;subst hc;simp[Op.eqFields]
 | fd::r,off,tags,b,w,h,hc=>by
   simp only[QI]at h;split at h
   case isTrue=>cases h
   rename_i hn;simp only[not_or,Decidable.not_not]at hn;obtain ⟨hn1,hn2⟩:=hn;simp only[Option.bind_eq_some_iff,Option.map_eq_some_iff]at h;obtain ⟨l,hl,us,hus,rfl⟩:=h;obtain ⟨b1,b2,p1,p2,p3,p4,rfl⟩:=step_eq ih hl hc w;have:=Jt ih x y r (off+l.length) us b2 w hus p4;simp only[Op.eqFields,ne_eq,hn1,not_false_eq_true,if_true,Sem.run_bind,hn2,p1,p2,p3,Result.andThen_ok];cases b1
   . simp
   . simpa using this
theorem XJ{n d:Nat}(ih:∀t,qbK P n d t)(x y:List V){e:TypeId}{l:List Nat}(hl:zW P n e=some l):∀(m k:Nat) (b:Bool) (w:World),
 qF (List.replicate m l).flatten (x.drop (k *l.length)) (y.drop (k *l.length))=some b->
 ((forIn (List.range' k m) ((none,()):Option Bool×Unit) λi r=>do
  let a <- part e (x.map vQ).toArray (i *l.length)
  let c <- part e (y.map vQ).toArray (i *l.length)
  let t <- Op.equalIn d e a c
  if (!t)=true then pure (ForInStep.done (some false,()))else pure (ForInStep.yield (none,()))):Sem (Option Bool×Unit)).run P w=
   .ok (if b then none else some false,()) w
 | 0,k,b,w,h=>by have hl:=jO h;simp at hl;have e1:x.drop (k *l.length)=[]:=List.eq_nil_of_length_eq_zero so_;have e2:y.drop (k *l.length)=[]:=List.eq_nil_of_length_eq_zero so_;rw[e1,e2]at h;simp[qF]at h;subst h;simp
 | m+1,k,b,w,h=>by
   simp only[List.replicate_succ,List.flatten_cons]at h;obtain ⟨b1,b2,p1,p2,p3,p4,rfl⟩:=step_eq ih hl h w;have:=XJ ih x y hl m (k+1) b2 w (by rw[Nat.succ_mul];exact p4);simp only[List.range'_succ,List.forIn_cons,Sem.run_bind,p1,p2,p3,Result.andThen_ok];cases b1
   . simp
   . simpa using this
theorem VI:∀(n d:Nat) (t:TypeId),n<=d->qbK P n d t
 |0,d,t,_=>λw tags x y b h=>by simp[zW]at h
 |n+1,0,t,h=>o_
 | n + 1,d+1,t,hd=>λw tags x y b ht hc=>by
   have ih:∀t,qbK P n d t:=λt=>VI n d t o_;obtain ⟨ag,ha,_⟩:=K6 ht;obtain ⟨i,hi,hsz⟩:=Ja ht;simp only[zW,Option.bind_eq_some_iff]at ht;obtain ⟨l,h1,h2⟩:=ht;split at h2
   case isFalse=>cases h2
   cases h2;have one:∀{tg:Nat},qF [tg] x y=some b->∃p q,x=[p]/\y=[q]/\qcR tg p q=true/\b=eq1 p q:=by
    intro tg h;have hl:=jO h;obtain ⟨p,rfl⟩:=List.length_eq_one_iff.1 hl.1;obtain ⟨q,rfl⟩:=List.length_eq_one_iff.1 hl.2;simp only[qF]at h;split at h
    . rename_i ht;simp at h;exact⟨p,q,rfl,rfl,ht,h.symm⟩
    . cases h
   split at h1
   . rename_i hu;cases h1;obtain ⟨p,q,rfl,rfl,htg,rfl⟩:=one hc;have hag:zm P t=some false:=(by unfold zm;rw[hu];rfl);unfold qcR at htg;split at htg<;>simp at htg;simp only[qaF,hag,Option.getD_some,Bool.false_eq_true,if_false,List.map_cons,List.map_nil,List.getD_cons_zero,vQ,eq1];exact run_equalIn_bool w d t _ _ hu;all_goals contradiction
   . rename_i k hu;cases h1;obtain ⟨p,q,rfl,rfl,htg,rfl⟩:=one hc;have hag:zm P t=some false:=(by unfold zm;rw[hu];rfl);unfold qcR at htg;split at htg<;>simp at htg
     . contradiction
     . subst htg;simp only[qaF,hag,Option.getD_some,Bool.false_eq_true,if_false,List.map_cons,List.map_nil,List.getD_cons_zero,vQ,eq1];exact run_equalIn_int w d t _ _ _ _ hu
     . contradiction
   . rename_i hu;cases h1;obtain ⟨p,q,rfl,rfl,htg,rfl⟩:=one hc;have hag:zm P t=some false:=(by unfold zm;rw[hu];rfl);unfold qcR at htg;split at htg<;>simp at htg
     . contradiction
     . contradiction
     . simp only[qaF,hag,Option.getD_some,Bool.false_eq_true,if_false,List.map_cons,List.map_nil,List.getD_cons_zero,vQ,eq1];rw[run_equalIn_string w d t _ _ hu,Yx,Yx];congr 1;rw[Bool.eq_iff_iff];simp
   . rename_i fs hu;split at h1
     case isTrue=>cases h1
     rename_i hst;have hag:zm P t=some true:=(by unfold zm;rw[hu];rfl);have hfo:P.fieldsOf t=fs:=(by simp[Program.fieldsOf,hu]);simp only[qaF,hag,Option.getD_some,if_true];rw[run_equalIn_struct w d t _ _ (by rw[hfo];exact hu) (by simpa using hst),hfo];exact Jt ih x y fs.toList 0 tags b w h1 (by simpa using hc)
   . rename_i k e hu;obtain ⟨l,hl,rfl⟩:=Option.map_eq_some_iff.1 h1;have hag:zm P t=some true:=(by unfold zm;rw[hu];rfl);obtain ⟨ie,hie,hse⟩:=Ja hl;have:=XJ ih x y hl k 0 b w (by simpa using hc);simp only[qaF,hag,Option.getD_some,if_true,Op.equalIn,Sem.run_bind,qU hu,Result.andThen_ok,zf hie,hse,
      Std.Legacy.Range.forIn_eq_forIn_range',Std.Legacy.Range.size,Nat.sub_zero,Nat.add_one_sub_one,Nat.div_one]
     rw[show (forIn (List.range' 0 k) _ _:Sem _).run P w=_ from this];cases b<;>simp
   . cases h1
end
end Go.E

namespace Go.E
section
variable {P : Program}[Glob P]{β : Nat -> Option Loc}{w : World}{lim : Nat -> Option Nat}
variable {t:TypeId}
theorem JC(h:VY P t=true):P.underlying t=some (.int .i64):=by
 unfold VY at h;split at h
 . assumption
 . cases h
theorem qpO(h:P.underlying t=some (.int .i64)):zm P t=some false:=by unfold zm;rw[h];rfl
theorem qgx(h:P.underlying t=some (.int .i64))(em:Bool)(n:Nat)(v:Int):(Instr.checkKey em (n+1) t (.int .i64 v)).run P w=.ok () w:=by simp[Instr.checkKey,run_underlying h]
theorem qlQ(h:P.underlying t=some (.int .i64)){cs:Array Value}{off:Nat}{v:Value}(hv:cs[off]?=some v):(part t cs off).run P w=.ok v w:=by unfold part;rw[Sem.run_bind,yg (qpO h)];simp[hv]
variable {k:TypeId} {f g:Field}
theorem qaa(hk:P.underlying k=some (.struct #[f,g]))(h1:P.underlying f.type=some (.int .i64))(h2:P.underlying g.type=some (.int .i64))(o1:f.offset=0)(o2:g.offset=1)(em:Bool)(a b:Int):
 (Instr.checkKey em 10000 k (.agg #[.int .i64 a,.int .i64 b])).run P w=.ok () w:=by
 show (Instr.checkKey em (9999+1) k (.agg #[.int .i64 a,.int .i64 b])).run P w=.ok () w;have c1:=λv=>qgx (w:=w) h1 em 9998 v;have c2:=λv=>qgx (w:=w) h2 em 9998 v;have p1:(part f.type #[.int .i64 a,.int .i64 b] f.offset).run P w=.ok (.int .i64 a) w:=qlQ h1 (by rw[o1];rfl);have p2:(part g.type #[.int .i64 a,.int .i64 b] g.offset).run P w=.ok (.int .i64 b) w:=qlQ h2 (by rw[o2];rfl);unfold Instr.checkKey;rw[Sem.run_bind,run_underlying hk];simp only[Result.andThen_ok,List.forIn_toArray,List.forIn_cons,List.forIn_nil,Sem.run_bind,Sem.run_pure];by_cases n1:f.name="_"<;>by_cases n2:g.name="_"<;>simp[n1,n2,Sem.run_bind,p1,p2,c1,c2]
theorem VA{k:TypeId}(hk:zm P k=some true)(ht:zW P 12 k=some [1,1])(a b:Int):∀(l:List (Int×Int×Int)) (es:List MapEntry) (i:Nat),es.map (λe=>(e.key,e.val))=l.map qfR->
 ∃r,(Instr.findAsking k (.agg #[.int .i64 a,.int .i64 b]) es i).run P w=.ok r w/\r.map (·.2)=(l.find? λe=>e.1 == a && e.2.1 == b).map λe=>Value.int .i64 e.2.2
 | [],es,i,h=>by
   have:es=[]:=by simpa using h
   subst this;exact⟨none,by simp[Instr.findAsking],rfl⟩
 |x::l,[],i,h=>by simp at h
 | x ::l,e::es,i,h=>by
   simp only[List.map_cons,List.cons.injEq]at h;obtain ⟨h1,h2⟩:=h;obtain ⟨r,hr1,hr2⟩:=VA hk ht a b l es (i+1) h2;have hkey:e.key=.agg #[.int .i64 x.1,.int .i64 x.2.1]:=congrArg Prod.fst h1;have hval:e.val=.int .i64 x.2.2:=congrArg Prod.snd h1;have hE:=VI (P:=P) 12 10000 k dc_ w [1,1] [.int .i64 a,.int .i64 b] [.int .i64 x.1,.int .i64 x.2.1] (decide (a=x.1) && (decide (b=x.2.1) && true)) ht (by simp[qF,qcR,eq1]);have e1:∀p q:Int,qaF P k [.int .i64 p,.int .i64 q]=.agg #[.int .i64 p,.int .i64 q]:=λp q=>by simp[qaF,hk,vQ]
   rw[e1,e1]at hE;have hE':(Op.equal k (.agg #[.int .i64 a,.int .i64 b]) e.key).run P w=.ok (decide (a=x.1) && (decide (b=x.2.1) && true)) w:=(by rw[hkey];exact hE);rw[Instr.findAsking,Sem.run_bind,hE'];simp only[Result.andThen_ok,List.find?_cons];by_cases c1:a=x.1
   . by_cases c2:b=x.2.1
     . refine⟨some (i,e.val),by simp[c1,c2],?_⟩;simp[c1,c2,hval]
     . refine⟨r,by simp[c2,hr1],?_⟩;rw[hr2]
       have:(x.2.1 == b)=false:=by simpa using Ne.symm c2
       simp[this]
   . refine⟨r,by simp[c1,hr1],?_⟩;rw[hr2]
     have:(x.1 == a)=false:=by simpa using Ne.symm c1
     simp[this]
theorem qkP{e:TypeId}{i:TypeInfo}(ht:P.underlying t=some (.map k e))(hk:P.underlying k=some (.struct #[f,g]))(h1:P.underlying f.type=some (.int .i64))(h2:P.underlying g.type=some (.int .i64))(o1:f.offset=0)(o2:g.offset=1)
(he:zW P 12 k=some [1,1])(hi:P.info? e=some i)(hz:i.zero=some (.int .i64 0))(ok:Bool){l:List (Int×Int×Int)}{a b:Int}{rx rk:Value}(hx:R β w lim (.mp l) rx)(hr:R β w lim (.agg [.int .i64 a,.int .i64 b]) rk):
 ∃r,(Instr.lookup t rx rk ok).run P w=.ok r w/\R β w lim (VJ ok l a b) r:=by
 have hag:zm P k=some true:=by unfold zm;rw[hk];rfl
 have hrk:rk=.agg #[.int .i64 a,.int .i64 b]:=by
  obtain ⟨rs,rfl,h0,h3,h4⟩:=hr.agg_RL;rcases rs with ⟨rs⟩
  match rs,h0,h4 with
  | [p,q],_,h4=>
    have hp:=h4 0 _ p rfl rfl;have hq:=h4 1 _ q rfl rfl;rw[hp.int_inv,hq.int_inv]
 subst hrk;obtain ⟨bb,es,clock,rfl,hb,hes⟩:∃bb es clock,rx=.map (some bb)/\w.heap[bb]?=some (.map es clock)/\es.toList.map (λe=>(e.key,e.val))=l.map qfR:=by
  cases hx with
  |mp _ bb es clock _ hb hes=>exact⟨bb,es,clock,rfl,hb,hes⟩
 obtain ⟨r,hr1,hr2⟩:=VA (w:=w) hag he a b l es.toList 0 hes;have hfk:(Instr.findKey k (.agg #[.int .i64 a,.int .i64 b]) es.toList).run P w=.ok r w:=by rw[run_findKey_eq w (by rw[hk])];exact hr1
 have hck:=qaa (w:=w) hk h1 h2 o1 o2 es.isEmpty a b;refine⟨if ok then .tuple #[(r.map (·.2)).getD (.int .i64 0),.bool r.isSome]else(r.map (·.2)).getD (.int .i64 0),?_,?_⟩
 . cases r with
   |none=>cases ok<;>simp[Instr.lookup,run_underlying ht,MapKept.run_getObj_map hb,hck,hfk,Jm hi hz,Result.andThen]
   |some p=>cases ok<;>simp[Instr.lookup,run_underlying ht,MapKept.run_getObj_map hb,hck,hfk,Result.andThen]
 . have hs:r.isSome=(l.find? λe=>e.1 == a && e.2.1 == b).isSome:=by
    have:=congrArg Option.isSome hr2;simpa using this
   rw[hr2,hs];unfold VJ;have two:∀(v:Int) (c:Bool),R β w lim (.tup [.int .i64 v,.bool c]) (.tuple #[.int .i64 v,.bool c]):=λv c=>by
    refine .tup _ _ rfl λi x y hx hy=>?_
    match i,hx,hy with
    |0,hx,hy=>cases hx;cases hy;exact .int _ _
    |1,hx,hy=>cases hx;cases hy;exact .bool _
   cases hx:(l.find? λe=>e.1 == a && e.2.1 == b)with
   | some x=>
     cases ok
     . exact .int _ _
     . exact two _ _
   | none=>
     cases ok
     . exact .int _ _
     . exact two _ _
theorem qkS{e:TypeId}(ht:P.underlying t=some (.map k e))(hk:P.underlying k=some (.struct #[f,g]))(h1:P.underlying f.type=some (.int .i64))(h2:P.underlying g.type=some (.int .i64))(o1:f.offset=0)(o2:g.offset=1)
(he:zW P 12 k=some [1,1]){l:List (Int×Int×Int)}{a b:Int}{bb clock:Nat}{es:Array MapEntry}(hb:w.heap[bb]?=some (.map es clock))(hes:es.toList.map (λe=>(e.key,e.val))=l.map qfR)
(hn:l.find? (λe=>e.1 == a && e.2.1 == b)=none)(v:Value):
 (Instr.mapUpdate t (.map (some bb)) (.agg #[.int .i64 a,.int .i64 b]) v).run P w=.ok () {w with heap:=w.heap.setIfInBounds bb (.map (es.push {key:= .agg #[.int .i64 a,.int .i64 b],val:=v,born:=clock}) (clock+1))}:=by
 have hag:zm P k=some true:=by unfold zm;rw[hk];rfl
 obtain ⟨r,hr1,hr2⟩:=VA (w:=w) hag he a b l es.toList 0 hes;rw[hn]at hr2;have hr:r=none:=by cases r<;>simp at hr2 ⊢
 subst hr;have hfk:(Instr.findKey k (.agg #[.int .i64 a,.int .i64 b]) es.toList).run P w=.ok none w:=by rw[run_findKey_eq w (by rw[hk])];exact hr1
 have hck:=qaa (w:=w) hk h1 h2 o1 o2 false a b;simp[Instr.mapUpdate,run_underlying ht,MapKept.run_getObj_map hb,hck,hfk,MapKept.run_setObj_map _ hb,Sem.run_bind,Result.andThen]
end
end Go.E

namespace Go.E
section
variable {P : Program}[Glob P]{β : Nat -> Option Loc}{w : World}{lim : Nat -> Option Nat}
theorem zy(ρ:Operand->Value)(o:Oper)(m:Sem Value)(r:Value)(h:execOp ρ o=(do pure (Next.value (<- m))))(hm:m.run P w=.ok r w):
 (execOp ρ o).run P w=.ok (.value r) w:=by
 rw[h,Sem.run_bind,hm];rfl
variable {e:EOp}
theorem qb3{src dst:TypeId}{x:Opd}(h:qns P src dst x=some e):∃el,P.underlying src=some (.slice el)/\P.underlying el=some (.int .u8)/\P.underlying dst=some .string/\e=.by2s x:=by
 unfold qns qiW at h;cases hs:P.underlying src with
 |none=>rw[hs]at h;cases h
 | some d=>
   rw[hs]at h;cases d<;>simp at h;rename_i el;obtain ⟨⟨h1,h2⟩,rfl⟩:=h;refine⟨el,rfl,?_,?_,rfl⟩
   . unfold qzC at h1;split at h1
     . assumption
     . cases h1
   . unfold isStr at h2;split at h2
     . assumption
     . cases h2
theorem qad:∀{es:List V} {l:List UInt8},Jj es=some l->es=l.map λc=>V.int .u8 (c.toNat:Int)
 |[],l,h=>by simp[Jj]at h;subst h;rfl
 | e :: r,l,h=>by
   unfold Jj at h;split at h
   . cases ‹e::r=[]›
   . rename_i n r' heq;cases heq;split at h
     . rename_i hn;obtain ⟨l',hl,rfl⟩:=Option.map_eq_some_iff.1 h;have ih:=qad hl;rw[ih,List.map_cons];congr 2
       have:(UInt8.ofNat n.toNat).toNat=n.toNat:=by rw[UInt8.toNat_ofNat'];omega
       rw[this];omega
     . cases h
   . cases h
variable {el:TypeId}
theorem qfP{src dst:TypeId}{c:Bool}{es:List V}{l:List UInt8}{r:Value}(h1:P.underlying src=some (.slice el))(h2:P.underlying el=some (.int .u8))(h3:P.underlying dst=some .string)
(hb:Jj es=some l)(hR:R β w lim (.sl 1 c es) r):(convert src dst r).run P w=.ok (.string ⟨l.toArray⟩) w:=by
 have hm:=qad hb;have nil:∀(a:Option Addr) (cap:Nat),l=[]->(convert src dst (.slice a 0 cap)).run P w=.ok (.string ⟨l.toArray⟩) w:=by
  intro a cap hl;subst hl;rw[run_convert_bytes_string w src dst el a 0 cap h1 h2 h3];cases a with
  |none=>simp[Conv.bytesToString,Sem.run_pure];rfl
  | some a=>
    rw[run_bytesToString w a 0 cap [] (by simpa using run_loadCells_list (w:=w) (P:=P) a [] (by simp))];rfl
 cases hR with
 |sl0 _ _ a cap=>exact nil a cap (by cases l with|nil=>rfl|cons x l=>simp at hm)
 | sl _ _ _ b o cap rv hlen hst hsz h hcap hmx hc=>
   have hl:es.length=l.length:=(by rw[hm];simp);rw[hl,run_convert_bytes_string w src dst el _ _ cap h1 h2 h3];have hcell:∀j (v:Value),(l.map λc=>Value.int .u8 (c.toNat:Int))[j]?=some v->w.cell? ((⟨b,o,none⟩:Addr).add j)=some v:=by
    intro j v hv;simp only[List.getElem?_map,Option.map_eq_some_iff]at hv;obtain ⟨x,hx,rfl⟩:=hv;have hj:j<l.length:=(List.getElem?_eq_some_iff.1 hx).1;have hej:es[j]?=some (V.int .u8 (x.toNat:Int)):=(by rw[hm];simp[hx]);have hr:=h j 0 _ _ hej rfl;have:=hr.int_inv;simp only[Nat.mul_one,Nat.add_zero]at this;have hc2:=(hst j o_).2;rw[this]at hc2;unfold Addr.add;split
    . rename_i e;subst e;exact hc2
    . exact hc2
   have hrun:=run_loadCells_list (w:=w) (P:=P) ⟨b,o,none⟩ (l.map λc=>Value.int .u8 (c.toNat:Int)) hcell;have e1:(l.map λc=>Value.int .u8 (c.toNat:Int))=(l.map λ(c:UInt8)=>(c.toNat:Int)).map (Value.int .u8):=(by simp);rw[e1,List.length_map,List.length_map]at hrun;rw[run_bytesToString w _ _ _ _ hrun,foldl_push_bytes];have e2:((l.map λ(c:UInt8)=>(c.toNat:Int)).map λn=>UInt8.ofNat n.toNat)=l:=by
    rw[List.map_map]
    conv=>rhs;rw[<- List.map_id l]
    exact List.map_congr_left λc _=>by simp
   rw[e2];simp
variable {s:St} {n:Nat} {a:Act}
theorem Jq(hF:RelF P s β w lim n a){x:Option Operand}{x':Option Opd}(h:XK P n x=some x'):
 (∀y,x'.map (ev s)=some y->∃z,x.map a.eval=some z/\R β w lim y z)/\(x'.map (ev s)=none->x.map a.eval=none):=by
 cases x with
 |none=>simp[XK]at h;subst h;simp
 | some x=>
   simp only[XK,Option.map_eq_some_iff]at h;obtain ⟨y,hy,rfl⟩:=h;refine⟨λz hz=>?_,λhz=>by simp at hz⟩;simp at hz;subst hz;exact⟨_,rfl,zO hy hF⟩
theorem Kv(w:World):∀(L:List Field),(∀f∈L,(P.info? f.type).isSome=true)->
 (L.mapM λ(f:Field)=>(do let z <- sizeOf f.type;pure (f.offset,z):Sem (Nat×Nat))).run P w=.ok (L.map λf=>(f.offset,((P.info? f.type).map TypeInfo.size).getD 0)) w
 |[],_=>rfl
 | f::L,h=>by obtain ⟨i,hi⟩:=Option.isSome_iff_exists.1 (h f (by simp));simp only[List.mapM_cons,Sem.run_bind,zf hi,Result.andThen_ok,Sem.run_pure,Kv w L (λg hg=>h g (by simp[hg])),List.map_cons,hi,Option.map_some,Option.getD_some]
variable {o:Oper} {x:Operand}
theorem YX{ρ:Operand->Value}(h:o.op=.move x\/o.op=.assign x):(execOp ρ o).run P w=.ok (.value (ρ x)) w:=by unfold execOp;rcases h with h|h<;>rw[h]<;>rfl
variable {dst:Option Tmp} {type t ty:TypeId} {after:Array Edge} {guard:Option (Nat×Bool)} {y:Operand} {x' y':Opd} {v:V}
theorem qbR{pos:String}{op:BinOp}
(ho:o={dst,op:= .binOp op t x y ty,type,pos,after,guard})(hx:R β w lim (ev s x') (a.eval x))(hy:R β w lim (ev s y') (a.eval y))(hv:qJ s (.bin op x' y')=some v):
 ∃r,(execOp a.eval o).run P w=.ok (.value r) w/\R β w lim v r:=by
 subst ho;simp only[qJ]at hv;have hg:(∀q,a.eval x≠ .agg q)/\a.eval x≠ .nilIface:=by
  cases hxv:ev s x'<;>simp[hxv,xU]at hv<;>rw[hxv]at hx
  . rw[hx.int_inv];simp
  . rw[hx.str_inv];simp
 obtain ⟨r,h1,h2⟩:=qla (P:=P) (t:=t) hv hx hy;refine⟨r,zy _ _ _ r rfl ?_,h2⟩;rw[Sem.run_bind,Qh op t x y _ _ hg];exact h1
theorem qcj{pos:String}(neg:Bool)
(ho:o={dst,op:= .binOp (if neg then .neq else .eql) t x y ty,type,pos,after,guard})(hu:P.underlying t=some .bool)
(hx:R β w lim (ev s x') (a.eval x))(hy:R β w lim (ev s y') (a.eval y))(hv:qJ s (.eqb neg x' y')=some v):
 ∃r,(execOp a.eval o).run P w=.ok (.value r) w/\R β w lim v r:=by
 subst ho;simp only[qJ]at hv;unfold qqT at hv;split at hv
 case h_2=>cases hv
 rename_i p q hp hq;cases hv;rw[hp]at hx;rw[hq]at hy;refine⟨.bool ((p == q) != neg),zy _ _ _ _ rfl ?_,.bool _⟩;rw[Sem.run_bind,hx.bool_inv,hy.bool_inv,Qh _ _ _ _ _ _ (by simp)];exact qqC hu neg p q
theorem qdN{r:Value}(h:R β w lim v r)(hl:qcS v=some (n+1)):∃p m c,r=.slice (some p) m c:=by
 induction h with
 |sl0=>simp[qcS]at hl
 |sl=>exact⟨_,_,_,rfl⟩
 |asl=>exact⟨_,_,_,rfl⟩
 |aslClip _ _ _ _ _ _ ih=>exact ih hl
 |msl0=>simp[qcS]at hl
 |msl=>exact⟨_,_,_,rfl⟩
 | _=>simp[qcS]at hl
theorem VH{pos:String}(neg:Bool){c:Nat}
(ho:o={dst,op:= .binOp (if neg then .neq else .eql) t x (.const (.slice none n c)) ty,type,pos,after,guard})(hu:P.underlying t=some (.slice el))
(hx:R β w lim (ev s x') (a.eval x))(hv:qJ s (.eqnil neg x')=some v):
 ∃r,(execOp a.eval o).run P w=.ok (.value r) w/\R β w lim v r:=by
 subst ho;simp only[qJ]at hv;split at hv
 . rename_i k hk;cases hv;obtain ⟨p,m,c2,hr⟩:=qdN hx hk;refine⟨.bool neg,zy _ _ _ _ rfl ?_,.bool _⟩;rw[Sem.run_bind,hr,Qh _ _ _ _ _ _ (by simp)];have e:∀q:Value,q=a.eval (.const (.slice none n c))->(Op.equal t (.slice (some p) m c2) q).run P w=.ok false w:=λq hq=>by
    subst hq;unfold Op.equal;rw[show Op.maxDepth=9999+1 from rfl];generalize 9999=d;simp[Op.equalIn,qU hu,Act.eval]
   cases neg
   . simp[binOp,e _ rfl]
   . simp[binOp,e _ rfl]
 . cases hv
theorem qbp{pos:String}(neg:Bool)
(ho:o={dst,op:= .binOp (if neg then .neq else .eql) t x y ty,type,pos,after,guard})(hu:P.underlying t=some (.pointer el))
(hx:R β w lim (ev s x') (a.eval x))(hy:R β w lim (ev s y') (a.eval y))(hv:qJ s (.eqp neg x' y')=some v):
 ∃r,(execOp a.eval o).run P w=.ok (.value r) w/\R β w lim v r:=by
 subst ho;simp only[qJ]at hv;obtain ⟨r,h1,h2⟩:=qki hu hv hx hy;refine⟨r,zy _ _ _ r rfl ?_,h2⟩;have hg:(∀q,a.eval x≠ .agg q)/\a.eval x≠ .nilIface:=by
  unfold qxB at hv;have key:∀{v:V} {r:Value},R β w lim v r->(v=.nilp\/qhV v=true)->(∀q,r≠ .agg q)/\r≠ .nilIface:=by
   intro v r h hh;rcases hh with rfl|hh
   . cases h;simp
   . obtain ⟨p,rfl⟩:=kC h hh;simp
  split at hv
  . exact key hx (.inl as_)
  . exact key hx (.inl as_)
  . split at hv
    . rename_i h;exact key hx (.inr h)
    . cases hv
  . cases hv
 rw[Sem.run_bind,Qh _ _ _ _ _ _ hg];exact h1
theorem qfn(ha:zm P t=some true)(cs:List V):qaF P t cs=.agg (cs.map vQ).toArray:=by simp[qaF,ha]
theorem kT{pos:String}(neg:Bool){tags:List Nat}
(ho:o={dst,op:= .binOp (if neg then .neq else .eql) t x y ty,type,pos,after,guard})(ht:zW P 12 t=some tags)(hg:P.eqGuardType P.depth t=false)
(hx:R β w lim (ev s x') (a.eval x))(hy:R β w lim (ev s y') (a.eval y))(hu:zm P t=some true)(hv:qJ s (.eqagg neg tags x' y')=some v):
 ∃r,(execOp a.eval o).run P w=.ok (.value r) w/\R β w lim v r:=by
 subst ho;simp only[qJ]at hv;split at hv
 case h_2=>cases hv
 rename_i p q hp hq;obtain ⟨b,hb,rfl⟩:=Option.map_eq_some_iff.1 hv;rw[hp]at hx;rw[hq]at hy;obtain ⟨rs,hr1,hr2⟩:=hx.agg_RL;obtain ⟨rs',hr1',hr2'⟩:=hy.agg_RL;obtain ⟨e1,e2⟩:=qxH hb hr2 hr2';refine⟨.bool (b != neg),zy _ _ _ _ rfl ?_,.bool _⟩;have hE:=VI (P:=P) 12 10000 t dc_ w tags p q b ht hb;rw[qfn hu,qfn hu]at hE;rw[Sem.run_bind,hr1,hr1',e1,e2,run_eqGuard_agg w _ t x y _ _ hg];simp only[Result.andThen_ok];cases neg
 . simp only[Bool.false_eq_true,if_false];rw[run_eql_struct,hE];simp
 . simp only[if_true];rw[run_neq_struct,hE];simp
variable {ie:TypeInfo} {ix:Operand} {i':Opd}
theorem qc7{pos:String}
(ho:o={dst,op:= .indexAddr t x ix,type,pos,after,guard})(hu:P.underlying t=some (.slice el))(hie:P.info? el=some ie)
(hx:R β w lim (ev s x') (a.eval x))(hi:R β w lim (ev s i') (a.eval ix))(hv:qJ s (.iaddr ie.size x' i')=some v):
 ∃r,(execOp a.eval o).run P w=.ok (.value r) w/\R β w lim v r:=by
 subst ho;simp only[qJ]at hv;split at hv
 case h_1=>cases hv
 rename_i j hj;obtain ⟨kk,hk⟩:=jb hj hi;have run:∀ad len cap,a.eval x=.slice (some ad) len cap->j<len->
  (execOp a.eval {dst,op:= .indexAddr t x ix,type,pos,after,guard}).run P w=.ok (.value (.pointer (some (ad.add (j *ie.size))))) w:=by
  intro ad len cap hr hlt;refine zy _ _ _ _ rfl ?_;simp[Instr.indexAt,hk,asIntOf,qU hu,hr,hlt,zf hie]
 have still:∀{sz es},R β w lim (.sl sz false es) (a.eval x)->sz=ie.size->es[j]?.map (λe=>V.iptr sz e 0)=some v->
  ∃r,(execOp a.eval {dst,op:= .indexAddr t x ix,type,pos,after,guard}).run P w=.ok (.value r) w/\R β w lim v r:=by
  intro sz es hR hsz he;obtain ⟨e,hee,rfl⟩:=Option.map_eq_some_iff.1 he;have he:=hee;have hlt:=(List.getElem?_eq_some_iff.1 he).1;generalize hr:a.eval x=r at hR;cases hR with
  |sl0=>simp at he
  | sl _ _ _ b o cap rv hlen hst hsc hRe hcap hm hc=>
    refine⟨_,run _ _ _ hr hlt,?_⟩;rw[add0];have hmem:=hsc e (List.mem_of_getElem? he);refine .iptr sz e 0 b (o+j *ie.size) (λk=>rv (j *sz+k)) (λk hk=>?_) hmem.1 hmem.2 (λk c hc=>hRe j k e c he hc);have h1:(j+1) *sz<=es.length *sz:=Nat.mul_le_mul_right _ hlt;rw[Nat.succ_mul]at h1;rw[<- hsz,show o+j *sz+k=o+(j *sz+k) by omega];exact hst _ o_
 split at hv
 . rename_i sz c es he;rw[he]at hx;split at hv
   case isFalse=>cases hv
   exact still (qiu hx) ‹_› hv
 . rename_i id fin sz es he;rw[he]at hx;split at hv
   case isFalse=>cases hv
   exact still (Q6 hx) ‹_› hv
 . rename_i id sz off len he;rw[he]at hx;split at hv
   case isFalse=>cases hv
   rename_i hc;obtain ⟨hsz,hlt⟩:=hc;cases hv;generalize hr:a.eval x=r at hx;cases hx with
   |msl0=>omega
   | msl _ _ _ l cap hβ hcap hm hrow=>
     refine⟨_,run _ _ _ hr hlt,?_⟩;rw[add0,<- hsz]
     have:l.o+off *l.size+j *l.size=l.o+(off+j) *l.size+0:=by rw[Nat.add_mul];omega
     rw[this];exact .ptr _ _ _ l hβ
 . cases hv
theorem qby{pos:String}{len:Nat}
(ho:o={dst,op:= .indexAddr t x ix,type,pos,after,guard})(hu:P.underlying t=some (.array len el))(hie:P.info? el=some ie)
(hx:R β w lim (ev s x') (a.eval x))(hi:R β w lim (ev s i') (a.eval ix))(hv:qJ s (.iaddrA len ie.size x' i')=some v):
 ∃r,(execOp a.eval o).run P w=.ok (.value r) w/\R β w lim v r:=by
 subst ho;simp only[qJ]at hv;split at hv
 case h_1=>cases hv
 rename_i j hj;obtain ⟨kk,hk⟩:=jb hj hi;split at hv
 case isFalse=>cases hv
 rename_i hlt;have run:∀ad,a.eval x=.pointer (some ad)->
  (execOp a.eval {dst,op:= .indexAddr t x ix,type,pos,after,guard}).run P w=.ok (.value (.pointer (some (ad.add (j *ie.size))))) w:=by
  intro ad hr;refine zy _ _ _ _ rfl ?_;simp[Instr.indexAt,hk,asIntOf,qU hu,hr,hlt,zf hie,Instr.sureAddr]
 split at hv
 . rename_i id k o he;cases hv;rw[he]at hx;obtain ⟨l,hβ,hr⟩:=hx.ptr_inv;refine⟨_,run _ hr,?_⟩;rw[add0,Nat.add_assoc];exact .ptr _ _ _ l hβ
 . rename_i sz e o he;cases hv;rw[he]at hx;generalize hr:a.eval x=r at hx;cases hx with
   | iptr _ _ _ b ob rv hst hsz hs h=>
     refine⟨_,run _ hr,?_⟩;rw[add0,Nat.add_assoc];exact .iptr _ _ _ _ _ rv hst hsz hs h
 . cases hv
variable {mu:Bool}
theorem qbh{pos:String}{b:Builtin}{args:Array Operand}{argTypes:Array TypeId}
(ho:o={dst,op:= .call {callee:= .builtin b,args,argTypes},type,pos,after,guard})(hc:kV P n mu b argTypes args.toList=some e)
(hF:RelF P s β w lim n a)(hv:qJ s e=some v):∃r,(execOp a.eval o).run P w=.ok (.value r) w/\R β w lim v r:=by
 subst ho;have bi:∀r,(builtin b argTypes type (args.map λ|.const _=>true| _=>false) (args.map a.eval)).run P w=.ok (.value r) w->
  (execOp a.eval {dst,op:= .call {callee:= .builtin b,args,argTypes},type,pos,after,guard}).run P w=.ok (.value r) w:=by
  intro r h;simp only[execOp,resolve,Sem.run_bind,Sem.run_pure,Result.andThen_ok,invoke];exact h
 unfold kV at hc;split at hc<;>simp only[Option.bind_eq_bind,Option.bind_eq_some_iff,Option.pure_def,Option.some.injEq,qE,reduceCtorEq]at hc
 . rename_i x ha;have hargs:args= #[x]:=(by apply Array.ext';simpa using ha);obtain ⟨t,ht,hc⟩:=hc;have run:∀m,(Builtin.len_ argTypes type #[a.eval x]).run P w=.ok (.int .i64 m) w->
    (execOp a.eval {dst,op:= .call {callee:= .builtin .len,args,argTypes},type,pos,after,guard}).run P w=.ok (.value (.int .i64 m)) w:=by
    intro m h;refine bi _ ?_;simp only[builtin,Sem.run_bind,hargs,List.map_toArray,List.map_cons,List.map_nil,h,Result.andThen_ok,Sem.run_pure]
   split at hc<;>simp only[Option.bind_eq_some_iff,Option.some.injEq,reduceCtorEq]at hc
   . rename_i hu;obtain ⟨x',hx,rfl⟩:=hc;have hR:=zO hx hF;simp only[qJ]at hv;split at hv
     case h_2=>cases hv
     rename_i l he;cases hv;rw[he]at hR;refine⟨_,run _ ?_,.int _ _⟩;have e0:(#[a.eval x])[0]?=some (Value.string ⟨l.toArray⟩):=(by simp[hR.str_inv]);unfold Builtin.len_;simp only[ht,e0,Sem.run_bind,qU hu,Result.andThen_ok,goInt,ByteArray.size,List.size_toArray,Sem.run_pure]
   . rename_i el hu;obtain ⟨x',hx,rfl⟩:=hc;have hR:=zO hx hF;simp only[qJ,Option.map_eq_some_iff]at hv;obtain ⟨m,hm,rfl⟩:=hv;have hsh:(∃sz c es,ev s x'=.sl sz c es)\/(∃id fin sz es,ev s x'=.asl id fin sz es)\/(∃id sz off len,ev s x'=.msl id sz off len):=by
      cases he:ev s x'<;>rw[he]at hm<;>simp[qcS]at hm<;>simp
     obtain ⟨p,k,c,hr,_,_,hk⟩:=qdu hR hsh;rw[hk]at hm;cases hm;refine⟨_,run _ ?_,.int _ _⟩;simp[Builtin.len_,ht,qU hu,hr,goInt]
   . rename_i k el hu;subst hc;simp only[qJ,Option.some.injEq]at hv;subst hv;refine⟨_,run _ ?_,.int _ _⟩;simp[Builtin.len_,ht,qU hu,goInt]
 . obtain ⟨t,_,t1,_,hc⟩:=hc;split at hc
   . simp only[Option.bind_eq_some_iff,Option.some.injEq]at hc;obtain ⟨_,_,_,_,_,_,_,_,_,_,rfl⟩:=hc;simp[qJ]at hv
   . cases hc
 . obtain ⟨l,hl,_,h2,rfl⟩:=hc;obtain ⟨h3,h4⟩:=Kj hF hl;simp only[qJ]at hv;cases hll:l with
   |nil=>simp[hll]at h2
   | cons x0 l0=>
     cases haa:args.toList with
     |nil=>rw[haa,hll]at h3;simp at h3
     | cons y0 a0=>
       rw[hll]at hv h4 h3;rw[haa]at h4 h3;simp only[List.map_cons,Xo]at hv;split at hv
       case h_2=>cases hv
       rename_i k x r heq;simp only[List.cons.injEq]at heq;obtain ⟨he,rfl⟩:=heq;obtain ⟨m,hm,rfl⟩:=Option.map_eq_some_iff.1 hv;have h0:=h4 0 x0 y0 rfl rfl;rw[he]at h0;have hy0:=h0.int_inv;have hrun:=Xh (P:=P) (w:=w) (β:=β) (lim:=lim) false (l:=l0.map (ev s)) (rs:=a0.map a.eval) (k:=k) (x:=x) (y:=m) (by simpa using h3)
        (λi v r hv hr=>by
         simp only[List.getElem?_map,Option.map_eq_some_iff]at hv hr;obtain ⟨p,hp,rfl⟩:=hv;obtain ⟨q,hq,rfl⟩:=hr;exact h4 (i+1) p q (by simpa using hp) (by simpa using hq)) hm
       refine⟨_,bi _ ?_,.int _ _⟩;have e:(args.map a.eval).toList=.int k x::a0.map a.eval:=(by simp[haa,hy0]);simp only[builtin,Builtin.min_,Sem.run_bind,e];simp only[Bool.false_eq_true,if_false]at hrun;rw[hrun];rfl
 . obtain ⟨l,hl,_,h2,rfl⟩:=hc;obtain ⟨h3,h4⟩:=Kj hF hl;simp only[qJ]at hv;cases hll:l with
   |nil=>simp[hll]at h2
   | cons x0 l0=>
     cases haa:args.toList with
     |nil=>rw[haa,hll]at h3;simp at h3
     | cons y0 a0=>
       rw[hll]at hv h4 h3;rw[haa]at h4 h3;simp only[List.map_cons,Xo]at hv;split at hv
       case h_2=>cases hv
       rename_i k x r heq;simp only[List.cons.injEq]at heq;obtain ⟨he,rfl⟩:=heq;obtain ⟨m,hm,rfl⟩:=Option.map_eq_some_iff.1 hv;have h0:=h4 0 x0 y0 rfl rfl;rw[he]at h0;have hy0:=h0.int_inv;have hrun:=Xh (P:=P) (w:=w) (β:=β) (lim:=lim) true (l:=l0.map (ev s)) (rs:=a0.map a.eval) (k:=k) (x:=x) (y:=m) (by simpa using h3)
        (λi v r hv hr=>by
         simp only[List.getElem?_map,Option.map_eq_some_iff]at hv hr;obtain ⟨p,hp,rfl⟩:=hv;obtain ⟨q,hq,rfl⟩:=hr;exact h4 (i+1) p q (by simpa using hp) (by simpa using hq)) hm
       refine⟨_,bi _ ?_,.int _ _⟩;have e:(args.map a.eval).toList=.int k x::a0.map a.eval:=(by simp[haa,hy0]);simp only[builtin,Builtin.max_,Sem.run_bind,e];simp only[if_true]at hrun;rw[hrun];rfl
 . obtain ⟨x',hx,rfl⟩:=hc;simp only[qJ,reduceCtorEq]at hv
theorem qcX{base:Nat}(hc:YK P n mu o=some e)(hF:RelF P s β w lim n a)
(hH:RelH s.H s.next β lim base w)(hv:qJ s e=some v):∃r,(execOp a.eval o).run P w=.ok (.value r) w/\R β w lim v r:=by
 obtain ⟨dst,op,type,pos,after,guard⟩:=o;cases op<;>simp only[YK,Option.bind_eq_bind,Option.bind_eq_some_iff,Option.pure_def,Option.some.injEq,reduceCtorEq,qE,Bool.and_eq_true,decide_eq_true_eq]at hc
 case move x=>
  obtain ⟨x',hx,rfl⟩:=hc;simp only[qJ,Option.some.injEq]at hv;subst hv;exact⟨_,YX (.inl rfl),zO hx hF⟩
 case assign x=>
  obtain ⟨x',hx,rfl⟩:=hc;simp only[qJ,Option.some.injEq]at hv;subst hv;exact⟨_,YX (.inr rfl),zO hx hF⟩
 case pick c p q=>
  obtain ⟨c',h1,p',h2,q',h3,rfl⟩:=hc;simp only[qJ]at hv;split at hv
  case h_2=>cases hv
  rename_i t ht;cases hv;have hb:=zO h1 hF;rw[ht]at hb;have:=hb.bool_inv;refine⟨if t then a.eval p else a.eval q,?_,by cases t;exact zO h3 hF;exact zO h2 hF⟩;simp[execOp,this,asBool]
 case build t parts=>
  obtain ⟨i,hi,z,hz,zv,hzv,_,⟨hm,hag⟩,hc⟩:=hc;have hz':=Jm (w:=w) hi hz;have hcells:=qbI (β:=β) (w:=w) (lim:=lim) hm hag;split at hc
  . rename_i fs hu;simp only[Option.bind_eq_some_iff,qE,Option.some.injEq]at hc;obtain ⟨_,hall,l,hl,rfl⟩:=hc;simp only[qJ,Option.map_eq_some_iff]at hv;obtain ⟨cs,hcs,rfl⟩:=hv;obtain ⟨rout,h1,h2⟩:=Vz hF hl hcs hcells;refine⟨.agg rout,zy _ _ _ _ rfl ?_,.agg _ _ h2.1 h2.2.1 h2.2.2⟩;have hpl:(fs.mapM λ(f:Field)=>(do pure (f.offset,<- sizeOf f.type):Sem (Nat×Nat))).run P w=.ok (fs.map λf=>(f.offset,((P.info? f.type).map TypeInfo.size).getD 0)) w:=by
     have hall':∀f∈fs.toList,(P.info? f.type).isSome=true:=λf hf=>List.all_eq_true.1 hall f hf;have:=Kv (P:=P) w fs.toList hall';obtain ⟨fl⟩:=fs;rw[List.mapM_toArray,List.map_toArray,Sem.run_map];simp only at this;rw[this];rfl
    simp only[Instr.build,Sem.run_bind,hz',Result.andThen_ok,qU hu,hpl];have e1:(parts.map λ(x:Nat×Operand)=>(x.1,a.eval x.2)).toList=parts.toList.map λp=>(p.1,a.eval p.2):=(by simp);have e2:(λ(x:Nat)=>(fs.map λf=>(f.offset,((P.info? f.type).map TypeInfo.size).getD 0))[x]?)=
     (λi=>((fs[i]?.bind λf=>(P.info? f.type).map λi=>(f.offset,i.size,f.type)):Option (Nat×Nat×TypeId)).map λp=>(p.1,p.2.1)):=by
     funext k;simp only[Array.getElem?_map];cases hk:fs[k]? with
     |none=>rfl
     | some f=>
       have:=List.all_eq_true.1 hall f (Array.mem_toList_iff.2 (Array.mem_of_getElem? hk));obtain ⟨i,hi⟩:=Option.isSome_iff_exists.1 this;simp[hi]
    have h3:Instr.fill (λ(x:Nat)=>(fs.map λf=>(f.offset,((P.info? f.type).map TypeInfo.size).getD 0))[x]?) z.cells (parts.map λ(x:Nat×Operand)=>(x.1,a.eval x.2)).toList=some rout:=by rw[e1,e2];exact h1
    simp only[h3];simp
  . rename_i k el hu;simp only[Option.bind_eq_some_iff,Option.some.injEq]at hc;obtain ⟨ie,hie,l,hl,rfl⟩:=hc;simp only[qJ,Option.map_eq_some_iff]at hv;obtain ⟨cs,hcs,rfl⟩:=hv;obtain ⟨rout,h1,h2⟩:=Vz hF hl hcs hcells;refine⟨.agg rout,zy _ _ _ _ rfl ?_,.agg _ _ h2.1 h2.2.1 h2.2.2⟩;have e1:(parts.map λ(x:Nat×Operand)=>(x.1,a.eval x.2)).toList=parts.toList.map λp=>(p.1,a.eval p.2):=(by simp);have h3:Instr.fill (λi=>some (i *ie.size,ie.size)) z.cells (parts.map λ(x:Nat×Operand)=>(x.1,a.eval x.2)).toList=some rout:=by
     rw[e1];exact h1
    simp only[Instr.build,Sem.run_bind,hz',Result.andThen_ok,qU hu,zf hie,h3];simp
  . cases hc
 case load t p=>
  obtain ⟨i,hi,ag,hag,p',hp,_,hs,rfl⟩:=hc;simp only[qJ]at hv;obtain ⟨x,h1,h2⟩:=qcl hH hi hag (by simpa using hs) (zO hp hF) hv;exact⟨x,zy _ _ _ _ rfl h1,h2⟩
 case nilCheck x=>
  obtain ⟨x',hx,rfl⟩:=hc;have hR:=zO hx hF;simp only[qJ]at hv;split at hv<;>first|(cases hv;done)|skip
  . rename_i he;cases hv;rw[he]at hR;obtain ⟨l,hβ,hr⟩:=hR.ptr_inv;refine⟨a.eval x,?_,hR⟩;simp[execOp,hr]
  . rename_i he;cases hv;rw[he]at hR;refine⟨a.eval x,?_,hR⟩;obtain ⟨p,hp⟩:=kC hR rfl;simp[execOp,hp]
  . rename_i he;cases hv;rw[he]at hR;refine⟨a.eval x,?_,hR⟩
    have:∃f rs,a.eval x=.func (.func f) #[] rs:=by generalize a.eval x=r at hR;cases hR;exact⟨_,_,rfl⟩
    obtain ⟨f,rs,hr⟩:=this;simp[execOp,hr]
 case binOp op t x y ty=>
  obtain ⟨x',hx,y',hy,hc⟩:=hc;have hRx:=zO hx hF;have hRy:=zO hy hF;split at hc
  case h_1 fs hu=>
   simp only[Option.bind_eq_some_iff,qE,Option.some.injEq]at hc;obtain ⟨tags,ht,_,hg,rfl⟩:=hc;exact kT false rfl ht (by simpa using hg) hRx hRy (by unfold zm;rw[hu];rfl) hv
  case h_2 fs hu=>
   simp only[Option.bind_eq_some_iff,qE,Option.some.injEq]at hc;obtain ⟨tags,ht,_,hg,rfl⟩:=hc;exact kT true rfl ht (by simpa using hg) hRx hRy (by unfold zm;rw[hu];rfl) hv
  case h_3 k el hu=>
   simp only[Option.bind_eq_some_iff,qE,Option.some.injEq]at hc;obtain ⟨tags,ht,_,hg,rfl⟩:=hc;exact kT false rfl ht (by simpa using hg) hRx hRy (by unfold zm;rw[hu];rfl) hv
  case h_4 k el hu=>
   simp only[Option.bind_eq_some_iff,qE,Option.some.injEq]at hc;obtain ⟨tags,ht,_,hg,rfl⟩:=hc;exact kT true rfl ht (by simpa using hg) hRx hRy (by unfold zm;rw[hu];rfl) hv
  case h_5 hu=>
   simp only[Option.some.injEq]at hc;subst hc;exact qcj false rfl hu hRx hRy hv
  case h_6 hu=>
   simp only[Option.some.injEq]at hc;subst hc;exact qcj true rfl hu hRx hRy hv
  case h_7 el hu=>
   simp only[Option.some.injEq]at hc;subst hc;exact qbp false rfl hu hRx hRy hv
  case h_8 el hu=>
   simp only[Option.some.injEq]at hc;subst hc;exact qbp true rfl hu hRx hRy hv
  case h_9 el hu=>
   obtain ⟨rfl,_,_,rfl⟩:=Xj hc;exact VH false rfl hu hRx hv
  case h_10 el hu=>
   obtain ⟨rfl,_,_,rfl⟩:=Xj hc;exact VH true rfl hu hRx hv
  case h_11=>
   simp only[Option.some.injEq]at hc;subst hc;exact qbR rfl hRx hRy hv
  case h_12=>
   simp only[Option.some.injEq]at hc;subst hc;exact qbR rfl hRx hRy hv
  case h_13=>cases hc
 case unOp op t x=>
  obtain ⟨x',hx,rfl⟩:=hc;obtain ⟨r,h1,h2⟩:=qo2 (P:=P) hv (zO hx hF);exact⟨r,zy _ _ _ _ rfl h1,h2⟩
 case convert src dst x=>
  obtain ⟨x',hx,hc⟩:=hc;have hR:=zO hx hF;split at hc
  . rename_i k1 k2 hu1 hu2;simp only[Option.some.injEq]at hc;subst hc;simp only[qJ]at hv;split at hv
    case h_2=>cases hv
    rename_i k0 m he;cases hv;rw[he]at hR;have:=hR.int_inv;refine⟨_,zy _ _ _ (.int k2 (k2.wrap m)) rfl ?_,.int _ _⟩;simp[convert,qU hu1,qU hu2,this,Conv.intToInt]
  . rename_i hu1 hu2;simp only[Option.some.injEq]at hc;subst hc;simp only[qJ]at hv;split at hv
    case h_2=>cases hv
    rename_i m he;cases hv;rw[he]at hR;have:=hR.str_inv;refine⟨_,zy _ _ _ (.string ⟨m.toArray⟩) rfl ?_,.str _⟩;simp[convert,qU hu1,qU hu2,this]
  . obtain ⟨el,h1,h2,h3,rfl⟩:=qb3 hc;simp only[qJ]at hv;split at hv
    . rename_i c es he;obtain ⟨l,hb,rfl⟩:=Option.map_eq_some_iff.1 hv;rw[he]at hR;exact⟨_,zy _ _ _ (.string ⟨l.toArray⟩) rfl (qfP h1 h2 h3 hb hR),.str _⟩
    . cases hv
 case lookup t x i ok=>
  obtain ⟨k,el,f,g,x',i',hu,hk,o1,o2,h1,h2,he,hz,hx,hi,rfl⟩:=qci hc;simp only[qJ]at hv;split at hv
  case h_2=>cases hv
  rename_i l p q hl hp;cases hv;have hRx:=zO hx hF;have hRi:=zO hi hF;rw[hl]at hRx;rw[hp]at hRi;obtain ⟨ti,hti,hz'⟩:∃ti,P.info? el=some ti/\ti.zero=some (.int .i64 0):=by
   unfold qi6 at hz;split at hz
   . rename_i hz2;obtain ⟨ti,h3,h4⟩:=Option.bind_eq_some_iff.1 hz2;exact⟨ti,h3,h4⟩
   . cases hz
  obtain ⟨r,g1,g2⟩:=qkP hu hk (JC h1) (JC h2) o1 o2 he hti hz' ok hRx hRi;exact⟨r,zy _ _ _ r rfl g1,g2⟩
 case makeInterface t x=>
  obtain ⟨x',hx,_,hg,rfl⟩:=hc;simp only[qJ,Option.some.injEq]at hv;subst hv;refine⟨_,zy _ _ _ (.iface t (a.eval x)) rfl ?_,.ifc _ _ _ (zO hx hF)⟩;cases hu:P.underlying t with
  |none=>rw[hu]at hg;simp at hg
  | some d=>
    rw[hu]at hg;simp only[Instr.makeInterface,Sem.run_bind,qU hu,Result.andThen_ok];cases d<;>first|(simp at hg;done)|rfl
 case makeFunc fn first caps=>
  cases fn<;>simp only[reduceCtorEq]at hc;rename_i f;obtain ⟨fl⟩:=first
  unfold qqH at hc;dsimp only at hc;split at hc
  . obtain ⟨l,hl,rfl⟩:=Option.map_eq_some_iff.1 hc;simp only[qJ,Option.some.injEq]at hv;subst hv;obtain ⟨h1,h2⟩:=Kj hF hl;refine⟨_,zy _ _ _ (.func (.func f) #[] (caps.map a.eval)) rfl (by simp[Instr.makeFunc]),.fn _ _ _ (by simpa using h1) (λi c r hc hr=>?_)⟩;simp only[List.getElem?_map,Option.map_eq_some_iff,Array.getElem?_map]at hc hr;obtain ⟨y,hy,rfl⟩:=hc;obtain ⟨z,hz,rfl⟩:=hr;exact h2 i y z hy (by simpa using hz)
  . rename_i x;split at hc
    case isFalse=>cases hc
    rename_i hcaps;obtain ⟨x',hx,rfl⟩:=Option.map_eq_some_iff.1 hc;simp only[qJ,Option.some.injEq]at hv;subst hv;have he:caps= #[]:=(by apply Array.ext';simpa using hcaps);subst he;exact⟨_,zy _ _ _ (.func (.func f) #[a.eval x] #[]) rfl (by simp[Instr.makeFunc]),.mfn _ _ _ (zO hx hF)⟩
  . cases hc
 case slice t x lo hi mx=>
  split at hc
  . rename_i hu;simp only[Option.bind_eq_some_iff,qE,Option.some.injEq]at hc;obtain ⟨x',hx,lo',hlo,hi',hhi,_,hmx,rfl⟩:=hc;have hm:mx=none:=(by simpa using hmx);subst hm;have hR:=zO hx hF;simp only[qJ]at hv;obtain ⟨l1,l2⟩:=Jq hF hlo;obtain ⟨g1,g2⟩:=Jq hF hhi;cases he:ev s x'<;>rw[he]at hv hR<;>simp only[yI,reduceCtorEq]at hv;obtain ⟨r,h1,h2⟩:=qcf (P:=P) (w:=w) (β:=β) (lim:=lim) hu l1 l2 g1 g2 (by simp only[yI];exact hv);refine⟨r,zy _ _ _ r rfl ?_,h2⟩;rw[hR.str_inv];exact h1
  . rename_i el hu;simp only[Option.bind_eq_some_iff,qE,Option.some.injEq]at hc;obtain ⟨i,hi0,x',hx,lo',hlo,hi',hhi,mx',hmx,rfl⟩:=hc;have hR:=zO hx hF;simp only[qJ]at hv;obtain ⟨l1,l2⟩:=Jq hF hlo;obtain ⟨g1,g2⟩:=Jq hF hhi;obtain ⟨m1,m2⟩:=Jq hF hmx;obtain ⟨r,h1,h2⟩:=qfu (P:=P) hu hi0 hR l1 l2 g1 g2 m1 m2 hv;exact⟨r,zy _ _ _ r rfl h1,h2⟩
  . cases hc
 case fieldAddr t p f=>
  split at hc
  . rename_i fs hu;simp only[Option.bind_eq_some_iff,qE,Option.some.injEq,decide_eq_true_eq]at hc;obtain ⟨fd,hfd,fi,hfi,p',hp,_,hne,rfl⟩:=hc;have hR:=zO hp hF;simp only[qJ]at hv;have run:∀b o,a.eval p=.pointer (some ⟨b,o,none⟩)->(execOp a.eval {dst,op:= .fieldAddr t p f,type,pos,after,guard}).run P w=.ok (.value (.pointer (some ⟨b,o+fd.offset,none⟩))) w:=by
     intro b o hp;refine zy _ _ _ _ rfl ?_;simp[Instr.fieldAt,qU hu,hfd,Instr.sureAddr,hp,fieldPlace,zf hfi,hne,add0]
    split at hv
    . rename_i id i o he;cases hv;rw[he]at hR;obtain ⟨l,hβ,hr⟩:=hR.ptr_inv;refine⟨_,run _ _ hr,?_⟩;rw[Nat.add_assoc];exact .ptr _ _ _ l hβ
    . rename_i sz e o he;cases hv;rw[he]at hR;generalize hr:a.eval p=r at hR;cases hR with
      | iptr _ _ _ b ob rv hst hsz hs h=>
        refine⟨_,run _ _ hr,?_⟩;rw[Nat.add_assoc];exact .iptr _ _ _ _ _ rv hst hsz hs h
    . cases hv
  . cases hc
 case field t x f=>
  split at hc
  . rename_i fs hu;simp only[Option.bind_eq_some_iff,qE,Option.some.injEq,Bool.or_eq_true,decide_eq_true_eq]at hc;obtain ⟨fd,hfd,fi,hfi,ag,hag,x',hx,_,hs,rfl⟩:=hc;have hR:=zO hx hF;simp only[qJ]at hv;split at hv
    case h_2=>cases hv
    rename_i cs he;rw[he]at hR;obtain ⟨rs,hr,hRL⟩:=hR.agg_RL;obtain ⟨r,h1,h2⟩:=qeT (P:=P) (w:=w) hfi hag hs hRL hv;refine⟨r,zy _ _ _ r rfl ?_,h2⟩;simp[Instr.field,qU hu,hfd,hr,asAgg,h1]
  . cases hc
 case indexAddr t x ix=>
  split at hc
  . rename_i el hu;simp only[Option.bind_eq_some_iff,qE,Option.some.injEq]at hc;obtain ⟨ie,hie,x',hx,i',hi,rfl⟩:=hc;exact qc7 rfl hu hie (zO hx hF) (zO hi hF) hv
  . rename_i k el hu;simp only[Option.bind_eq_some_iff,qE,Option.some.injEq]at hc;obtain ⟨ie,hie,x',hx,i',hi,rfl⟩:=hc;exact qby rfl hu hie (zO hx hF) (zO hi hF) hv
  . cases hc
 case index t x ix=>
  split at hc
  . rename_i k el hu;simp only[Option.bind_eq_some_iff,qE,Option.some.injEq,Bool.or_eq_true,decide_eq_true_eq]at hc;obtain ⟨ie,hie,ag,hag,x',hx,i',hi,_,hs,rfl⟩:=hc;have hR:=zO hx hF;have hRi:=zO hi hF;simp only[qJ]at hv;split at hv
    case h_1=>cases hv
    rename_i j hj;split at hv
    case isFalse=>cases hv
    rename_i hlt;split at hv
    case h_2=>cases hv
    rename_i cs he;rw[he]at hR;obtain ⟨rs,hr,hRL⟩:=hR.agg_RL;obtain ⟨kk,hk⟩:=jb hj hRi;obtain ⟨r,h1,h2⟩:=qeT (P:=P) (w:=w) hie hag hs hRL hv;refine⟨r,zy _ _ _ r rfl ?_,h2⟩;simp[Instr.index,hk,asIntOf,qU hu,hr,hlt,zf hie,h1]
  . rename_i hu;simp only[Option.bind_eq_some_iff,qE,Option.some.injEq]at hc;obtain ⟨x',hx,i',hi,rfl⟩:=hc;have hR:=zO hx hF;have hRi:=zO hi hF;simp only[qJ]at hv;split at hv
    case h_2=>cases hv
    rename_i j l hj he;obtain ⟨c,hc,rfl⟩:=Option.map_eq_some_iff.1 hv;rw[he]at hR;obtain ⟨kk,hk⟩:=jb hj hRi;refine⟨.int .u8 c.toNat,zy _ _ _ _ rfl ?_,.int _ _⟩;have hlt:=(List.getElem?_eq_some_iff.1 hc).1;have e1:(⟨l.toArray⟩:ByteArray)[j]?=some c:=by have h1:j<(⟨l.toArray⟩:ByteArray).size:=(by simpa[ByteArray.size]using hlt);rw[getElem?_pos (⟨l.toArray⟩:ByteArray) j h1];have:=(List.getElem?_eq_some_iff.1 hc).2;simpa[ByteArray.getElem_eq_getElem_data]using this
    simp[Instr.index,hk,asIntOf,qU hu,hR.str_inv,e1]
  . cases hc
 case makeMap t r=>
  obtain ⟨_,rfl⟩:=KY hc;simp only[qJ,reduceCtorEq]at hv
 case mapUpdate t x i y=>
  obtain ⟨_,_,_,_,_,_,_,_,_,_,_,_,_,_,_,_,_,rfl⟩:=qce hc;simp only[qJ,reduceCtorEq]at hv
 case extract x ix=>
  obtain ⟨x',hx,rfl⟩:=hc;have hR:=zO hx hF;simp only[qJ]at hv;split at hv
  case h_2=>cases hv
  rename_i vs he;rw[he]at hR;generalize hr:a.eval x=r at hR;cases hR with
  | tup _ rs hl h=>
    have hlt:ix<rs.size:=(by rw[hl];exact(List.getElem?_eq_some_iff.1 hv).1);have hx:rs[ix]?=some rs[ix]:=Array.getElem?_eq_getElem hlt;refine⟨rs[ix],zy _ _ _ _ rfl ?_,h _ _ _ hv hx⟩;simp[Instr.extract,hr,hx]
 case call c=>
  obtain ⟨callee,args,argTypes⟩:=c;cases callee<;>simp only[Option.bind_eq_some_iff,Option.some.injEq,reduceCtorEq]at hc
  . obtain ⟨f',_,l,_,rfl⟩:=hc;simp[qJ]at hv
  . exact qbh rfl hc hF hv
 case alloc=>obtain ⟨_,_,_,_,_,_,_,_,rfl⟩:=hc;simp[qJ]at hv
 case box=>obtain ⟨_,_,_,_,rfl⟩:=hc;simp[qJ]at hv
 case store=>obtain ⟨_,_,_,_,_,_,rfl⟩:=hc;simp[qJ]at hv
 case buildSlice=>
  split at hc
  . simp only[Option.bind_eq_some_iff,Option.some.injEq]at hc;obtain ⟨_,_,_,_,_,_,_,_,_,_,_,_,rfl⟩:=hc;simp[qJ]at hv
  . cases hc
 case makeSlice=>
  split at hc
  . simp only[Option.bind_eq_some_iff,Option.some.injEq]at hc;obtain ⟨_,_,_,_,_,_,_,_,_,_,_,_,rfl⟩:=hc;simp[qJ]at hv
  . cases hc
end
end Go.E

namespace Go.E
section
variable {P : Program}[Glob P]{β β' : Nat -> Option Loc}{w w' : World}{lim lim' : Nat -> Option Nat}{H H' : Nat -> Option MObj}{next next' base : Nat}
structure Grows(β β':Nat->Option Loc)(lim lim':Nat->Option Nat)(base:Nat)(w w':World):Prop where
 β:∀id l,β id=some l->β' id=some l
 ext:Ext lim w w'
 limLe:yj w lim lim'
 below:RowKit.Below base w w'
 old:∀b,b<base->lim' b=lim b
theorem Grows.refl(β:Nat->Option Loc)(lim:Nat->Option Nat)(base:Nat)(w:World):Grows β β lim lim base w w:=
 ⟨λ_ _ h=>h,Ext.refl _ _,yj.refl _ _,.refl _ _,λ_ _=>rfl⟩
theorem Grows.trans{β1 β2 β3:Nat->Option Loc}{l1 l2 l3:Nat->Option Nat}{a b c:World}(h:Grows β1 β2 l1 l2 base a b)(k:Grows β2 β3 l2 l3 base b c):Grows β1 β3 l1 l3 base a c:=
 ⟨λid l hl=>k.β _ _ (h.β _ _ hl),h.ext.trans h.limLe k.ext,λb i hb hs=>k.limLe b i (Nat.lt_of_lt_of_le hb h.ext.size) (h.limLe b i hb hs),h.below.trans k.below,λb hb=>(k.old b hb).trans (h.old b hb)⟩
theorem Grows.R(h:Grows β β' lim lim' base w w'){v:V}{r:Value}(hR:R β w lim v r):R β' w' lim' v r:=hR.mono h.β h.ext h.limLe
theorem Grows.RelF(h:Grows β β' lim lim' base w w'){s s':St}{n:Nat}{a:Act}(hF:RelF P s β w lim n a)(hf:s'.f=s.f):RelF P s' β' w' lim' n a:=
 ⟨hF.size,λi hi=>by rw[hf];exact h.R (hF.slot i hi),hF.defers,hF.glob.mono h.ext h.limLe⟩
theorem Zp.mono(h:Grows β β' lim lim' base w w'){id:Nat}{o:MObj}(hβ:β' id=β id)
(hb:∀l,β id=some l->w'.heap[l.b]?=w.heap[l.b]?/\lim' l.b=lim l.b)(ho:Zp β w lim id o):Zp β' w' lim' id o:=by
 cases o with
 | tok fin=>
   intro l hl;rw[hβ]at hl;obtain ⟨cur,et,h1,h2,h3⟩:=ho l hl;obtain ⟨e1,e2⟩:=hb l hl;exact⟨cur,et,e1.trans h1,h2,e2.trans h3⟩
 | own sz es ro=>
   rcases ho with ⟨h1,h2⟩|⟨l,cur,et,h1,h2,h3,h4,h5,h6,h7⟩
   . exact .inl ⟨hβ.trans h1,h2⟩
   . obtain ⟨e1,e2⟩:=hb l h1;exact .inr ⟨l,cur,et,hβ.trans h1,h2,e1.trans h3,h4,e2.trans h5,h6,λi j e c he hc=>let ⟨r,hr,hR⟩:=h7 i j e c he hc;⟨r,hr,h.R hR⟩⟩
 | mapo l=>
   obtain ⟨lc,es,ck,h1,h2,h3,h4⟩:=ho;obtain ⟨e1,e2⟩:=hb lc h1;exact⟨lc,es,ck,hβ.trans h1,e1.trans h2,h3,e2.trans h4⟩
theorem RelH.step(hH:RelH H next β lim base w)(hg:Grows β β' lim lim' base w w')(hn:next<=next'){id tb:Nat}(hid:id<next')
(hother:∀b,b<w.heap.size->b≠tb->w'.heap[b]?=w.heap[b]?/\lim' b=lim b)
(hβ:∀j,j≠id->β' j=β j)(hHj:∀j o,j≠id->H' j=some o->H j=some o)
(hsep:∀j o l,j≠id->H' j=some o->β j=some l->l.b≠tb)
(hobj:∀o,H' id=some o->Zp β' w' lim' id o)
(hloc:∀l,β' id=some l->base<=l.b/\l.b<w'.heap.size)
(hlive:∀o l,H' id=some o->β' id=some l->l.b=tb):RelH H' next' β' lim' base w' where
 fresh:=λj hj=>by
  have hne:j≠id:=o_;obtain ⟨h1,h2⟩:=hH.fresh j (Nat.le_trans hn hj);refine⟨by rw[hβ j hne];exact h1,?_⟩;cases hh:H' j with
  |none=>rfl
  |some o=>have:=hHj j o hne hh;rw[h2]at this;cases this
 own:=λj l hl=>by
  by_cases hne:j=id
  . subst hne;exact hloc l hl
  . rw[hβ j hne]at hl;have:=hH.own j l hl;exact⟨this.1,Nat.lt_of_lt_of_le this.2 hg.ext.size⟩
 obj:=λj o ho=>by
  by_cases hne:j=id
  . subst hne;exact hobj o ho
  . have ho':=hHj j o hne ho;exact(hH.obj j o ho').mono hg (hβ j hne) λl hl=>hother l.b (hH.own j l hl).2 (hsep j o l hne ho hl)
 uniq :=λi j o o' l l' hi hj hli hlj hb=>by
  by_cases hie:i=id
  . by_cases hje:j=id
    . rw[hie,hje]
    . subst hie;rw[hβ j hje]at hlj;exact absurd (hb.symm.trans (hlive o l hi hli)) (hsep j o' l' hje hj hlj)
  . rw[hβ i hie]at hli;by_cases hje:j=id
    . subst hje;exact absurd (hb.trans (hlive o' l' hj hlj)) (hsep i o l hie hi hli)
    . rw[hβ j hje]at hlj;exact hH.uniq i j o o' l l' (hHj i o hie hi) (hHj j o' hje hj) hli hlj hb
 base_le:=Nat.le_trans hH.base_le hg.ext.size
theorem RelH.later(hH:RelH H next β lim base w)(hn:next<=next'):RelH H next' β lim base w:=
 ⟨λj hj=>hH.fresh j (Nat.le_trans hn hj),hH.own,hH.obj,hH.uniq,hH.base_le⟩
def ze{α:Type}(f:Nat->α)(k:Nat)(v:α):Nat->α:=λi=>if i=k then v else f i
theorem qi{α:Type}(f:Nat->α)(k:Nat)(v:α):ze f k v k=v:=by simp[ze]
theorem qo{α:Type}(f:Nat->α){k j:Nat}(v:α)(h:j≠k):ze f k v j=f j:=by simp[ze,h]
theorem zH(w:World)(o:Obj){b:Nat}(h:b<w.heap.size):(w.alloc o).heap[b]?=w.heap[b]?:=heap_alloc_old w o b h
theorem jh(hH:RelH H next β lim base w)(id:Nat)(hid:β id=none)(l:Option Loc)(cs:Array Value)(et:TypeId)(k:Option Nat):
 Grows β (ze β id l) lim (ze lim w.heap.size k) base w (w.alloc (.cells cs et)) where
 β:=λj l hl=>by
  by_cases h:j=id
  . subst h;rw[hid]at hl;cases hl
  . rw[qo _ _ h];exact hl
 ext:=⟨by simp,λb cur et fz hb=>⟨cur,et,fz,by rw[zH _ _ (Array.getElem?_eq_some_iff.1 hb).1];exact hb,rfl,λ_ _=>rfl⟩,λb es c _ hb=>by rw[zH _ _ (Array.getElem?_eq_some_iff.1 hb).1];exact hb⟩
 limLe:=λb i hb hs=>by unfold yP at *;rw[qo _ _ o_];exact hs
 below:=(RowKit.Below.refl _ _).alloc hH.base_le _
 old:=λb hb=>qo _ _ (by have:=hH.base_le;omega)
theorem qb9(hH:RelH H next β lim base w)(id:Nat)(hid:β id=none)(l:Option Loc)(es:Array MapEntry)(ck:Nat)(k:Option Nat):
 Grows β (ze β id l) lim (ze lim w.heap.size k) base w (w.alloc (.map es ck)) where
 β:=λj l hl=>by
  by_cases h:j=id
  . subst h;rw[hid]at hl;cases hl
  . rw[qo _ _ h];exact hl
 ext:=⟨by simp,λb cur et fz hb=>⟨cur,et,fz,by rw[zH _ _ (Array.getElem?_eq_some_iff.1 hb).1];exact hb,rfl,λ_ _=>rfl⟩,λb es c _ hb=>by rw[zH _ _ (Array.getElem?_eq_some_iff.1 hb).1];exact hb⟩
 limLe:=λb i hb hs=>by unfold yP at *;rw[qo _ _ o_];exact hs
 below:=(RowKit.Below.refl _ _).alloc hH.base_le _
 old:=λb hb=>qo _ _ (by have:=hH.base_le;omega)
theorem QJ(hH:RelH H next β lim base w)(cs:Array Value)(et:TypeId):
 Grows β β lim (ze lim w.heap.size none) base w (w.alloc (.cells cs et)) where
 β:=λj l hl=>hl
 ext:=⟨by simp,λb cur et fz hb=>⟨cur,et,fz,by rw[zH _ _ (Array.getElem?_eq_some_iff.1 hb).1];exact hb,rfl,λ_ _=>rfl⟩,λb es c _ hb=>by rw[zH _ _ (Array.getElem?_eq_some_iff.1 hb).1];exact hb⟩
 limLe:=λb i hb hs=>by unfold yP at *;rw[qo _ _ o_];exact hs
 below:=(RowKit.Below.refl _ _).alloc hH.base_le _
 old:=λb hb=>qo _ _ (by have:=hH.base_le;omega)
theorem qdJ(hH:RelH H next β lim base w)(cs:Array Value)(et:TypeId):RelH H next β (ze lim w.heap.size none) base (w.alloc (.cells cs et)) where
 fresh:=hH.fresh
 own:=λj l hl=>⟨(hH.own j l hl).1,by have:=(hH.own j l hl).2;simp;omega⟩
 obj:=λj o ho=>(hH.obj j o ho).mono (QJ hH cs et) rfl λl hl=>by have:=(hH.own j l hl).2;exact⟨zH _ _ this,qo _ _ o_⟩
 uniq:=hH.uniq
 base_le:=by have:=hH.base_le;simp;omega
theorem zV(s:St)(id:Nat)(o:Option MObj):(s.setO id o).H=ze s.H id o:=rfl
theorem Vo(id size:Nat)(es:List V)(ro:Bool)(cs:Array Value)(et:TypeId)(hsz:∀e∈es,e.cells.length=size/\∀c∈e.cells,c.scalar=true)
(hlen:es.length *size<=cs.size)(hg:Grows β (ze β id (some ⟨w.heap.size,0,size⟩)) lim (ze lim w.heap.size (if ro then none else some 0)) base w (w.alloc (.cells cs et)))
(hR:∀(i j:Nat) e c,es[i]?=some e->e.cells[j]?=some c->∃r,cs[i *size+j]?=some r/\R β w lim c r):
 Zp (ze β id (some ⟨w.heap.size,0,size⟩)) (w.alloc (.cells cs et)) (ze lim w.heap.size (if ro then none else some 0)) id (.own size es ro):=
 .inr ⟨⟨w.heap.size,0,size⟩,cs,et,qi _ _ _,rfl,heap_alloc_new w _,by simpa using hlen,qi _ _ _,hsz,λi j e c he hc=>
  let ⟨r,hr,h⟩:=hR i j e c he hc
  ⟨r,by simpa using hr,hg.R h⟩⟩
end
end Go.E

namespace Go.E
structure Post(id:Nat)(s s':St)(β β':Nat->Option Loc)(lim lim':Nat->Option Nat)(base:Nat)(w w':World):Prop where
 g:Grows β β' lim lim' base w w'
 h:RelH s'.H s'.next β' lim' base w'
 kβ:∀j,j<s.next->j≠id->β' j=β j
 kH:∀j,j<s.next->j≠id->s.H j=none->s'.H j=none
 nx:s.next<=s'.next
 f:s'.f=s.f
def qzz(P:Program)[Glob P](m:Sem Next)(w:World)(r:Value)(w':World):Prop:=m.run P w=.ok (.value r) w'\/(r=undef/\m.run P w=.ok .skip w')
section
variable {P : Program}[Glob P]{β : Nat -> Option Loc}{w : World}{lim : Nat -> Option Nat}{base : Nat}{s : St}{id : Nat}
theorem Post.refl(hH:RelH s.H s.next β lim base w):Post id s s β β lim lim base w w:=
 ⟨Grows.refl _ _ _ _,hH,λ_ _ _=>rfl,λ_ _ _ h=>h,Nat.le_refl _,rfl⟩
theorem kF(hH:RelH s.H s.next β lim base w)(hf:β id=none/\s.H id=none)(hid:id<s.next)(size:Nat)(cs:Array Value)(et:TypeId)(k:Option Nat)(o:MObj)
(ho:Zp (ze β id (some ⟨w.heap.size,0,size⟩)) (w.alloc (.cells cs et)) (ze lim w.heap.size k) id o):
 Post id s (s.setO id (some o)) β (ze β id (some ⟨w.heap.size,0,size⟩)) lim (ze lim w.heap.size k) base w (w.alloc (.cells cs et)) where
 g:=jh hH id hf.1 _ cs et k
 h :=by
  refine hH.step (tb:=w.heap.size) (jh hH id hf.1 _ cs et k) (Nat.le_refl _) hid (λb hb _=>⟨zH _ _ hb,qo _ _ o_⟩)
   (λj hj=>qo _ _ hj) (λj o hj hh=>by rw[zV,qo _ _ hj]at hh;exact hh) (λj o l hj hh hl=>by have:=(hH.own j l hl).2;omega)
   (λo' ho'=>by rw[zV,qi]at ho';cases ho';exact ho) (λl hl=>by
    rw[qi]at hl;cases hl;exact⟨hH.base_le,by simp⟩)
   (λo l _ hl=>by rw[qi]at hl;cases hl;rfl)
 kβ:=λj _ hj=>qo _ _ hj
 kH:=λj _ hj hh=>by rw[zV,qo _ _ hj];exact hh
 nx:=Nat.le_refl _
 f:=rfl
theorem vX(hH:RelH s.H s.next β lim base w):Grows β β lim lim base w w.drew/\RelH s.H s.next β lim base w.drew:=by have g:Grows β β lim lim base w w.drew:=⟨λ_ _ h=>h,⟨Nat.le_refl _,λb cur et fz h=>⟨cur,et,fz,h,rfl,λ_ _=>rfl⟩,λ_ _ _ _ h=>h⟩,yj.refl _ _,(RowKit.Below.refl _ _).drew,λ_ _=>rfl⟩;exact⟨g,⟨hH.fresh,hH.own,λj o ho=>(hH.obj j o ho).mono g rfl λl _=>⟨rfl,rfl⟩,hH.uniq,hH.base_le⟩⟩
variable {v:V}
theorem RL.new{r:Value}{n:Nat}{et:TypeId}(h:R β w lim v r)(hk:v.okCell=true)(hn:v.cells.length=n)(hg:Grows β (ze β id (some ⟨w.heap.size,0,n⟩)) lim (ze lim w.heap.size (some 0)) base w (w.alloc (.cells r.cells et)))
 :Zp (ze β id (some ⟨w.heap.size,0,n⟩)) (w.alloc (.cells r.cells et)) (ze lim w.heap.size (some 0)) id (.own n [v] false):=by
 obtain ⟨h1,h2,h3⟩:=h.cells hk;refine Vo id n [v] false r.cells et (by simpa[hn]using h2) so_ hg (λi j e c he hc=>?_);cases i with
 | zero=>
   simp at he;subst he;have hlt:j<r.cells.size:=(by rw[h1];exact(List.getElem?_eq_some_iff.1 hc).1);have hx:r.cells[j]?=some r.cells[j]:=Array.getElem?_eq_getElem hlt;exact⟨_,by simp,h3 j c _ hc hx⟩
 |succ i=>simp at he
def Eff(P:Program)[Glob P](m:Sem Next)(id:Nat)(s s':St)(v:V)(β:Nat->Option Loc)(lim:Nat->Option Nat)(base:Nat)(w:World):Prop:=
 ∃r β' lim' w',qzz P m w r w'/\Post id s s' β β' lim lim' base w w'/\R β' w' lim' v r
variable {dst:Option Tmp}
theorem qpN{a:Act}{type:TypeId}{pos:String}{after:Array Edge}{guard:Option (Nat×Bool)}{t:TypeId}{x:Operand}{n:Nat}
(hR:R β w lim v (a.eval x))(hk:v.okCell=true)(hn:v.cells.length=n)(hH:RelH s.H s.next β lim base w)(hf:β id=none/\s.H id=none)(hid:id<s.next):
 Eff P (execOp a.eval {dst,op:= .box t x,type,pos,after,guard}) id s (s.setO id (some (.own n [v] false))) (.ptr id 0 0) β lim base w:=by
 have hg:=jh hH id hf.1 (some ⟨w.heap.size,0,n⟩) (a.eval x).cells t (some 0);have hp:=kF hH hf hid n (a.eval x).cells t (some 0) _ (RL.new hR hk hn hg);refine⟨.pointer (some ⟨w.heap.size,0,none⟩),_,_,_,.inl ?_,hp,?_⟩
 . simp[execOp,Instr.box,newVar,newRow]
 . have:=R.ptr (β:=ze β id (some ⟨w.heap.size,0,n⟩)) (w:=w.alloc (.cells (a.eval x).cells t)) (lim:=ze lim w.heap.size (some 0)) id 0 0 ⟨w.heap.size,0,n⟩ (qi _ _ _);simpa using this
theorem qhO{a:Act}{type:TypeId}{pos:String}{after:Array Edge}{guard:Option (Nat×Bool)}{t:TypeId}{i:TypeInfo}{zz:Value}
(hi:P.info? t=some i)(hz:i.zero=some zz)(hm:Qr v zz=true)(hk:v.okCell=true)(hn:v.cells.length=i.size)
(hH:RelH s.H s.next β lim base w)(hf:β id=none/\s.H id=none)(hid:id<s.next):
 Eff P (execOp a.eval {dst,op:= .alloc t,type,pos,after,guard}) id s (s.setO id (some (.own i.size [v] false))) (.ptr id 0 0) β lim base w:=by
 have hR:=X8 (β:=β) (w:=w) (lim:=lim) hm;have hg:=jh hH id hf.1 (some ⟨w.heap.size,0,i.size⟩) zz.cells t (some 0);have hp:=kF hH hf hid i.size zz.cells t (some 0) _ (RL.new hR hk hn hg);refine⟨.pointer (some ⟨w.heap.size,0,none⟩),_,_,_,.inl ?_,hp,?_⟩
 . simp[execOp,Instr.alloc,Jm hi hz,newVar,newRow]
 . have:=R.ptr (β:=ze β id (some ⟨w.heap.size,0,i.size⟩)) (w:=w.alloc (.cells zz.cells t)) (lim:=ze lim w.heap.size (some 0)) id 0 0 ⟨w.heap.size,0,i.size⟩ (qi _ _ _);simpa using this
structure EL(β:Nat->Option Loc)(w:World)(lim:Nat->Option Nat)(sz:Nat)(es:List V)(cs:Array Value):Prop where
 size:cs.size=es.length *sz
 cell:∀e∈es,e.cells.length=sz/\∀c∈e.cells,c.scalar=true
 rel:∀(i j:Nat) e c,es[i]?=some e->e.cells[j]?=some c->∃r,cs[i *sz+j]?=some r/\R β w lim c r
theorem EL.zero{z:Value}{size:Nat}(hm:Qr v z=true)(hk:v.okCell=true)(hl:v.cells.length=size)(n:Nat):
 EL β w lim size (List.replicate n v) ((Array.range (n *size)).map (z.cells[· % z.cells.size]!)):=by
 have hR:=X8 (β:=β) (w:=w) (lim:=lim) hm;obtain ⟨h1,h2,h3⟩:=hR.cells hk;refine⟨by simp,λe he=>by obtain rfl:=List.eq_of_mem_replicate he;exact⟨hl,h2⟩,λi j e c he hc=>?_⟩;obtain ⟨hi,rfl⟩:i<n/\e=v:=by
  rw[List.getElem?_replicate]at he;split at he
  . exact⟨‹_›,by cases he;rfl⟩
  . cases he
 have hj:j<size:=by rw[<- hl];exact(List.getElem?_eq_some_iff.1 hc).1
 have hs:z.cells.size=size:=by rw[h1,hl]
 have hlt:i *size+j<n *size:=by
  have:(i+1) *size<=n *size:=Nat.mul_le_mul_right _ hi
  rw[Nat.succ_mul]at this;omega
 have hjz:j<z.cells.size:=o_;refine⟨z.cells[j],?_,h3 j c _ hc (Array.getElem?_eq_getElem hjz)⟩;have hmod:(i *size+j) % z.cells.size=j:=by rw[hs,Nat.mul_comm,Nat.mul_add_mod];exact Nat.mod_eq_of_lt hj
 simp[hlt,hmod,hjz]
variable {es:List V} {cs:Array Value}
theorem EL.set{size:Nat}(h:EL β w lim size es cs){i:Nat}(hi:i<es.length){r:Value}(hR:R β w lim v r)(hk:v.okCell=true)(hl:v.cells.length=size):
 EL β w lim size (es.set i v) (r.cells.zipIdx.foldl (λcs (p:Value×Nat)=>cs.setIfInBounds (i *size+p.2) p.1) cs):=by
 obtain ⟨h1,h2,h3⟩:=hR.cells hk;have hf:=foldl_set (i *size) r.cells.toList 0 cs;have e:r.cells.zipIdx.foldl (λcs (p:Value×Nat)=>cs.setIfInBounds (i *size+p.2) p.1) cs=(r.cells.toList.zipIdx 0).foldl (λcs (p:Value×Nat)=>cs.setIfInBounds (i *size+p.2) p.1) cs:=by rw[<- Array.foldl_toList];simp
 rw[e];refine⟨by rw[hf.1,h.size];simp,λx hx=>?_,λk j x c hx hc=>?_⟩
 . rcases List.mem_or_eq_of_mem_set hx with hx|rfl
   . exact h.cell x hx
   . exact⟨hl,h2⟩
 . have hj:j<size:=by
    have:=(List.getElem?_eq_some_iff.1 hc).1;have hx':x∈es.set i v:=List.mem_of_getElem? hx;rcases List.mem_or_eq_of_mem_set hx' with hx'|rfl
    . rw[(h.cell x hx').1]at this;exact this
    . omega
   rw[hf.2];simp only[Nat.add_zero,Array.length_toList,h1,hl];rw[List.getElem?_set]at hx;by_cases hik:i=k
   . subst hik;rw[if_pos rfl,if_pos hi]at hx;cases hx;have hlt:i *size+j<cs.size:=by
      rw[h.size]
      have:(i+1) *size<=es.length *size:=Nat.mul_le_mul_right _ hi
      rw[Nat.succ_mul]at this;omega
     rw[if_pos ⟨o_,o_,hlt⟩];have hjr:j<r.cells.size:=(by rw[h1,hl];exact hj);rw[show i *size+j - i *size=j by omega];exact⟨r.cells[j],by simp,h3 j c _ hc (Array.getElem?_eq_getElem hjr)⟩
   . rw [if_neg hik]at hx;have hsep: ¬ (i *size<=k *size+j/\k *size+j<i *size+size/\k *size+j<cs.size):=by
      rintro ⟨ha,hb,_⟩;rcases Nat.lt_or_gt_of_ne hik with hlt|hlt
      . have:(i+1) *size<=k *size:=Nat.mul_le_mul_right _ hlt
        rw[Nat.succ_mul]at this;omega
      . have:(k+1) *size<=i *size:=Nat.mul_le_mul_right _ hlt
        rw[Nat.succ_mul]at this;omega
     rw[if_neg hsep];exact h.rel k j x c hx hc
theorem qbG{n:Nat}{a:Act}(hF:RelF P s β w lim n a){t:TypeId}{size len:Nat}{ag:Bool}:
 ∀{parts:List (Nat×Operand)} {l:List (Nat×Opd)} {es:List V} {cs:Array Value} {out:List V},Za P n t len parts=some l->
  xP size ag es (l.map λ(i,x)=>(i,ev s x))=some out->EL β w lim size es cs->es.length=len->
  ∃rout,Instr.fill (λi=>some (i *size,size)) cs (parts.map λp=>(p.1,a.eval p.2))=some rout/\EL β w lim size out rout/\out.length=len
 | [],l,es,cs,out,hp,hf,h,hl=>by simp[Za]at hp;subst hp;simp[xP]at hf;subst hf;exact⟨cs,rfl,h,hl⟩
 | (i,x)::r,l,es,cs,out,hp,hf,h,hlen=>by
   simp only[Za]at hp;split at hp
   case isFalse=>cases hp
   rename_i hi;simp only[Option.bind_eq_some_iff,Option.map_eq_some_iff]at hp;obtain ⟨x',hx,l',hl,rfl⟩:=hp;simp only[List.map_cons,xP]at hf;split at hf
   case isFalse=>cases hf
   rename_i hc;obtain ⟨hc1,hc2,hc3⟩:=hc;have hR:=zO hx hF;have hcell:=hR.cells hc2;obtain ⟨rout,h1,h2,h3⟩:=qbG hF hl hf (h.set o_ hR hc2 hc1) (by simpa using hlen);refine⟨rout,?_,h2,h3⟩;simp only[List.map_cons,Instr.fill];have hle:i *size+size<=cs.size:=by
    rw[h.size,hlen]
    have:(i+1) *size<=len *size:=Nat.mul_le_mul_right _ hi
    rw[Nat.succ_mul]at this;omega
   rw[if_neg (by simp[hcell.1,hc1];omega)];exact h1
theorem EL.sl{size:Nat}(h:EL β w lim size es cs)(et:TypeId)(hm:es.length<=maxLen)
(hg:Grows β β lim (ze lim w.heap.size none) base w (w.alloc (.cells cs et))):
 R β (w.alloc (.cells cs et)) (ze lim w.heap.size none) (.sl size true es) (.slice (some ⟨w.heap.size,0,none⟩) es.length es.length):=by
 by_cases he:es=[]
 . subst he;exact .sl0 _ _ _ _ (λ_=>rfl) (Nat.zero_le _)
 . refine .sl size true es w.heap.size 0 es.length (λj=>cs.getD j undef) (List.length_pos_iff.2 he) (λj hj=>⟨by unfold yP;rw[qi];trivial,?_⟩) h.cell
    (λi j e c he hc=>?_) (Nat.le_refl _) hm (λ_=>rfl)
   . rw[Nat.zero_add];exact cell_of (heap_alloc_new w _) (by rw[h.size];exact hj)
   . obtain ⟨r,hr,hR⟩:=h.rel i j e c he hc;rw[Array.getD_eq_getD_getElem?,hr];exact hg.R hR
end
end Go.E
