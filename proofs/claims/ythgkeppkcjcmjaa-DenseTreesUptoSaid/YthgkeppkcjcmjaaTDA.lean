/- Part of a proof that a law of the given program answers true. -/
import Derived.Test.YthgkeppkcjcmjaaTZG
import Derived.Test.YthgkeppkcjcmjaaTZH
set_option linter.unusedSimpArgs false
set_option linter.unusedVariables false
set_option maxHeartbeats 8000000
namespace Go.Proofs
open Go.E
def XC (g:Grammar) (p:Nat):Int×Int:=match g.prods[p]? with
 |some x=>if x.prec<0 then(0,0)else((g.toks[x.prec.toNat]?.map fun t=>(t.level,t.assoc)).getD (0,0))
 |none=>(0,0)
def qdH (g:Grammar) (p t:Nat):Int:=
 let k:=(g.toks[t]?.map fun t=>(t.level,t.assoc)).getD (0,0)
 if (XC g p).1=0∨k.1=0 then 0 else if k.1>(XC g p).1 then 1 else if k.1<(XC g p).1 then 2 else if k.2=1 then 2 else if k.2=2 then 1 else 3
theorem YO {g:Grammar} {p:Nat} (hg:GOk g) (hp:p<g.prods.length):Pure Try.prog 104 [g.V,vi p] (.tup [vi (XC g p).1,vi (XC g p).2]):=by
 refine pure_intro Try.func104 nm_ qqe (by show 2≤39;decide) ?_
 show ewp _ qd9 _ _
 have hpl:=hg.pl2;have htl:=hg.tk2
 have hgp:g.prods[p]?=some g.prods[p]:=ge_ hp
 have hpr:=hg.prec _ (List.getElem_mem hp)
 have hr:XC g p=if g.prods[p].prec<0 then(0,0)else((g.toks[g.prods[p].prec.toNat]?.map fun t=>(t.level,t.assoc)).getD (0,0)):=by unfold XC;rw[hgp]
 rw[hr]
 generalize g.prods[p]=x at *
 obtain ⟨pl,pr,pc,pco,pa,pat⟩:=x
 dsimp only at hpr ⊢
 rcases hpr with rfl|⟨t,rfl,ht⟩
 · rw[if_pos o_]
   repeat' with_reducible first
    |refine s_ ?_
    |simp only[wZZ,seval]
    |(first|apply qg|apply qh)<;>intro h h_<;>(try simp only[wD,reduceCtorEq]at h_)<;>(try exact wb_)<;>(try simp only[h])
    |refine t_ ?_
   refine qeI rfl (Or.inr rfl) ?_
   (simp only[wL,seval])
   exact ErL.tup (.cons (.int _ _) (.cons (.int _ _) .nil))
 · have hgt:g.toks[t]?=some g.toks[t]:=ge_ ht
   rw[if_neg o_,show ((t:Int)).toNat=t from rfl,hgt]
   generalize g.toks[t]=k at *
   obtain ⟨kn,kl,ku,kv,ka,kg⟩:=k
   dsimp only[Option.map_some,Option.getD_some]
   repeat' with_reducible first
    |refine s_ ?_
    |simp only[wZZ,seval]
    |(first|apply qa|apply qg|apply qh)<;>intro h h_<;>(try simp only[wD,reduceCtorEq]at h_)<;>(try exact wb_)<;>(try simp only[h])
    |refine t_ ?_
   refine qeI rfl (Or.inr rfl) ?_
   (simp only[wL,seval])
   exact ErL.tup (.cons (.int _ _) (.cons (.int _ _) .nil))
theorem JH {g:Grammar} {p t:Nat} (hg:GOk g) (hp:p<g.prods.length) (ht:t<g.toks.length):Pure Try.prog 87 [g.V,vi p,vi t] (vi (qdH g p t)):=by
 refine pure_intro Try.func87 nm_ qFp (by show 3≤61;decide) ?_
 show ewp _ qie _ _
 have hpl:=hg.pl2;have htl:=hg.tk2
 have hru:=YO hg hp
 have hgt:g.toks[t]?=some g.toks[t]:=ge_ ht
 have hd:qdH g p t=if (XC g p).1=0∨g.toks[t].level=0 then 0 else if g.toks[t].level>(XC g p).1 then 1 else if g.toks[t].level<(XC g p).1 then 2 else if g.toks[t].assoc=1 then 2 else if g.toks[t].assoc=2 then 1 else 3:=by unfold qdH;rw[hgt];rfl
 rw[hd]
 generalize XC g p=r at *
 generalize g.toks[t]=k at *
 obtain ⟨r1,r2⟩:=r
 obtain ⟨kn,kl,ku,kv,ka,kg⟩:=k
 dsimp only at hru ⊢
 repeat' with_reducible first
  |refine s_ ?_
  |simp only[wZZ,seval]
  |(first|apply qa|apply qg|apply qh)<;>intro h h_<;>(try simp only[wD,reduceCtorEq]at h_)<;>(try exact wb_)<;>(try simp only[h])
  |refine t_ ?_
  |refine cq2 hru qc qc ?_
  |simp(disch:=omega) only[w64,if_neg]
 all_goals
  refine qA rfl (Or.inr rfl) ?_
  (simp only[wL,seval])
  first
   |exact .int _ _
   |(rw[if_pos o_];exact .int _ _)

abbrev clV (c:Int×Int×Int×Int):V:= .agg [vi c.1,vi c.2.1,vi c.2.2.1,vi c.2.2.2]
def qp5 (c:Cel):Int×Int:=if c.acc=true then(3,0)else(1,c.shift)
def Kq (g:Grammar) (c:Cel):Int×Int:=match c.prods with
 |[]=>qp5 c
 |r::_=>if c.shift<0∧c.acc=false then(2,r)else if c.acc=true∨qdH g r.toNat c.tok.toNat=0 then qp5 c else if qdH g r.toNat c.tok.toNat=2 then(2,r)else if qdH g r.toNat c.tok.toNat=3 then(4,0)else qp5 c
def qiq (g:Grammar) (c:Cel):List (Int×Int×Int×Int):=match c.prods with
 |[]=>[]
 |r::l=>l.map (fun p=>(c.st,c.tok,r,p))++(if c.shift<0∧c.acc=false then[]else if c.acc=true∨qdH g r.toNat c.tok.toNat=0 then[(c.st,c.tok,-1,r)]else[])
theorem qgb {ef:EF} {t a id n:Nat} {ro:Bool} {v res:V} {e:Exit} {s:St} (he:ef.res=[.inr (t,true,n),.inl a]) (hx:e=.normal∨e=.ret) (hp:s.f t=.ptr id 0 0) (hH:s.H id=some (.own n [v] ro)) (ha:v.isAgg=true)
 (h:Er true s.H (.tup [v,s.f a]) res):zu ef res e s:=by
 have hv:zb s true n (s.f t)=some v:=by rw[hp];simp only[zb,hH,List.getElem?_cons_zero,zX,ha,and_self,if_true]
 exact⟨hx,_,by rw[he];simp[Y2,YK,hv,one],h⟩
theorem qhN {K:St→Prop} {s:St} {id z:Nat} {e v:V} {o:Option MObj} (ho:o=some (.own z [e] false)) (he:e.isAgg=v.isAgg) (hl:v.cells.length=z) (hc:v.okCell=true) (hk:K (s.setO id (some (.own z [v] false)))):onS (stQ s o z id 0 0 v) K:=by subst ho;exact jE he hl hc hk
theorem Jq {g:Grammar} {c:Cel} {t:Nat} (hg:GOk g) (hp: ∀p∈c.prods,∃n:Nat,p=n∧n<g.prods.length) (hl:c.prods.length≤1000000) (ht:c.tok=t) (ht2:t<g.toks.length):Pure Try.prog 71 [g.V,c.V] (.tup [prV (Kq g c),.sl 4 false ((qiq g c).map clV)]):=by
 refine pure_intro Try.func71 nm_ qs9 (by show 2≤97;decide) ?_
 show ewp _ qig _ _
 obtain ⟨cs,ct,ch,ca,cp⟩:=c
 dsimp only at hp hl ht
 subst ht
 obtain ⟨B,hB⟩: ∃B,B=cp.drop 1:=⟨_,rfl⟩
 have hBl:B.length=cp.length - 1:=by rw[hB,List.length_drop]
 obtain ⟨r0,hr0⟩: ∃r0,r0=cp.getD 0 0:=⟨_,rfl⟩
 repeat' with_reducible first
  |refine s_ ?_
  |simp only[wZZ,seval]
  |refine t_ ?_
 refine qb ?nx1 (fun(j:Nat) s=>s.f 2=?v1_2∧s.f 3=?v1_3∧s.f 4=?v1_4∧s.H 0=some (.own 5 [g.V] false)∧s.H 1=some (.own 5 [Cel.V {st:=cs,tok:=t,shift:=ch,acc:=ca,prods:=cp}] false)∧s.H 2=some (.own 2 [V.agg [.int .i64 0,.int .i64 0]] false)∧(∃v,s.f 6=v∧Gr s.H s.next 4 (((B.take j).map fun p=>((cs,(t:Int),r0,p):Int×Int×Int×Int)).map clV) v)∧s.f 7=vi (j+1:Nat)∧(j≤B.length)) (fun j=>B.length - j) (0) wj_ (by refine⟨?_,?_,?_,?_,?_,?_,?_,?_,wo_⟩<;>first|(simp only[wL,wM,wN,wX,seval,Option.some.injEq]<;>exact wt_)|rfl|exact⟨_,rfl⟩) ?_
 intro j s hnx ⟨g2,g3,g4,o0,o1,o2,⟨v6,g6,G6⟩,g7,k1_0⟩
 have hz:IntKind.i64.wrap ((j+1+1:Nat):Int)=((j+1+1:Nat):Int):=wrap64 o_ o_
 by_cases hj:j<B.length
 · have hgj:B[j]?=some B[j]:=ge_ hj
   have hg1:cp[j+1]?=some B[j]:=by rw[← hgj,hB,List.getElem?_drop,Nat.add_comm]
   have hg0:cp[0]?=some r0:=by rw[hr0,List.getD,ge_ o_];rfl
   have htk:(B.take (j+1)).map (fun p=>((cs,(t:Int),r0,p):Int×Int×Int×Int))=(B.take j).map (fun p=>((cs,(t:Int),r0,p):Int×Int×Int×Int))++[(cs,(t:Int),r0,B[j])]:=by rw[List.take_add_one,hgj,List.map_append];rfl
   have hlr:(List.map (fun p=>((cs,(t:Int),r0,p):Int×Int×Int×Int)) (B.take j)).length=j:=by rw[List.length_map,List.length_take];omega
   generalize B[j]=y at *
   repeat' with_reducible first
    |refine s_ ?_
    |simp only[wZZ,seval,g2,g3,g4,g6,g7,o0,o1,o2,Gr.dropO G6 o0,Gr.dropO G6 o1,Gr.dropO G6 o2,hz,G6.len]
    |apply qa<;>intro h h_<;>(try simp only[wD,reduceCtorEq]at h_)<;>(try exact wb_)<;>(try simp only[h])
    |refine t_ ?_
    |apply za rfl (G6.mono (Nat.le_refl _) (fun id h1 h2=>by(try simp only[wM]);(repeat rw[if_neg o_])));(focus(first|exact qU.sl|exact qU.asl));(focus(simp only[wZ,hlr];omega));(focus(unfold maxLen;simp only[wZ,hlr];omega))
   exact⟨wg_,j+1,o_,trivial,trivial,trivial,trivial,trivial,trivial,⟨_,rfl,by rw[htk,List.map_append];exact Gr.tok (id:=s.next+5+16) (fin:=(List.take j B).length+1) hh_ wg_⟩,rfl,o_⟩
 · have e:B.take j=B:=List.take_of_length_le o_
   rw[e]at G6
   by_cases hce:cp=[]
   · subst hce
     rw[show B=[] from hB]at G6
     cases ca
     all_goals
      repeat' with_reducible first
       |refine s_ ?_
       |simp only[wZZ,seval,g2,g3,g4,g6,g7,o0,o1,o2,Gr.dropO G6 o0,Gr.dropO G6 o1,Gr.dropO G6 o2,G6.len]
       |apply qa<;>intro h h_<;>(try simp only[wD,reduceCtorEq]at h_)<;>(try exact wb_)<;>(try simp only[h])
       |refine t_ ?_
      refine qgb (id:=2) rfl (Or.inr rfl) (by(simp only[wL,seval]);exact g4) (by(simp only[wM];(repeat first|rw[if_pos trivial]|rw[if_pos rfl]|rw[if_neg o_]))<;>rfl) rfl ?_
      (simp only[wL,seval])
      exact ErL.tup (.cons qc (.cons (G6.er rfl) .nil))
   · obtain ⟨n,hcp,hn⟩: ∃n:Nat,cp=(n:Int)::B∧n<g.prods.length:=by
      cases cp with
      |nil=>exact absurd rfl hce
      | cons r l=>
        obtain ⟨n,rfl,hn⟩:=hp r (by simp)
        exact⟨n,by rw[hB];rfl,hn⟩
     have hdec:=JH hg hn ht2
     have hre:r0=(n:Int):=by rw[hr0,hcp];rfl
     subst hre
     have hcl:cp.length=B.length+1:=by rw[hcp,List.length_cons]
     have hA:Kq g {st:=cs,tok:=t,shift:=ch,acc:=ca,prods:=cp}=if ch<0∧ca=false then(2,(n:Int))else if ca=true∨qdH g n t=0 then(if ca=true then(3,0)else(1,ch))else if qdH g n t=2 then(2,(n:Int))else if qdH g n t=3 then(4,0)else(if ca=true then(3,0)else(1,ch)):=by rw[hcp];rfl
     have hC:qiq g {st:=cs,tok:=t,shift:=ch,acc:=ca,prods:=cp}=B.map (fun p=>(cs,(t:Int),(n:Int),p))++(if ch<0∧ca=false then[]else if ca=true∨qdH g n t=0 then[(cs,(t:Int),-1,(n:Int))]else[]):=by rw[hcp];rfl
     rw[hA,hC]
     generalize qdH g n t=v at *
     have hg0:cp[0]?=some (n:Int):=by rw[hcp];rfl
     have hlB:(List.map (fun p=>((cs,(t:Int),(n:Int),p):Int×Int×Int×Int)) B).length=B.length:=List.length_map _
     cases ca
     all_goals
      repeat' with_reducible first
       |refine s_ ?_
       |simp only[wZZ,seval,g2,g3,g4,g6,g7,o0,o1,o2,Gr.dropO G6 o0,Gr.dropO G6 o1,Gr.dropO G6 o2,G6.len]
       |(first|apply qa|apply qg|apply qh)<;>intro h h_<;>(try simp only[wD,reduceCtorEq]at h_)<;>(try exact wb_)<;>(try simp only[h])
       |(refine qhN (qI (fun x h=>Gr.ne G6 o2 h) (by(try simp only[wM]);(repeat rw[if_neg o_]);exact o2)) wu_ wu_ wu_ ?_)
       |refine t_ ?_
       |refine cq3 hdec qc qc qc ?_
       |apply za rfl (G6.mono (Nat.le_refl _) (fun id h1 h2=>by(try simp only[wM]);(repeat rw[if_neg o_])));(focus(first|exact qU.sl|exact qU.asl));(focus(simp only[wZ,hlB];omega));(focus(unfold maxLen;simp only[wZ,hlB];omega))
       |simp(disch:=omega) only[w64,if_neg]
      all_goals refine qgb (id:=2) rfl (Or.inr rfl) (by(simp only[wL,seval]);first|done|assumption|rfl) (by first|((simp only[wM];(repeat first|rw[if_pos trivial]|rw[if_pos rfl]|rw[if_neg o_]))<;>rfl)|(((try simp only[wM]);(repeat first|rw[if_pos trivial]|rw[if_pos rfl]|rw[if_neg o_]));exact qI (fun x h=>Gr.ne G6 o2 h) (by((try simp only[wM]);(repeat first|rw[if_pos trivial]|rw[if_pos rfl]|rw[if_neg o_]));first|exact o2|rfl))|skip) rfl ?_
      all_goals(simp only[wL,seval])
      all_goals simp only[false_or,true_or,and_true,and_false,if_true,if_false]
      all_goals(repeat' split)
      all_goals first|(exfalso;omega)|exact ErL.tup (.cons (ErL.agg (.cons (.int _ _) (.cons (.int _ _) .nil))) (.cons (by first|exact G6.er (by simp)|exact qaK (by simp)) .nil))

set_option maxHeartbeats 4000000
inductive Path (g:Grammar) (m:List Sta):List Nat→Prop
 |base:Path g m [0]
 |push {q t:Nat} {st:List Nat} {s:Int} (h:Path g m (q::st)) (ht:t<m.length) (hk:qF m t=kL g (qF m q) s):Path g m (t::q::st)
theorem Path.lt {g:Grammar} {m:List Sta} (hG:MGo g m): ∀{st:List Nat},Path g m st→ ∃q r,st=q::r∧q<m.length
 | _,.base=>⟨0,[],rfl,hG.len⟩
 | _,.push (q:=q) (t:=t) (st:=st) _ ht _=>⟨t,q::st,rfl,ht⟩
theorem X4 {g:Grammar} {k:List Int} {s x:Int}:x∈kL g k s↔ ∃y∈zy g k,0≤nxt g y∧nxt g y=s∧x=y+1:=by
 have key : ∀(c o:List Int),x∈c.foldl (fun o x=>if 0≤nxt g x∧nxt g x=s then jm o (x+1)else o) o↔x∈o∨ ∃y∈c,0≤nxt g y∧nxt g y=s∧x=y+1:=by
  intro c
  induction c with
  |nil=>intro o;simp
  | cons a c ih=>
    intro o
    rw[List.foldl_cons,ih]
    by_cases h:0≤nxt g a∧nxt g a=s
    · rw [if_pos h,zD]
      constructor
      · rintro ((h1|h1)|⟨y,h1,h2⟩)
        · exact Or.inl h1
        · exact Or.inr ⟨a,by simp,h.1,h.2,h1⟩
        · exact Or.inr ⟨y,List.mem_cons_of_mem _ h1,h2⟩
      · rintro (h1|⟨y,h1,h2⟩)
        · exact Or.inl (Or.inl h1)
        · rcases List.mem_cons.1 h1 with rfl|h1
          · exact Or.inl (Or.inr h2.2.2)
          · exact Or.inr ⟨y,h1,h2⟩
    · rw [if_neg h]
      constructor
      · rintro (h1|⟨y,h1,h2⟩)
        · exact Or.inl h1
        · exact Or.inr ⟨y,List.mem_cons_of_mem _ h1,h2⟩
      · rintro (h1|⟨y,h1,h2⟩)
        · exact Or.inl h1
        · rcases List.mem_cons.1 h1 with rfl|h1
          · exact absurd ⟨h2.1,h2.2.1⟩ h
          · exact Or.inr ⟨y,h1,h2⟩
 unfold kL
 rw[key];simp
theorem qNR {g:Grammar} {m:List Sta} (hG:MGo g m):qF m 0=[0]:=by
 have:=hG.z
 unfold qF
 rw[this];rfl
theorem Path.down {g:Grammar} {m:List Sta} (hg:GOk g) (hM:MOk g m) (hG:MGo g m) {p:Nat}: ∀(d:Nat) (st:List Nat) (q:Nat),d≤8→Path g m (q::st)→(16 *(p:Int)+d)∈zy g (qF m q)→
 ∃q0 st0,(q::st).drop d=q0::st0∧Path g m (q0::st0)∧16 *(p:Int)∈zy g (qF m q0)
 |0,st,q,_,hP,hx=>⟨q,st,rfl,hP,by simpa using hx⟩
 | d + 1,st,q,hd,hP,hx=>by
   have hk:=hM.qF q
   have hcl:=zf hg hk.2 hk.1
   rcases hcl.1.cases _ hx with hx|⟨y,_,m',p',e,_⟩
   · cases hP with
     |base=>rw[qNR hG]at hx;simp at hx;omega
     | push hP ht hk'=>
       rename_i q' st' s
       rw[hk']at hx
       obtain ⟨y,hy,_,_,e⟩:=X4.1 hx
       obtain ⟨q0,st0,h1,h2,h3⟩:=Path.down hg hM hG d st' q' o_ hP (by
        have:(16 *(p:Int)+d)=y:=o_
        rw[this];exact hy)
       exact⟨q0,st0,by rw[List.drop_succ_cons];exact h1,h2,h3⟩
   · omega
theorem Path.reduce {g:Grammar} {m:List Sta} (hg:GOk g) (hM:MOk g m) (hG:MGo g m) {st:List Nat} {q:Nat} {r:Int} (hP:Path g m (q::st)) (hr:r∈xW g (qF m q)):
 ∃(p:Nat) (x:GPr) (l:Nat) (q0:Nat) (st0:List Nat) (t:Nat),r=p∧g.prods[p]?=some x∧x.left=l∧l<g.nons.length∧x.right.length≤8∧x.right.length<(q::st).length∧(q::st).drop x.right.length=q0::st0∧q0<m.length∧
  goS m q0 (1000+(l:Int))=t∧Path g m (t::q0::st0):=by
 have hk:=hM.qF q
 have hcl:=zf hg hk.2 hk.1
 unfold xW at hr
 rw[List.mem_filterMap]at hr
 obtain ⟨x,hx,hr⟩:=hr
 have hxo:=hcl.2.1 x hx
 obtain ⟨pr,hpr,hd⟩: ∃p,g.prods[(x / 16).toNat]?=some p∧(x % 16).toNat=p.right.length:=VN hxo (by split at hr<;>simp_all) hg.rn
 split at hr<;>cases hr
 rename_i hc
 have h0:=hxo.1
 have hpm:=List.mem_of_getElem? hpr
 obtain ⟨l,hl,hln⟩:=hg.left pr hpm
 have hrl:=hg.rlen pr hpm
 obtain ⟨p,hp⟩: ∃p:Nat,x / 16=p:=⟨(x / 16).toNat,o_⟩
 rw[hp]at hpr hc ⊢
 rw[Int.toNat_natCast]at hpr
 obtain ⟨q0,st0,h1,h2,h3⟩:=Path.down hg hM hG (p:=p) pr.right.length st q hrl hP (by
  have:16 *(p:Int)+(pr.right.length:Nat)=x:=o_
  rw[this];exact hx)
 obtain ⟨q0',r0,e,hq0⟩:=h2.lt hG
 cases e
 have hk0:=hM.qF q0
 have hcl0:=zf hg hk0.2 hk0.1
 have hlen:pr.right.length<(q::st).length:=by
  refine Classical.byContradiction fun h=>?_
  rw[List.drop_eq_nil_of_le o_]at h1
  cases h1
 have hgo: ∃y∈zy g (qF m q0),nxt g y=1000+(l:Int):=by
  rcases hcl0.1.cases _ h3 with h|⟨y,hy,m',p',e,hp',hn,hleft⟩
  · exfalso
    cases h2 with
    |base=>rw[qNR hG]at h;simp at h;omega
    | push h2 ht hk'=>
      rename_i q' st' s
      rw[hk']at h
      obtain ⟨y,hy,_,_,e⟩:=X4.1 h
      have hk1:=hM.qF q'
      have:=VL hg.rlen ((zf hg hk1.2 hk1.1).2.1 y hy)
      omega
  · have:m'=p:=o_
    subst this
    rw[hpr]at hp'
    cases hp'
    exact⟨y,hy,o_⟩
 obtain ⟨y,hy,hyn⟩:=hgo
 obtain ⟨t,ht,htl,hkt⟩:=hG.go hg hM hq0 hy o_
 rw[hyn]at ht hkt
 exact⟨p,pr,l,q0,st0,t,rfl,hpr,hl,hln,hrl,hlen,h1,hq0,ht,h2.push htl hkt⟩
structure TabOk (g:Grammar) (m:List Sta) (A:List (List (Int×Int))) (G:List (List Int)):Prop where
 al:A.length=m.length
 ar: ∀(q:Nat) r,A[q]?=some r→r.length=g.toks.length
 gl:G.length=m.length
 gr: ∀(q:Nat) r,G[q]?=some r→r=(List.range g.nons.length).map fun(i:Nat)=>goS m q (1000+(i:Int))
 sh: ∀(q:Nat) r,A[q]?=some r→ ∀(t:Nat) a,r[t]?=some a→a.1=1→ ∃n:Nat,a.2=n∧n<m.length∧qF m n=kL g (qF m q) t
 re: ∀(q:Nat) r,A[q]?=some r→ ∀(t:Nat) a,r[t]?=some a→a.1=2→a.2∈xW g (qF m q)
abbrev qqy (A:List (List (Int×Int))) (G:List (List Int)):V:= .agg [.sl 1 false (A.map fun r=>.sl 2 false (r.map prV)),.sl 1 false (G.map fun r=>.sl 1 false (r.map (V.int .i64)))]
structure RunR where
 kind:Int:=0
 at_:Nat:=0
 steps:Nat:=0
 deep:Nat:=0
 prods:List Int:=[]
 deriving DecidableEq,Inhabited
abbrev RunR.V (r:RunR):V:= .agg [vi r.kind,vi r.at_,vi r.steps,vi r.deep,.sl 1 false (r.prods.map (V.int .i64))]
def kN (A:List (List (Int×Int))) (q:Nat) (t:Int):Int×Int:=(A.getD q []).getD t.toNat (0,0)
def Vl (G:List (List Int)) (q l:Nat):Int:=(G.getD q []).getD l 0
def qdK (g:Grammar) (p:Nat):Nat:=((g.prods[p]?).map (·.right.length)).getD 0
def qs2 (g:Grammar) (p:Nat):Nat:=((g.prods[p]?).map (·.left.toNat)).getD 0
def qeM (g:Grammar) (A:List (List (Int×Int))) (G:List (List Int)) (l:List Int) (depth steps:Nat):Nat→List Nat→RunR→RunR
 |0,_,r=>r
 | n+1,st,r=>
   let a:=kN A (st.headD 0) (j6 g.toks.length l r.at_)
   if a.1=3 then {r with kind:=1}
   else if a.1=1 then
    if steps≤r.steps∨depth<st.length then {r with kind:=3}
    else qeM g A G l depth steps n (a.2.toNat::st) {r with at_:=r.at_+1,steps:=r.steps+1,deep:=max r.deep st.length}
   else if a.1=2 then
    if steps≤r.steps∨depth<st.length - qdK g a.2.toNat then {r with kind:=3}
    else qeM g A G l depth steps n ((Vl G ((st.drop (qdK g a.2.toNat)).headD 0) (qs2 g a.2.toNat)).toNat::st.drop (qdK g a.2.toNat)) {r with steps:=r.steps+1,deep:=max r.deep (st.length - qdK g a.2.toNat),prods:=r.prods++[a.2]}
   else {r with kind:=2}
def qgm (g:Grammar) (A:List (List (Int×Int))) (G:List (List Int)) (l:List Int) (depth steps:Nat):RunR:=qeM g A G l depth steps (steps+1) [0] {}

set_option maxHeartbeats 8000000
def VZ {α:Type} (z:Nat) (f:α→V) (H:Nat→Option MObj) (next:Nat) (es:List V) (L:List (List α)):Prop:=es.length=L.length∧ ∀(j:Nat) r,L[j]?=some r→ ∃id,es[j]?=some (.msl id z 0 r.length)∧H id=some (.own z (r.map f) false)∧4≤id∧id<next
theorem VZ.nil {α:Type} {z:Nat} {f:α→V} {H:Nat→Option MObj} {next:Nat}:VZ z f H next [] []:=⟨rfl,fun j r h=>by simp at h⟩
theorem VZ.mono {α:Type} {z:Nat} {f:α→V} {H H':Nat→Option MObj} {next next':Nat} {es:List V} {L:List (List α)} (h:VZ z f H next es L) (hn:next≤next') (hH: ∀id l,4≤id→id<next→H id=some (.own z l false)→H' id=H id):VZ z f H' next' es L:=
 ⟨h.1,fun j r hj=>by
  obtain ⟨id,h1,h2,h3,h4⟩:=h.2 j r hj
  exact⟨id,h1,by rw[hH id _ h3 h4 h2];exact h2,h3,o_⟩⟩
theorem VZ.snoc {α:Type} {z:Nat} {f:α→V} {H:Nat→Option MObj} {next id n:Nat} {es:List V} {L:List (List α)} {r:List α} (h:VZ z f H next es L) (hn:r.length=n) (hH:H id=some (.own z (r.map f) false)) (h4:4≤id) (hid:id<next):VZ z f H next (es++[.msl id z 0 n]) (L++[r]):=by
 refine⟨by simp[h.1],fun j r' hj=>?_⟩
 by_cases e:j<L.length
 · rw[List.getElem?_append_left e]at hj
   obtain ⟨id',h1,h2⟩:=h.2 j r' hj
   exact⟨id',by rw[List.getElem?_append_left (by rw[h.1];exact e)];exact h1,h2⟩
 · have e2:j=L.length:=by
    have:=(List.getElem?_eq_some_iff.1 hj).1
    simp at this;omega
   subst e2
   rw[List.getElem?_append_right (Nat.le_refl _),Nat.sub_self]at hj
   cases hj
   exact⟨id,by rw[← h.1,List.getElem?_append_right (Nat.le_refl _),Nat.sub_self,hn];rfl,hH,h4,hid⟩
theorem VZ.er {α:Type} {z:Nat} {f:α→V} (hf: ∀(H:Nat→Option MObj) x,Er true H (f x) (f x)) {H:Nat→Option MObj} {next:Nat}: ∀{es:List V} {L:List (List α)},VZ z f H next es L→ErL true H es (L.map fun r=>.sl z false (r.map f))
 | [],L,h=>by
   cases L with
   |nil=>exact .nil
   |cons a L=>have:=h.1;simp at this
 | v ::es,L,h=>by
   cases L with
   |nil=>have:=h.1;simp at this
   | cons a L=>
     obtain ⟨id,h1,h2,_⟩:=h.2 0 a rfl
     cases h1
     refine .cons (VA (ro:=false) h2 (ErL.map fun x _=>hf H x) (by simp)) (VZ.er hf (next:=next) ⟨by have:=h.1;simpa using this,fun j r hj=>?_⟩)
     obtain ⟨id',g1,g2⟩:=h.2 (j+1) r (by simpa using hj)
     exact⟨id',by simpa using g1,g2⟩
def qaU (g:Grammar) (nt q:Nat) (cells:List Cel):List (Int×Int):=cells.foldl (fun r c=>if c.st=(q:Int)then r.set c.tok.toNat (Kq g c)else r) (List.replicate nt (0,0))
theorem VS (g:Grammar) (nt q:Nat) (cells:List Cel):(qaU g nt q cells).length=nt:=by
 unfold qaU
 exact zS (fun r:List (Int×Int)=>r.length=nt) _ _ _ (by simp) fun b c _ hb=>by split<;>simp[hb]
def qGP (m:List Sta) (nn q:Nat):List Int:=(List.range nn).map fun(i:Nat)=>goS m q (1000+(i:Int))
def clR (g:Grammar) (q:Nat) (cells:List Cel):List (Int×Int×Int×Int):=cells.flatMap fun c=>if c.st=(q:Int)then qiq g c else[]
def clN (g:Grammar) (cells:List Cel) (n:Nat):List (Int×Int×Int×Int):=(List.range n).flatMap fun q=>clR g q cells
def Kt (g:Grammar) (cells:List Cel) (n:Nat):List (List (Int×Int)):=(List.range n).map fun q=>qaU g g.toks.length q cells
def qbL (g:Grammar) (m:List Sta) (n:Nat):List (List Int):=(List.range n).map fun q=>qGP m g.nons.length q
theorem qgz (g:Grammar) (c:Cel):(qiq g c).length≤c.prods.length+1:=by
 unfold qiq
 split
 · simp
 · rename_i r l h
   rw[h,List.length_append,List.length_map,List.length_cons]
   split
   · simp;omega
   · split<;>simp<;>omega
theorem qeO {B:Nat} (g:Grammar) (q:Nat): ∀(cells:List Cel),(∀c∈cells,c.prods.length≤B)→(clR g q cells).length≤cells.length *(B+1)
 |[],_=>Nat.zero_le _
 | c::l,h=>by
   have ih:=qeO g q l fun x hx=>h x (List.mem_cons_of_mem _ hx)
   have h1:=qgz g c
   have h2:=h c (by simp)
   have e:clR g q (c::l)=(if c.st=(q:Int)then qiq g c else[])++clR g q l:=by simp[clR]
   rw[e,List.length_append,List.length_cons,Nat.succ_mul]
   generalize l.length *(B+1)=X at *
   split
   · omega
   · rw[List.length_nil];omega
theorem qbS (g:Grammar) (cells:List Cel) (n:Nat):clN g cells (n+1)=clN g cells n++clR g n cells:=by
 unfold clN;rw[List.range_succ,List.flatMap_append];simp
theorem qlT {g:Grammar} {cells:List Cel} (hc:cells.length≤6000) (hp: ∀c∈cells,c.prods.length≤144000) {n:Nat} (hn:n≤150):(clN g cells n).length≤129600900000:=by
 have hK:cells.length *(144000+1)≤6000 *144001:=Nat.mul_le_mul_right _ hc
 have h: ∀n,(clN g cells n).length≤n *(6000 *144001):=fun n=>by
  induction n with
  |zero=>exact Nat.zero_le _
  | succ n ih=>
    rw[qbS,List.length_append,Nat.succ_mul]
    exact Nat.add_le_add ih (Nat.le_trans (qeO g n cells hp) hK)
 exact Nat.le_trans (h n) (Nat.mul_le_mul_right _ hn)
theorem qhe {g:Grammar} {q i:Nat} {cells:List Cel} {c:Cel} (h:cells[i]?=some c):clR g q (cells.take (i+1))=clR g q (cells.take i)++(if c.st=(q:Int)then qiq g c else[]):=by
 unfold clR;rw[List.take_add_one,h,List.flatMap_append];simp
theorem qDf (g:Grammar) (q i:Nat) (cells:List Cel):(clR g q (cells.take i)).length≤(clR g q cells).length:=by
 have e:clR g q cells=clR g q (cells.take i)++clR g q (cells.drop i):=by
  unfold clR;rw[← List.flatMap_append,List.take_append_drop]
 rw[e,List.length_append];omega
theorem qeq {g:Grammar} {nt q i:Nat} {cells:List Cel} {c:Cel} (h:cells[i]?=some c):qaU g nt q (cells.take (i+1))=if c.st=(q:Int)then(qaU g nt q (cells.take i)).set c.tok.toNat (Kq g c)else qaU g nt q (cells.take i):=by
 unfold qaU;rw[List.take_add_one,h,List.foldl_append];rfl
theorem qhq {α:Type} {f:α→V} {l:List α} {i:Nat} {x:α}:(l.map f).set i (f x)=(l.set i x).map f:=by rw[List.map_set]
def qdx (m:List Sta) (nn q k:Nat):List V:=(List.range nn).map fun(i:Nat)=>if i<k then vi (goS m q (1000+(i:Int)))else .int .i64 0
theorem Xg (m:List Sta) (nn q k:Nat):(qdx m nn q k).length=nn:=by simp[qdx]
theorem qGZ (m:List Sta) (nn q:Nat):List.replicate nn (V.int .i64 0)=qdx m nn q 0:=by
 refine List.ext_getElem? fun j=>?_
 by_cases hj:j<nn
 · simp[qdx,hj]
 · rw[List.getElem?_eq_none (by simp;omega),List.getElem?_eq_none (by rw[Xg];omega)]
theorem qzP (m:List Sta) (nn q:Nat):qdx m nn q nn=(qGP m nn q).map (V.int .i64):=by
 unfold qdx qGP
 rw[List.map_map]
 refine List.map_congr_left fun k hk=>?_
 rw[if_pos (List.mem_range.1 hk)];rfl
theorem qhL {m:List Sta} {nn q k:Nat} (h:k<nn):(qdx m nn q k)[k]?=some (.int .i64 0):=by simp[qdx,h]
theorem qgV {m:List Sta} {nn q k:Nat} (h:k<nn):(qdx m nn q k).set k (vi (goS m q (1000+(k:Int))))=qdx m nn q (k+1):=by
 refine List.ext_getElem? fun j=>?_
 rw[List.getElem?_set,Xg]
 by_cases hj:j<nn
 · by_cases e:k=j
   · subst e;simp[qdx,hj]
   · have:(j<k)=(j<k+1):=by simp;omega
     simp[qdx,hj,e,this]
 · rw[List.getElem?_eq_none (by rw[Xg];omega),List.getElem?_eq_none (by rw[Xg];omega),if_neg o_]
theorem Jb {g:Grammar} {m:List Sta} {cells:List Cel} (hM:MOk g m) (hg:GOk g) (hc:cells.length≤6000) (hp: ∀c∈cells,c.prods.length≤144000) (ht: ∀c∈cells,∃t:Nat,c.tok=t∧t<g.toks.length) (hr: ∀c∈cells,∀p∈c.prods,∃n:Nat,p=n∧n<g.prods.length):Pure Try.prog 49 [g.V,.sl 2 false (m.map Sta.V),.sl 5 false (cells.map Cel.V)] (.tup [qqy (Kt g cells m.length) (qbL g m m.length),.sl 4 false ((clN g cells m.length).map clV)]):=by
 refine pure_intro Try.func49 nm_ qxg (by show 3≤92;decide) ?_
 show ewp _ qjr _ _
 have hml:=hM.len;have hmv:=hM.mvl
 have htk:=hg.tk2;have htk3:=hg.tk;have hnn:=hg.nn2;have hnn1:=hg.nn
 repeat' with_reducible first
  |refine s_ ?_
  |simp only[wZZ,seval]
  |refine t_ ?_
 refine qb ?nx1 (fun(q:Nat) s=>s.f 1=?v1_1∧s.f 2=?v1_2∧s.f 3=?v1_3∧s.f 6=?v1_6∧s.f 8=?v1_8∧s.H 0=some (.own 5 [g.V] false)∧s.H 1=some (.own 2 [.agg [.sl 1 true [],.sl 1 true []]] false)∧s.f 10=vi q∧(q≤m.length)∧((∃vA vG vC esA esG,s.f 9=vC∧s.H 3=some (.own 2 [.agg [vA,vG]] false)∧Gr s.H s.next 1 esA vA∧Gr s.H s.next 1 esG vG∧Gr s.H s.next 4 ((clN g cells q).map clV) vC∧Sep vA vG∧Sep vA vC∧Sep vG vC∧VZ 2 prV s.H s.next esA (Kt g cells q)∧VZ 1 (V.int .i64) s.H s.next esG (qbL g m q)))) (fun q=>m.length - q) (0) wj_ (by refine⟨?_,?_,?_,?_,?_,?_,?_,?_,wo_,(by exact⟨.sl 1 true [],.sl 1 true [],.sl 4 true [],[],[],l_,(by(simp only[wM];(repeat first|rw[if_pos trivial]|rw[if_pos rfl]|rw[if_neg o_]))<;>rfl),Gr.nil,Gr.nil,Gr.nil,Sep.slL,Sep.slL,Sep.slL,VZ.nil,VZ.nil⟩)⟩<;>first|(simp only[wL,wM,wN,wX,seval,Option.some.injEq]<;>exact wt_)|rfl|exact⟨_,rfl⟩) ?_
 intro q s hnx ⟨g1,g2,g3,g6,g8,o0,o1,g10,k1_0,k1_1⟩
 obtain ⟨vA,vG,vC,esA,esG,g9,o3,hA,hG,hC,s1,s2,s3,tA,tG⟩:=k1_1
 have hz:=w1_ q
 by_cases hq:q<m.length
 · have hsA:Kt g cells (q+1)=Kt g cells q++[qaU g g.toks.length q cells]:=by unfold Kt;rw[List.range_succ,List.map_append];rfl
   have hsG:qbL g m (q+1)=qbL g m q++[qGP m g.nons.length q]:=by unfold qbL;rw[List.range_succ,List.map_append];rfl
   have hsC:=qbS g cells q
   have hlC:=qlT (g:=g) hc hp (n:=q+1) o_
   rw[hsC,List.length_append]at hlC
   obtain ⟨R,hR⟩: ∃R,R=s.next+4+3:=⟨_,rfl⟩
   obtain ⟨B,hB⟩: ∃B,B=s.next:=⟨_,rfl⟩
   repeat' with_reducible first
    |refine s_ ?_
    |simp only[wZZ,seval,g1,g2,g3,g6,g8,g10,o0,o1,hz,g9]
    |apply qa<;>intro h h_<;>(try simp only[wD,reduceCtorEq]at h_)<;>(try exact wb_)<;>(try simp only[h])
    |refine t_ ?_
    |apply qbj;exact wf_;exact wf_;(focus(unfold maxLen;first|omega|(simp only[wZ]<;>omega)))
   refine qb ?nx2 (fun(i:Nat) s=>s.f 1=?v2_1∧s.f 2=?v2_2∧s.f 3=?v2_3∧s.f 6=?v2_6∧s.f 8=?v2_8∧s.f 10=?v2_10∧s.H 0=some (.own 5 [g.V] false)∧s.H 1=some (.own 2 [.agg [.sl 1 true [],.sl 1 true []]] false)∧s.f 12=vi i∧(i≤cells.length)∧(B≤R)∧(R<s.next)∧((s.H R=some (.own 2 ((qaU g g.toks.length q (cells.take i)).map prV) false)))∧((s.H 3=some (.own 2 [.agg [vA,vG]] false)))∧(Gr s.H B 1 esA vA)∧(Gr s.H B 1 esG vG)∧(VZ 2 prV s.H B esA (Kt g cells q))∧(VZ 1 (V.int .i64) s.H B esG (qbL g m q))∧((∃vD,s.f 9=vD∧Gr s.H s.next 4 ((clN g cells q++clR g q (cells.take i)).map clV) vD∧Sep vA vD∧Sep vG vD))∧(s.f 11=.msl R 2 0 g.toks.length)) (fun i=>cells.length - i) (0) wj_ (by refine⟨?_,?_,?_,?_,?_,?_,?_,?_,?_,wo_,wo_,wg_,(by rw[hR];(simp only[wM];(repeat first|rw[if_pos trivial]|rw[if_pos rfl]|rw[if_neg o_]))<;>first|rfl|(simp[qaU,List.map_replicate])),(by((try simp only[wM]);(repeat first|rw[if_pos trivial]|rw[if_pos rfl]|rw[if_neg o_]));exact o3),(by rw[hB];exact hA.mono (Nat.le_refl _) (fun j h1 h2=>hh_)),(by rw[hB];exact hG.mono (Nat.le_refl _) (fun j h1 h2=>hh_)),(by rw[hB];exact tA.mono (Nat.le_refl _) (fun j l h1 h2 h3=>hh_)),(by rw[hB];exact tG.mono (Nat.le_refl _) (fun j l h1 h2 h3=>hh_)),(by exact⟨vC,(by(simp only[wL,seval]);assumption),(hC.mono wg_ (fun j h1 h2=>hh_)).mono' (by simp[clR]) (Nat.le_refl _) (fun _ _ _=>rfl),s2,s3⟩),(by(try simp only[wL,wM,wN,seval,g1,g2,g3,g6,g8,g10,o0,o1]);first|done|rw[hR])⟩<;>first|(simp only[wL,wM,wN,wX,seval,Option.some.injEq,g1,g2,g3,g6,g8,g10,o0,o1]<;>exact wt_)|rfl|exact⟨_,rfl⟩) ?_
   intro i s hnx ⟨g1,g2,g3,g6,g8,g10,o0,o1,g12,k2_0,k2_1,k2_2,k2_3,k2_4,k2_5,k2_6,k2_7,k2_8,k2_9,g11⟩
   obtain ⟨vD,gD,hD,sA,sG⟩:=k2_9
   have hzi:=w1_ i
   by_cases hi:i<cells.length
   · have hgi:cells[i]?=some cells[i]:=ge_ hi
     have hcm:=List.getElem_mem hi
     have hct:=qhe (g:=g) (q:=q) hgi
     have hat:=qeq (g:=g) (nt:=g.toks.length) (q:=q) hgi
     have hcl:=qDf g q (i+1) cells
     obtain ⟨t,hte,htl⟩:=ht _ hcm
     have hse:=Jq hg (hr _ hcm) (by have:=hp _ hcm;omega) hte htl
     have hal:=VS g g.toks.length q (cells.take i)
     generalize cells[i]=c at *
     generalize Kq g c=a at *
     generalize qiq g c=K at *
     generalize hAR:qaU g g.toks.length q (cells.take i)=AR at *
     rw[hte,Int.toNat_natCast]at hat
     obtain ⟨a1,a2⟩:=a
     have hgt:(AR.map prV)[t]?=some (prV AR[t]):=by rw[List.getElem?_map,ge_ o_];rfl
     obtain ⟨cs,ct,ch,ca,cp⟩:=c
     dsimp only at hte hct hat
     subst hte
     by_cases hcq:cs=(q:Int)
     · rw[if_pos hcq]at hct hat
       have oR:=k2_3
       have hcl2:=hct ▸ hcl
       rw[List.length_append]at hcl2
       have hlD:((clN g cells q++clR g q (cells.take i)).map clV).length=(clN g cells q).length+(clR g q (cells.take i)).length:=by rw[List.length_map,List.length_append]
       repeat' with_reducible first
        |refine s_ ?_
        |simp only[wZZ,seval,g1,g2,g3,g6,g8,g10,g12,g11,o0,o1,hzi,gD]
        |apply qa<;>intro h h_<;>(try simp only[wD,reduceCtorEq]at h_)<;>(try exact wb_)<;>(try simp only[h])
        |refine t_ ?_
        |refine cq2 hse qc qc ?_
        |(refine stW (by((try simp only[wM]);(repeat first|rw[if_pos trivial]|rw[if_pos rfl]|rw[if_neg o_]));exact oR) hgt wu_ wu_ wu_ ?_)
        |apply za rfl (hD.mono (Nat.le_refl _) (fun id h1 h2=>by have:=Gr.ne hD oR h1;(try simp only[wM]);(repeat rw[if_neg o_])));exact qU.sl;(focus(simp only[wZ,hlD];omega));(focus(unfold maxLen;simp only[wZ,hlD];omega))
        |simp(disch:=omega) only[w64,if_neg]
       exact⟨wg_,i+1,o_,trivial,trivial,trivial,trivial,trivial,trivial,qI (fun x h=>Gr.ne hD o0 h) (by((try simp only[wM]);(repeat first|rw[if_pos trivial]|rw[if_pos rfl]|rw[if_neg o_]));exact o0),qI (fun x h=>Gr.ne hD o1 h) (by((try simp only[wM]);(repeat first|rw[if_pos trivial]|rw[if_pos rfl]|rw[if_neg o_]));exact o1),rfl,o_,k2_1,wg_,by((try simp only[wM]);(repeat first|rw[if_pos trivial]|rw[if_pos rfl]|rw[if_neg o_]));exact qI (fun x h=>Gr.ne hD oR h) (by((try simp only[wM]);(repeat first|rw[if_pos trivial]|rw[if_pos rfl]|rw[if_neg o_]));rw[hat];exact congrArg (fun x=>some (MObj.own 2 x false)) (qhq (f:=prV) (x:=(a1,a2)))),by((try simp only[wM]);(repeat first|rw[if_pos trivial]|rw[if_pos rfl]|rw[if_neg o_]));exact qI (fun x h=>Gr.ne hD k2_4 h) (by((try simp only[wM]);(repeat first|rw[if_pos trivial]|rw[if_pos rfl]|rw[if_neg o_]));exact k2_4),k2_5.mono (Nat.le_refl _) (fun x h1 h2=>by((try simp only[wM]);(repeat first|rw[if_pos trivial]|rw[if_pos rfl]|rw[if_neg o_]));exact qI (fun y hy e=>sA x h1 (e ▸ hy)) hh_),k2_6.mono (Nat.le_refl _) (fun x h1 h2=>by((try simp only[wM]);(repeat first|rw[if_pos trivial]|rw[if_pos rfl]|rw[if_neg o_]));exact qI (fun y hy e=>sG x h1 (e ▸ hy)) hh_),k2_7.mono (Nat.le_refl _) (fun x l h1 h2 h3=>by((try simp only[wM]);(repeat first|rw[if_pos trivial]|rw[if_pos rfl]|rw[if_neg o_]));exact qI (fun y hy=>Gr.ne hD h3 hy) hh_),k2_8.mono (Nat.le_refl _) (fun x l h1 h2 h3=>by((try simp only[wM]);(repeat first|rw[if_pos trivial]|rw[if_pos rfl]|rw[if_neg o_]));exact qI (fun y hy=>Gr.ne hD h3 hy) hh_),⟨_,rfl,(Gr.tok (id:=s.next+4+7+12+9+2) (fin:=_) hh_ wg_).mono' (by rw[hct,← List.append_assoc,List.map_append (l₂:=K)]) (Nat.le_refl _) (fun _ _ _=>rfl),Sep.newR k2_5 o_,Sep.newR k2_6 o_⟩,trivial⟩
     · rw[if_neg hcq]at hct hat
       rw[List.append_nil]at hct
       repeat' with_reducible first
        |refine s_ ?_
        |simp only[wZZ,seval,g1,g2,g3,g6,g8,g10,g12,g11,o0,o1,hzi,gD]
        |apply qa<;>intro h h_<;>(try simp only[wD,reduceCtorEq]at h_)<;>(try exact wb_)<;>(try simp only[h])
        |refine t_ ?_
       exact⟨wg_,i+1,o_,trivial,trivial,trivial,trivial,trivial,trivial,trivial,trivial,rfl,o_,k2_1,wg_,by rw[hat];exact k2_3,k2_4,k2_5.mono (Nat.le_refl _) (fun _ _ _=>rfl),k2_6.mono (Nat.le_refl _) (fun _ _ _=>rfl),k2_7.mono (Nat.le_refl _) (fun _ _ _ _ _=>rfl),k2_8.mono (Nat.le_refl _) (fun _ _ _ _ _=>rfl),⟨vD,rfl,hct ▸ hD.mono wg_ (fun _ _ _=>rfl),sA,sG⟩,trivial⟩
   · have e:cells.take i=cells:=List.take_of_length_le o_
     rw[e]at k2_3 hD
     rw[← hsC]at hD
     obtain ⟨W,hW⟩: ∃W,W=s.next+4+3:=⟨_,rfl⟩
     repeat' with_reducible first
      |refine s_ ?_
      |simp only[wZZ,seval,g1,g2,g3,g6,g8,g10,g12,g11,o0,o1,hzi,gD]
      |apply qa<;>intro h h_<;>(try simp only[wD,reduceCtorEq]at h_)<;>(try exact wb_)<;>(try simp only[h])
      |refine t_ ?_
      |apply qbj;exact wf_;exact wf_;(focus(unfold maxLen;first|omega|(simp only[wZ]<;>omega)))
     skip
     refine qb ?nx3 (fun(k:Nat) s=>s.f 1=?v3_1∧s.f 2=?v3_2∧s.f 3=?v3_3∧s.f 6=?v3_6∧s.f 8=?v3_8∧s.f 9=?v3_9∧s.f 10=?v3_10∧s.H 0=some (.own 5 [g.V] false)∧s.H 1=some (.own 2 [.agg [.sl 1 true [],.sl 1 true []]] false)∧s.f 16=vi k∧(k≤g.nons.length)∧(R<W)∧(W<s.next)∧((s.H W=some (.own 1 (qdx m g.nons.length q k) false)))∧((s.H R=some (.own 2 ((qaU g g.toks.length q cells).map prV) false)))∧((s.H 3=some (.own 2 [.agg [vA,vG]] false)))∧(Gr s.H B 1 esA vA)∧(Gr s.H B 1 esG vG)∧(VZ 2 prV s.H B esA (Kt g cells q))∧(VZ 1 (V.int .i64) s.H B esG (qbL g m q))∧((s.f 9=vD))∧(Gr s.H s.next 4 ((clN g cells (q+1)).map clV) vD)∧(s.f 11=.msl R 2 0 g.toks.length)∧(s.f 15=.msl W 1 0 g.nons.length)) (fun k=>g.nons.length - k) (0) wj_ (by refine⟨?_,?_,?_,?_,?_,?_,?_,?_,?_,?_,wo_,wg_,wg_,(by rw[hW,← qGZ];(simp only[wM];(repeat first|rw[if_pos trivial]|rw[if_pos rfl]|rw[if_neg o_]))<;>first|rfl|simp),(by((try simp only[wM]);(repeat first|rw[if_pos trivial]|rw[if_pos rfl]|rw[if_neg o_]));exact k2_3),(by((try simp only[wM]);(repeat first|rw[if_pos trivial]|rw[if_pos rfl]|rw[if_neg o_]));exact k2_4),(by exact k2_5.mono (Nat.le_refl _) (fun j h1 h2=>hh_)),(by exact k2_6.mono (Nat.le_refl _) (fun j h1 h2=>hh_)),(by exact k2_7.mono (Nat.le_refl _) (fun j l h1 h2 h3=>hh_)),(by exact k2_8.mono (Nat.le_refl _) (fun j l h1 h2 h3=>hh_)),(by(simp only[wL,seval]);assumption),(by exact hD.mono wg_ (fun j h1 h2=>hh_)),(by(try simp only[wL,wM,wN,seval,g1,g2,g3,g6,g8,g10,o0,o1]);first|done|rfl|assumption),(by(try simp only[wL,wM,wN,seval,g1,g2,g3,g6,g8,g10,o0,o1]);first|done|rw[hW])⟩<;>first|(simp only[wL,wM,wN,wX,seval,Option.some.injEq,g1,g2,g3,g6,g8,g10,o0,o1]<;>exact wt_)|rfl|exact⟨_,rfl⟩) ?_
     intro k s hnx ⟨g1,g2,g3,g6,g8,g9,g10,o0,o1,g16,k3_0,k3_1,k3_2,k3_3,k3_4,k3_5,k3_6,k3_7,k3_8,k3_9,k3_10,k3_11,g11,g15⟩
     have hzk:=w1_ k
     by_cases hk:k<g.nons.length
     · have hgo:=jq (m:=m) (q:=q) (sy:=1000+(k:Int)) o_ (fun q h=>by have:=hmv q h;omega)
       have hz4:IntKind.i64.wrap (1000+(k:Int))=1000+(k:Int):=wrap64 o_ o_
       have hfs:=qgV (m:=m) (q:=q) hk
       have oW:=k3_3
       repeat' with_reducible first
        |refine s_ ?_
        |simp only[wZZ,seval,g1,g2,g3,g6,g8,g9,g10,g16,g11,g15,o0,o1,hzk,hz4]
        |apply qa<;>intro h h_<;>(try simp only[wD,reduceCtorEq]at h_)<;>(try exact wb_)<;>(try simp only[h])
        |refine cq3 hgo qc qc qc ?_
        |(refine stV oW (qhL hk) wu_ wu_ wu_ wu_ ?_)
        |refine t_ ?_
        |simp(disch:=omega) only[w64,if_neg]
       exact⟨wg_,k+1,o_,trivial,trivial,trivial,trivial,trivial,trivial,trivial,trivial,trivial,rfl,o_,k3_1,wg_,by rw[← hfs],by((try simp only[wM]);(repeat first|rw[if_pos trivial]|rw[if_pos rfl]|rw[if_neg o_]));exact k3_4,by((try simp only[wM]);(repeat first|rw[if_pos trivial]|rw[if_pos rfl]|rw[if_neg o_]));exact k3_5,k3_6.mono (Nat.le_refl _) (fun j h1 h2=>hh_),k3_7.mono (Nat.le_refl _) (fun j h1 h2=>hh_),k3_8.mono (Nat.le_refl _) (fun j l h1 h2 h3=>hh_),k3_9.mono (Nat.le_refl _) (fun j l h1 h2 h3=>hh_),gD,k3_11.mono wg_ (fun j h1 h2=>by have:=Gr.ne k3_11 oW h1;((try simp only[wM]);(repeat first|rw[if_pos trivial]|rw[if_pos rfl]|rw[if_neg o_]))),trivial,trivial⟩
     · have e:k=g.nons.length:=o_
       subst e
       rw[qzP]at k3_3
       have o3b:=k3_5
       have hlA:esA.length=q:=by rw[k3_8.1];simp[Kt]
       have hlG:esG.length=q:=by rw[k3_9.1];simp[qbL]
       have hA2: ∀x,gid vA=some x→x≠3:=fun x h=>Gr.ne k3_6 o3b h
       have hG2: ∀x,gid vG=some x→x≠3:=fun x h=>Gr.ne k3_7 o3b h
       have hsep: ∀y i,gid vA=some y→gid vG=some i→y≠i:=fun y i hy hi e=>s1 y hy (e ▸ hi)
       have hd1:kS s.H (gid vA) 3=some (.own 2 [.agg [vA,vG]] false):=qI hA2 o3b
       repeat' with_reducible first
        |refine s_ ?_
        |simp only[wZZ,seval,g1,g2,g3,g6,g8,g9,g10,g16,g11,g15,o0,o1,hz,o3b,k3_10,hd1]
        |(refine VG (cs:=[vA,vG]) (es:=[.agg [vA,vG]]) (qI hG2 (by((try simp only[wM]);(repeat first|rw[if_pos trivial]|rw[if_pos rfl]|rw[if_neg o_]));exact hd1)) rfl wu_ wu_ wu_ (by simp) ?_)
        |apply za rfl (k3_6.mono (Nat.le_refl _) (fun id h1 h2=>by(try simp only[wM]);(repeat rw[if_neg o_])));exact qU.sl;(focus(simp only[wZ,hlA];omega));(focus(unfold maxLen;simp only[wZ,hlA];omega))
        |(apply za rfl (k3_7.mono (Nat.le_refl _) (fun id h1 h2=>by((try simp only[wM]);(repeat first|rw[if_pos trivial]|rw[if_pos rfl]|rw[if_neg o_]));exact qI (fun y hy=>hsep y id hy h1) rfl));(focus exact qU.sl);(focus(simp only[wZ,hlG];omega));(focus(unfold maxLen;simp only[wZ,hlG];omega)))
        |refine t_ ?_
       refine⟨wg_,q+1,o_,trivial,trivial,trivial,trivial,trivial,?_,?_,rfl,o_,⟨_,_,vD,_,_,gD,rfl,Gr.tok (id:=s.next+4+4) (fin:=_) (by((try simp only[wM]);(repeat first|rw[if_pos trivial]|rw[if_pos rfl]|rw[if_neg o_]));exact qI (fun x h=>by have:=Gr.lt k3_7 h;omega) hh_) wg_,Gr.tok (id:=s.next+4+9) (fin:=_) hh_ wg_,k3_11.mono wg_ (fun x h1 h2=>?_),Sep.ids o_,Sep.newL k3_11 o_,Sep.newL k3_11 o_,?_,?_⟩⟩
       · exact qI (fun x h=>Gr.ne k3_7 o0 h) (by((try simp only[wM]);(repeat first|rw[if_pos trivial]|rw[if_pos rfl]|rw[if_neg o_]));exact qI (fun x h=>Gr.ne k3_6 o0 h) o0)
       · exact qI (fun x h=>Gr.ne k3_7 o1 h) (by((try simp only[wM]);(repeat first|rw[if_pos trivial]|rw[if_pos rfl]|rw[if_neg o_]));exact qI (fun x h=>Gr.ne k3_6 o1 h) o1)
       · have:=Gr.ne k3_11 k3_5 h1
         ((try simp only[wM]);(repeat first|rw[if_pos trivial]|rw[if_pos rfl]|rw[if_neg o_]))
         exact qI (fun y hy e=>sG y hy (e ▸ h1)) (by((try simp only[wM]);(repeat first|rw[if_pos trivial]|rw[if_pos rfl]|rw[if_neg o_]));exact qI (fun y hy e=>sA y hy (e ▸ h1)) rfl)
       · rw[hsA]
         refine(k3_8.mono wg_ (fun x l h1 h2 h3=>?_)).snoc (VS _ _ _ _) ?_ o_ wg_
         · ((try simp only[wM]);(repeat first|rw[if_pos trivial]|rw[if_pos rfl]|rw[if_neg o_]))
           exact qI (fun y hy=>Gr.ne k3_7 h3 hy) (by((try simp only[wM]);(repeat first|rw[if_pos trivial]|rw[if_pos rfl]|rw[if_neg o_]));exact qI (fun y hy=>Gr.ne k3_6 h3 hy) rfl)
         · ((try simp only[wM]);(repeat first|rw[if_pos trivial]|rw[if_pos rfl]|rw[if_neg o_]))
           exact qI (fun y hy=>Gr.ne k3_7 k3_4 hy) (by((try simp only[wM]);(repeat first|rw[if_pos trivial]|rw[if_pos rfl]|rw[if_neg o_]));exact qI (fun y hy=>Gr.ne k3_6 k3_4 hy) k3_4)
       · rw[hsG]
         refine(k3_9.mono wg_ (fun x l h1 h2 h3=>?_)).snoc (by simp[qGP]) ?_ o_ wg_
         · ((try simp only[wM]);(repeat first|rw[if_pos trivial]|rw[if_pos rfl]|rw[if_neg o_]))
           exact qI (fun y hy=>Gr.ne k3_7 h3 hy) (by((try simp only[wM]);(repeat first|rw[if_pos trivial]|rw[if_pos rfl]|rw[if_neg o_]));exact qI (fun y hy=>Gr.ne k3_6 h3 hy) rfl)
         · ((try simp only[wM]);(repeat first|rw[if_pos trivial]|rw[if_pos rfl]|rw[if_neg o_]))
           exact qI (fun y hy=>Gr.ne k3_7 k3_3 hy) (by((try simp only[wM]);(repeat first|rw[if_pos trivial]|rw[if_pos rfl]|rw[if_neg o_]));exact qI (fun y hy=>Gr.ne k3_6 k3_3 hy) k3_3)
 · have e:q=m.length:=o_
   subst e
   skip
   repeat' with_reducible first
    |refine s_ ?_
    |simp only[wZZ,seval,g1,g2,g3,g6,g8,g10,o0,o1,g9,o3]
    |refine t_ ?_
   refine qgb (id:=1) rfl (Or.inr rfl) (by(simp only[wL,seval]);assumption) (by(simp only[wM];(repeat first|rw[if_pos trivial]|rw[if_pos rfl]|rw[if_neg o_]))<;>rfl) rfl ?_
   (simp only[wL,seval])
   have e1: ∀(H:Nat→Option MObj) x,Er true H (prV x) (prV x):=fun _ _=>qc
   have e2: ∀(H:Nat→Option MObj) x,Er true H (V.int .i64 x) (V.int .i64 x):=fun _ _=>.int _ _
   exact ErL.tup (.cons (ErL.agg (.cons (hA.erL ((tA.mono (Nat.le_refl _) (fun x l h1 h2 h3=>hh_)).er e1)) (.cons (hG.erL ((tG.mono (Nat.le_refl _) (fun x l h1 h2 h3=>hh_)).er e2)) .nil))) (.cons (hC.er rfl) .nil))
end Go.Proofs
