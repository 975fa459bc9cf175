/- Part of a proof that a law of the given program answers true. -/
import Derived.Test.YthgkeppkcjcmjaaDZG
import Derived.Test.YthgkeppkcjcmjaaDZH
set_option linter.unusedSimpArgs false
set_option linter.unusedVariables false
set_option maxHeartbeats 8000000
namespace Go.Proofs
open Go.E
def Yt (g:Grammar) (p:Nat):Int×Int:=match g.prods[p]? with
 |some x=>if x.prec<0 then(0,0)else((g.toks[x.prec.toNat]?.map fun t=>(t.level,t.assoc)).getD (0,0))
 |none=>(0,0)
def qdS (g:Grammar) (p t:Nat):Int:=
 let k:=(g.toks[t]?.map fun t=>(t.level,t.assoc)).getD (0,0)
 if (Yt g p).1=0∨k.1=0 then 0 else if k.1>(Yt g p).1 then 1 else if k.1<(Yt g p).1 then 2 else if k.2=1 then 2 else if k.2=2 then 1 else 3
theorem Y5 {g:Grammar} {p:Nat} (hg:GOk g) (hp:p<g.prods.length):Pure Try.prog 104 [g.V,vi p] (.tup [vi (Yt g p).1,vi (Yt g p).2]):=by
 refine pure_intro Try.func104 qrK qoZ (by show 2≤39;decide) ?_
 show ewp _ qeI _ _
 have hpl:=hg.pl2;have htl:=hg.tk2
 have hgp:g.prods[p]?=some g.prods[p]:=ge_ hp
 have hpr:=hg.prec _ (List.getElem_mem hp)
 have hr:Yt g p=if g.prods[p].prec<0 then(0,0)else((g.toks[g.prods[p].prec.toNat]?.map fun t=>(t.level,t.assoc)).getD (0,0)):=by unfold Yt;rw[hgp]
 rw[hr]
 generalize g.prods[p]=x at *
 obtain ⟨pl,pr,pc,pco,pa,pat⟩:=x
 dsimp only at hpr ⊢
 rcases hpr with rfl|⟨t,rfl,ht⟩
 · rw[if_pos (by omega)]
   repeat' with_reducible first
    |refine s_ ?_
    |simp only[wZZ,seval]
    |(first|apply qh|apply qg)<;>intro h h_<;>(try simp only[wD,reduceCtorEq]at h_)<;>(try exact wb_)<;>(try simp only[h])
    |refine t_ ?_
   refine qeD rfl (Or.inr rfl) ?_
   (simp only[wL,seval])
   exact ErL.tup (.cons (.int _ _) (.cons (.int _ _) .nil))
 · have hgt:g.toks[t]?=some g.toks[t]:=ge_ ht
   rw[if_neg (by omega),show ((t:Int)).toNat=t from rfl,hgt]
   generalize g.toks[t]=k at *
   obtain ⟨kn,kl,ku,kv,ka,kg⟩:=k
   dsimp only[Option.map_some,Option.getD_some]
   repeat' with_reducible first
    |refine s_ ?_
    |simp only[wZZ,seval]
    |(first|apply qa|apply qh|apply qg)<;>intro h h_<;>(try simp only[wD,reduceCtorEq]at h_)<;>(try exact wb_)<;>(try simp only[h])
    |refine t_ ?_
   refine qeD rfl (Or.inr rfl) ?_
   (simp only[wL,seval])
   exact ErL.tup (.cons (.int _ _) (.cons (.int _ _) .nil))
theorem Xc {g:Grammar} {p t:Nat} (hg:GOk g) (hp:p<g.prods.length) (ht:t<g.toks.length):Pure Try.prog 87 [g.V,vi p,vi t] (vi (qdS g p t)):=by
 refine pure_intro Try.func87 qFI qBI (by show 3≤61;decide) ?_
 show ewp _ qji _ _
 have hpl:=hg.pl2;have htl:=hg.tk2
 have hru:=Y5 hg hp
 have hgt:g.toks[t]?=some g.toks[t]:=ge_ ht
 have hd:qdS g p t=if (Yt g p).1=0∨g.toks[t].level=0 then 0 else if g.toks[t].level>(Yt g p).1 then 1 else if g.toks[t].level<(Yt g p).1 then 2 else if g.toks[t].assoc=1 then 2 else if g.toks[t].assoc=2 then 1 else 3:=by unfold qdS;rw[hgt];rfl
 rw[hd]
 generalize Yt g p=r at *
 generalize g.toks[t]=k at *
 obtain ⟨r1,r2⟩:=r
 obtain ⟨kn,kl,ku,kv,ka,kg⟩:=k
 dsimp only at hru ⊢
 repeat' with_reducible first
  |refine s_ ?_
  |simp only[wZZ,seval]
  |(first|apply qa|apply qh|apply qg)<;>intro h h_<;>(try simp only[wD,reduceCtorEq]at h_)<;>(try exact wb_)<;>(try simp only[h])
  |refine t_ ?_
  |refine cq2 hru qb qb ?_
  |simp(disch:=omega) only[w64,if_neg]
 all_goals
  refine qw rfl (Or.inr rfl) ?_
  (simp only[wL,seval])
  first
   |exact .int _ _
   |(rw[if_pos (by omega)];exact .int _ _)

abbrev clV (c:Int×Int×Int×Int):V:= .agg [vi c.1,vi c.2.1,vi c.2.2.1,vi c.2.2.2]
def qqK (c:Cel):Int×Int:=if c.acc=true then(3,0)else(1,c.shift)
def KD (g:Grammar) (c:Cel):Int×Int:=match c.prods with
 |[]=>qqK c
 |r::_=>if c.shift<0∧c.acc=false then(2,r)else if c.acc=true∨qdS g r.toNat c.tok.toNat=0 then qqK c else if qdS g r.toNat c.tok.toNat=2 then(2,r)else if qdS g r.toNat c.tok.toNat=3 then(4,0)else qqK c
def qiX (g:Grammar) (c:Cel):List (Int×Int×Int×Int):=match c.prods with
 |[]=>[]
 |r::l=>l.map (fun p=>(c.st,c.tok,r,p))++(if c.shift<0∧c.acc=false then[]else if c.acc=true∨qdS g r.toNat c.tok.toNat=0 then[(c.st,c.tok,-1,r)]else[])
theorem qe7 {ef:EF} {t a id n:Nat} {ro:Bool} {v res:V} {e:Exit} {s:St} (he:ef.res=[.inr (t,true,n),.inl a]) (hx:e=.normal∨e=.ret) (hp:s.f t=.ptr id 0 0) (hH:s.H id=some (.own n [v] ro)) (ha:v.isAgg=true)
 (h:Er true s.H (.tup [v,s.f a]) res):zq ef res e s:=by
 have hv:qY s true n (s.f t)=some v:=by rw[hp];simp only[qY,hH,List.getElem?_cons_zero,jH,ha,and_self,if_true]
 exact⟨hx,_,by rw[he];simp[qdN,qbk,hv,one],h⟩
theorem qgT {K:St→Prop} {s:St} {id z:Nat} {e v:V} {o:Option MObj} (ho:o=some (.own z [e] false)) (he:e.isAgg=v.isAgg) (hl:v.cells.length=z) (hc:v.okCell=true) (hk:K (s.setO id (some (.own z [v] false)))):onS (stQ s o z id 0 0 v) K:=by subst ho;exact qme he hl hc hk
theorem Jj {g:Grammar} {c:Cel} {t:Nat} (hg:GOk g) (hp: ∀p∈c.prods,∃n:Nat,p=n∧n<g.prods.length) (hl:c.prods.length≤1000000) (ht:c.tok=t) (ht2:t<g.toks.length):Pure Try.prog 71 [g.V,c.V] (.tup [prV (KD g c),.sl 4 false ((qiX g c).map clV)]):=by
 refine pure_intro Try.func71 qIR qwi (by show 2≤97;decide) ?_
 show ewp _ qjb _ _
 obtain ⟨cs,ct,ch,ca,cp⟩:=c
 dsimp only at hp hl ht
 subst ht
 obtain ⟨B,hB⟩: ∃B,B=cp.drop 1:=⟨_,rfl⟩
 have hBl:B.length=cp.length - 1:=by rw[hB,List.length_drop]
 obtain ⟨r0,hr0⟩: ∃r0,r0=cp.getD 0 0:=⟨_,rfl⟩
 repeat' with_reducible first
  |refine s_ ?_
  |simp only[wZZ,seval]
  |refine t_ ?_
 refine qd ?nx1 (fun(j:Nat) s=>s.f 2=?v1_2∧s.f 3=?v1_3∧s.f 4=?v1_4∧s.H 0=some (.own 5 [g.V] false)∧s.H 1=some (.own 5 [Cel.V {st:=cs,tok:=t,shift:=ch,acc:=ca,prods:=cp}] false)∧s.H 2=some (.own 2 [V.agg [.int .i64 0,.int .i64 0]] false)∧(∃v,s.f 6=v∧Gr s.H s.next 4 (((B.take j).map fun p=>((cs,(t:Int),r0,p):Int×Int×Int×Int)).map clV) v)∧s.f 7=vi (j+1:Nat)∧(j≤B.length)) (fun j=>B.length - j) (0) wj_ (by refine⟨?_,?_,?_,?_,?_,?_,?_,?_,wo_⟩<;>first|(simp only[wL,wM,wN,wX,seval,Option.some.injEq]<;>exact wt_)|rfl|exact⟨_,rfl⟩) ?_
 intro j s hnx ⟨g2,g3,g4,o0,o1,o2,⟨v6,g6,G6⟩,g7,k1_0⟩
 have hz:IntKind.i64.wrap ((j+1+1:Nat):Int)=((j+1+1:Nat):Int):=wrap64 (by omega) (by omega)
 by_cases hj:j<B.length
 · have hgj:B[j]?=some B[j]:=ge_ hj
   have hg1:cp[j+1]?=some B[j]:=by rw[← hgj,hB,List.getElem?_drop,Nat.add_comm]
   have hg0:cp[0]?=some r0:=by rw[hr0,List.getD,ge_ (by omega)];rfl
   have htk:(B.take (j+1)).map (fun p=>((cs,(t:Int),r0,p):Int×Int×Int×Int))=(B.take j).map (fun p=>((cs,(t:Int),r0,p):Int×Int×Int×Int))++[(cs,(t:Int),r0,B[j])]:=by rw[List.take_add_one,hgj,List.map_append];rfl
   have hlr:(List.map (fun p=>((cs,(t:Int),r0,p):Int×Int×Int×Int)) (B.take j)).length=j:=by rw[List.length_map,List.length_take];omega
   generalize B[j]=y at *
   repeat' with_reducible first
    |refine s_ ?_
    |simp only[wZZ,seval,g2,g3,g4,g6,g7,o0,o1,o2,Gr.dropO G6 o0,Gr.dropO G6 o1,Gr.dropO G6 o2,hz,G6.len]
    |apply qa<;>intro h h_<;>(try simp only[wD,reduceCtorEq]at h_)<;>(try exact wb_)<;>(try simp only[h])
    |refine t_ ?_
    |apply qQ rfl (G6.mono (Nat.le_refl _) (fun id h1 h2=>by(try simp only[wM]);(repeat rw[if_neg (by omega)])));(focus(first|exact qI.sl|exact qI.asl));(focus(simp only[wZ,hlr];omega));(focus(unfold maxLen;simp only[wZ,hlr];omega))
   exact⟨by((try simp only[wN])<;>omega),j+1,by omega,trivial,trivial,trivial,trivial,trivial,trivial,⟨_,rfl,by rw[htk,List.map_append];exact Gr.tok (id:=s.next+5+16) (fin:=(List.take j B).length+1) (by((try simp only[wM]);(repeat first|rw[if_pos trivial]|rw[if_pos rfl]|rw[if_neg (by omega)]))) (by((try simp only[wN])<;>omega))⟩,rfl,by omega⟩
 · have e:B.take j=B:=List.take_of_length_le (by omega)
   rw[e]at G6
   by_cases hce:cp=[]
   · subst hce
     rw[show B=[] from hB]at G6
     cases ca
     all_goals
      repeat' with_reducible first
       |refine s_ ?_
       |simp only[wZZ,seval,g2,g3,g4,g6,g7,o0,o1,o2,Gr.dropO G6 o0,Gr.dropO G6 o1,Gr.dropO G6 o2,G6.len]
       |apply qa<;>intro h h_<;>(try simp only[wD,reduceCtorEq]at h_)<;>(try exact wb_)<;>(try simp only[h])
       |refine t_ ?_
      refine qe7 (id:=2) rfl (Or.inr rfl) (by(simp only[wL,seval]);exact g4) (by(simp only[wM];(repeat first|rw[if_pos trivial]|rw[if_pos rfl]|rw[if_neg (by omega)]))<;>rfl) rfl ?_
      (simp only[wL,seval])
      exact ErL.tup (.cons qb (.cons (G6.er rfl) .nil))
   · obtain ⟨n,hcp,hn⟩: ∃n:Nat,cp=(n:Int)::B∧n<g.prods.length:=by
      cases cp with
      |nil=>exact absurd rfl hce
      | cons r l=>
        obtain ⟨n,rfl,hn⟩:=hp r (by simp)
        exact⟨n,by rw[hB];rfl,hn⟩
     have hdec:=Xc hg hn ht2
     have hre:r0=(n:Int):=by rw[hr0,hcp];rfl
     subst hre
     have hcl:cp.length=B.length+1:=by rw[hcp,List.length_cons]
     have hA:KD g {st:=cs,tok:=t,shift:=ch,acc:=ca,prods:=cp}=if ch<0∧ca=false then(2,(n:Int))else if ca=true∨qdS g n t=0 then(if ca=true then(3,0)else(1,ch))else if qdS g n t=2 then(2,(n:Int))else if qdS g n t=3 then(4,0)else(if ca=true then(3,0)else(1,ch)):=by rw[hcp];rfl
     have hC:qiX g {st:=cs,tok:=t,shift:=ch,acc:=ca,prods:=cp}=B.map (fun p=>(cs,(t:Int),(n:Int),p))++(if ch<0∧ca=false then[]else if ca=true∨qdS g n t=0 then[(cs,(t:Int),-1,(n:Int))]else[]):=by rw[hcp];rfl
     rw[hA,hC]
     generalize qdS g n t=v at *
     have hg0:cp[0]?=some (n:Int):=by rw[hcp];rfl
     have hlB:(List.map (fun p=>((cs,(t:Int),(n:Int),p):Int×Int×Int×Int)) B).length=B.length:=List.length_map _
     cases ca
     all_goals
      repeat' with_reducible first
       |refine s_ ?_
       |simp only[wZZ,seval,g2,g3,g4,g6,g7,o0,o1,o2,Gr.dropO G6 o0,Gr.dropO G6 o1,Gr.dropO G6 o2,G6.len]
       |(first|apply qa|apply qh|apply qg)<;>intro h h_<;>(try simp only[wD,reduceCtorEq]at h_)<;>(try exact wb_)<;>(try simp only[h])
       |(refine qgT (qz (fun x h=>Gr.ne G6 o2 h) (by(try simp only[wM]);(repeat rw[if_neg (by omega)]);exact o2)) wu_ wu_ wu_ ?_)
       |refine t_ ?_
       |refine cq3 hdec qb qb qb ?_
       |apply qQ rfl (G6.mono (Nat.le_refl _) (fun id h1 h2=>by(try simp only[wM]);(repeat rw[if_neg (by omega)])));(focus(first|exact qI.sl|exact qI.asl));(focus(simp only[wZ,hlB];omega));(focus(unfold maxLen;simp only[wZ,hlB];omega))
       |simp(disch:=omega) only[w64,if_neg]
      all_goals refine qe7 (id:=2) rfl (Or.inr rfl) (by(simp only[wL,seval]);first|done|assumption|rfl) (by first|((simp only[wM];(repeat first|rw[if_pos trivial]|rw[if_pos rfl]|rw[if_neg (by omega)]))<;>rfl)|(((try simp only[wM]);(repeat first|rw[if_pos trivial]|rw[if_pos rfl]|rw[if_neg (by omega)]));exact qz (fun x h=>Gr.ne G6 o2 h) (by((try simp only[wM]);(repeat first|rw[if_pos trivial]|rw[if_pos rfl]|rw[if_neg (by omega)]));first|exact o2|rfl))|skip) rfl ?_
      all_goals(simp only[wL,seval])
      all_goals simp only[false_or,true_or,and_true,and_false,if_true,if_false]
      all_goals(repeat' split)
      all_goals first|(exfalso;omega)|exact ErL.tup (.cons (ErL.agg (.cons (.int _ _) (.cons (.int _ _) .nil))) (.cons (by first|exact G6.er (by simp)|exact qaJ (by simp)) .nil))

set_option maxHeartbeats 4000000
inductive Path (g:Grammar) (m:List Sta):List Nat→Prop
 |base:Path g m [0]
 |push {q t:Nat} {st:List Nat} {s:Int} (h:Path g m (q::st)) (ht:t<m.length) (hk:qJ m t=QB g (qJ m q) s):Path g m (t::q::st)
theorem Path.lt {g:Grammar} {m:List Sta} (hG:MGo g m): ∀{st:List Nat},Path g m st→ ∃q r,st=q::r∧q<m.length
 | _,.base=>⟨0,[],rfl,hG.len⟩
 | _,.push (q:=q) (t:=t) (st:=st) _ ht _=>⟨t,q::st,rfl,ht⟩
theorem qeR {g:Grammar} {k:List Int} {s x:Int}:x∈QB g k s↔ ∃y∈zC g k,0≤nxt g y∧nxt g y=s∧x=y+1:=by
 have key : ∀(c o:List Int),x∈c.foldl (fun o x=>if 0≤nxt g x∧nxt g x=s then jw o (x+1)else o) o↔x∈o∨ ∃y∈c,0≤nxt g y∧nxt g y=s∧x=y+1:=by
  intro c
  induction c with
  |nil=>intro o;simp
  | cons a c ih=>
    intro o
    rw[List.foldl_cons,ih]
    by_cases h:0≤nxt g a∧nxt g a=s
    · rw [if_pos h,zo]
      constructor
      · rintro ((h1|h1)|⟨y,h1,h2⟩)
        · exact Or.inl h1
        · exact Or.inr ⟨a,by simp,h.1,h.2,h1⟩
        · exact Or.inr ⟨y,List.mem_cons_of_mem _ h1,h2⟩
      · rintro (h1|⟨y,h1,h2⟩)
        · exact Or.inl (Or.inl h1)
        · rcases List.mem_cons.1 h1 with rfl|h1
          · exact Or.inl (Or.inr h2.2.2)
          · exact Or.inr ⟨y,h1,h2⟩
    · rw [if_neg h]
      constructor
      · rintro (h1|⟨y,h1,h2⟩)
        · exact Or.inl h1
        · exact Or.inr ⟨y,List.mem_cons_of_mem _ h1,h2⟩
      · rintro (h1|⟨y,h1,h2⟩)
        · exact Or.inl h1
        · rcases List.mem_cons.1 h1 with rfl|h1
          · exact absurd ⟨h2.1,h2.2.1⟩ h
          · exact Or.inr ⟨y,h1,h2⟩
 unfold QB
 rw[key];simp
theorem qPy {g:Grammar} {m:List Sta} (hG:MGo g m):qJ m 0=[0]:=by
 have:=hG.z
 unfold qJ
 rw[this];rfl
theorem Path.down {g:Grammar} {m:List Sta} (hg:GOk g) (hM:MOk g m) (hG:MGo g m) {p:Nat}: ∀(d:Nat) (st:List Nat) (q:Nat),d≤8→Path g m (q::st)→(16 *(p:Int)+d)∈zC g (qJ m q)→
 ∃q0 st0,(q::st).drop d=q0::st0∧Path g m (q0::st0)∧16 *(p:Int)∈zC g (qJ m q0)
 |0,st,q,_,hP,hx=>⟨q,st,rfl,hP,by simpa using hx⟩
 | d + 1,st,q,hd,hP,hx=>by
   have hk:=hM.qJ q
   have hcl:=zJ hg hk.2 hk.1
   rcases hcl.1.cases _ hx with hx|⟨y,_,m',p',e,_⟩
   · cases hP with
     |base=>rw[qPy hG]at hx;simp at hx;omega
     | push hP ht hk'=>
       rename_i q' st' s
       rw[hk']at hx
       obtain ⟨y,hy,_,_,e⟩:=qeR.1 hx
       obtain ⟨q0,st0,h1,h2,h3⟩:=Path.down hg hM hG d st' q' (by omega) hP (by
        have:(16 *(p:Int)+d)=y:=by omega
        rw[this];exact hy)
       exact⟨q0,st0,by rw[List.drop_succ_cons];exact h1,h2,h3⟩
   · omega
theorem Path.reduce {g:Grammar} {m:List Sta} (hg:GOk g) (hM:MOk g m) (hG:MGo g m) {st:List Nat} {q:Nat} {r:Int} (hP:Path g m (q::st)) (hr:r∈yF g (qJ m q)):
 ∃(p:Nat) (x:GPr) (l:Nat) (q0:Nat) (st0:List Nat) (t:Nat),r=p∧g.prods[p]?=some x∧x.left=l∧l<g.nons.length∧x.right.length≤8∧x.right.length<(q::st).length∧(q::st).drop x.right.length=q0::st0∧q0<m.length∧
  goS m q0 (1000+(l:Int))=t∧Path g m (t::q0::st0):=by
 have hk:=hM.qJ q
 have hcl:=zJ hg hk.2 hk.1
 unfold yF at hr
 rw[List.mem_filterMap]at hr
 obtain ⟨x,hx,hr⟩:=hr
 have hxo:=hcl.2.1 x hx
 obtain ⟨pr,hpr,hd⟩: ∃p,g.prods[(x / 16).toNat]?=some p∧(x % 16).toNat=p.right.length:=qbF hxo (by split at hr<;>simp_all) hg.rn
 split at hr<;>cases hr
 rename_i hc
 have h0:=hxo.1
 have hpm:=List.mem_of_getElem? hpr
 obtain ⟨l,hl,hln⟩:=hg.left pr hpm
 have hrl:=hg.rlen pr hpm
 obtain ⟨p,hp⟩: ∃p:Nat,x / 16=p:=⟨(x / 16).toNat,by omega⟩
 rw[hp]at hpr hc ⊢
 rw[Int.toNat_natCast]at hpr
 obtain ⟨q0,st0,h1,h2,h3⟩:=Path.down hg hM hG (p:=p) pr.right.length st q hrl hP (by
  have:16 *(p:Int)+(pr.right.length:Nat)=x:=by omega
  rw[this];exact hx)
 obtain ⟨q0',r0,e,hq0⟩:=h2.lt hG
 cases e
 have hk0:=hM.qJ q0
 have hcl0:=zJ hg hk0.2 hk0.1
 have hlen:pr.right.length<(q::st).length:=by
  refine Classical.byContradiction fun h=>?_
  rw[List.drop_eq_nil_of_le (by omega)]at h1
  cases h1
 have hgo: ∃y∈zC g (qJ m q0),nxt g y=1000+(l:Int):=by
  rcases hcl0.1.cases _ h3 with h|⟨y,hy,m',p',e,hp',hn,hleft⟩
  · exfalso
    cases h2 with
    |base=>rw[qPy hG]at h;simp at h;omega
    | push h2 ht hk'=>
      rename_i q' st' s
      rw[hk']at h
      obtain ⟨y,hy,_,_,e⟩:=qeR.1 h
      have hk1:=hM.qJ q'
      have:=qbm hg.rlen ((zJ hg hk1.2 hk1.1).2.1 y hy)
      omega
  · have:m'=p:=by omega
    subst this
    rw[hpr]at hp'
    cases hp'
    exact⟨y,hy,by omega⟩
 obtain ⟨y,hy,hyn⟩:=hgo
 obtain ⟨t,ht,htl,hkt⟩:=hG.go hg hM hq0 hy (by omega)
 rw[hyn]at ht hkt
 exact⟨p,pr,l,q0,st0,t,rfl,hpr,hl,hln,hrl,hlen,h1,hq0,ht,h2.push htl hkt⟩
structure TabOk (g:Grammar) (m:List Sta) (A:List (List (Int×Int))) (G:List (List Int)):Prop where
 al:A.length=m.length
 ar: ∀(q:Nat) r,A[q]?=some r→r.length=g.toks.length
 gl:G.length=m.length
 gr: ∀(q:Nat) r,G[q]?=some r→r=(List.range g.nons.length).map fun(i:Nat)=>goS m q (1000+(i:Int))
 sh: ∀(q:Nat) r,A[q]?=some r→ ∀(t:Nat) a,r[t]?=some a→a.1=1→ ∃n:Nat,a.2=n∧n<m.length∧qJ m n=QB g (qJ m q) t
 re: ∀(q:Nat) r,A[q]?=some r→ ∀(t:Nat) a,r[t]?=some a→a.1=2→a.2∈yF g (qJ m q)
abbrev qdW (A:List (List (Int×Int))) (G:List (List Int)):V:= .agg [.sl 1 false (A.map fun r=>.sl 2 false (r.map prV)),.sl 1 false (G.map fun r=>.sl 1 false (r.map (V.int .i64)))]
structure RunR where
 kind:Int:=0
 at_:Nat:=0
 steps:Nat:=0
 deep:Nat:=0
 prods:List Int:=[]
 deriving DecidableEq,Inhabited
abbrev RunR.V (r:RunR):V:= .agg [vi r.kind,vi r.at_,vi r.steps,vi r.deep,.sl 1 false (r.prods.map (V.int .i64))]
def xV (A:List (List (Int×Int))) (q:Nat) (t:Int):Int×Int:=(A.getD q []).getD t.toNat (0,0)
def KM (G:List (List Int)) (q l:Nat):Int:=(G.getD q []).getD l 0
def qce (g:Grammar) (p:Nat):Nat:=((g.prods[p]?).map (·.right.length)).getD 0
def qsY (g:Grammar) (p:Nat):Nat:=((g.prods[p]?).map (·.left.toNat)).getD 0
def j5 (g:Grammar) (A:List (List (Int×Int))) (G:List (List Int)) (l:List Int) (depth steps:Nat):Nat→List Nat→RunR→RunR
 |0,_,r=>r
 | n+1,st,r=>
   let a:=xV A (st.headD 0) (zw g.toks.length l r.at_)
   if a.1=3 then {r with kind:=1}
   else if a.1=1 then
    if steps≤r.steps∨depth<st.length then {r with kind:=3}
    else j5 g A G l depth steps n (a.2.toNat::st) {r with at_:=r.at_+1,steps:=r.steps+1,deep:=max r.deep st.length}
   else if a.1=2 then
    if steps≤r.steps∨depth<st.length - qce g a.2.toNat then {r with kind:=3}
    else j5 g A G l depth steps n ((KM G ((st.drop (qce g a.2.toNat)).headD 0) (qsY g a.2.toNat)).toNat::st.drop (qce g a.2.toNat)) {r with steps:=r.steps+1,deep:=max r.deep (st.length - qce g a.2.toNat),prods:=r.prods++[a.2]}
   else {r with kind:=2}
def zR (g:Grammar) (A:List (List (Int×Int))) (G:List (List Int)) (l:List Int) (depth steps:Nat):RunR:=j5 g A G l depth steps (steps+1) [0] {}

set_option maxHeartbeats 8000000
def Kk {α:Type} (z:Nat) (f:α→V) (H:Nat→Option MObj) (next:Nat) (es:List V) (L:List (List α)):Prop:=es.length=L.length∧ ∀(j:Nat) r,L[j]?=some r→ ∃id,es[j]?=some (.msl id z 0 r.length)∧H id=some (.own z (r.map f) false)∧4≤id∧id<next
theorem Kk.nil {α:Type} {z:Nat} {f:α→V} {H:Nat→Option MObj} {next:Nat}:Kk z f H next [] []:=⟨rfl,fun j r h=>by simp at h⟩
theorem Kk.mono {α:Type} {z:Nat} {f:α→V} {H H':Nat→Option MObj} {next next':Nat} {es:List V} {L:List (List α)} (h:Kk z f H next es L) (hn:next≤next') (hH: ∀id l,4≤id→id<next→H id=some (.own z l false)→H' id=H id):Kk z f H' next' es L:=
 ⟨h.1,fun j r hj=>by
  obtain ⟨id,h1,h2,h3,h4⟩:=h.2 j r hj
  exact⟨id,h1,by rw[hH id _ h3 h4 h2];exact h2,h3,by omega⟩⟩
theorem Kk.snoc {α:Type} {z:Nat} {f:α→V} {H:Nat→Option MObj} {next id n:Nat} {es:List V} {L:List (List α)} {r:List α} (h:Kk z f H next es L) (hn:r.length=n) (hH:H id=some (.own z (r.map f) false)) (h4:4≤id) (hid:id<next):Kk z f H next (es++[.msl id z 0 n]) (L++[r]):=by
 refine⟨by simp[h.1],fun j r' hj=>?_⟩
 by_cases e:j<L.length
 · rw[List.getElem?_append_left e]at hj
   obtain ⟨id',h1,h2⟩:=h.2 j r' hj
   exact⟨id',by rw[List.getElem?_append_left (by rw[h.1];exact e)];exact h1,h2⟩
 · have e2:j=L.length:=by
    have:=(List.getElem?_eq_some_iff.1 hj).1
    simp at this;omega
   subst e2
   rw[List.getElem?_append_right (Nat.le_refl _),Nat.sub_self]at hj
   cases hj
   exact⟨id,by rw[← h.1,List.getElem?_append_right (Nat.le_refl _),Nat.sub_self,hn];rfl,hH,h4,hid⟩
theorem Kk.er {α:Type} {z:Nat} {f:α→V} (hf: ∀(H:Nat→Option MObj) x,Er true H (f x) (f x)) {H:Nat→Option MObj} {next:Nat}: ∀{es:List V} {L:List (List α)},Kk z f H next es L→ErL true H es (L.map fun r=>.sl z false (r.map f))
 | [],L,h=>by
   cases L with
   |nil=>exact .nil
   |cons a L=>have:=h.1;simp at this
 | v ::es,L,h=>by
   cases L with
   |nil=>have:=h.1;simp at this
   | cons a L=>
     obtain ⟨id,h1,h2,_⟩:=h.2 0 a rfl
     cases h1
     refine .cons (YJ (ro:=false) h2 (ErL.map fun x _=>hf H x) (by simp)) (Kk.er hf (next:=next) ⟨by have:=h.1;simpa using this,fun j r hj=>?_⟩)
     obtain ⟨id',g1,g2⟩:=h.2 (j+1) r (by simpa using hj)
     exact⟨id',by simpa using g1,g2⟩
def qa5 (g:Grammar) (nt q:Nat) (cells:List Cel):List (Int×Int):=cells.foldl (fun r c=>if c.st=(q:Int)then r.set c.tok.toNat (KD g c)else r) (List.replicate nt (0,0))
theorem Km (g:Grammar) (nt q:Nat) (cells:List Cel):(qa5 g nt q cells).length=nt:=by
 unfold qa5
 exact zW (fun r:List (Int×Int)=>r.length=nt) _ _ _ (by simp) fun b c _ hb=>by split<;>simp[hb]
def qtW (m:List Sta) (nn q:Nat):List Int:=(List.range nn).map fun(i:Nat)=>goS m q (1000+(i:Int))
def clR (g:Grammar) (q:Nat) (cells:List Cel):List (Int×Int×Int×Int):=cells.flatMap fun c=>if c.st=(q:Int)then qiX g c else[]
def clN (g:Grammar) (cells:List Cel) (n:Nat):List (Int×Int×Int×Int):=(List.range n).flatMap fun q=>clR g q cells
def KH (g:Grammar) (cells:List Cel) (n:Nat):List (List (Int×Int)):=(List.range n).map fun q=>qa5 g g.toks.length q cells
def qcR (g:Grammar) (m:List Sta) (n:Nat):List (List Int):=(List.range n).map fun q=>qtW m g.nons.length q
theorem qgS (g:Grammar) (c:Cel):(qiX g c).length≤c.prods.length+1:=by
 unfold qiX
 split
 · simp
 · rename_i r l h
   rw[h,List.length_append,List.length_map,List.length_cons]
   split
   · simp;omega
   · split<;>simp<;>omega
theorem qe4 {B:Nat} (g:Grammar) (q:Nat): ∀(cells:List Cel),(∀c∈cells,c.prods.length≤B)→(clR g q cells).length≤cells.length *(B+1)
 |[],_=>Nat.zero_le _
 | c::l,h=>by
   have ih:=qe4 g q l fun x hx=>h x (List.mem_cons_of_mem _ hx)
   have h1:=qgS g c
   have h2:=h c (by simp)
   have e:clR g q (c::l)=(if c.st=(q:Int)then qiX g c else[])++clR g q l:=by simp[clR]
   rw[e,List.length_append,List.length_cons,Nat.succ_mul]
   generalize l.length *(B+1)=X at *
   split
   · omega
   · rw[List.length_nil];omega
theorem qca (g:Grammar) (cells:List Cel) (n:Nat):clN g cells (n+1)=clN g cells n++clR g n cells:=by
 unfold clN;rw[List.range_succ,List.flatMap_append];simp
theorem qpm {g:Grammar} {cells:List Cel} (hc:cells.length≤6000) (hp: ∀c∈cells,c.prods.length≤144000) {n:Nat} (hn:n≤150):(clN g cells n).length≤129600900000:=by
 have hK:cells.length *(144000+1)≤6000 *144001:=Nat.mul_le_mul_right _ hc
 have h: ∀n,(clN g cells n).length≤n *(6000 *144001):=fun n=>by
  induction n with
  |zero=>exact Nat.zero_le _
  | succ n ih=>
    rw[qca,List.length_append,Nat.succ_mul]
    exact Nat.add_le_add ih (Nat.le_trans (qe4 g n cells hp) hK)
 exact Nat.le_trans (h n) (Nat.mul_le_mul_right _ hn)
theorem qgJ {g:Grammar} {q i:Nat} {cells:List Cel} {c:Cel} (h:cells[i]?=some c):clR g q (cells.take (i+1))=clR g q (cells.take i)++(if c.st=(q:Int)then qiX g c else[]):=by
 unfold clR;rw[List.take_add_one,h,List.flatMap_append];simp
theorem qBj (g:Grammar) (q i:Nat) (cells:List Cel):(clR g q (cells.take i)).length≤(clR g q cells).length:=by
 have e:clR g q cells=clR g q (cells.take i)++clR g q (cells.drop i):=by
  unfold clR;rw[← List.flatMap_append,List.take_append_drop]
 rw[e,List.length_append];omega
theorem qeO {g:Grammar} {nt q i:Nat} {cells:List Cel} {c:Cel} (h:cells[i]?=some c):qa5 g nt q (cells.take (i+1))=if c.st=(q:Int)then(qa5 g nt q (cells.take i)).set c.tok.toNat (KD g c)else qa5 g nt q (cells.take i):=by
 unfold qa5;rw[List.take_add_one,h,List.foldl_append];rfl
theorem qg8 {α:Type} {f:α→V} {l:List α} {i:Nat} {x:α}:(l.map f).set i (f x)=(l.set i x).map f:=by rw[List.map_set]
def qdC (m:List Sta) (nn q k:Nat):List V:=(List.range nn).map fun(i:Nat)=>if i<k then vi (goS m q (1000+(i:Int)))else .int .i64 0
theorem Xt (m:List Sta) (nn q k:Nat):(qdC m nn q k).length=nn:=by simp[qdC]
theorem qHU (m:List Sta) (nn q:Nat):List.replicate nn (V.int .i64 0)=qdC m nn q 0:=by
 refine List.ext_getElem? fun j=>?_
 by_cases hj:j<nn
 · simp[qdC,hj]
 · rw[List.getElem?_eq_none (by simp;omega),List.getElem?_eq_none (by rw[Xt];omega)]
theorem qsR (m:List Sta) (nn q:Nat):qdC m nn q nn=(qtW m nn q).map (V.int .i64):=by
 unfold qdC qtW
 rw[List.map_map]
 refine List.map_congr_left fun k hk=>?_
 rw[if_pos (List.mem_range.1 hk)];rfl
theorem qgK {m:List Sta} {nn q k:Nat} (h:k<nn):(qdC m nn q k)[k]?=some (.int .i64 0):=by simp[qdC,h]
theorem qhm {m:List Sta} {nn q k:Nat} (h:k<nn):(qdC m nn q k).set k (vi (goS m q (1000+(k:Int))))=qdC m nn q (k+1):=by
 refine List.ext_getElem? fun j=>?_
 rw[List.getElem?_set,Xt]
 by_cases hj:j<nn
 · by_cases e:k=j
   · subst e;simp[qdC,hj]
   · have:(j<k)=(j<k+1):=by simp;omega
     simp[qdC,hj,e,this]
 · rw[List.getElem?_eq_none (by rw[Xt];omega),List.getElem?_eq_none (by rw[Xt];omega),if_neg (by omega)]
theorem Jo {g:Grammar} {m:List Sta} {cells:List Cel} (hM:MOk g m) (hg:GOk g) (hc:cells.length≤6000) (hp: ∀c∈cells,c.prods.length≤144000) (ht: ∀c∈cells,∃t:Nat,c.tok=t∧t<g.toks.length) (hr: ∀c∈cells,∀p∈c.prods,∃n:Nat,p=n∧n<g.prods.length):Pure Try.prog 49 [g.V,.sl 2 false (m.map Sta.V),.sl 5 false (cells.map Cel.V)] (.tup [qdW (KH g cells m.length) (qcR g m m.length),.sl 4 false ((clN g cells m.length).map clV)]):=by
 refine pure_intro Try.func49 qvX qJb (by show 3≤92;decide) ?_
 show ewp _ qit _ _
 have hml:=hM.len;have hmv:=hM.mvl
 have htk:=hg.tk2;have htk3:=hg.tk;have hnn:=hg.nn2;have hnn1:=hg.nn
 repeat' with_reducible first
  |refine s_ ?_
  |simp only[wZZ,seval]
  |refine t_ ?_
 refine qd ?nx1 (fun(q:Nat) s=>s.f 1=?v1_1∧s.f 2=?v1_2∧s.f 3=?v1_3∧s.f 6=?v1_6∧s.f 8=?v1_8∧s.H 0=some (.own 5 [g.V] false)∧s.H 1=some (.own 2 [.agg [.sl 1 true [],.sl 1 true []]] false)∧s.f 10=vi q∧(q≤m.length)∧((∃vA vG vC esA esG,s.f 9=vC∧s.H 3=some (.own 2 [.agg [vA,vG]] false)∧Gr s.H s.next 1 esA vA∧Gr s.H s.next 1 esG vG∧Gr s.H s.next 4 ((clN g cells q).map clV) vC∧Sep vA vG∧Sep vA vC∧Sep vG vC∧Kk 2 prV s.H s.next esA (KH g cells q)∧Kk 1 (V.int .i64) s.H s.next esG (qcR g m q)))) (fun q=>m.length - q) (0) wj_ (by refine⟨?_,?_,?_,?_,?_,?_,?_,?_,wo_,(by exact⟨.sl 1 true [],.sl 1 true [],.sl 4 true [],[],[],(by(simp only[wL,seval])),(by(simp only[wM];(repeat first|rw[if_pos trivial]|rw[if_pos rfl]|rw[if_neg (by omega)]))<;>rfl),Gr.nil,Gr.nil,Gr.nil,Sep.slL,Sep.slL,Sep.slL,Kk.nil,Kk.nil⟩)⟩<;>first|(simp only[wL,wM,wN,wX,seval,Option.some.injEq]<;>exact wt_)|rfl|exact⟨_,rfl⟩) ?_
 intro q s hnx ⟨g1,g2,g3,g6,g8,o0,o1,g10,k1_0,k1_1⟩
 obtain ⟨vA,vG,vC,esA,esG,g9,o3,hA,hG,hC,s1,s2,s3,tA,tG⟩:=k1_1
 have hz:=w1_ q
 by_cases hq:q<m.length
 · have hsA:KH g cells (q+1)=KH g cells q++[qa5 g g.toks.length q cells]:=by unfold KH;rw[List.range_succ,List.map_append];rfl
   have hsG:qcR g m (q+1)=qcR g m q++[qtW m g.nons.length q]:=by unfold qcR;rw[List.range_succ,List.map_append];rfl
   have hsC:=qca g cells q
   have hlC:=qpm (g:=g) hc hp (n:=q+1) (by omega)
   rw[hsC,List.length_append]at hlC
   obtain ⟨R,hR⟩: ∃R,R=s.next+4+3:=⟨_,rfl⟩
   obtain ⟨B,hB⟩: ∃B,B=s.next:=⟨_,rfl⟩
   repeat' with_reducible first
    |refine s_ ?_
    |simp only[wZZ,seval,g1,g2,g3,g6,g8,g10,o0,o1,hz,g9]
    |apply qa<;>intro h h_<;>(try simp only[wD,reduceCtorEq]at h_)<;>(try exact wb_)<;>(try simp only[h])
    |refine t_ ?_
    |apply qdx;exact wf_;exact wf_;(focus(unfold maxLen;first|omega|(simp only[wZ]<;>omega)))
   refine qd ?nx2 (fun(i:Nat) s=>s.f 1=?v2_1∧s.f 2=?v2_2∧s.f 3=?v2_3∧s.f 6=?v2_6∧s.f 8=?v2_8∧s.f 10=?v2_10∧s.H 0=some (.own 5 [g.V] false)∧s.H 1=some (.own 2 [.agg [.sl 1 true [],.sl 1 true []]] false)∧s.f 12=vi i∧(i≤cells.length)∧(B≤R)∧(R<s.next)∧((s.H R=some (.own 2 ((qa5 g g.toks.length q (cells.take i)).map prV) false)))∧((s.H 3=some (.own 2 [.agg [vA,vG]] false)))∧(Gr s.H B 1 esA vA)∧(Gr s.H B 1 esG vG)∧(Kk 2 prV s.H B esA (KH g cells q))∧(Kk 1 (V.int .i64) s.H B esG (qcR g m q))∧((∃vD,s.f 9=vD∧Gr s.H s.next 4 ((clN g cells q++clR g q (cells.take i)).map clV) vD∧Sep vA vD∧Sep vG vD))∧(s.f 11=.msl R 2 0 g.toks.length)) (fun i=>cells.length - i) (0) wj_ (by refine⟨?_,?_,?_,?_,?_,?_,?_,?_,?_,wo_,wo_,(by((try simp only[wN])<;>omega)),(by rw[hR];(simp only[wM];(repeat first|rw[if_pos trivial]|rw[if_pos rfl]|rw[if_neg (by omega)]))<;>first|rfl|(simp[qa5,List.map_replicate])),(by((try simp only[wM]);(repeat first|rw[if_pos trivial]|rw[if_pos rfl]|rw[if_neg (by omega)]));exact o3),(by rw[hB];exact hA.mono (Nat.le_refl _) (fun j h1 h2=>by((try simp only[wM]);(repeat first|rw[if_pos trivial]|rw[if_pos rfl]|rw[if_neg (by omega)])))),(by rw[hB];exact hG.mono (Nat.le_refl _) (fun j h1 h2=>by((try simp only[wM]);(repeat first|rw[if_pos trivial]|rw[if_pos rfl]|rw[if_neg (by omega)])))),(by rw[hB];exact tA.mono (Nat.le_refl _) (fun j l h1 h2 h3=>by((try simp only[wM]);(repeat first|rw[if_pos trivial]|rw[if_pos rfl]|rw[if_neg (by omega)])))),(by rw[hB];exact tG.mono (Nat.le_refl _) (fun j l h1 h2 h3=>by((try simp only[wM]);(repeat first|rw[if_pos trivial]|rw[if_pos rfl]|rw[if_neg (by omega)])))),(by exact⟨vC,(by(simp only[wL,seval]);assumption),(hC.mono (by((try simp only[wN])<;>omega)) (fun j h1 h2=>by((try simp only[wM]);(repeat first|rw[if_pos trivial]|rw[if_pos rfl]|rw[if_neg (by omega)])))).mono' (by simp[clR]) (Nat.le_refl _) (fun _ _ _=>rfl),s2,s3⟩),(by(try simp only[wL,wM,wN,seval,g1,g2,g3,g6,g8,g10,o0,o1]);first|done|rw[hR])⟩<;>first|(simp only[wL,wM,wN,wX,seval,Option.some.injEq,g1,g2,g3,g6,g8,g10,o0,o1]<;>exact wt_)|rfl|exact⟨_,rfl⟩) ?_
   intro i s hnx ⟨g1,g2,g3,g6,g8,g10,o0,o1,g12,k2_0,k2_1,k2_2,k2_3,k2_4,k2_5,k2_6,k2_7,k2_8,k2_9,g11⟩
   obtain ⟨vD,gD,hD,sA,sG⟩:=k2_9
   have hzi:=w1_ i
   by_cases hi:i<cells.length
   · have hgi:cells[i]?=some cells[i]:=ge_ hi
     have hcm:=List.getElem_mem hi
     have hct:=qgJ (g:=g) (q:=q) hgi
     have hat:=qeO (g:=g) (nt:=g.toks.length) (q:=q) hgi
     have hcl:=qBj g q (i+1) cells
     obtain ⟨t,hte,htl⟩:=ht _ hcm
     have hse:=Jj hg (hr _ hcm) (by have:=hp _ hcm;omega) hte htl
     have hal:=Km g g.toks.length q (cells.take i)
     generalize cells[i]=c at *
     generalize KD g c=a at *
     generalize qiX g c=K at *
     generalize hAR:qa5 g g.toks.length q (cells.take i)=AR at *
     rw[hte,Int.toNat_natCast]at hat
     obtain ⟨a1,a2⟩:=a
     have hgt:(AR.map prV)[t]?=some (prV AR[t]):=by rw[List.getElem?_map,ge_ (by omega)];rfl
     obtain ⟨cs,ct,ch,ca,cp⟩:=c
     dsimp only at hte hct hat
     subst hte
     by_cases hcq:cs=(q:Int)
     · rw[if_pos hcq]at hct hat
       have oR:=k2_3
       have hcl2:=hct ▸ hcl
       rw[List.length_append]at hcl2
       have hlD:((clN g cells q++clR g q (cells.take i)).map clV).length=(clN g cells q).length+(clR g q (cells.take i)).length:=by rw[List.length_map,List.length_append]
       repeat' with_reducible first
        |refine s_ ?_
        |simp only[wZZ,seval,g1,g2,g3,g6,g8,g10,g12,g11,o0,o1,hzi,gD]
        |apply qa<;>intro h h_<;>(try simp only[wD,reduceCtorEq]at h_)<;>(try exact wb_)<;>(try simp only[h])
        |refine t_ ?_
        |refine cq2 hse qb qb ?_
        |(refine stW (by((try simp only[wM]);(repeat first|rw[if_pos trivial]|rw[if_pos rfl]|rw[if_neg (by omega)]));exact oR) hgt wu_ wu_ wu_ ?_)
        |apply qQ rfl (hD.mono (Nat.le_refl _) (fun id h1 h2=>by have:=Gr.ne hD oR h1;(try simp only[wM]);(repeat rw[if_neg (by omega)])));exact qI.sl;(focus(simp only[wZ,hlD];omega));(focus(unfold maxLen;simp only[wZ,hlD];omega))
        |simp(disch:=omega) only[w64,if_neg]
       exact⟨by((try simp only[wN])<;>omega),i+1,by omega,trivial,trivial,trivial,trivial,trivial,trivial,qz (fun x h=>Gr.ne hD o0 h) (by((try simp only[wM]);(repeat first|rw[if_pos trivial]|rw[if_pos rfl]|rw[if_neg (by omega)]));exact o0),qz (fun x h=>Gr.ne hD o1 h) (by((try simp only[wM]);(repeat first|rw[if_pos trivial]|rw[if_pos rfl]|rw[if_neg (by omega)]));exact o1),rfl,by omega,k2_1,by((try simp only[wN])<;>omega),by((try simp only[wM]);(repeat first|rw[if_pos trivial]|rw[if_pos rfl]|rw[if_neg (by omega)]));exact qz (fun x h=>Gr.ne hD oR h) (by((try simp only[wM]);(repeat first|rw[if_pos trivial]|rw[if_pos rfl]|rw[if_neg (by omega)]));rw[hat];exact congrArg (fun x=>some (MObj.own 2 x false)) (qg8 (f:=prV) (x:=(a1,a2)))),by((try simp only[wM]);(repeat first|rw[if_pos trivial]|rw[if_pos rfl]|rw[if_neg (by omega)]));exact qz (fun x h=>Gr.ne hD k2_4 h) (by((try simp only[wM]);(repeat first|rw[if_pos trivial]|rw[if_pos rfl]|rw[if_neg (by omega)]));exact k2_4),k2_5.mono (Nat.le_refl _) (fun x h1 h2=>by((try simp only[wM]);(repeat first|rw[if_pos trivial]|rw[if_pos rfl]|rw[if_neg (by omega)]));exact qz (fun y hy e=>sA x h1 (e ▸ hy)) (by((try simp only[wM]);(repeat first|rw[if_pos trivial]|rw[if_pos rfl]|rw[if_neg (by omega)])))),k2_6.mono (Nat.le_refl _) (fun x h1 h2=>by((try simp only[wM]);(repeat first|rw[if_pos trivial]|rw[if_pos rfl]|rw[if_neg (by omega)]));exact qz (fun y hy e=>sG x h1 (e ▸ hy)) (by((try simp only[wM]);(repeat first|rw[if_pos trivial]|rw[if_pos rfl]|rw[if_neg (by omega)])))),k2_7.mono (Nat.le_refl _) (fun x l h1 h2 h3=>by((try simp only[wM]);(repeat first|rw[if_pos trivial]|rw[if_pos rfl]|rw[if_neg (by omega)]));exact qz (fun y hy=>Gr.ne hD h3 hy) (by((try simp only[wM]);(repeat first|rw[if_pos trivial]|rw[if_pos rfl]|rw[if_neg (by omega)])))),k2_8.mono (Nat.le_refl _) (fun x l h1 h2 h3=>by((try simp only[wM]);(repeat first|rw[if_pos trivial]|rw[if_pos rfl]|rw[if_neg (by omega)]));exact qz (fun y hy=>Gr.ne hD h3 hy) (by((try simp only[wM]);(repeat first|rw[if_pos trivial]|rw[if_pos rfl]|rw[if_neg (by omega)])))),⟨_,rfl,(Gr.tok (id:=s.next+4+7+12+9+2) (fin:=_) (by((try simp only[wM]);(repeat first|rw[if_pos trivial]|rw[if_pos rfl]|rw[if_neg (by omega)]))) (by((try simp only[wN])<;>omega))).mono' (by rw[hct,← List.append_assoc,List.map_append (l₂:=K)]) (Nat.le_refl _) (fun _ _ _=>rfl),Sep.newR k2_5 (by omega),Sep.newR k2_6 (by omega)⟩,trivial⟩
     · rw[if_neg hcq]at hct hat
       rw[List.append_nil]at hct
       repeat' with_reducible first
        |refine s_ ?_
        |simp only[wZZ,seval,g1,g2,g3,g6,g8,g10,g12,g11,o0,o1,hzi,gD]
        |apply qa<;>intro h h_<;>(try simp only[wD,reduceCtorEq]at h_)<;>(try exact wb_)<;>(try simp only[h])
        |refine t_ ?_
       exact⟨by((try simp only[wN])<;>omega),i+1,by omega,trivial,trivial,trivial,trivial,trivial,trivial,trivial,trivial,rfl,by omega,k2_1,by((try simp only[wN])<;>omega),by rw[hat];exact k2_3,k2_4,k2_5.mono (Nat.le_refl _) (fun _ _ _=>rfl),k2_6.mono (Nat.le_refl _) (fun _ _ _=>rfl),k2_7.mono (Nat.le_refl _) (fun _ _ _ _ _=>rfl),k2_8.mono (Nat.le_refl _) (fun _ _ _ _ _=>rfl),⟨vD,rfl,hct ▸ hD.mono (by((try simp only[wN])<;>omega)) (fun _ _ _=>rfl),sA,sG⟩,trivial⟩
   · have e:cells.take i=cells:=List.take_of_length_le (by omega)
     rw[e]at k2_3 hD
     rw[← hsC]at hD
     obtain ⟨W,hW⟩: ∃W,W=s.next+4+3:=⟨_,rfl⟩
     repeat' with_reducible first
      |refine s_ ?_
      |simp only[wZZ,seval,g1,g2,g3,g6,g8,g10,g12,g11,o0,o1,hzi,gD]
      |apply qa<;>intro h h_<;>(try simp only[wD,reduceCtorEq]at h_)<;>(try exact wb_)<;>(try simp only[h])
      |refine t_ ?_
      |apply qdx;exact wf_;exact wf_;(focus(unfold maxLen;first|omega|(simp only[wZ]<;>omega)))
     skip
     refine qd ?nx3 (fun(k:Nat) s=>s.f 1=?v3_1∧s.f 2=?v3_2∧s.f 3=?v3_3∧s.f 6=?v3_6∧s.f 8=?v3_8∧s.f 9=?v3_9∧s.f 10=?v3_10∧s.H 0=some (.own 5 [g.V] false)∧s.H 1=some (.own 2 [.agg [.sl 1 true [],.sl 1 true []]] false)∧s.f 16=vi k∧(k≤g.nons.length)∧(R<W)∧(W<s.next)∧((s.H W=some (.own 1 (qdC m g.nons.length q k) false)))∧((s.H R=some (.own 2 ((qa5 g g.toks.length q cells).map prV) false)))∧((s.H 3=some (.own 2 [.agg [vA,vG]] false)))∧(Gr s.H B 1 esA vA)∧(Gr s.H B 1 esG vG)∧(Kk 2 prV s.H B esA (KH g cells q))∧(Kk 1 (V.int .i64) s.H B esG (qcR g m q))∧((s.f 9=vD))∧(Gr s.H s.next 4 ((clN g cells (q+1)).map clV) vD)∧(s.f 11=.msl R 2 0 g.toks.length)∧(s.f 15=.msl W 1 0 g.nons.length)) (fun k=>g.nons.length - k) (0) wj_ (by refine⟨?_,?_,?_,?_,?_,?_,?_,?_,?_,?_,wo_,(by((try simp only[wN])<;>omega)),(by((try simp only[wN])<;>omega)),(by rw[hW,← qHU];(simp only[wM];(repeat first|rw[if_pos trivial]|rw[if_pos rfl]|rw[if_neg (by omega)]))<;>first|rfl|simp),(by((try simp only[wM]);(repeat first|rw[if_pos trivial]|rw[if_pos rfl]|rw[if_neg (by omega)]));exact k2_3),(by((try simp only[wM]);(repeat first|rw[if_pos trivial]|rw[if_pos rfl]|rw[if_neg (by omega)]));exact k2_4),(by exact k2_5.mono (Nat.le_refl _) (fun j h1 h2=>by((try simp only[wM]);(repeat first|rw[if_pos trivial]|rw[if_pos rfl]|rw[if_neg (by omega)])))),(by exact k2_6.mono (Nat.le_refl _) (fun j h1 h2=>by((try simp only[wM]);(repeat first|rw[if_pos trivial]|rw[if_pos rfl]|rw[if_neg (by omega)])))),(by exact k2_7.mono (Nat.le_refl _) (fun j l h1 h2 h3=>by((try simp only[wM]);(repeat first|rw[if_pos trivial]|rw[if_pos rfl]|rw[if_neg (by omega)])))),(by exact k2_8.mono (Nat.le_refl _) (fun j l h1 h2 h3=>by((try simp only[wM]);(repeat first|rw[if_pos trivial]|rw[if_pos rfl]|rw[if_neg (by omega)])))),(by(simp only[wL,seval]);assumption),(by exact hD.mono (by((try simp only[wN])<;>omega)) (fun j h1 h2=>by((try simp only[wM]);(repeat first|rw[if_pos trivial]|rw[if_pos rfl]|rw[if_neg (by omega)])))),(by(try simp only[wL,wM,wN,seval,g1,g2,g3,g6,g8,g10,o0,o1]);first|done|rfl|assumption),(by(try simp only[wL,wM,wN,seval,g1,g2,g3,g6,g8,g10,o0,o1]);first|done|rw[hW])⟩<;>first|(simp only[wL,wM,wN,wX,seval,Option.some.injEq,g1,g2,g3,g6,g8,g10,o0,o1]<;>exact wt_)|rfl|exact⟨_,rfl⟩) ?_
     intro k s hnx ⟨g1,g2,g3,g6,g8,g9,g10,o0,o1,g16,k3_0,k3_1,k3_2,k3_3,k3_4,k3_5,k3_6,k3_7,k3_8,k3_9,k3_10,k3_11,g11,g15⟩
     have hzk:=w1_ k
     by_cases hk:k<g.nons.length
     · have hgo:=jC (m:=m) (q:=q) (sy:=1000+(k:Int)) (by omega) (fun q h=>by have:=hmv q h;omega)
       have hz4:IntKind.i64.wrap (1000+(k:Int))=1000+(k:Int):=wrap64 (by omega) (by omega)
       have hfs:=qhm (m:=m) (q:=q) hk
       have oW:=k3_3
       repeat' with_reducible first
        |refine s_ ?_
        |simp only[wZZ,seval,g1,g2,g3,g6,g8,g9,g10,g16,g11,g15,o0,o1,hzk,hz4]
        |apply qa<;>intro h h_<;>(try simp only[wD,reduceCtorEq]at h_)<;>(try exact wb_)<;>(try simp only[h])
        |refine cq3 hgo qb qb qb ?_
        |(refine stV oW (qgK hk) wu_ wu_ wu_ wu_ ?_)
        |refine t_ ?_
        |simp(disch:=omega) only[w64,if_neg]
       exact⟨by((try simp only[wN])<;>omega),k+1,by omega,trivial,trivial,trivial,trivial,trivial,trivial,trivial,trivial,trivial,rfl,by omega,k3_1,by((try simp only[wN])<;>omega),by rw[← hfs],by((try simp only[wM]);(repeat first|rw[if_pos trivial]|rw[if_pos rfl]|rw[if_neg (by omega)]));exact k3_4,by((try simp only[wM]);(repeat first|rw[if_pos trivial]|rw[if_pos rfl]|rw[if_neg (by omega)]));exact k3_5,k3_6.mono (Nat.le_refl _) (fun j h1 h2=>by((try simp only[wM]);(repeat first|rw[if_pos trivial]|rw[if_pos rfl]|rw[if_neg (by omega)]))),k3_7.mono (Nat.le_refl _) (fun j h1 h2=>by((try simp only[wM]);(repeat first|rw[if_pos trivial]|rw[if_pos rfl]|rw[if_neg (by omega)]))),k3_8.mono (Nat.le_refl _) (fun j l h1 h2 h3=>by((try simp only[wM]);(repeat first|rw[if_pos trivial]|rw[if_pos rfl]|rw[if_neg (by omega)]))),k3_9.mono (Nat.le_refl _) (fun j l h1 h2 h3=>by((try simp only[wM]);(repeat first|rw[if_pos trivial]|rw[if_pos rfl]|rw[if_neg (by omega)]))),gD,k3_11.mono (by((try simp only[wN])<;>omega)) (fun j h1 h2=>by have:=Gr.ne k3_11 oW h1;((try simp only[wM]);(repeat first|rw[if_pos trivial]|rw[if_pos rfl]|rw[if_neg (by omega)]))),trivial,trivial⟩
     · have e:k=g.nons.length:=by omega
       subst e
       rw[qsR]at k3_3
       have o3b:=k3_5
       have hlA:esA.length=q:=by rw[k3_8.1];simp[KH]
       have hlG:esG.length=q:=by rw[k3_9.1];simp[qcR]
       have hA2: ∀x,gid vA=some x→x≠3:=fun x h=>Gr.ne k3_6 o3b h
       have hG2: ∀x,gid vG=some x→x≠3:=fun x h=>Gr.ne k3_7 o3b h
       have hsep: ∀y i,gid vA=some y→gid vG=some i→y≠i:=fun y i hy hi e=>s1 y hy (e ▸ hi)
       have hd1:YB s.H (gid vA) 3=some (.own 2 [.agg [vA,vG]] false):=qz hA2 o3b
       repeat' with_reducible first
        |refine s_ ?_
        |simp only[wZZ,seval,g1,g2,g3,g6,g8,g9,g10,g16,g11,g15,o0,o1,hz,o3b,k3_10,hd1]
        |(refine Yz (cs:=[vA,vG]) (es:=[.agg [vA,vG]]) (qz hG2 (by((try simp only[wM]);(repeat first|rw[if_pos trivial]|rw[if_pos rfl]|rw[if_neg (by omega)]));exact hd1)) rfl wu_ wu_ wu_ (by simp) ?_)
        |apply qQ rfl (k3_6.mono (Nat.le_refl _) (fun id h1 h2=>by(try simp only[wM]);(repeat rw[if_neg (by omega)])));exact qI.sl;(focus(simp only[wZ,hlA];omega));(focus(unfold maxLen;simp only[wZ,hlA];omega))
        |(apply qQ rfl (k3_7.mono (Nat.le_refl _) (fun id h1 h2=>by((try simp only[wM]);(repeat first|rw[if_pos trivial]|rw[if_pos rfl]|rw[if_neg (by omega)]));exact qz (fun y hy=>hsep y id hy h1) rfl));(focus exact qI.sl);(focus(simp only[wZ,hlG];omega));(focus(unfold maxLen;simp only[wZ,hlG];omega)))
        |refine t_ ?_
       refine⟨by((try simp only[wN])<;>omega),q+1,by omega,trivial,trivial,trivial,trivial,trivial,?_,?_,rfl,by omega,⟨_,_,vD,_,_,gD,rfl,Gr.tok (id:=s.next+4+4) (fin:=_) (by((try simp only[wM]);(repeat first|rw[if_pos trivial]|rw[if_pos rfl]|rw[if_neg (by omega)]));exact qz (fun x h=>by have:=Gr.lt k3_7 h;omega) (by((try simp only[wM]);(repeat first|rw[if_pos trivial]|rw[if_pos rfl]|rw[if_neg (by omega)])))) (by((try simp only[wN])<;>omega)),Gr.tok (id:=s.next+4+9) (fin:=_) (by((try simp only[wM]);(repeat first|rw[if_pos trivial]|rw[if_pos rfl]|rw[if_neg (by omega)]))) (by((try simp only[wN])<;>omega)),k3_11.mono (by((try simp only[wN])<;>omega)) (fun x h1 h2=>?_),Sep.ids (by omega),Sep.newL k3_11 (by omega),Sep.newL k3_11 (by omega),?_,?_⟩⟩
       · exact qz (fun x h=>Gr.ne k3_7 o0 h) (by((try simp only[wM]);(repeat first|rw[if_pos trivial]|rw[if_pos rfl]|rw[if_neg (by omega)]));exact qz (fun x h=>Gr.ne k3_6 o0 h) o0)
       · exact qz (fun x h=>Gr.ne k3_7 o1 h) (by((try simp only[wM]);(repeat first|rw[if_pos trivial]|rw[if_pos rfl]|rw[if_neg (by omega)]));exact qz (fun x h=>Gr.ne k3_6 o1 h) o1)
       · have:=Gr.ne k3_11 k3_5 h1
         ((try simp only[wM]);(repeat first|rw[if_pos trivial]|rw[if_pos rfl]|rw[if_neg (by omega)]))
         exact qz (fun y hy e=>sG y hy (e ▸ h1)) (by((try simp only[wM]);(repeat first|rw[if_pos trivial]|rw[if_pos rfl]|rw[if_neg (by omega)]));exact qz (fun y hy e=>sA y hy (e ▸ h1)) rfl)
       · rw[hsA]
         refine(k3_8.mono (by((try simp only[wN])<;>omega)) (fun x l h1 h2 h3=>?_)).snoc (Km _ _ _ _) ?_ (by omega) (by((try simp only[wN])<;>omega))
         · ((try simp only[wM]);(repeat first|rw[if_pos trivial]|rw[if_pos rfl]|rw[if_neg (by omega)]))
           exact qz (fun y hy=>Gr.ne k3_7 h3 hy) (by((try simp only[wM]);(repeat first|rw[if_pos trivial]|rw[if_pos rfl]|rw[if_neg (by omega)]));exact qz (fun y hy=>Gr.ne k3_6 h3 hy) rfl)
         · ((try simp only[wM]);(repeat first|rw[if_pos trivial]|rw[if_pos rfl]|rw[if_neg (by omega)]))
           exact qz (fun y hy=>Gr.ne k3_7 k3_4 hy) (by((try simp only[wM]);(repeat first|rw[if_pos trivial]|rw[if_pos rfl]|rw[if_neg (by omega)]));exact qz (fun y hy=>Gr.ne k3_6 k3_4 hy) k3_4)
       · rw[hsG]
         refine(k3_9.mono (by((try simp only[wN])<;>omega)) (fun x l h1 h2 h3=>?_)).snoc (by simp[qtW]) ?_ (by omega) (by((try simp only[wN])<;>omega))
         · ((try simp only[wM]);(repeat first|rw[if_pos trivial]|rw[if_pos rfl]|rw[if_neg (by omega)]))
           exact qz (fun y hy=>Gr.ne k3_7 h3 hy) (by((try simp only[wM]);(repeat first|rw[if_pos trivial]|rw[if_pos rfl]|rw[if_neg (by omega)]));exact qz (fun y hy=>Gr.ne k3_6 h3 hy) rfl)
         · ((try simp only[wM]);(repeat first|rw[if_pos trivial]|rw[if_pos rfl]|rw[if_neg (by omega)]))
           exact qz (fun y hy=>Gr.ne k3_7 k3_3 hy) (by((try simp only[wM]);(repeat first|rw[if_pos trivial]|rw[if_pos rfl]|rw[if_neg (by omega)]));exact qz (fun y hy=>Gr.ne k3_6 k3_3 hy) k3_3)
 · have e:q=m.length:=by omega
   subst e
   skip
   repeat' with_reducible first
    |refine s_ ?_
    |simp only[wZZ,seval,g1,g2,g3,g6,g8,g10,o0,o1,g9,o3]
    |refine t_ ?_
   refine qe7 (id:=1) rfl (Or.inr rfl) (by(simp only[wL,seval]);assumption) (by(simp only[wM];(repeat first|rw[if_pos trivial]|rw[if_pos rfl]|rw[if_neg (by omega)]))<;>rfl) rfl ?_
   (simp only[wL,seval])
   have e1: ∀(H:Nat→Option MObj) x,Er true H (prV x) (prV x):=fun _ _=>qb
   have e2: ∀(H:Nat→Option MObj) x,Er true H (V.int .i64 x) (V.int .i64 x):=fun _ _=>.int _ _
   exact ErL.tup (.cons (ErL.agg (.cons (hA.erL ((tA.mono (Nat.le_refl _) (fun x l h1 h2 h3=>by((try simp only[wM]);(repeat first|rw[if_pos trivial]|rw[if_pos rfl]|rw[if_neg (by omega)])))).er e1)) (.cons (hG.erL ((tG.mono (Nat.le_refl _) (fun x l h1 h2 h3=>by((try simp only[wM]);(repeat first|rw[if_pos trivial]|rw[if_pos rfl]|rw[if_neg (by omega)])))).er e2)) .nil))) (.cons (hC.er rfl) .nil))
end Go.Proofs
