/- Part of a proof that a law of the given program answers true. -/
import Derived.Test.YthgkeppkcjcmjaaTZF
set_option linter.unusedSimpArgs false
set_option linter.unusedVariables false
set_option maxHeartbeats 4000000
namespace Go.Proofs
open Go.E
structure Cel where
 st:Int:=0
 tok:Int:=0
 shift:Int:=0
 acc:Bool:=false
 prods:List Int:=[]
 deriving DecidableEq,Inhabited
abbrev Cel.V (c:Cel):V:= .agg [vi c.st,vi c.tok,vi c.shift,.bool c.acc,.sl 1 false (c.prods.map (V.int .i64))]
def z8 (c:Cel):Int:=c.prods.length+(if 0≤c.shift then 1 else 0)+(if c.acc=true then 1 else 0)
def cellAt (m:List Sta) (l:List Lk) (s t:Nat):Cel:=
 {st:=s,tok:=t,shift:=goS m s t,acc:=decide (t=0∧(1:Int)∈qF m s),prods:=l.foldl (fun p k=>if k.st=(s:Int)∧(t:Int)∈k.tk then jm p k.pr else p) []}
def cellsS (nt:Nat) (m:List Sta) (l:List Lk):List Cel:=(List.range m.length).flatMap fun s=>(List.range nt).filterMap fun t=>if 0<z8 (cellAt m l s t)then some (cellAt m l s t)else none
def qg6 (l:List Cel):Int:=(l.filter fun c=>decide (1<z8 c)).length
def jB (src:Source):Bool:=YP src && (Kl (qL src)).isSome
def zn (src:Source):List Sta:=if YP src=true then(Kl (qL src)).getD []else[]
theorem qev {ef:EF} {t a b id:Nat} {ro:Bool} {v res:V} {e:Exit} {s:St} (he:ef.res=[.inr (t,true,5),.inl a,.inl b]) (hx:e=.normal∨e=.ret) (hp:s.f t=.ptr id 0 0) (hH:s.H id=some (.own 5 [v] ro)) (ha:v.isAgg=true)
 (h:Er true s.H (.tup [v,s.f a,s.f b]) res):zu ef res e s:=by
 have hv:zb s true 5 (s.f t)=some v:=by rw[hp];simp only[zb,hH,List.getElem?_cons_zero,zX,ha,and_self,if_true]
 exact⟨hx,_,by rw[he];simp[Y2,YK,hv,one],h⟩
theorem qiF {ef:EF} {t a b c id:Nat} {ro:Bool} {v res:V} {e:Exit} {s:St} (he:ef.res=[.inr (t,true,5),.inl a,.inl b,.inl c]) (hx:e=.normal∨e=.ret) (hp:s.f t=.ptr id 0 0) (hH:s.H id=some (.own 5 [v] ro)) (ha:v.isAgg=true)
 (h:Er true s.H (.tup [v,s.f a,s.f b,s.f c]) res):zu ef res e s:=by
 have hv:zb s true 5 (s.f t)=some v:=by rw[hp];simp only[zb,hH,List.getElem?_cons_zero,zX,ha,and_self,if_true]
 exact⟨hx,_,by rw[he];simp[Y2,YK,hv,one],h⟩

set_option maxHeartbeats 8000000
theorem yG {c:Cel} (hp:c.prods.length≤1000000):Pure Try.prog 31 [c.V] (vi (z8 c)):=by
 refine pure_intro Try.func31 nm_ qJN (by show 1≤17;decide) ?_
 show ewp _ qhT _ _
 obtain ⟨cs,ct,ch,ca,cp⟩:=c
 dsimp only at hp
 have hr:z8 {st:=cs,tok:=ct,shift:=ch,acc:=ca,prods:=cp}=(cp.length:Int)+(if 0≤ch then 1 else 0)+(if ca=true then 1 else 0):=rfl
 rw[hr]
 have hz1:IntKind.i64.wrap ((cp.length:Int)+1)=(cp.length:Int)+1:=wrap64 o_ o_
 have hz2:IntKind.i64.wrap ((cp.length:Int)+1+1)=(cp.length:Int)+1+1:=wrap64 o_ o_
 by_cases h1:0≤ch<;>cases ca
 all_goals
  repeat' with_reducible first
   |refine s_ ?_
   |simp only[wZZ,seval,hz1,hz2]
   |apply qa<;>intro h h_<;>(try simp only[wD,reduceCtorEq]at h_)<;>(try exact wb_)<;>(try simp only[h])
   |refine t_ ?_
   |simp(disch:=omega) only[w64,if_neg]
  refine qA rfl (Or.inr rfl) ?_
  (simp only[wL,seval])
  simp only[h1,if_true,if_false,Int.add_zero,reduceCtorEq]
  exact .int _ _
theorem Q9 {src:Source} (hf:src.Fits) (hS:jM src=true→Small src) (hG:YP src=true→GOk (qL src)):Pure Try.prog 23 [src.V] (.tup [(qL src).V,.sl 2 false ((zn src).map Sta.V),.bool (jB src)]):=by
 refine pure_intro Try.func23 nm_ qyQ (by show 1≤26;decide) ?_
 show ewp _ qh8 _ _
 have hgr:=Q6 hf hS
 cases hb:YP src with
 | false=>
   have e1:zn src=[]:=by unfold zn;rw[hb];rfl
   have e2:jB src=false:=by unfold jB;rw[hb];rfl
   rw[hb]at hgr
   rw[e1,e2]
   generalize qL src=g at *
   repeat' with_reducible first
    |refine s_ ?_
    |simp only[wZZ,seval]
    |refine cq1 hgr (j3 src) ?_
    |refine t_ ?_
   refine qev (id:=1) rfl (Or.inr rfl) wl_ (by simp only[wM,seval];rfl) rfl ?_
   simp only[wL,seval]
   exact ErL.tup (.cons qc (.cons (ErL.sl .nil) (.cons (.bool _) .nil)))
 | true=>
   have e1:zn src=(Kl (qL src)).getD []:=by unfold zn;rw[hb];rfl
   have e2:jB src=(Kl (qL src)).isSome:=by unfold jB;rw[hb];rfl
   have hau:=Ya (hG hb)
   rw[hb]at hgr
   rw[e1,e2]
   generalize qL src=g at *
   cases ha:Kl g with
   | none=>
     rw[ha]at hau
     simp only[qQt]at hau
     repeat' with_reducible first
      |refine s_ ?_
      |simp only[wZZ,seval]
      |refine cq1 hgr (j3 src) ?_
      |refine cq1 hau qc ?_
      |refine t_ ?_
     refine qev (id:=1) rfl (Or.inr rfl) wl_ (by simp only[wM,seval];rfl) rfl ?_
     simp only[wL,seval]
     exact ErL.tup (.cons qc (.cons (ErL.sl .nil) (.cons (.bool _) .nil)))
   | some m=>
     rw[ha]at hau
     simp only[qQt]at hau
     repeat' with_reducible first
      |refine s_ ?_
      |simp only[wZZ,seval]
      |refine cq1 hgr (j3 src) ?_
      |refine cq1 hau qc ?_
      |refine t_ ?_
     refine qev (id:=1) rfl (Or.inr rfl) wl_ (by simp only[wM,seval];rfl) rfl ?_
     simp only[wL,seval]
     exact ErL.tup (.cons qc (.cons qc (.cons (.bool _) .nil)))

abbrev qjJ (m:List Sta) (l:List Lk) (s:Nat):Nat→Option Cel:=fun t=>if 0<z8 (cellAt m l s t)then some (cellAt m l s t)else none
def Zp (nt:Nat) (m:List Sta) (l:List Lk) (n:Nat):List Cel:=(List.range n).flatMap fun s=>(List.range nt).filterMap (qjJ m l s)
theorem Xy (nt:Nat) (m:List Sta) (l:List Lk) (n:Nat):Zp nt m l (n+1)=Zp nt m l n++(List.range nt).filterMap (qjJ m l n):=by
 unfold Zp;rw[List.range_succ,List.flatMap_append];simp
theorem qbu {β:Type} (f:Nat→Option β) (n:Nat):(List.range (n+1)).filterMap f=(List.range n).filterMap f++(f n).toList:=by
 rw[List.range_succ,List.filterMap_append]
 cases h:f n<;>simp[h]
theorem Zz {β:Type} (f:Nat→Option β) (n:Nat):((List.range n).filterMap f).length≤n:=
 Nat.le_trans (List.length_filterMap_le _ _) (by rw[List.length_range];exact Nat.le_refl _)
abbrev Kv (s t:Nat):List Int→Lk→List Int:=fun p k=>if k.st=(s:Int)∧(t:Int)∈k.tk then jm p k.pr else p
theorem qcl (s t:Nat) (l:List Lk): ∀b:List Int,(l.foldl (Kv s t) b).length≤b.length+l.length:=by
 induction l with
 |nil=>intro b;exact Nat.le_refl _
 | cons p l ih=>
   intro b
   have h1:(Kv s t b p).length≤b.length+1:=by
    unfold Kv;split
    · exact QW _ _
    · omega
   have:=ih (Kv s t b p)
   rw[List.foldl_cons,List.length_cons];omega
theorem qap {b:Bool} {H:Nat→Option MObj} {s t h:Int} {a c:Bool} {p:List Int}:Er b H (.agg [vi s,vi t,vi h,.bool a,.sl 1 c (p.map (V.int .i64))]) (Cel.V {st:=s,tok:=t,shift:=h,acc:=a,prods:=p}):=
 ErL.agg (.cons (.int _ _) (.cons (.int _ _) (.cons (.int _ _) (.cons (.bool _) (.cons jA .nil)))))
theorem JR {g :Grammar} {m:List Sta} {l:List Lk} (hM:MOk g m) (hg:GOk g) (hl:l.length≤1000000) (hlt: ∀k∈l,k.tk.length≤1000000):Pure Try.prog 25 [g.V,.sl 2 false (m.map Sta.V),.sl 3 false (l.map Lk.V)] (.sl 5 false ((cellsS g.toks.length m l).map Cel.V)):=by
 refine pure_intro Try.func25 nm_ qAj (by show 3≤108;decide) ?_
 show ewp _ qjn _ _
 have hml:=hM.len;have hmv:=hM.mvl
 have htk:=hg.tk2
 have hdef:cellsS g.toks.length m l=Zp g.toks.length m l m.length:=rfl
 rw[hdef]
 repeat' with_reducible first
  |refine s_ ?_
  |simp only[wZZ,seval]
  |refine t_ ?_
 refine qb ?nx1 (fun(q:Nat) s=>s.f 1=?v1_1∧s.f 2=?v1_2∧s.f 3=?v1_3∧s.H 0=some (.own 5 [g.V] false)∧s.f 8=vi q∧(q≤m.length)∧((Zp g.toks.length m l q).length≤q *40)∧((∃v es,s.f 7=v∧Gr s.H s.next 5 es v∧QM es ((Zp g.toks.length m l q).map Cel.V)))) (fun q=>m.length - q) (0) wj_ (by refine⟨?_,?_,?_,?_,?_,wo_,(by exact Nat.zero_le _),(by exact⟨_,[],(by(simp only[wL,seval])<;>rfl),Gr.nil,.nil⟩)⟩<;>first|(simp only[wL,wM,wN,wX,seval,Option.some.injEq]<;>exact wt_)|rfl|exact⟨_,rfl⟩) ?_
 intro q s hnx ⟨g1,g2,g3,o0,g8,k1_0,k1_1,k1_2⟩
 obtain ⟨v6,es,g6,hG6,hE6⟩:=k1_2
 have hz:=w1_ q
 by_cases hq:q<m.length
 · have hgq : m[q]?=some m[q]:=ge_ hq
   have hqm:=List.getElem_mem hq
   have hkl:=hM.kl hg.pl2 _ hqm
   have hst:=Xy g.toks.length m l q
   have hkA:qF m q=m[q].ker:=by unfold qF;rw[hgq];rfl
   have hrl:=Zz (qjJ m l q) g.toks.length
   generalize m[q]=x at *
   obtain ⟨xk,xm⟩:=x
   dsimp only at hkl hkA
   generalize Zp g.toks.length m l q=L at *
   repeat' with_reducible first
    |refine s_ ?_
    |simp only[wZZ,seval,g1,g2,g3,g8,o0,hz,g6]
    |apply qa<;>intro h h_<;>(try simp only[wD,reduceCtorEq]at h_)<;>(try exact wb_)<;>(try simp only[h])
   refine qb ?nx2 (fun(t:Nat) s=>s.f 1=?v2_1∧s.f 2=?v2_2∧s.f 3=?v2_3∧s.f 8=?v2_8∧s.H 0=some (.own 5 [g.V] false)∧s.f 9=vi t∧(t≤g.toks.length)∧((∃v es,s.f 7=v∧Gr s.H s.next 5 es v∧QM es ((L++(List.range t).filterMap (qjJ m l q)).map Cel.V)))) (fun t=>g.toks.length - t) (0) wj_ (by refine⟨?_,?_,?_,?_,?_,?_,wo_,(by exact⟨v6,es,(by(simp only[wL,seval]);exact g6),hG6.mono wg_ (fun _ _ _=>rfl),by show QM es ((L++[]).map Cel.V);rw[List.append_nil];exact hE6⟩)⟩<;>first|(simp only[wL,wM,wN,wX,seval,Option.some.injEq,g1,g2,g3,g8,o0]<;>exact wt_)|rfl|exact⟨_,rfl⟩) ?_
   intro t s hnx ⟨g1,g2,g3,g8,o0,g9,k2_0,k2_1⟩
   obtain ⟨v7,es7,gg,hG7,hE7⟩:=k2_1
   have hzi:=w1_ t
   by_cases hi:t<g.toks.length
   · have hrs :=qbu (qjJ m l q) t
     have hrl2:=Zz (qjJ m l q) t
     have hgo:=jq (m:=m) (q:=q) (sy:=t) o_ (fun q h=>by have:=hmv q h;omega)
     have hca:cellAt m l q t={st:=q,tok:=t,shift:=goS m q t,acc:=decide (t=0∧(1:Int)∈xk),prods:=l.foldl (Kv q t) []}:=by unfold cellAt;rw[hkA]
     have hcf:qjJ m l q t=if 0<z8 (cellAt m l q t)then some (cellAt m l q t)else none:=rfl
     have hth:=yG (c:=cellAt m l q t) (by rw[hca];have:=qcl q t l [];rw[List.length_nil]at this;dsimp only;omega)
     rw[hca]at hcf hth
     generalize goS m q t=sh at *
     obtain ⟨D,hD⟩: ∃D,D=s.next+5+7:=⟨_,rfl⟩
     repeat' with_reducible first
      |refine s_ ?_
      |simp only[wZZ,seval,g1,g2,g3,g8,g9,o0,hzi,gg]
      |apply qa<;>intro h h_<;>(try simp only[wD,reduceCtorEq]at h_)<;>(try exact wb_)<;>(try simp only[h])
      |refine cq3 hgo qc qc qc ?_
      |refine t_ ?_
     refine qb ?nx3 (fun(k:Nat) s=>s.f 1=?v3_1∧s.f 2=?v3_2∧s.f 3=?v3_3∧s.f 8=?v3_8∧s.f 9=?v3_9∧s.H 0=some (.own 5 [g.V] false)∧s.f 11=vi k∧(k≤xk.length)∧(D<s.next)∧(Gr s.H s.next 5 es7 v7)∧((s.H D=some (.own 5 [V.agg [vi q,vi t,vi sh,.bool (decide (t=0∧(1:Int)∈xk.take k)),.sl 1 true []]] false)))∧(s.f 10=.ptr D 0 0)∧(s.f 7=v7)) (fun k=>xk.length - k) (0) wj_ (by refine⟨?_,?_,?_,?_,?_,?_,?_,wo_,wg_,(by exact hG7.mono wg_ (fun j h1 h2=>hh_)),(by rw[hD];(simp only[wM];(repeat first|rw[if_pos trivial]|rw[if_pos rfl]|rw[if_neg o_]))<;>first|rfl|simp),(by(try simp only[wL,wM,wN,seval,g1,g2,g3,g8,g9,o0]);first|done|rw[hD]),(by(try simp only[wL,wM,wN,seval,g1,g2,g3,g8,g9,o0]);first|done|rfl|exact gg)⟩<;>first|(simp only[wL,wM,wN,wX,seval,Option.some.injEq,g1,g2,g3,g8,g9,o0]<;>exact wt_)|rfl|exact⟨_,rfl⟩) ?_
     intro k s hnx ⟨g1,g2,g3,g8,g9,o0,g11,k3_0,k3_1,k3_2,k3_3,g10,g7⟩
     have hzk:=w1_ k
     by_cases hk:k<xk.length
     · have hgk:xk[k]?=some xk[k]:=ge_ hk
       have htk2:xk.take (k+1)=xk.take k++[xk[k]]:=by rw[List.take_add_one,hgk];rfl
       generalize xk[k]=y at *
       have o3:=k3_3
       have hd:decide (t=0∧(1:Int)∈xk.take (k+1))=(decide (t=0∧(1:Int)∈xk.take k) || (decide (t=0) && (decide (y / 16=0) && decide (y % 16=1)))):=by
        rw[htk2,Bool.eq_iff_iff]
        simp only[decide_eq_true_eq,Bool.or_eq_true,Bool.and_eq_true,List.mem_append,List.mem_singleton]
        have:(1:Int)=y↔y / 16=0∧y % 16=1:=o_
        rw[this]
        exact⟨fun h=>h.2.elim (fun h2=>Or.inl ⟨h.1,h2⟩) (fun h2=>Or.inr ⟨h.1,h2⟩),fun h=>h.elim (fun h=>⟨h.1,Or.inl h.2⟩) (fun h=>⟨h.1,Or.inr h.2⟩)⟩
       have hb: ∀b,b=decide (t=0∧(1:Int)∈xk.take (k+1))→some (MObj.own 5 [V.agg [vi q,vi t,vi sh,.bool b,.sl 1 true []]] false)=some (MObj.own 5 [V.agg [vi q,vi t,vi sh,.bool (decide (t=0∧(1:Int)∈xk.take (k+1))),.sl 1 true []]] false):=fun b e=>by rw[e]
       repeat' with_reducible first
        |refine s_ ?_
        |simp only[wZZ,seval,g1,g2,g3,g8,g9,g11,g10,g7,o0,hzk,o3]
        |(first|apply qa|apply qg|apply qh)<;>intro h h_<;>(try simp only[wD,reduceCtorEq]at h_)<;>(try exact wb_)<;>(try simp only[h])
        |refine t_ ?_
        |simp(disch:=omega) only[w64,if_neg]
       all_goals
        refine⟨wg_,k+1,o_,trivial,trivial,trivial,trivial,trivial,trivial,rfl,o_,wg_,k3_2.mono wg_ (fun x h1 h2=>by have:=Gr.ne k3_2 o3 h1;((try simp only[wM]);(repeat first|rw[if_pos trivial]|rw[if_pos rfl]|rw[if_neg o_]))),hb _ ?_,trivial,trivial⟩
        rw[hd]
        simp[*]<;>(intros;omega)
     · have e :xk.take k=xk:=List.take_of_length_le o_
       rw[e]at k3_3
       have o3:=k3_3
       repeat' with_reducible first
        |refine s_ ?_
        |simp only[wZZ,seval,g1,g2,g3,g8,g9,g11,g10,g7,o0,hzk,o3]
        |apply qa<;>intro h h_<;>(try simp only[wD,reduceCtorEq]at h_)<;>(try exact wb_)<;>(try simp only[h])
        |refine t_ ?_
       skip
       refine qb ?nx4 (fun(k:Nat) s=>s.f 1=?v4_1∧s.f 2=?v4_2∧s.f 3=?v4_3∧s.f 8=?v4_8∧s.f 9=?v4_9∧s.H 0=some (.own 5 [g.V] false)∧s.f 13=vi k∧(k≤l.length)∧(D<s.next)∧(Gr s.H s.next 5 es7 v7)∧((∃c,s.H D=some (.own 5 [V.agg [vi q,vi t,vi sh,.bool (decide (t=0∧(1:Int)∈xk)),.sl 1 c (((l.take k).foldl (Kv q t) []).map (V.int .i64))]] false)))∧(s.f 10=.ptr D 0 0)∧(s.f 7=v7)) (fun k=>l.length - k) (0) wj_ (by refine⟨?_,?_,?_,?_,?_,?_,?_,wo_,wg_,(by exact k3_2.mono wg_ (fun j h1 h2=>hh_)),(by exact⟨true,by((try simp only[wM]);(repeat first|rw[if_pos trivial]|rw[if_pos rfl]|rw[if_neg o_]));exact o3⟩),(by(try simp only[wL,wM,wN,seval,g1,g2,g3,g8,g9,o0]);first|done|rfl|assumption),(by(try simp only[wL,wM,wN,seval,g1,g2,g3,g8,g9,o0]);first|done|rfl|assumption)⟩<;>first|(simp only[wL,wM,wN,wX,seval,Option.some.injEq,g1,g2,g3,g8,g9,o0]<;>exact wt_)|rfl|exact⟨_,rfl⟩) ?_
       intro k s hnx ⟨g1,g2,g3,g8,g9,o0,g13,k4_0,k4_1,k4_2,k4_3,g10,g7⟩
       obtain ⟨c4,o4⟩:=k4_3
       have hzl:=w1_ k
       have hpl:=qcl q t (l.take k) []
       rw[List.length_take,List.length_nil]at hpl
       by_cases hk:k<l.length
       · have hgk:l[k]?=some l[k]:=ge_ hk
         have hst4:=zY (Kv q t) [] hgk
         have hlk:=hlt _ (List.getElem_mem hk)
         generalize (l.take k).foldl (Kv q t) []=W at *
         generalize l[k]=z at *
         obtain ⟨zs,zp,zt⟩:=z
         dsimp only at hst4 hlk
         have hput:=zM (l:=W) (x:=zp) o_
         have hhas:=j5 (a:=zt) (x:=t) o_
         have hpf:Kv q t W {st:=zs,pr:=zp,tk:=zt}=if zs=(q:Int)∧(t:Int)∈zt then jm W zp else W:=rfl
         rw[hpf]at hst4
         by_cases hc:zs=(q:Int)∧(t:Int)∈zt
         · rw[if_pos hc]at hst4
           obtain ⟨hc1,hc2⟩:=hc
           rw[decide_eq_true hc2]at hhas
           repeat' with_reducible first
            |refine s_ ?_
            |simp only[wZZ,seval,g1,g2,g3,g8,g9,g13,g10,g7,o0,hzl,o4]
            |(first|apply qa|apply qg|apply qh)<;>intro h h_<;>(try simp only[wD,reduceCtorEq]at h_)<;>(try exact wb_)<;>(try simp only[h])
            |refine t_ ?_
            |refine cq2 hhas qc qc ?_
            |refine cq2 hput jA qc ?_
            |simp(disch:=omega) only[w64,if_neg]
           exact⟨wg_,k+1,o_,trivial,trivial,trivial,trivial,trivial,trivial,rfl,o_,wg_,k4_2.mono wg_ (fun x h1 h2=>by have:=Gr.ne k4_2 o4 h1;((try simp only[wM]);(repeat first|rw[if_pos trivial]|rw[if_pos rfl]|rw[if_neg o_]))),⟨_,by rw[hst4]⟩,trivial,trivial⟩
         · rw [if_neg hc]at hst4
           by_cases hc1:zs=(q:Int)
           · have hc2:(t:Int) ∉ zt:=fun h=>hc ⟨hc1,h⟩
             rw[decide_eq_false hc2]at hhas
             repeat' with_reducible first
              |refine s_ ?_
              |simp only[wZZ,seval,g1,g2,g3,g8,g9,g13,g10,g7,o0,hzl,o4]
              |(first|apply qa|apply qg|apply qh)<;>intro h h_<;>(try simp only[wD,reduceCtorEq]at h_)<;>(try exact wb_)<;>(try simp only[h])
              |refine t_ ?_
              |refine cq2 hhas qc qc ?_
             exact⟨wg_,k+1,o_,trivial,trivial,trivial,trivial,trivial,trivial,rfl,o_,wg_,k4_2.mono wg_ (fun _ _ _=>rfl),⟨_,by rw[hst4]⟩,trivial,trivial⟩
           · repeat' with_reducible first
              |refine s_ ?_
              |simp only[wZZ,seval,g1,g2,g3,g8,g9,g13,g10,g7,o0,hzl,o4]
              |(first|apply qa|apply qg|apply qh)<;>intro h h_<;>(try simp only[wD,reduceCtorEq]at h_)<;>(try exact wb_)<;>(try simp only[h])
              |refine t_ ?_
             exact⟨wg_,k+1,o_,trivial,trivial,trivial,trivial,trivial,trivial,rfl,o_,wg_,k4_2.mono wg_ (fun _ _ _=>rfl),⟨_,by rw[hst4]⟩,trivial,trivial⟩
       · have e:l.take k=l:=List.take_of_length_le o_
         rw[e]at o4
         have hel7:es7.length=_:=hE7.len.symm
         rw[List.length_map,List.length_append]at hel7
         generalize l.foldl (Kv q t) []=W at *
         generalize decide (t=0∧(1:Int)∈xk)=ac at *
         by_cases hc:0<z8 {st:=q,tok:=t,shift:=sh,acc:=ac,prods:=W}
         · rw[if_pos hc]at hcf
           repeat' with_reducible first
            |refine s_ ?_
            |simp only[wZZ,seval,g1,g2,g3,g8,g9,g13,g10,g7,o0,hzi,o4]
            |apply qa<;>intro h h_<;>(try simp only[wD,reduceCtorEq]at h_)<;>(try exact wb_)<;>(try simp only[h])
            |apply za rfl (k4_2.mono (Nat.le_refl _) (fun id h1 h2=>by(try simp only[wM]);(repeat rw[if_neg o_])));(focus(first|exact qU.sl|exact qU.asl));(focus(simp only[wZ,hel7];omega));(focus(unfold maxLen;simp only[wZ,hel7];omega))
            |refine cq1 hth qap ?_
            |refine t_ ?_
           exact⟨wg_,t+1,o_,trivial,trivial,trivial,trivial,k4_2.dropO o0,rfl,o_,_,_,rfl,Gr.tok (id:=s.next+4+3+3) (fin:=es7.length+1) hh_ wg_,by rw[hrs,hcf,Option.toList_some,← List.append_assoc,List.map_append];exact hE7.snoc qap⟩
         · rw[if_neg hc]at hcf
           repeat' with_reducible first
            |refine s_ ?_
            |simp only[wZZ,seval,g1,g2,g3,g8,g9,g13,g10,g7,o0,hzi,o4]
            |apply qa<;>intro h h_<;>(try simp only[wD,reduceCtorEq]at h_)<;>(try exact wb_)<;>(try simp only[h])
            |refine cq1 hth qap ?_
            |refine t_ ?_
           exact⟨wg_,t+1,o_,trivial,trivial,trivial,trivial,trivial,rfl,o_,v7,es7,rfl,k4_2.mono wg_ (fun _ _ _=>rfl),by rw[hrs,hcf,Option.toList_none,List.append_nil];exact hE7⟩
   · have e:t=g.toks.length:=o_
     subst e
     rw[← hst]at hE7
     skip
     repeat' with_reducible first
      |refine s_ ?_
      |simp only[wZZ,seval,g1,g2,g3,g8,g9,o0,hz,gg]
      |refine t_ ?_
     exact⟨wg_,q+1,o_,trivial,trivial,trivial,trivial,rfl,o_,by rw[hst,List.length_append];omega,v7,es7,rfl,hG7.mono wg_ (fun _ _ _=>rfl),hE7⟩
 · have e:q=m.length:=o_
   subst e
   skip
   repeat' with_reducible first
    |refine s_ ?_
    |simp only[wZZ,seval,g1,g2,g3,g8,o0,g6]
   refine qA rfl (Or.inr rfl) ?_
   (simp only[wL,seval])
   exact hG6.erL hE6.up

theorem qSM (f:Cel→Bool) {l:List Cel} {i:Nat} {c:Cel} (h:l[i]?=some c):((l.take (i+1)).filter f).length=((l.take i).filter f).length+(if f c=true then 1 else 0):=by
 rw[List.take_add_one,h,List.filter_append,List.length_append]
 cases hf:f c<;>simp[hf]
theorem YM {l:List Cel} (hl:l.length≤1000000) (hp: ∀c∈l,c.prods.length≤1000000):Pure Try.prog 29 [.sl 5 false (l.map Cel.V)] (vi (qg6 l)):=by
 refine pure_intro Try.func29 nm_ qEm (by show 1≤20;decide) ?_
 show ewp _ qio _ _
 have hdef:qg6 l=((l.filter fun c=>decide (1<z8 c)).length:Nat):=rfl
 rw[hdef]
 repeat' with_reducible first
  |refine s_ ?_
  |simp only[wZZ,seval]
 refine qb ?nx1 (fun(i:Nat) s=>s.f 0=?v1_0∧s.f 3=vi (((l.take i).filter fun c=>decide (1<z8 c)).length:Nat)∧s.f 4=vi i∧(i≤l.length)∧(((l.take i).filter fun c=>decide (1<z8 c)).length≤i)) (fun i=>l.length - i) (0) wj_ (by refine⟨?_,?_,?_,wo_,(by exact Nat.le_refl _)⟩<;>first|(simp only[wL,wM,wN,wX,seval,Option.some.injEq]<;>exact wt_)|rfl|exact⟨_,rfl⟩) ?_
 intro i s hnx ⟨g0,g3,g4,k1_0,k1_1⟩
 have hz:=w1_ i
 by_cases hi:i<l.length
 · have hgi:l[i]?=some l[i]:=ge_ hi
   have hst:=qSM (fun c=>decide (1<z8 c)) hgi
   have hth:=yG (hp _ (List.getElem_mem hi))
   generalize ((l.take i).filter fun c=>decide (1<z8 c)).length=n at *
   have hz2:IntKind.i64.wrap ((n:Int)+1)=((n+1:Nat):Int):=by rw[wrap64 o_ o_];omega
   generalize l[i]=c at *
   generalize z8 c=t at *
   by_cases hc:1<t
   · rw[if_pos (decide_eq_true hc)]at hst
     repeat' with_reducible first
      |refine s_ ?_
      |simp only[wZZ,seval,g0,g3,g4,hz,hz2]
      |apply qa<;>intro h h_<;>(try simp only[wD,reduceCtorEq]at h_)<;>(try exact wb_)<;>(try simp only[h])
      |refine t_ ?_
      |refine cq1 hth qap ?_
      |simp(disch:=omega) only[w64,if_neg]
     exact⟨wg_,i+1,o_,trivial,by rw[hst],rfl,o_,by rw[hst];omega⟩
   · rw[if_neg (by simpa using hc)]at hst
     repeat' with_reducible first
      |refine s_ ?_
      |simp only[wZZ,seval,g0,g3,g4,hz,hz2]
      |apply qa<;>intro h h_<;>(try simp only[wD,reduceCtorEq]at h_)<;>(try exact wb_)<;>(try simp only[h])
      |refine t_ ?_
      |refine cq1 hth qap ?_
     exact⟨wg_,i+1,o_,trivial,by rw[hst,Nat.add_zero],rfl,o_,by rw[hst];omega⟩
 · have e:l.take i=l:=List.take_of_length_le o_
   rw[e]at g3
   repeat' with_reducible first
    |refine s_ ?_
    |simp only[wZZ,seval,g0,g3,g4,hz]
    |apply qa<;>intro h h_<;>(try simp only[wD,reduceCtorEq]at h_)<;>(try exact wb_)<;>(try simp only[h])
   all_goals refine qA rfl (Or.inr rfl) ?_
   all_goals(try simp only[wL,seval,g0,g3,g4])
   all_goals refine er_ ?_
   all_goals(try(with_reducible rfl))
def j6 (nt:Nat) (l:List Int) (a:Nat):Int:=match l[a]? with
 |none=>0
 |some t=>if 0≤t∧t<nt∧t≠1 then t else 2
theorem qbB {g:Grammar} {l:List Int} {a:Nat} (hl:l.length≤1000000) (hg:GOk g):Pure Try.prog 50 [g.V,.sl 1 false (l.map (V.int .i64)),vi a] (vi (j6 g.toks.length l a)):=by
 refine pure_intro Try.func50 nm_ qBv (by show 3≤30;decide) ?_
 show ewp _ qji _ _
 have htk:=hg.tk2
 by_cases ha:a<l.length
 · have hga:l[a]?=some l[a]:=ge_ ha
   have ht:j6 g.toks.length l a=if 0≤l[a]∧l[a]<g.toks.length∧l[a]≠1 then l[a]else 2:=by unfold j6;rw[hga]
   rw[ht]
   generalize l[a]=t at *
   by_cases h1:0≤t∧t<g.toks.length∧t≠1
   · rw[if_pos h1]
     obtain ⟨h1,h2,h3⟩:=h1
     repeat' with_reducible first
      |refine s_ ?_
      |simp only[wZZ,seval]
      |(first|apply qa|apply qg|apply qh)<;>intro h h_<;>(try simp only[wD,reduceCtorEq]at h_)<;>(try exact wb_)<;>(try simp only[h])
      |refine t_ ?_
     all_goals refine qA rfl (Or.inr rfl) ?_
     all_goals(try simp only[wL,seval])
     all_goals refine er_ ?_
     all_goals(try(with_reducible rfl))
   · rw[if_neg h1]
     repeat' with_reducible first
      |refine s_ ?_
      |simp only[wZZ,seval]
      |(first|apply qa|apply qg|apply qh)<;>intro h h_<;>(try simp only[wD,reduceCtorEq]at h_)<;>(try exact wb_)<;>(try simp only[h])
      |refine t_ ?_
     all_goals first|(exfalso;simp only[decide_eq_true_eq,decide_eq_false_iff_not,bne_iff_ne,Bool.not_eq_true',Bool.not_eq_false']at *;omega)|skip
     all_goals refine qA rfl (Or.inr rfl) ?_
     all_goals(try simp only[wL,seval])
     all_goals refine er_ ?_
     all_goals(try(with_reducible rfl))
 · have ht:j6 g.toks.length l a=0:=by unfold j6;rw[List.getElem?_eq_none o_]
   rw[ht]
   repeat' with_reducible first
    |refine s_ ?_
    |simp only[wZZ,seval]
    |apply qa<;>intro h h_<;>(try simp only[wD,reduceCtorEq]at h_)<;>(try exact wb_)<;>(try simp only[h])
    |refine t_ ?_
   all_goals refine qA rfl (Or.inr rfl) ?_
   all_goals(try simp only[wL,seval])
   all_goals refine er_ ?_
   all_goals(try(with_reducible rfl))
end Go.Proofs
