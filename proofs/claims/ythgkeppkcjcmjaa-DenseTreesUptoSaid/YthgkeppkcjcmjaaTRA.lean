/- Part of a proof that a law of the given program answers true. -/
import Derived.Test.YthgkeppkcjcmjaaTJA
import Derived.Test.YthgkeppkcjcmjaaTKA
set_option linter.unusedSimpArgs false
set_option linter.unusedVariables false
set_option maxHeartbeats 4000000
namespace Go.Proofs
open Go.E
def Kb (p:Part):Part:={sym:=QJ p.sym,code:=Qj p.code 60,at_:=p.at_}
def qab (a:Alt):Alt:={parts:=(a.parts.take 6).map Kb,prec:=QJ a.prec,at_:=a.at_}
def Yr (r:Rule):Rule:={left:=Qj r.left 25,alts:=(r.alts.take 5).map qab,at_:=r.at_}
def Xq (d:Decl):Decl:={kind:=d.kind,tag:=Qj d.tag 25,syms:=(d.syms.take 6).map QJ,at_:=d.at_}
def qen (x:Source):Source:={pro:=Qj x.pro 40,decls:=(x.decls.take 8).map Xq,rules:=(x.rules.take 6).map Yr,tail:=Qj x.tail 40}
structure Fg (s:St) (id n lo z:Nat) (mk:V→V) (v:V) (es want:List V):Prop where
 o:s.H id=some (.own n [mk v] false)
 g:Gr s.H s.next z es v
 l: ∀j,gid v=some j→lo≤j
 e:QM es want
theorem Fg.mono {s s':St} {id n lo z:Nat} {mk:V→V} {v:V} {es want:List V} (h:Fg s id n lo z mk v es want) (hn:s.next≤s'.next) (ho:s'.H id=s.H id) (hH: ∀j,lo≤j→j<s.next→gid v=some j→s'.H j=s.H j):Fg s' id n lo z mk v es want:=
 ⟨by rw[ho];exact h.o,h.g.mono hn (fun j h1 h2=>hH j (h.l j h1) h2 h1),h.l,h.e⟩
theorem qrJ {s0:St} {x:Source} {d:Decl} {xb i db:Nat} {dA dB dC:V} {Q:Exit→St→Prop} (f1:s0.f 1=.ptr xb 0 0) (f4:s0.f 4=vi i) (f5:s0.f 5=.ptr db 0 0) (hxb:s0.H xb=some (.own 4 [x.V] false))
 (hdb:s0.H db=some (.own 4 [.agg [dA,dB,.sl 4 true [],dC]] false)) (hne:xb≠db) (hx1:xb<s0.next) (hd1:db<s0.next) (hd:x.decls[i]?=some d) (hl:d.syms.length≤1099511627776) (hs: ∀y∈d.syms,y.name.length≤1099511627776)
 (hQ: ∀s' v es,Fg s' db 4 s0.next 4 (fun v=>.agg [dA,dB,v,dC]) v es (((d.syms.take 6).map QJ).map Sym.V)→(∀j,j<s0.next→j≠db→s'.H j=s0.H j)→(∀t,t<13→t≠6→s'.f t=s0.f t)→s0.next≤s'.next→Q .normal s'):ewp Try.prog qcz Q s0:=by
 repeat' with_reducible first
  |refine s_ ?_
  |simp -implicitDefEqProofs only[wZZ,seval,f1,f4,f5]
 refine qb ?nx2 (fun(k:Nat) s=>s.f 1=?v2_1∧s.f 2=?v2_2∧s.f 3=?v2_3∧s.f 4=?v2_4∧s.f 5=?v2_5∧s.f 6=vi k∧(k≤d.syms.length)∧(k≤6)∧((∃v es,Fg s db 4 s0.next 4 (fun v=>.agg [dA,dB,v,dC]) v es (((d.syms.take k).map QJ).map Sym.V)))∧((∀j,j<s0.next→j≠db→s.H j=s0.H j))∧((∀t,t<13→t≠6→s.f t=s0.f t))) (fun k=>d.syms.length - k) (0) wj_ (by refine⟨?_,?_,?_,?_,?_,?_,wo_,wo_,(by exact⟨_,[],⟨by(simp only[wM];(repeat first|rw[if_pos trivial]|rw[if_pos rfl]|rw[if_neg o_]));exact hdb,Gr.nil,(fun j h=>(by cases h)),.nil⟩⟩),(by intro j h1 h2;(simp only[wM];(repeat first|rw[if_pos trivial]|rw[if_pos rfl]|rw[if_neg o_]))),(by intro t h1 h2;simp only[wL];repeat(first|rw[if_pos trivial]|rw[if_pos rfl]|rw[if_neg o_]))⟩<;>first|(simp -implicitDefEqProofs only[wL,wM,wN,wX,seval,Option.some.injEq]<;>exact wt_)|rfl|exact⟨_,rfl⟩) ?_
 intro k s hnx ⟨g1,g2,g3,g4,g5,g6,k2_0,k2_1,k2_2,k2_3,k2_4⟩
 obtain ⟨v,es,hF⟩:=k2_2
 obtain ⟨ho,hG,hlo,hE⟩:=hF
 have oxb:s.H xb=some (.own 4 [x.V] false):=by rw[k2_3 xb hx1 hne];exact hxb
 have hzk:=w1_ k
 have hel:es.length=k:=by have:=hE.len;simp only[List.length_map,List.length_take]at this;omega
 have hdb2:gid v≠some db:=fun e=>by have:=hlo _ e;omega
 have hxb2:gid v≠some xb:=fun e=>by have:=hlo _ e;omega
 by_cases hk:k<d.syms.length∧k<6
 · obtain ⟨hk1,hk6⟩:=hk
   have hgk:d.syms[k]?=some d.syms[k]:=ge_ hk1
   have htk:d.syms.take (k+1)=d.syms.take k++[d.syms[k]]:=by rw[List.take_add_one,hgk];rfl
   have hcs:=jP (x:=d.syms[k]) (hs _ (List.getElem_mem hk1))
   generalize d.syms[k]=y at *
   repeat' with_reducible first
    |refine s_ ?_
    |simp -implicitDefEqProofs only[wZZ,seval,g1,g2,g3,g4,g5,g6,f1,f4,f5,oxb,ho,hzk,hel,qi hdb2,qi hxb2]
    |(first|apply qa|apply qg|apply qh)<;>intro h h_<;>(try simp only[wD,reduceCtorEq]at h_)<;>(try exact wb_)<;>(try simp only[h])
    |refine t_ ?_
    |apply za rfl (hG.mono (Nat.le_refl _) (fun id h1 h2=>by(try simp only[wM]);(repeat rw[if_neg o_])));(focus(first|exact qU.sl|exact qU.asl));(focus(simp only[wZ,hel];omega));(focus(unfold maxLen;simp only[wZ,hel];omega))
    |refine cq1 hcs qc ?_
    |simp -implicitDefEqProofs (disch:=omega) only[w64,if_neg]
   refine⟨wg_,k+1,o_,trivial,trivial,trivial,trivial,trivial,rfl,o_,o_,⟨_,_,⟨?_,Gr.tok (id:=s.next+13+13) (fin:=k+1) (es:=es++[(QJ y).V]) ?_ ?_,?_,?_⟩⟩,fun j h1 h2=>?_,fun t h1 h2=>?_⟩
   · ((try simp only[wM]);(repeat first|rw[if_pos trivial]|rw[if_pos rfl]|rw[if_neg o_]))
   · ((try simp only[wM]);(repeat first|rw[if_pos trivial]|rw[if_pos rfl]|rw[if_neg o_]))
   · ((try simp only[wN])<;>omega)
   · intro j h;cases h;omega
   · rw[htk,List.map_append,List.map_append];exact hE.snoc qc
   · ((try simp only[wM]);(repeat first|rw[if_pos trivial]|rw[if_pos rfl]|rw[if_neg o_]))
     rw[qi (fun e=>by have:=hlo _ e;omega)];exact k2_3 j h1 h2
   · ((try simp only[wL]);(repeat first|rw[if_pos trivial]|rw[if_pos rfl]|rw[if_neg o_]))
     exact k2_4 t h1 h2
 · have e:d.syms.take 6=d.syms.take k:=by
    by_cases h:k=6
    · rw[h]
    · rw[List.take_of_length_le o_,List.take_of_length_le o_]
   rw[← e]at hE
   repeat' with_reducible first
    |refine s_ ?_
    |simp -implicitDefEqProofs only[wZZ,seval,g1,g2,g3,g4,g5,g6,f1,f4,f5,oxb]
    |(first|apply qa|apply qg|apply qh)<;>intro h h_<;>(try simp only[wD,reduceCtorEq]at h_)<;>(try exact wb_)<;>(try simp only[h])
    |refine t_ ?_
   all_goals refine hQ _ v es ⟨by(simp only[wM];(repeat first|rw[if_pos trivial]|rw[if_pos rfl]|rw[if_neg o_]));exact ho,hG.mono wg_ (fun j h1 h2=>by simp only[wM]),hlo,hE⟩ (fun j h1 h2=>by(simp only[wM];(repeat first|rw[if_pos trivial]|rw[if_pos rfl]|rw[if_neg o_]));exact k2_3 j h1 h2) (fun t h1 h2=>by(simp only[wL];repeat(first|rw[if_pos trivial]|rw[if_pos rfl]|rw[if_neg o_]));exact k2_4 t h1 h2) wg_
theorem qhF {s0:St} {x:Source} {r:Rule} {a:Alt} {xb i k ab:Nat} {p1 p2 p3 p4 p5:V} {Q:Exit→St→Prop} (f1:s0.f 1=.ptr xb 0 0) (f7:s0.f 7=vi i) (f9:s0.f 9=vi k) (f10:s0.f 10=.ptr ab 0 0) (hxb:s0.H xb=some (.own 4 [x.V] false))
 (hab:s0.H ab=some (.own 6 [.agg [.sl 6 true [],p1,p2,p3,p4,p5]] false)) (hne:xb≠ab) (hx1:xb<s0.next) (ha1:ab<s0.next) (hr:x.rules[i]?=some r) (ha:r.alts[k]?=some a) (hl:a.parts.length≤1099511627776) (hs: ∀y∈a.parts,y.Fits)
 (hQ: ∀s' v es,Fg s' ab 6 s0.next 6 (fun v=>.agg [v,p1,p2,p3,p4,p5]) v es (((a.parts.take 6).map Kb).map Part.V)→(∀j,j<s0.next→j≠ab→s'.H j=s0.H j)→(∀t,t<11→s'.f t=s0.f t)→s0.next≤s'.next→Q .normal s'):ewp Try.prog qcH Q s0:=by
 repeat' with_reducible first
  |refine s_ ?_
  |simp -implicitDefEqProofs only[wZZ,seval,f1,f7,f9,f10]
 refine qb ?nx5 (fun(m:Nat) s=>s.f 1=?v5_1∧s.f 2=?v5_2∧s.f 3=?v5_3∧s.f 7=?v5_7∧s.f 8=?v5_8∧s.f 9=?v5_9∧s.f 10=?v5_10∧s.f 11=vi m∧(m≤a.parts.length)∧(m≤6)∧((∃v es,Fg s ab 6 s0.next 6 (fun v=>.agg [v,p1,p2,p3,p4,p5]) v es (((a.parts.take m).map Kb).map Part.V)))∧((∀j,j<s0.next→j≠ab→s.H j=s0.H j))∧((∀t,t<11→s.f t=s0.f t))) (fun m=>a.parts.length - m) (0) wj_ (by refine⟨?_,?_,?_,?_,?_,?_,?_,?_,wo_,wo_,(by exact⟨_,[],⟨by(simp only[wM];(repeat first|rw[if_pos trivial]|rw[if_pos rfl]|rw[if_neg o_]));exact hab,Gr.nil,(fun j h=>(by cases h)),.nil⟩⟩),(by intro j h1 h2;(simp only[wM];(repeat first|rw[if_pos trivial]|rw[if_pos rfl]|rw[if_neg o_]))),(by intro t h1;((try simp only[wL]);(repeat first|rw[if_pos trivial]|rw[if_pos rfl]|rw[if_neg o_])))⟩<;>first|(simp -implicitDefEqProofs only[wL,wM,wN,wX,seval,Option.some.injEq]<;>exact wt_)|rfl|exact⟨_,rfl⟩) ?_
 intro m s hnx ⟨g1,g2,g3,g7,g8,g9,g10,g11,k5_0,k5_1,k5_2,k5_3,k5_4⟩
 obtain ⟨v,es,ho,hG,hlo,hE⟩:=k5_2
 have oxb:s.H xb=some (.own 4 [x.V] false):=by rw[k5_3 xb hx1 hne];exact hxb
 have hzk:=w1_ m
 have hel:es.length=m:=by have:=hE.len;simp only[List.length_map,List.length_take]at this;omega
 have hab2:gid v≠some ab:=fun e=>by have:=hlo _ e;omega
 have hxb2:gid v≠some xb:=fun e=>by have:=hlo _ e;omega
 by_cases hk:m<a.parts.length∧m<6
 · obtain ⟨hk1,hk6⟩:=hk
   have hgk:a.parts[m]?=some a.parts[m]:=ge_ hk1
   have htk:a.parts.take (m+1)=a.parts.take m++[a.parts[m]]:=by rw[List.take_add_one,hgk];rfl
   have hfit:=hs _ (List.getElem_mem hk1)
   generalize a.parts[m]=y at *
   have hcs:=jP (x:=y.sym) hfit.1
   have htx:=zP (s:=y.code) (n:=60) hfit.2 o_
   repeat' with_reducible first
    |refine s_ ?_
    |simp -implicitDefEqProofs only[wZZ,seval,g1,g2,g3,g7,g8,g9,g10,g11,f1,f7,f9,f10,oxb,ho,hzk,hel,qi hab2,qi hxb2]
    |(first|apply qa|apply qg|apply qh)<;>intro h h_<;>(try simp only[wD,reduceCtorEq]at h_)<;>(try exact wb_)<;>(try simp only[h])
    |refine t_ ?_
    |apply za rfl (hG.mono (Nat.le_refl _) (fun id h1 h2=>by(try simp only[wM]);(repeat rw[if_neg o_])));(focus(first|exact qU.sl|exact qU.asl));(focus(simp only[wZ,hel];omega));(focus(unfold maxLen;simp only[wZ,hel];omega))
    |refine cq1 hcs qc ?_
    |refine cq2 htx qc qc ?_
    |apply Jk;exact wu_;exact wu_;(focus((try simp -implicitDefEqProofs only[wE,Nat.reduceAdd]);rfl))
    |simp -implicitDefEqProofs (disch:=omega) only[w64,if_neg]
   refine⟨wg_,m+1,o_,trivial,trivial,trivial,trivial,trivial,trivial,trivial,rfl,o_,o_,⟨_,_,⟨?_,Gr.tok (id:=s.next+17+15+12) (fin:=m+1) (es:=es++[(Kb y).V]) ?_ ?_,?_,?_⟩⟩,fun j h1 h2=>?_,fun t h1=>?_⟩
   · ((try simp only[wM]);(repeat first|rw[if_pos trivial]|rw[if_pos rfl]|rw[if_neg o_]))<;>rfl
   · ((try simp only[wM]);(repeat first|rw[if_pos trivial]|rw[if_pos rfl]|rw[if_neg o_]))
   · ((try simp only[wN])<;>omega)
   · intro j h;cases h;omega
   · rw[htk,List.map_append,List.map_append];exact hE.snoc qc
   · ((try simp only[wM]);(repeat first|rw[if_pos trivial]|rw[if_pos rfl]|rw[if_neg o_]))
     rw[qi (fun e=>by have:=hlo _ e;omega)];((try simp only[wM]);(repeat first|rw[if_pos trivial]|rw[if_pos rfl]|rw[if_neg o_]));exact k5_3 j h1 h2
   · ((try simp only[wL]);(repeat first|rw[if_pos trivial]|rw[if_pos rfl]|rw[if_neg o_]))
     exact k5_4 t h1
 · have e:a.parts.take 6=a.parts.take m:=by
    by_cases h:m=6
    · rw[h]
    · rw[List.take_of_length_le o_,List.take_of_length_le o_]
   rw[← e]at hE
   repeat' with_reducible first
    |refine s_ ?_
    |simp -implicitDefEqProofs only[wZZ,seval,g1,g2,g3,g7,g8,g9,g10,g11,f1,f7,f9,f10,oxb]
    |(first|apply qa|apply qg|apply qh)<;>intro h h_<;>(try simp only[wD,reduceCtorEq]at h_)<;>(try exact wb_)<;>(try simp only[h])
    |refine t_ ?_
   all_goals refine hQ _ v es ⟨by(simp only[wM];(repeat first|rw[if_pos trivial]|rw[if_pos rfl]|rw[if_neg o_]));exact ho,hG.mono wg_ (fun j h1 h2=>by simp only[wM]),hlo,hE⟩ (fun j h1 h2=>by(simp only[wM];(repeat first|rw[if_pos trivial]|rw[if_pos rfl]|rw[if_neg o_]));exact k5_3 j h1 h2) (fun t h1=>by((try simp only[wL]);(repeat first|rw[if_pos trivial]|rw[if_pos rfl]|rw[if_neg o_]));exact k5_4 t h1) wg_
end Go.Proofs
