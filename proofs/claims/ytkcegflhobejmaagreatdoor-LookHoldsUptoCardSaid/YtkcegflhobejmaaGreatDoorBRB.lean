import Derived.Test.YtkcegflhobejmaaGreatDoorBJB
set_option maxRecDepth 20000
set_option linter.all false
set_option maxHeartbeats 4000000
namespace Go.Proofs
open Go.E
def qa8(p:Part):Part:={sym:=Jh p.sym,code:=Zo p.code 60,at_:=p.at_}
def qbL(a:Alt):Alt:={parts:=(a.parts.take 6).map qa8,prec:=Jh a.prec,at_:=a.at_}
def YJ(r:Rule):Rule:={left:=Zo r.left 25,alts:=(r.alts.take 5).map qbL,at_:=r.at_}
def Yr(d:Decl):Decl:={kind:=d.kind,tag:=Zo d.tag 25,syms:=(d.syms.take 6).map Jh,at_:=d.at_}
def qgn(x:Source):Source:={pro:=Zo x.pro 40,decls:=(x.decls.take 8).map Yr,rules:=(x.rules.take 6).map YJ,tail:=Zo x.tail 40}
structure Fg(s:St)(id n lo z:Nat)(mk:V->V)(v:V)(es want:List V):Prop where
 o:s.H id=some (.own n [mk v] false)
 g:Gr s.H s.next z es v
 l:∀j,gid v=some j->lo<=j
 e:J6 es want
theorem Fg.mono{s s':St}{id n lo z:Nat}{mk:V->V}{v:V}{es want:List V}(h:Fg s id n lo z mk v es want)(hn:s.next<=s'.next)(ho:s'.H id=s.H id)(hH:∀j,lo<=j->j<s.next->gid v=some j->s'.H j=s.H j):Fg s' id n lo z mk v es want:=
 ⟨by rw[ho];exact h.o,h.g.mono hn (λj h1 h2=>hH j (h.l j h1) h2 h1),h.l,h.e⟩
theorem qoW{s0:St}{x:Source}{d:Decl}{xb i db:Nat}{dA dB dC:V}{Q:Exit->St->Prop}(f1:s0.f 1=.ptr xb 0 0)(f4:s0.f 4=vi i)(f5:s0.f 5=.ptr db 0 0)(hxb:s0.H xb=some (.own 4 [x.V] false))
(hdb:s0.H db=some (.own 4 [.agg [dA,dB,.sl 4 true [],dC]] false))(hne:xb≠db)(hx1:xb<s0.next)(hd1:db<s0.next)(hd:x.decls[i]?=some d)(hl:d.syms.length<=1099511627776)(hs:∀y∈d.syms,y.name.length<=1099511627776)
(hQ:∀s' v es,Fg s' db 4 s0.next 4 (λv=>.agg [dA,dB,v,dC]) v es (((d.syms.take 6).map Jh).map Sym.V)->(∀j,j<s0.next->j≠db->s'.H j=s0.H j)->(∀t,t<13->t≠6->s'.f t=s0.f t)->s0.next<=s'.next->Q .normal s'):ewp Tryz.prog qji Q s0:=by
 repeat' with_reducible first|refine s_ ?_|simp -implicitDefEqProofs only[wZZ,seval,f1,f4,f5]
 refine qb ?nx2 (λ(k:Nat) s=>s.f 1=?v2_1/\s.f 2=?v2_2/\s.f 3=?v2_3/\s.f 4=?v2_4/\s.f 5=?v2_5/\s.f 6=vi k/\(k<=d.syms.length)/\(k<=6)/\((∃v es,Fg s db 4 s0.next 4 (λv=>.agg [dA,dB,v,dC]) v es (((d.syms.take k).map Jh).map Sym.V)))/\((∀j,j<s0.next->j≠db->s.H j=s0.H j))/\((∀t,t<13->t≠6->s.f t=s0.f t))) (λk=>d.syms.length - k) (0) wj_ (by refine⟨?_,?_,?_,?_,?_,?_,wo_,wo_,(by exact⟨_,[],⟨by(simp only[wM];(repeat first|rw[if_pos trivial]|rw[if_pos rfl]|rw[if_neg o_]));exact hdb,Gr.nil,(λj h=>(by cases h)),.nil⟩⟩),(by intro j h1 h2;(simp only[wM];(repeat first|rw[if_pos trivial]|rw[if_pos rfl]|rw[if_neg o_]))),(by intro t h1 h2;simp only[wL];repeat(first|rw[if_pos trivial]|rw[if_pos rfl]|rw[if_neg o_]))⟩<;>first|(simp -implicitDefEqProofs only[wL,wM,wN,wX,seval,Option.some.injEq]<;>exact wt_)|rfl|exact⟨_,rfl⟩) ?_;intro k s hnx ⟨g1,g2,g3,g4,g5,g6,k2_0,k2_1,k2_2,k2_3,k2_4⟩;obtain ⟨v,es,hF⟩:=k2_2;obtain ⟨ho,hG,hlo,hE⟩:=hF;have oxb:s.H xb=some (.own 4 [x.V] false):=by rw[k2_3 xb hx1 hne];exact hxb
 have hzk:=w1_ k;have hel:es.length=k:=by have:=hE.len;simp only[List.length_map,List.length_take]at this;omega
 have hdb2:gid v≠some db:=λe=>by have:=hlo _ e;omega
 have hxb2:gid v≠some xb:=λe=>by have:=hlo _ e;omega
 by_cases hk:k<d.syms.length/\k<6
 . obtain ⟨hk1,hk6⟩:=hk;have hgk:d.syms[k]?=some d.syms[k]:=ge_ hk1;have htk:d.syms.take (k+1)=d.syms.take k++[d.syms[k]]:=(by rw[List.take_add_one,hgk];rfl);have hcs:=xS (x:=d.syms[k]) (hs _ (List.getElem_mem hk1));generalize d.syms[k]=y at *;repeat' with_reducible first|refine s_ ?_|simp -implicitDefEqProofs only[wZZ,seval,g1,g2,g3,g4,g5,g6,f1,f4,f5,oxb,ho,hzk,hel,qj hdb2,qj hxb2]|(first|apply qa|apply qA|apply qB)<;>intro h h_<;>(try simp only[wD,reduceCtorEq]at h_)<;>(try exact wb_)<;>(try simp only[h])|refine t_ ?_|apply zq rfl (hG.mono (Nat.le_refl _) (λid h1 h2=>by(try simp only[wM]);(repeat rw[if_neg o_])));(focus(first|exact qY.sl|exact qY.asl));(focus(simp only[wZ,hel];omega));(focus(unfold maxLen;simp only[wZ,hel];omega))|refine cq1 hcs qd ?_|simp -implicitDefEqProofs (disch:=omega) only[w64,if_neg]
   refine⟨wg_,k+1,o_,trivial,trivial,trivial,trivial,trivial,rfl,o_,o_,⟨_,_,⟨?_,Gr.tok (id:=s.next+13+13) (fin:=k+1) (es:=es++[(Jh y).V]) ?_ ?_,?_,?_⟩⟩,λj h1 h2=>?_,λt h1 h2=>?_⟩
   . ((try simp only[wM]);(repeat first|rw[if_pos trivial]|rw[if_pos rfl]|rw[if_neg o_]))
   . ((try simp only[wM]);(repeat first|rw[if_pos trivial]|rw[if_pos rfl]|rw[if_neg o_]))
   . ((try simp only[wN])<;>omega)
   . intro j h;cases h;omega
   . rw[htk,List.map_append,List.map_append];exact hE.snoc qd
   . ((try simp only[wM]);(repeat first|rw[if_pos trivial]|rw[if_pos rfl]|rw[if_neg o_]));rw[qj (λe=>by have:=hlo _ e;omega)];exact k2_3 j h1 h2
   . ((try simp only[wL]);(repeat first|rw[if_pos trivial]|rw[if_pos rfl]|rw[if_neg o_]));exact k2_4 t h1 h2
 . have e:d.syms.take 6=d.syms.take k:=by
    by_cases h:k=6
    . rw[h]
    . rw[List.take_of_length_le o_,List.take_of_length_le o_]
   rw[<- e]at hE;repeat' with_reducible first|refine s_ ?_|simp -implicitDefEqProofs only[wZZ,seval,g1,g2,g3,g4,g5,g6,f1,f4,f5,oxb]|(first|apply qa|apply qA|apply qB)<;>intro h h_<;>(try simp only[wD,reduceCtorEq]at h_)<;>(try exact wb_)<;>(try simp only[h])|refine t_ ?_
   all_goals refine hQ _ v es ⟨by(simp only[wM];(repeat first|rw[if_pos trivial]|rw[if_pos rfl]|rw[if_neg o_]));exact ho,hG.mono wg_ (λj h1 h2=>mm_),hlo,hE⟩ (λj h1 h2=>by(simp only[wM];(repeat first|rw[if_pos trivial]|rw[if_pos rfl]|rw[if_neg o_]));exact k2_3 j h1 h2) (λt h1 h2=>by(simp only[wL];repeat(first|rw[if_pos trivial]|rw[if_pos rfl]|rw[if_neg o_]));exact k2_4 t h1 h2) wg_
theorem qj5{s0:St}{x:Source}{r:Rule}{a:Alt}{xb i k ab:Nat}{p1 p2 p3 p4 p5:V}{Q:Exit->St->Prop}(f1:s0.f 1=.ptr xb 0 0)(f7:s0.f 7=vi i)(f9:s0.f 9=vi k)(f10:s0.f 10=.ptr ab 0 0)(hxb:s0.H xb=some (.own 4 [x.V] false))
(hab:s0.H ab=some (.own 6 [.agg [.sl 6 true [],p1,p2,p3,p4,p5]] false))(hne:xb≠ab)(hx1:xb<s0.next)(ha1:ab<s0.next)(hr:x.rules[i]?=some r)(ha:r.alts[k]?=some a)(hl:a.parts.length<=1099511627776)(hs:∀y∈a.parts,y.Fits)
(hQ:∀s' v es,Fg s' ab 6 s0.next 6 (λv=>.agg [v,p1,p2,p3,p4,p5]) v es (((a.parts.take 6).map qa8).map Part.V)->(∀j,j<s0.next->j≠ab->s'.H j=s0.H j)->(∀t,t<11->s'.f t=s0.f t)->s0.next<=s'.next->Q .normal s'):ewp Tryz.prog qgv Q s0:=by
 repeat' with_reducible first|refine s_ ?_|simp -implicitDefEqProofs only[wZZ,seval,f1,f7,f9,f10]
 refine qb ?nx5 (λ(m:Nat) s=>s.f 1=?v5_1/\s.f 2=?v5_2/\s.f 3=?v5_3/\s.f 7=?v5_7/\s.f 8=?v5_8/\s.f 9=?v5_9/\s.f 10=?v5_10/\s.f 11=vi m/\(m<=a.parts.length)/\(m<=6)/\((∃v es,Fg s ab 6 s0.next 6 (λv=>.agg [v,p1,p2,p3,p4,p5]) v es (((a.parts.take m).map qa8).map Part.V)))/\((∀j,j<s0.next->j≠ab->s.H j=s0.H j))/\((∀t,t<11->s.f t=s0.f t))) (λm=>a.parts.length - m) (0) wj_ (by refine⟨?_,?_,?_,?_,?_,?_,?_,?_,wo_,wo_,(by exact⟨_,[],⟨by(simp only[wM];(repeat first|rw[if_pos trivial]|rw[if_pos rfl]|rw[if_neg o_]));exact hab,Gr.nil,(λj h=>(by cases h)),.nil⟩⟩),(by intro j h1 h2;(simp only[wM];(repeat first|rw[if_pos trivial]|rw[if_pos rfl]|rw[if_neg o_]))),(by intro t h1;((try simp only[wL]);(repeat first|rw[if_pos trivial]|rw[if_pos rfl]|rw[if_neg o_])))⟩<;>first|(simp -implicitDefEqProofs only[wL,wM,wN,wX,seval,Option.some.injEq]<;>exact wt_)|rfl|exact⟨_,rfl⟩) ?_;intro m s hnx ⟨g1,g2,g3,g7,g8,g9,g10,g11,k5_0,k5_1,k5_2,k5_3,k5_4⟩;obtain ⟨v,es,ho,hG,hlo,hE⟩:=k5_2;have oxb:s.H xb=some (.own 4 [x.V] false):=by rw[k5_3 xb hx1 hne];exact hxb
 have hzk:=w1_ m;have hel:es.length=m:=by have:=hE.len;simp only[List.length_map,List.length_take]at this;omega
 have hab2:gid v≠some ab:=λe=>by have:=hlo _ e;omega
 have hxb2:gid v≠some xb:=λe=>by have:=hlo _ e;omega
 by_cases hk:m<a.parts.length/\m<6
 . obtain ⟨hk1,hk6⟩:=hk;have hgk:a.parts[m]?=some a.parts[m]:=ge_ hk1;have htk:a.parts.take (m+1)=a.parts.take m++[a.parts[m]]:=(by rw[List.take_add_one,hgk];rfl);have hfit:=hs _ (List.getElem_mem hk1);generalize a.parts[m]=y at *;have hcs:=xS (x:=y.sym) hfit.1;have htx:=jd (s:=y.code) (n:=60) hfit.2 o_;repeat' with_reducible first|refine s_ ?_|simp -implicitDefEqProofs only[wZZ,seval,g1,g2,g3,g7,g8,g9,g10,g11,f1,f7,f9,f10,oxb,ho,hzk,hel,qj hab2,qj hxb2]|(first|apply qa|apply qA|apply qB)<;>intro h h_<;>(try simp only[wD,reduceCtorEq]at h_)<;>(try exact wb_)<;>(try simp only[h])|refine t_ ?_|apply zq rfl (hG.mono (Nat.le_refl _) (λid h1 h2=>by(try simp only[wM]);(repeat rw[if_neg o_])));(focus(first|exact qY.sl|exact qY.asl));(focus(simp only[wZ,hel];omega));(focus(unfold maxLen;simp only[wZ,hel];omega))|refine cq1 hcs qd ?_|refine cq2 htx qd qd ?_|apply Xl;exact wu_;exact wu_;(focus((try simp -implicitDefEqProofs only[wE,Nat.reduceAdd]);rfl))|simp -implicitDefEqProofs (disch:=omega) only[w64,if_neg]
   refine⟨wg_,m+1,o_,trivial,trivial,trivial,trivial,trivial,trivial,trivial,rfl,o_,o_,⟨_,_,⟨?_,Gr.tok (id:=s.next+17+15+12) (fin:=m+1) (es:=es++[(qa8 y).V]) ?_ ?_,?_,?_⟩⟩,λj h1 h2=>?_,λt h1=>?_⟩
   . ((try simp only[wM]);(repeat first|rw[if_pos trivial]|rw[if_pos rfl]|rw[if_neg o_]))<;>rfl
   . ((try simp only[wM]);(repeat first|rw[if_pos trivial]|rw[if_pos rfl]|rw[if_neg o_]))
   . ((try simp only[wN])<;>omega)
   . intro j h;cases h;omega
   . rw[htk,List.map_append,List.map_append];exact hE.snoc qd
   . ((try simp only[wM]);(repeat first|rw[if_pos trivial]|rw[if_pos rfl]|rw[if_neg o_]));rw[qj (λe=>by have:=hlo _ e;omega)];((try simp only[wM]);(repeat first|rw[if_pos trivial]|rw[if_pos rfl]|rw[if_neg o_]));exact k5_3 j h1 h2
   . ((try simp only[wL]);(repeat first|rw[if_pos trivial]|rw[if_pos rfl]|rw[if_neg o_]));exact k5_4 t h1
 . have e:a.parts.take 6=a.parts.take m:=by
    by_cases h:m=6
    . rw[h]
    . rw[List.take_of_length_le o_,List.take_of_length_le o_]
   rw[<- e]at hE;repeat' with_reducible first|refine s_ ?_|simp -implicitDefEqProofs only[wZZ,seval,g1,g2,g3,g7,g8,g9,g10,g11,f1,f7,f9,f10,oxb]|(first|apply qa|apply qA|apply qB)<;>intro h h_<;>(try simp only[wD,reduceCtorEq]at h_)<;>(try exact wb_)<;>(try simp only[h])|refine t_ ?_
   all_goals refine hQ _ v es ⟨by(simp only[wM];(repeat first|rw[if_pos trivial]|rw[if_pos rfl]|rw[if_neg o_]));exact ho,hG.mono wg_ (λj h1 h2=>mm_),hlo,hE⟩ (λj h1 h2=>by(simp only[wM];(repeat first|rw[if_pos trivial]|rw[if_pos rfl]|rw[if_neg o_]));exact k5_3 j h1 h2) (λt h1=>by((try simp only[wL]);(repeat first|rw[if_pos trivial]|rw[if_pos rfl]|rw[if_neg o_]));exact k5_4 t h1) wg_

theorem qmv{s0:St}{x:Source}{r:Rule}{xb i rb:Nat}{p0 p2:V}{Q:Exit->St->Prop}(f1:s0.f 1=.ptr xb 0 0)(f7:s0.f 7=vi i)(f8:s0.f 8=.ptr rb 0 0)(hxb:s0.H xb=some (.own 4 [x.V] false))
(hrb:s0.H rb=some (.own 3 [.agg [p0,.sl 6 true [],p2]] false))(hne:xb≠rb)(hx1:xb<s0.next)(hr1:rb<s0.next)(hr:x.rules[i]?=some r)(hf:r.Fits)
(hQ:∀s' v es,Fg s' rb 3 s0.next 6 (λv=>.agg [p0,v,p2]) v es (((r.alts.take 5).map qbL).map Alt.V)->(∀j,j<s0.next->j≠rb->s'.H j=s0.H j)->(∀t,t<9->s'.f t=s0.f t)->s0.next<=s'.next->Q .normal s'):ewp Tryz.prog qgX Q s0:=by
 have hl:=hf.2.1;repeat' with_reducible first|refine s_ ?_|simp -implicitDefEqProofs only[wZZ,seval,f1,f7,f8]
 refine qb ?nx4 (λ(k:Nat) s=>s.f 1=?v4_1/\s.f 2=?v4_2/\s.f 3=?v4_3/\s.f 7=?v4_7/\s.f 8=?v4_8/\s.f 9=vi k/\(k<=r.alts.length)/\(k<=5)/\((∃v es,Fg s rb 3 s0.next 6 (λv=>.agg [p0,v,p2]) v es (((r.alts.take k).map qbL).map Alt.V)))/\((∀j,j<s0.next->j≠rb->s.H j=s0.H j))/\((∀t,t<9->s.f t=s0.f t))) (λk=>r.alts.length - k) (0) wj_ (by refine⟨?_,?_,?_,?_,?_,?_,wo_,wo_,(by exact⟨_,[],⟨by(simp only[wM];(repeat first|rw[if_pos trivial]|rw[if_pos rfl]|rw[if_neg o_]));exact hrb,Gr.nil,(λj h=>(by cases h)),.nil⟩⟩),(by intro j h1 h2;(simp only[wM];(repeat first|rw[if_pos trivial]|rw[if_pos rfl]|rw[if_neg o_]))),(by intro t h1;((try simp only[wL]);(repeat first|rw[if_pos trivial]|rw[if_pos rfl]|rw[if_neg o_])))⟩<;>first|(simp -implicitDefEqProofs only[wL,wM,wN,wX,seval,Option.some.injEq]<;>exact wt_)|rfl|exact⟨_,rfl⟩) ?_;intro k s hnx ⟨g1,g2,g3,g7,g8,g9,k4_0,k4_1,k4_2,k4_3,k4_4⟩;obtain ⟨v,es,ho,hG,hlo,hE⟩:=k4_2;have oxb:s.H xb=some (.own 4 [x.V] false):=by rw[k4_3 xb hx1 hne];exact hxb
 have hzk:=w1_ k;have hel:es.length=k:=by have:=hE.len;simp only[List.length_map,List.length_take]at this;omega
 by_cases hk:k<r.alts.length/\k<5
 . obtain ⟨hk1,hk6⟩:=hk;have hgk:r.alts[k]?=some r.alts[k]:=ge_ hk1;have htk:r.alts.take (k+1)=r.alts.take k++[r.alts[k]]:=(by rw[List.take_add_one,hgk];rfl);have hfit:=hf.2.2 _ (List.getElem_mem hk1);generalize r.alts[k]=y at *;have hcs:=xS (x:=y.prec) hfit.2.2;have T:= @qj5
   show ewp _ (.seq qwS (.seq (.block 7 (.seq (.reg qtV) (.seq qgv (.reg qrE)))) (.reg qww))) _ _;generalize qgv=E52 at T ⊢;repeat' with_reducible first|refine s_ ?_|simp -implicitDefEqProofs only[wZZ,seval,g1,g2,g3,g7,g8,g9,f1,f7,f8,oxb,ho,hzk,hel]|(first|apply qa|apply qA|apply qB)<;>intro h h_<;>(try simp only[wD,reduceCtorEq]at h_)<;>(try exact wb_)<;>(try simp only[h])|refine t_ ?_|(refine yw (v:=y.prec.V) wu_ ?_)|refine cq1 hcs qd ?_
   refine T (x:=x) (r:=r) (a:=y) (xb:=xb) (i:=i) (k:=k) (ab:=s.next+13+22) (by(simp -implicitDefEqProofs only[wL,seval,g1,f1])) (by(simp -implicitDefEqProofs only[wL,seval,g7,f7])) (by(simp -implicitDefEqProofs only[wL,seval,g9])) (by(simp -implicitDefEqProofs only[wL,seval])) (by((try simp only[wM]);(repeat first|rw[if_pos trivial]|rw[if_pos rfl]|rw[if_neg o_]));exact oxb) hh_ o_ wg_ wg_ hr hgk hfit.1 hfit.2.1 (λs2 v2 es2 F2 h1 h2 h3=>?_);obtain ⟨o2,G2,lo2,E2⟩:=F2;(try simp only[wN]at h3);(try simp only[wN]at h1);have r2:∀t,t<10->s2.f t=s.f t:=λt ht=>by rw[h2 t o_];((try simp only[wL]);(repeat first|rw[if_pos trivial]|rw[if_pos rfl]|rw[if_neg o_]))
   have q8:=(r2 8 o_).trans (g8.trans f8);have q9:=(r2 9 o_).trans g9;have q10:s2.f 10=.ptr (s.next+13+22) 0 0:=(by rw[h2 10 o_];((try simp only[wL]);(repeat first|rw[if_pos trivial]|rw[if_pos rfl]|rw[if_neg o_])));have qrb:s2.H rb=some (.own 3 [.agg [p0,v,p2]] false):=(by rw[h1 rb o_ o_];((try simp only[wM]);(repeat first|rw[if_pos trivial]|rw[if_pos rfl]|rw[if_neg o_]));exact ho);have qG:=hG.mono (H':=s2.H) (next':=s2.next) o_ (λj hj hl=>by rw[h1 j o_ o_];((try simp only[wM]);(repeat first|rw[if_pos trivial]|rw[if_pos rfl]|rw[if_neg o_])));have qrb2:gid v≠some rb:=λe=>by have:=hlo _ e;omega
   have qab2:gid v≠some (s.next+13+22):=λe=>by
    rcases hG with rfl|⟨id,fin,rfl,_,hid⟩
    . cases e
    . have:=Option.some.inj e;omega
   repeat' with_reducible first|refine s_ ?_|simp -implicitDefEqProofs only[wZZ,seval,g1,g2,g3,g7,g8,g9,q8,q9,q10,qrb,o2,hzk,hel,qj qrb2,qj qab2]|apply zq rfl (qG.mono (Nat.le_refl _) (λid h1 h2=>by(try simp only[wM]);(repeat rw[if_neg o_])));(focus(first|exact qY.sl|exact qY.asl));(focus(simp only[wZ,hel];omega));(focus(unfold maxLen;simp only[wZ,hel];omega))|refine t_ ?_|simp -implicitDefEqProofs (disch:=omega) only[w64,if_neg]
   refine⟨wg_,k+1,o_,(r2 1 o_).trans (g1.trans f1),(r2 2 o_).trans g2,(r2 3 o_).trans g3,(r2 7 o_).trans (g7.trans f7),trivial,rfl,o_,o_,⟨_,_,⟨?_,Gr.tok (id:=s2.next+4) (fin:=k+1) (es:=es++[.agg [v2,.str (Zo y.prec.name 25),.bool y.prec.lit,vi y.prec.num,vi y.prec.at_,vi y.at_]]) ?_ ?_,?_,?_⟩⟩,λj j1 j2=>?_,λt j1=>?_⟩
   . ((try simp only[wM]);(repeat first|rw[if_pos trivial]|rw[if_pos rfl]|rw[if_neg o_]))<;>rfl
   . ((try simp only[wM]);(repeat first|rw[if_pos trivial]|rw[if_pos rfl]|rw[if_neg o_]))
   . ((try simp only[wN])<;>omega)
   . intro j h;cases h;omega
   . rw[htk,List.map_append,List.map_append];exact hE.snoc (ErL.agg (.cons (Gr.erL G2 E2) (.cons (.str _) (.cons (.bool _) (.cons (.int _ _) (.cons (.int _ _) (.cons (.int _ _) .nil)))))))
   . ((try simp only[wM]);(repeat first|rw[if_pos trivial]|rw[if_pos rfl]|rw[if_neg o_]));rw[qj (λe=>by have:=hlo _ e;omega),h1 j o_ o_];((try simp only[wM]);(repeat first|rw[if_pos trivial]|rw[if_pos rfl]|rw[if_neg o_]));exact k4_3 j j1 j2
   . ((try simp only[wL]);(repeat first|rw[if_pos trivial]|rw[if_pos rfl]|rw[if_neg o_]));rw[r2 t o_];exact k4_4 t j1
 . have e:r.alts.take 5=r.alts.take k:=by
    by_cases h:k=5
    . rw[h]
    . rw[List.take_of_length_le o_,List.take_of_length_le o_]
   rw[<- e]at hE;repeat' with_reducible first|refine s_ ?_|simp -implicitDefEqProofs only[wZZ,seval,g1,g2,g3,g7,g8,g9,f1,f7,f8,oxb]|(first|apply qa|apply qA|apply qB)<;>intro h h_<;>(try simp only[wD,reduceCtorEq]at h_)<;>(try exact wb_)<;>(try simp only[h])|refine t_ ?_
   all_goals refine hQ _ v es ⟨by(simp only[wM];(repeat first|rw[if_pos trivial]|rw[if_pos rfl]|rw[if_neg o_]));exact ho,hG.mono wg_ (λj h1 h2=>mm_),hlo,hE⟩ (λj h1 h2=>by(simp only[wM];(repeat first|rw[if_pos trivial]|rw[if_pos rfl]|rw[if_neg o_]));exact k4_3 j h1 h2) (λt h1=>by((try simp only[wL]);(repeat first|rw[if_pos trivial]|rw[if_pos rfl]|rw[if_neg o_]));exact k4_4 t h1) wg_

theorem qj2{s0:St}{x:Source}{xb sb:Nat}{pA pB pD:V}{Q:Exit->St->Prop}(f1:s0.f 1=.ptr xb 0 0)(f3:s0.f 3=.ptr sb 0 0)(hxb:s0.H xb=some (.own 4 [x.V] false))
(hsb:s0.H sb=some (.own 4 [.agg [pA,pB,.sl 3 true [],pD]] false))(hne:xb≠sb)(hx1:xb<s0.next)(hs1:sb<s0.next)(hf:x.Fits)
(hQ:∀s' v es,Fg s' sb 4 s0.next 3 (λv=>.agg [pA,pB,v,pD]) v es (((x.rules.take 6).map YJ).map Rule.V)->(∀j,j<s0.next->j≠sb->s'.H j=s0.H j)->(∀t,t<4->s'.f t=s0.f t)->s0.next<=s'.next->Q .normal s'):ewp Tryz.prog qhY Q s0:=by
 have hl:=hf.2.2.2.2.1;repeat' with_reducible first|refine s_ ?_|simp -implicitDefEqProofs only[wZZ,seval,f1,f3]
 refine qb ?nx3 (λ(i:Nat) s=>s.f 1=?v3_1/\s.f 2=?v3_2/\s.f 3=?v3_3/\s.f 7=vi i/\(i<=x.rules.length)/\(i<=6)/\((∃v es,Fg s sb 4 s0.next 3 (λv=>.agg [pA,pB,v,pD]) v es (((x.rules.take i).map YJ).map Rule.V)))/\((∀j,j<s0.next->j≠sb->s.H j=s0.H j))/\((∀t,t<4->s.f t=s0.f t))) (λi=>x.rules.length - i) (0) wj_ (by refine⟨?_,?_,?_,?_,wo_,wo_,(by exact⟨_,[],⟨by(simp only[wM];(repeat first|rw[if_pos trivial]|rw[if_pos rfl]|rw[if_neg o_]));exact hsb,Gr.nil,(λj h=>(by cases h)),.nil⟩⟩),(by intro j h1 h2;(simp only[wM];(repeat first|rw[if_pos trivial]|rw[if_pos rfl]|rw[if_neg o_]))),(by intro t h1;((try simp only[wL]);(repeat first|rw[if_pos trivial]|rw[if_pos rfl]|rw[if_neg o_])))⟩<;>first|(simp -implicitDefEqProofs only[wL,wM,wN,wX,seval,Option.some.injEq]<;>exact wt_)|rfl|exact⟨_,rfl⟩) ?_;intro i s hnx ⟨g1,g2,g3,g7,k3_0,k3_1,k3_2,k3_3,k3_4⟩;obtain ⟨v,es,ho,hG,hlo,hE⟩:=k3_2;have oxb:s.H xb=some (.own 4 [x.V] false):=by rw[k3_3 xb hx1 hne];exact hxb
 have hzk:=w1_ i;have hel:es.length=i:=by have:=hE.len;simp only[List.length_map,List.length_take]at this;omega
 by_cases hk:i<x.rules.length/\i<6
 . obtain ⟨hk1,hk6⟩:=hk;have hgk:x.rules[i]?=some x.rules[i]:=ge_ hk1;have htk:x.rules.take (i+1)=x.rules.take i++[x.rules[i]]:=(by rw[List.take_add_one,hgk];rfl);have hfit:=hf.2.2.2.2.2 _ (List.getElem_mem hk1);generalize x.rules[i]=y at *;have htx:=jd (s:=y.left) (n:=25) hfit.1 o_;have T:= @qmv
   show ewp _ (.seq qwc (.seq (.block 5 (.seq (.reg qu0) (.seq qgX (.reg qrY)))) (.reg qvz))) _ _;generalize qgX=E52 at T ⊢;repeat' with_reducible first|refine s_ ?_|simp -implicitDefEqProofs only[wZZ,seval,g1,g2,g3,g7,f1,f3,oxb,ho,hzk,hel]|(first|apply qa|apply qA|apply qB)<;>intro h h_<;>(try simp only[wD,reduceCtorEq]at h_)<;>(try exact wb_)<;>(try simp only[h])|refine t_ ?_|refine cq2 htx qd qd ?_
   refine T (x:=x) (r:=y) (xb:=xb) (i:=i) (rb:=s.next+9+14) (by(simp -implicitDefEqProofs only[wL,seval,g1,f1])) (by(simp -implicitDefEqProofs only[wL,seval,g7])) (by(simp -implicitDefEqProofs only[wL,seval])) (by((try simp only[wM]);(repeat first|rw[if_pos trivial]|rw[if_pos rfl]|rw[if_neg o_]));exact oxb) hh_ o_ wg_ wg_ hgk hfit (λs2 v2 es2 F2 h1 h2 h3=>?_);obtain ⟨o2,G2,lo2,E2⟩:=F2;(try simp only[wN]at h3);(try simp only[wN]at h1);have r2:∀t,t<8->s2.f t=s.f t:=λt ht=>by rw[h2 t o_];((try simp only[wL]);(repeat first|rw[if_pos trivial]|rw[if_pos rfl]|rw[if_neg o_]))
   have q3:=(r2 3 o_).trans (g3.trans f3);have q7:=(r2 7 o_).trans g7;have q8:s2.f 8=.ptr (s.next+9+14) 0 0:=(by rw[h2 8 o_];((try simp only[wL]);(repeat first|rw[if_pos trivial]|rw[if_pos rfl]|rw[if_neg o_])));have qsb:s2.H sb=some (.own 4 [.agg [pA,pB,v,pD]] false):=(by rw[h1 sb o_ o_];((try simp only[wM]);(repeat first|rw[if_pos trivial]|rw[if_pos rfl]|rw[if_neg o_]));exact ho);have qG:=hG.mono (H':=s2.H) (next':=s2.next) o_ (λj hj hl=>by rw[h1 j o_ o_];((try simp only[wM]);(repeat first|rw[if_pos trivial]|rw[if_pos rfl]|rw[if_neg o_])));have qsb2:gid v≠some sb:=λe=>by have:=hlo _ e;omega
   have qab2:gid v≠some (s.next+9+14):=λe=>by
    rcases hG with rfl|⟨id,fin,rfl,_,hid⟩
    . cases e
    . have:=Option.some.inj e;omega
   repeat' with_reducible first|refine s_ ?_|simp -implicitDefEqProofs only[wZZ,seval,g1,g2,g3,g7,q3,q7,q8,qsb,o2,hzk,hel,qj qsb2,qj qab2]|apply zq rfl (qG.mono (Nat.le_refl _) (λid h1 h2=>by(try simp only[wM]);(repeat rw[if_neg o_])));(focus(first|exact qY.sl|exact qY.asl));(focus(simp only[wZ,hel];omega));(focus(unfold maxLen;simp only[wZ,hel];omega))|refine t_ ?_|simp -implicitDefEqProofs (disch:=omega) only[w64,if_neg]
   refine⟨wg_,i+1,o_,(r2 1 o_).trans (g1.trans f1),(r2 2 o_).trans g2,trivial,rfl,o_,o_,⟨_,_,⟨?_,Gr.tok (id:=s2.next+4) (fin:=i+1) (es:=es++[.agg [.str (Zo y.left 25),v2,vi y.at_]]) ?_ ?_,?_,?_⟩⟩,λj j1 j2=>?_,λt j1=>?_⟩
   . ((try simp only[wM]);(repeat first|rw[if_pos trivial]|rw[if_pos rfl]|rw[if_neg o_]))<;>rfl
   . ((try simp only[wM]);(repeat first|rw[if_pos trivial]|rw[if_pos rfl]|rw[if_neg o_]))
   . ((try simp only[wN])<;>omega)
   . intro j h;cases h;omega
   . rw[htk,List.map_append,List.map_append];exact hE.snoc (ErL.agg (.cons (.str _) (.cons (Gr.erL G2 E2) (.cons (.int _ _) .nil))))
   . ((try simp only[wM]);(repeat first|rw[if_pos trivial]|rw[if_pos rfl]|rw[if_neg o_]));rw[qj (λe=>by have:=hlo _ e;omega),h1 j o_ o_];((try simp only[wM]);(repeat first|rw[if_pos trivial]|rw[if_pos rfl]|rw[if_neg o_]));exact k3_3 j j1 j2
   . ((try simp only[wL]);(repeat first|rw[if_pos trivial]|rw[if_pos rfl]|rw[if_neg o_]));rw[r2 t o_];exact k3_4 t j1
 . have e:x.rules.take 6=x.rules.take i:=by
    by_cases h:i=6
    . rw[h]
    . rw[List.take_of_length_le o_,List.take_of_length_le o_]
   rw[<- e]at hE;repeat' with_reducible first|refine s_ ?_|simp -implicitDefEqProofs only[wZZ,seval,g1,g2,g3,g7,f1,f3,oxb]|(first|apply qa|apply qA|apply qB)<;>intro h h_<;>(try simp only[wD,reduceCtorEq]at h_)<;>(try exact wb_)<;>(try simp only[h])|refine t_ ?_
   all_goals refine hQ _ v es ⟨by(simp only[wM];(repeat first|rw[if_pos trivial]|rw[if_pos rfl]|rw[if_neg o_]));exact ho,hG.mono wg_ (λj h1 h2=>mm_),hlo,hE⟩ (λj h1 h2=>by(simp only[wM];(repeat first|rw[if_pos trivial]|rw[if_pos rfl]|rw[if_neg o_]));exact k3_3 j h1 h2) (λt h1=>by((try simp only[wL]);(repeat first|rw[if_pos trivial]|rw[if_pos rfl]|rw[if_neg o_]));exact k3_4 t h1) wg_
theorem qkB{s0:St}{x:Source}{xb sb:Nat}{pA pC pD:V}{Q:Exit->St->Prop}(f1:s0.f 1=.ptr xb 0 0)(f3:s0.f 3=.ptr sb 0 0)(hxb:s0.H xb=some (.own 4 [x.V] false))
(hsb:s0.H sb=some (.own 4 [.agg [pA,.sl 4 true [],pC,pD]] false))(hne:xb≠sb)(hx1:xb<s0.next)(hs1:sb<s0.next)(hf:x.Fits)
(hQ:∀s' v es,Fg s' sb 4 s0.next 4 (λv=>.agg [pA,v,pC,pD]) v es (((x.decls.take 8).map Yr).map Decl.V)->(∀j,j<s0.next->j≠sb->s'.H j=s0.H j)->(∀t,t<4->s'.f t=s0.f t)->s0.next<=s'.next->Q .normal s'):ewp Tryz.prog qi4 Q s0:=by
 have hl:=hf.2.2.1;repeat' with_reducible first|refine s_ ?_|simp -implicitDefEqProofs only[wZZ,seval,f1,f3]
 refine qb ?nx1 (λ(i:Nat) s=>s.f 1=?v1_1/\s.f 2=?v1_2/\s.f 3=?v1_3/\s.f 4=vi i/\(i<=x.decls.length)/\(i<=8)/\((∃v es,Fg s sb 4 s0.next 4 (λv=>.agg [pA,v,pC,pD]) v es (((x.decls.take i).map Yr).map Decl.V)))/\((∀j,j<s0.next->j≠sb->s.H j=s0.H j))/\((∀t,t<4->s.f t=s0.f t))) (λi=>x.decls.length - i) (0) wj_ (by refine⟨?_,?_,?_,?_,wo_,wo_,(by exact⟨_,[],⟨by(simp only[wM];(repeat first|rw[if_pos trivial]|rw[if_pos rfl]|rw[if_neg o_]));exact hsb,Gr.nil,(λj h=>(by cases h)),.nil⟩⟩),(by intro j h1 h2;(simp only[wM];(repeat first|rw[if_pos trivial]|rw[if_pos rfl]|rw[if_neg o_]))),(by intro t h1;((try simp only[wL]);(repeat first|rw[if_pos trivial]|rw[if_pos rfl]|rw[if_neg o_])))⟩<;>first|(simp -implicitDefEqProofs only[wL,wM,wN,wX,seval,Option.some.injEq]<;>exact wt_)|rfl|exact⟨_,rfl⟩) ?_;intro i s hnx ⟨g1,g2,g3,g4,k1_0,k1_1,k1_2,k1_3,k1_4⟩;obtain ⟨v,es,ho,hG,hlo,hE⟩:=k1_2;have oxb:s.H xb=some (.own 4 [x.V] false):=by rw[k1_3 xb hx1 hne];exact hxb
 have hzk:=w1_ i;have hel:es.length=i:=by have:=hE.len;simp only[List.length_map,List.length_take]at this;omega
 by_cases hk:i<x.decls.length/\i<8
 . obtain ⟨hk1,hk6⟩:=hk;have hgk:x.decls[i]?=some x.decls[i]:=ge_ hk1;have htk:x.decls.take (i+1)=x.decls.take i++[x.decls[i]]:=(by rw[List.take_add_one,hgk];rfl);have hfit:=hf.2.2.2.1 _ (List.getElem_mem hk1);generalize x.decls[i]=y at *;have htx:=jd (s:=y.tag) (n:=25) hfit.1 o_;have T:= @qoW
   show ewp _ (.seq qxP (.seq (.block 1 (.seq (.reg qyf) (.seq qji (.reg qw2)))) (.reg qtZ))) _ _;generalize qji=E52 at T ⊢;repeat' with_reducible first|refine s_ ?_|simp -implicitDefEqProofs only[wZZ,seval,g1,g2,g3,g4,f1,f3,oxb,ho,hzk,hel]|(first|apply qa|apply qA|apply qB)<;>intro h h_<;>(try simp only[wD,reduceCtorEq]at h_)<;>(try exact wb_)<;>(try simp only[h])|refine t_ ?_|refine cq2 htx qd qd ?_
   refine T (x:=x) (d:=y) (xb:=xb) (i:=i) (db:=s.next+9+20) (by(simp -implicitDefEqProofs only[wL,seval,g1,f1])) (by(simp -implicitDefEqProofs only[wL,seval,g4])) (by(simp -implicitDefEqProofs only[wL,seval])) (by((try simp only[wM]);(repeat first|rw[if_pos trivial]|rw[if_pos rfl]|rw[if_neg o_]));exact oxb) hh_ o_ wg_ wg_ hgk hfit.2.1 hfit.2.2 (λs2 v2 es2 F2 h1 h2 h3=>?_);obtain ⟨o2,G2,lo2,E2⟩:=F2;(try simp only[wN]at h3);(try simp only[wN]at h1);have r2:∀t,t<5->s2.f t=s.f t:=λt ht=>by rw[h2 t o_ o_];((try simp only[wL]);(repeat first|rw[if_pos trivial]|rw[if_pos rfl]|rw[if_neg o_]))
   have q3:=(r2 3 o_).trans (g3.trans f3);have q4:=(r2 4 o_).trans g4;have q5:s2.f 5=.ptr (s.next+9+20) 0 0:=(by rw[h2 5 o_ o_];((try simp only[wL]);(repeat first|rw[if_pos trivial]|rw[if_pos rfl]|rw[if_neg o_])));have qsb:s2.H sb=some (.own 4 [.agg [pA,v,pC,pD]] false):=(by rw[h1 sb o_ o_];((try simp only[wM]);(repeat first|rw[if_pos trivial]|rw[if_pos rfl]|rw[if_neg o_]));exact ho);have qG:=hG.mono (H':=s2.H) (next':=s2.next) o_ (λj hj hl=>by rw[h1 j o_ o_];((try simp only[wM]);(repeat first|rw[if_pos trivial]|rw[if_pos rfl]|rw[if_neg o_])));have qsb2:gid v≠some sb:=λe=>by have:=hlo _ e;omega
   have qab2:gid v≠some (s.next+9+20):=λe=>by
    rcases hG with rfl|⟨id,fin,rfl,_,hid⟩
    . cases e
    . have:=Option.some.inj e;omega
   repeat' with_reducible first|refine s_ ?_|simp -implicitDefEqProofs only[wZZ,seval,g1,g2,g3,g4,q3,q4,q5,qsb,o2,hzk,hel,qj qsb2,qj qab2]|apply zq rfl (qG.mono (Nat.le_refl _) (λid h1 h2=>by(try simp only[wM]);(repeat rw[if_neg o_])));(focus(first|exact qY.sl|exact qY.asl));(focus(simp only[wZ,hel];omega));(focus(unfold maxLen;simp only[wZ,hel];omega))|refine t_ ?_|simp -implicitDefEqProofs (disch:=omega) only[w64,if_neg]
   refine⟨wg_,i+1,o_,(r2 1 o_).trans (g1.trans f1),(r2 2 o_).trans g2,trivial,rfl,o_,o_,⟨_,_,⟨?_,Gr.tok (id:=s2.next+4) (fin:=i+1) (es:=es++[.agg [vi y.kind,.str (Zo y.tag 25),v2,vi y.at_]]) ?_ ?_,?_,?_⟩⟩,λj j1 j2=>?_,λt j1=>?_⟩
   . ((try simp only[wM]);(repeat first|rw[if_pos trivial]|rw[if_pos rfl]|rw[if_neg o_]))<;>rfl
   . ((try simp only[wM]);(repeat first|rw[if_pos trivial]|rw[if_pos rfl]|rw[if_neg o_]))
   . ((try simp only[wN])<;>omega)
   . intro j h;cases h;omega
   . rw[htk,List.map_append,List.map_append];exact hE.snoc (ErL.agg (.cons (.int _ _) (.cons (.str _) (.cons (Gr.erL G2 E2) (.cons (.int _ _) .nil)))))
   . ((try simp only[wM]);(repeat first|rw[if_pos trivial]|rw[if_pos rfl]|rw[if_neg o_]));rw[qj (λe=>by have:=hlo _ e;omega),h1 j o_ o_];((try simp only[wM]);(repeat first|rw[if_pos trivial]|rw[if_pos rfl]|rw[if_neg o_]));exact k1_3 j j1 j2
   . ((try simp only[wL]);(repeat first|rw[if_pos trivial]|rw[if_pos rfl]|rw[if_neg o_]));rw[r2 t o_];exact k1_4 t j1
 . have e:x.decls.take 8=x.decls.take i:=by
    by_cases h:i=8
    . rw[h]
    . rw[List.take_of_length_le o_,List.take_of_length_le o_]
   rw[<- e]at hE;repeat' with_reducible first|refine s_ ?_|simp -implicitDefEqProofs only[wZZ,seval,g1,g2,g3,g4,f1,f3,oxb]|(first|apply qa|apply qA|apply qB)<;>intro h h_<;>(try simp only[wD,reduceCtorEq]at h_)<;>(try exact wb_)<;>(try simp only[h])|refine t_ ?_
   all_goals refine hQ _ v es ⟨by(simp only[wM];(repeat first|rw[if_pos trivial]|rw[if_pos rfl]|rw[if_neg o_]));exact ho,hG.mono wg_ (λj h1 h2=>mm_),hlo,hE⟩ (λj h1 h2=>by(simp only[wM];(repeat first|rw[if_pos trivial]|rw[if_pos rfl]|rw[if_neg o_]));exact k1_3 j h1 h2) (λt h1=>by((try simp only[wL]);(repeat first|rw[if_pos trivial]|rw[if_pos rfl]|rw[if_neg o_]));exact k1_4 t h1) wg_

theorem qaI{x:Source}(hf:x.Fits):Pure Tryz.prog 11 [x.V] ((qgn x).V):=by
 refine pure_intro Tryz.func11 nm_ qvR (by show 1<=208;decide) ?_
 show ewp _ qxg _ _;have t1:=jd (s:=x.pro) (n:=40) hf.1 o_;have t2:=jd (s:=x.tail) (n:=40) hf.2.1 o_;have T1:= @qkB;have T2:= @qj2
 show ewp _ (.seq (.reg qxM) (.seq (.reg qx2) (.seq qi4 (.seq qhY (.seq (.reg qtK) .ret))))) _ _;generalize qi4=E1 at T1 ⊢;generalize qhY=E2 at T2 ⊢;repeat' with_reducible first|refine s_ ?_|simp -implicitDefEqProofs only[wZZ,seval]|refine cq2 t1 qd qd ?_|refine cq2 t2 qd qd ?_|refine t_ ?_
 refine T1 (x:=x) (xb:=0) (sb:=9) (by(simp -implicitDefEqProofs only[wL,seval])) (by(simp -implicitDefEqProofs only[wL,seval])) hh_ hh_ o_ wg_ wg_ hf (λs v es F h1 h2 h3=>?_);obtain ⟨o,G,lo,hE⟩:=F;(try simp only[wN]at h3);(try simp only[wN]at h1);have q1:s.f 1=.ptr 0 0 0:=by rw[h2 1 o_];((try simp only[wL]);(repeat first|rw[if_pos trivial]|rw[if_pos rfl]|rw[if_neg o_]))
 have q2:s.f 2=.ptr 1 0 0:=by rw[h2 2 o_];((try simp only[wL]);(repeat first|rw[if_pos trivial]|rw[if_pos rfl]|rw[if_neg o_]))
 have q3:s.f 3=.ptr 9 0 0:=by rw[h2 3 o_];((try simp only[wL]);(repeat first|rw[if_pos trivial]|rw[if_pos rfl]|rw[if_neg o_]))
 have p0:s.H 0=some (.own 4 [x.V] false):=by rw[h1 0 o_ o_];((try simp only[wM]);(repeat first|rw[if_pos trivial]|rw[if_pos rfl]|rw[if_neg o_]))
 have p1:s.H 1=some (.own 4 [.agg [.str [],.sl 4 true [],.sl 3 true [],.str []]] false):=by rw[h1 1 o_ o_];((try simp only[wM]);(repeat first|rw[if_pos trivial]|rw[if_pos rfl]|rw[if_neg o_]))
 refine qjR (yH ?_);refine T2 (x:=x) (xb:=0) (sb:=9) q1 q3 p0 o o_ o_ o_ hf (λs2 v2 es2 F2 k1 k2 k3=>?_);obtain ⟨o2,G2,lo2,hE2⟩:=F2;have r2:=(k2 2 o_).trans q2;have r3:=(k2 3 o_).trans q3;have u1:=(k1 1 o_ o_).trans p1;repeat' with_reducible first|refine s_ ?_|simp -implicitDefEqProofs only[wZZ,seval,r2,r3,o2,u1]|refine t_ ?_
 refine quW (t:=2) (v:= .agg [.str (Zo x.pro 40),v,v2,.str (Zo x.tail 40)]) rfl (Or.inr rfl) (by((try simp only[wL]);(repeat first|rw[if_pos trivial]|rw[if_pos rfl]|rw[if_neg o_]));exact r2) (by((try simp only[wM]);(repeat first|rw[if_pos trivial]|rw[if_pos rfl]|rw[if_neg o_]))<;>rfl) rfl ?_;exact ErL.agg (.cons (.str _) (.cons (Gr.erL G hE.up) (.cons (Gr.erL G2 hE2.up) (.cons (.str _) .nil))))
theorem qcN{x:Sym}{n l:Bool}(h:qgg x n l=true)(hl:x.lit=true):x.name≠[]:=by unfold qgg at h;rw[if_pos hl]at h;simp only[Bool.and_eq_true,decide_eq_true_eq]at h;intro e;rw[e]at h;simp at h
theorem qgM(s:List UInt8)(n:Int):(Zo s n).length<=n.toNat:=by unfold Zo;rw[List.length_take];omega
theorem Y4{α:Type}{p:α->Bool}{l:List α}(h:l.all p=true){x:α}(hx:x∈l):p x=true:=List.all_eq_true.1 h x hx
theorem qhm(x:Source):(qgn x).Fits:=by
 have L:∀(s:List UInt8) (n:Int),n<=100->(Zo s n).length<=1099511627776:=λs n h=>by have:=qgM s n;omega
 have T:∀{α:Type} (l:List α) (n:Nat),n<=100->(l.take n).length<=1099511627776:=λl n h=>by rw[List.length_take];omega
 refine⟨L _ 40 o_,L _ 40 o_,by unfold qgn;rw[List.length_map];exact T _ 8 o_,λd hd=>?_,by unfold qgn;rw[List.length_map];exact T _ 6 o_,λr hr=>?_⟩
 . obtain ⟨d,_,rfl⟩:=List.mem_map.1 hd;refine⟨L _ 25 o_,by unfold Yr;rw[List.length_map];exact T _ 6 o_,λy hy=>?_⟩;obtain ⟨y,_,rfl⟩:=List.mem_map.1 hy;exact L _ 25 o_
 . obtain ⟨r,_,rfl⟩:=List.mem_map.1 hr;refine⟨L _ 25 o_,by unfold YJ;rw[List.length_map];exact T _ 5 o_,λa ha=>?_⟩;obtain ⟨a,_,rfl⟩:=List.mem_map.1 ha;refine⟨by unfold qbL;rw[List.length_map];exact T _ 6 o_,λw hw=>?_,L _ 25 o_⟩;obtain ⟨w,_,rfl⟩:=List.mem_map.1 hw;exact⟨L _ 25 o_,L _ 60 o_⟩
theorem qfw(x:Source)(h:Vd (qgn x)=true):Small (qgn x):=by
 unfold Vd at h;simp only[Bool.and_eq_true]at h;obtain ⟨⟨⟨_,hd⟩,hr⟩,_⟩:=h;have D:∀d∈(qgn x).decls,qoJ d=false/\∀y∈d.syms,qgg y (decide (d.kind=1)) (decide (d.kind<5))=true:=λd hm=>by have:=Y4 hd hm;unfold V7 at this;simp only[Bool.and_eq_true,Bool.not_eq_true']at this;exact⟨this.1,λy hy=>Y4 this.2 hy⟩
 have A:∀r∈(qgn x).rules,∀a∈r.alts,qgq a=true:=λr hm a ha=>by have:=Y4 hr hm;unfold qao at this;simp only[Bool.and_eq_true]at this;exact Y4 this.2 ha
 refine⟨?_,λd hm=>?_,λd hm=>?_,λd hm y hy hl=>qcN ((D d hm).2 y hy) hl,?_,λr hm=>?_,λr hm a ha=>?_,λr hm a ha w hw hl=>?_,λr hm a ha hl=>?_⟩
 . unfold qgn;rw[List.length_map,List.length_take];omega
 . obtain ⟨d,_,rfl⟩:=List.mem_map.1 hm;unfold Yr;rw[List.length_map,List.length_take];omega
 . have:=(D d hm).1;unfold qoJ at this;simp at this;omega
 . unfold qgn;rw[List.length_map,List.length_take];omega
 . obtain ⟨r,_,rfl⟩:=List.mem_map.1 hm;unfold YJ;rw[List.length_map,List.length_take];omega
 . obtain ⟨r,_,rfl⟩:=List.mem_map.1 hm;obtain ⟨a,_,rfl⟩:=List.mem_map.1 ha;unfold qbL;rw[List.length_map,List.length_take];omega
 . have:=A r hm a ha;unfold qgq at this;simp only[Bool.and_eq_true]at this;have:=Y4 this.1 hw;unfold Yt at this;split at this
   . exact qcN this hl
   . simp[hl]at this
 . have:=A r hm a ha;unfold qgq at this;simp only[Bool.and_eq_true,Bool.or_eq_true]at this;rcases this.2 with h|h
   . simp[hl]at h
   . exact qcN h hl
end Go.Proofs
