import Derived.Test.YtkcegflhobejmaaGreatDoorBCC
set_option linter.all false
set_option maxHeartbeats 4000000
set_option maxRecDepth 100000
namespace Go.Proofs
open Go.E
theorem qW{L:List Int}(hr:jq L)(hl:L.length<=1000000):Pure Tryz.prog 110 [.sl 2 false (L.map itV)] (.sl 2 false (L.map itV)):=by
 refine pure_intro Tryz.func110 nm_ qpA (by show 1<=61;decide) ?_
 show ewp _ qiv _ _;by_cases h2:L.length<2
 . repeat' with_reducible first|refine s_ ?_|simp -implicitDefEqProofs only[wZZ,seval]|apply qa<;>intro h h_<;>(try simp only[wD,reduceCtorEq]at h_)<;>(try exact wb_)<;>(try simp only[h])
   all_goals refine qz rfl (Or.inr rfl) ?_
   all_goals(try simp -implicitDefEqProofs only[wL,seval])
   all_goals refine er_ ?_
   all_goals(try(with_reducible rfl))
 . repeat' with_reducible first|refine s_ ?_|simp -implicitDefEqProofs only[wZZ,seval]|apply qa<;>intro h h_<;>(try simp only[wD,reduceCtorEq]at h_)<;>(try exact wb_)<;>(try simp only[h])
   refine qb ?nx1 (λ(k:Nat) s=>s.f 0=?v1_0/\s.f 3=vi k/\(1<=k)/\(k<=L.length)) (λk=>L.length - k) (1) wj_ (by refine⟨?_,?_,wo_,wo_⟩<;>first|(simp -implicitDefEqProofs only[wL,wM,wN,wX,seval,Option.some.injEq]<;>exact wt_)|rfl|exact⟨_,rfl⟩) ?_;intro k s hnx ⟨g0,g3,k1_0,k1_1⟩;have hz:=w1_ k;by_cases hk:k<L.length
   . have hgk:L[k]?=some L[k]:=ge_ hk;have hgj:L[k - 1]?=some L[k - 1]:=ge_ o_;have hlt:L[k - 1]<L[k]:=List.pairwise_iff_getElem.1 hr (k - 1) k o_ hk o_;have hz1:IntKind.i64.wrap ((k:Int) - 1)=((k - 1:Nat):Int):=(by rw[wrap64 o_ o_];omega);generalize L[k - 1]=y at *;generalize L[k]=x at *;have hne:decide (x=y)=false:=decide_eq_false o_;repeat' with_reducible first|refine s_ ?_|simp -implicitDefEqProofs only[wZZ,seval,g0,g3,hz,hz1]|apply qa<;>intro h h_<;>(try simp only[wD,reduceCtorEq]at h_)<;>(try exact wb_)<;>(try simp only[h])|refine t_ ?_|(refine qjV ?_;rw[hne])
     all_goals exact⟨wg_,k+1,o_,trivial,rfl,o_,o_⟩
   . repeat' with_reducible first|refine s_ ?_|simp -implicitDefEqProofs only[wZZ,seval,g0,g3,hz]|apply qa<;>intro h h_<;>(try simp only[wD,reduceCtorEq]at h_)<;>(try exact wb_)<;>(try simp only[h])
     all_goals refine qz rfl (Or.inr rfl) ?_
     all_goals(try simp -implicitDefEqProofs only[wL,seval,g0,g3])
     all_goals refine er_ ?_
     all_goals(try(with_reducible rfl))
variable {es:List Go.E.V} {ro:Bool}
theorem GrN.neZ{H:Nat->Option MObj}{base next j z z':Nat}{cs:List V}{v:V}(h:GrN H base next z' es v)(hj:H j=some (.own z cs ro))(hz:z≠z'):VS v≠some j:=by
 rcases h with ⟨_,rfl⟩|⟨_,id,rfl,h1,_⟩
 . intro e;cases e
 . intro e;cases e;rw[hj]at h1;cases h1;exact hz rfl
theorem qd9{H:Nat->Option MObj}{id n:Nat}{L:List Int}(hH:H id=some (.own 2 (L.map itV) false))(hn:n=L.length):Er true H (.msl id 2 0 n) (.sl 2 false (L.map itV)):=by subst hn;refine .msl id 2 0 _ _ false _ rfl hH (by simp) (by simp) ?_;intro i c c' h1 h2;rw[Nat.zero_add]at h1;rw[h1]at h2;cases h2;rw[List.getElem?_map,Option.map_eq_some_iff]at h1;obtain ⟨x,_,rfl⟩:=h1;exact qd
variable {x:Int}
theorem qy0{K:V->Prop}{k k':Nat}{o:Option MObj}(ho:o=some (.own 2 es ro))(e:k=k')(hv:es[k']?=some (itV x))(hk:K (itV x)):onS (ldQ o true 2 k 0) K:=by
 subst ho e;have e:ldQ (some (.own 2 es ro)) true 2 k 0=some (itV x):=by simp[ldQ,hv,jD,V.isAgg]
 rw[e];exact hk
variable {g:Grammar}
theorem qpI(hg:GOk g)(h:Qx g x): -1<=nxt g x/\nxt g x<2000/\(1000<=nxt g x->∃c:Nat,nxt g x=1000+(c:Int)/\c<g.nons.length):=by
 obtain ⟨m,d,p,hm,hd,hp,hl,hn⟩:=h.nat;have htk:=hg.tk2;have hnn:=hg.nn2;rw[hn];cases hr:p.right[d]? with
 |none=>exact⟨by simp,by simp,λh=>by simp at h⟩
 | some s=>
   rw[Option.getD_some];rcases hg.right p (List.mem_of_getElem? hp) s (List.mem_of_getElem? hr)with ⟨t,e,ht⟩|⟨c,e,hc⟩
   . exact⟨o_,o_,λh=>o_⟩
   . exact⟨o_,o_,λ_=>⟨c,e,hc⟩⟩
theorem qyX(h:Qx g x)(hpl:g.prods.length<=60):0<=x/\x<960:=by obtain ⟨h0,p,hp,_⟩:=h;have:=(List.getElem?_eq_some_iff.1 hp).1;omega
theorem Y0{l:List Int}(hg:GOk g)(hx:∀x∈l,Qx g x)(hr:jq l)(hk0:∀(m:Nat) p,g.prods[m]?=some p->16 *(m:Int)∈l->p.left=0)(h1000:∀x,nxt g x≠1000):Pure Tryz.prog 72 [g.V,.sl 2 false (l.map itV)] (.sl 2 false ((qK g l).map itV)):=by
 refine pure_intro Tryz.func72 nm_ qtv (by show 2<=78;decide) ?_
 show ewp _ qtX _ _;have hpl:=hg.pl2;have hnn:=hg.nn2;have htk:=hg.tk2;have hrl:=hg.rlen;have hlb:∀x∈l,0<=x/\x<960:=λx h=>qyX (hx x h) hpl;have hll:l.length<=960:=xY (a:=0) hr λx h=>by have:=hlb x h;omega
 repeat' with_reducible first|refine s_ ?_|simp -implicitDefEqProofs only[wZZ,seval]|refine t_ ?_
 refine qb ?nx1 (λ(i:Nat) s=>s.f 2=?v1_2/\s.f 12=?v1_12/\s.f 13=?v1_13/\s.H 0=some (.own 5 [g.V] false)/\s.f 14=vi i/\(i<=l.length)/\((∃v,s.f 5=v/\GrN s.H 1 s.next 2 ((l.take i).map itV) v))) (λi=>l.length - i) (0) wj_ (by refine⟨?_,?_,?_,?_,?_,wo_,(by exact⟨_,(by(simp -implicitDefEqProofs only[wL,seval])),Or.inl ⟨rfl,rfl⟩⟩)⟩<;>first|(simp -implicitDefEqProofs only[wL,wM,wN,wX,seval,Option.some.injEq]<;>exact wt_)|rfl|exact⟨_,rfl⟩) ?_;intro i s hnx ⟨g2,g12,g13,o0,g14,k1_0,k1_1⟩;obtain ⟨v5,g5,hG⟩:=k1_1;have hz:=w1_ i;by_cases hi:i<l.length
 . have hgi:l[i]?=some l[i]:=ge_ hi;have htk:l.take (i+1)=l.take i++[l[i]]:=(by rw[List.take_add_one,hgi];rfl);have hit:=qeh (hx _ (List.getElem_mem hi)) hpl hrl;have hlt:(l.take i).length=i:=(by rw[List.length_take];omega);generalize l[i]=x at *;generalize l.take i=U at *;repeat' with_reducible first|refine s_ ?_|simp -implicitDefEqProofs only[wZZ,seval,g2,g12,g13,g14,o0,hz,g5]|apply qa<;>intro h h_<;>(try simp only[wD,reduceCtorEq]at h_)<;>(try exact wb_)<;>(try simp only[h])|refine t_ ?_|refine cq2 hit qd qd ?_
   refine qgS (base:=1) (next:=s.next) (xs:=U.map itV) (ys:=[itV x]) rfl (hG.keep rfl (Nat.le_refl _) (λj h1 h2=>hh_)) qY.sl (by rw[List.length_map,List.length_singleton];omega) (by rw[List.length_map,List.length_singleton];unfold maxLen;omega) ?_;intro H1 q1 q2;have o0':H1 0=some (.own 5 [g.V] false):=(by rw[q2 0 o_ (λe=>by have:=hG.mid e;omega)];((try simp only[wM]);(repeat first|rw[if_pos trivial]|rw[if_pos rfl]|rw[if_neg o_]));exact o0);repeat' with_reducible first|refine s_ ?_|simp -implicitDefEqProofs only[wZZ,seval,g2,g12,g13,g14,o0,hz]
   exact⟨wg_,i+1,o_,trivial,trivial,trivial,o0',rfl,o_,_,rfl,by rw[htk];exact Or.inr ⟨by simp,_,by rw[List.length_map],by rw[q1,List.map_append];rfl,o_,o_⟩⟩
 . have e : l.take i=l:=List.take_of_length_le o_;rw[e]at hG;repeat' with_reducible first|refine s_ ?_|simp -implicitDefEqProofs only[wZZ,seval,g2,g12,g13,g14,o0,g5]|apply qa<;>intro h h_<;>(try simp only[wD,reduceCtorEq]at h_)<;>(try exact wb_)<;>(try simp only[h])|refine t_ ?_|apply V5;exact wf_;exact wf_;(focus(unfold maxLen;first|omega|(simp only[wZ]<;>omega)))
   obtain ⟨M,hM⟩:∃M,M=s.next+1+3:=⟨_,rfl⟩
   skip
   refine qb ?nx2 (λ(k:Nat) s=>s.f 2=?v2_2/\s.f 8=?v2_8/\s.H 0=some (.own 5 [g.V] false)/\s.f 9=vi k/\(k<=961)/\((∃O met,ClI g l O k met/\(∃v,s.f 5=v/\GrN s.H 1 s.next 2 (O.map itV) v)/\s.H M=some (.own 1 (QN g.nons.length met) false)))) (λk=>1000 - k) (0) wj_ (by refine⟨?_,?_,?_,?_,wo_,(by exact⟨l,λ_=>false,ClI.new0 (hr.imp λh e=>o_),⟨v5,(by(simp -implicitDefEqProofs only[wL,seval]);exact g5),hG.keep rfl wg_ (λj h1 h2=>hh_)⟩,(by rw[<- qiH];exact if_pos hM)⟩)⟩<;>first|(simp -implicitDefEqProofs only[wL,wM,wN,wX,seval,Option.some.injEq,g2,g12,g13,g14,o0]<;>exact wt_)|rfl|exact⟨_,rfl⟩) ?_;intro k s hnx ⟨g2,g8,o0,g9,k2_0,k2_1⟩;obtain ⟨O,met,hI,⟨v5',g5',hG'⟩,hMo⟩:=k2_1;rw[<- hM]at g8;have hOl:=hI.len hlb hpl;have hz:=w1_ k;by_cases hk:k<O.length
   . have hgO :O[k]?=some O[k]:=ge_ hk;have hIt:=hI.lst (Qx g) ⟨hx,λx _ m p hp _ _=>qd8 hp⟩ _ (List.getElem_mem hk);have hnx:=KS hIt hpl hrl;have hvO:(O.map itV)[k]?=some (itV O[k]):=(by rw[List.getElem?_map,hgO];rfl);have hbd:=qpI hg hIt;generalize O[k]=x at *;obtain ⟨id,rfl,hid,hb1,hb2⟩:∃id,v5'=.msl id 2 0 O.length/\s.H id=some (.own 2 (O.map itV) false)/\1<=id/\id<s.next:=by
      rcases hG' with ⟨e,_⟩|⟨_,id,rfl,h1,h2,h3⟩
      . rw[List.map_eq_nil_iff]at e;rw[e]at hk;exact absurd hk (Nat.not_lt_zero _)
      . exact⟨id,by rw[List.length_map],h1,h2,h3⟩
     have hGk:∀H' n',s.next<=n'->(∀j,j<s.next->H' j=s.H j)->GrN H' 1 n' 2 (O.map itV) (.msl id 2 0 O.length):=λH' n' h1 h2=>by have:=hG'.keep (H':=H') (next':=n') rfl h1 (λj _ h=>h2 j h);exact this
     have hzs:IntKind.i64.wrap (nxt g x - 1000)=nxt g x - 1000:=wrap64 (by have:=hbd.1;omega) (by have:=hbd.2.1;omega);by_cases hs:nxt g x<1000
     . have hs':nxt g x - 1000<0:=o_;repeat' with_reducible first|refine s_ ?_|simp -implicitDefEqProofs only[wZZ,seval,g2,g8,g9,o0,hz,hzs,g5',g8]|(first|apply qa|apply qA|apply qB)<;>intro h h_<;>(try simp only[wD,reduceCtorEq]at h_)<;>(try exact wb_)<;>(try simp only[h])|apply qZ;omega;(focus(rw[Int.toNat_natCast];exact hk))|(refine qy0 hid rfl hvO ?_)|refine cq2 hnx qd qd ?_|refine t_ ?_
       exact⟨o_,k+1,o_,trivial,by rw[hM],trivial,rfl,o_,O,met,hI.skip hgO (Or.inl hs),⟨_,rfl,hGk _ _ o_ (λ_ _=>rfl)⟩,hMo⟩
     . obtain ⟨c,hc1,hc2⟩:=hbd.2.2 o_;have hzs:IntKind.i64.wrap (1000+(c:Int) - 1000)=(c:Int):=(by rw[wrap64 o_ o_];omega);have hnx:Pure Tryz.prog 107 [g.V,itV x] (vi (1000+(c:Int))):=(by rw[<- hc1];exact hnx);have hn0: ¬ ((c:Int)<0):=o_;cases hm:met c with
       | true=>
         repeat' with_reducible first|refine s_ ?_|simp -implicitDefEqProofs only[wZZ,seval,g2,g8,g9,o0,hz,hzs,g5',g8,hn0]|apply qa<;>intro h h_<;>(try simp only[wD,reduceCtorEq]at h_)<;>(try exact wb_)<;>(try simp only[h])|apply qZ;omega;(focus(rw[Int.toNat_natCast];first|exact hk|exact hc2))|(refine qy0 hid rfl hvO ?_)|refine cq2 hnx qd qd ?_|(rw[hMo];refine ldB hc2 ?_;rw[hm])|refine t_ ?_
         exact⟨o_,k+1,o_,trivial,by rw[hM],trivial,rfl,o_,O,met,hI.skip hgO (Or.inr ⟨c,hc1,hm⟩),⟨_,rfl,hGk _ _ o_ (λ_ _=>rfl)⟩,hMo⟩
       | false=>
         repeat' with_reducible first|refine s_ ?_|simp -implicitDefEqProofs only[wZZ,seval,g2,g8,g9,o0,hz,hzs,g5',g8,hn0]|apply qa<;>intro h h_<;>(try simp only[wD,reduceCtorEq]at h_)<;>(try exact wb_)<;>(try simp only[h])|apply qZ;omega;(focus(rw[Int.toNat_natCast];first|exact hk|exact hc2))|(refine qy0 hid rfl hvO ?_)|refine cq2 hnx qd qd ?_|(rw[hMo];refine ldB hc2 ?_;rw[hm])|(rw[hMo];refine stB hc2 ?_)|refine t_ ?_|simp -implicitDefEqProofs (disch:=omega) only[w64,if_neg]
         have hneM:id≠M:=λe=>by rw[e,hMo]at hid;cases hid
         have hIc:=hI.call hk0 hgO hc1 (λe=>h1000 x (by rw[hc1,e];rfl)) hm;have hlenc:=hIc.len hlb hpl;rw[List.length_append]at hlenc;refine qb ?nx3 (λ(p:Nat) s=>s.f 2=?v3_2/\s.f 8=?v3_8/\s.f 9=?v3_9/\s.f 10=?v3_10/\s.f 56=?v3_56/\s.f 57=vi p/\(p<=g.prods.length)/\((∃v,s.f 5=v/\GrN s.H 1 s.next 2 ((O++JA g c p).map itV) v))/\(s.H M=some (.own 1 (QN g.nons.length (ze met c true)) false))/\(s.H 0=some (.own 5 [g.V] false))) (λp=>g.prods.length - p) (0) wj_ (by refine⟨?_,?_,?_,?_,?_,?_,wo_,(by exact⟨_,(by(simp -implicitDefEqProofs only[wL,seval]);exact g5'),(by rw[show O++JA g c 0=O by simp[JA]];exact(hGk s.H _ (Nat.le_refl _) (λ_ _=>rfl)).keepM wg_ (λj hj=>by cases hj;exact if_neg hneM))⟩),(by(first|exact if_pos rfl|(((try simp only[wM]);(repeat first|rw[if_pos trivial]|rw[if_pos rfl]|rw[if_neg o_]))))),(by(try simp -implicitDefEqProofs only[wL,wM,wN,seval,g2,g8,g9,o0]);(exact if_neg o_))⟩<;>first|(simp -implicitDefEqProofs only[wL,wM,wN,wX,seval,Option.some.injEq,g2,g8,g9,o0]<;>exact wt_)|rfl|exact⟨_,rfl⟩) ?_;intro p s hnx ⟨g2,g8,g9,g10,g56,g57,k3_0,k3_1,k3_2,o100⟩;obtain ⟨v6,g6',hG6⟩:=k3_1;have hzp:=w1_ p;by_cases hp:p<g.prods.length
         . have hgp:g.prods[p]?=some g.prods[p]:=ge_ hp;obtain ⟨lf,hl1,hl2⟩:=hg.left _ (List.getElem_mem hp);have hct:=qfL g (c:Int) p;rw[YE hgp]at hct;generalize g.prods[p]=pr at *;obtain ⟨pl,prt,pc,pco,pa,pat⟩:=pr;dsimp only at hl1 hct;subst hl1;by_cases he:(lf:Int)=c
           . rw[if_pos he]at hct;have hde:decide ((lf:Int)=c)=true:=decide_eq_true he;repeat' with_reducible first|refine s_ ?_|simp -implicitDefEqProofs only[wZZ,seval,g2,g8,g9,g10,g56,g57,o100,hzp,g6',hde]|apply qa<;>intro h h_<;>(try simp only[wD,reduceCtorEq]at h_)<;>(try exact wb_)<;>(try simp only[h])|refine t_ ?_
             have hcl:=qiS g (c:Int) p;refine qgS (base:=1) (next:=s.next) (xs:=(O++JA g c p).map itV) (ys:=[.agg [vi p,vi 0]]) rfl (hG6.keep rfl (Nat.le_refl _) (λ_ _ _=>rfl)) qY.sl (by rw[List.length_map,List.length_append,List.length_singleton];omega) (by rw[List.length_map,List.length_append,List.length_singleton];unfold maxLen;omega) ?_;intro H1 q1 q2;have o0':H1 0=some (.own 5 [g.V] false):=(by rw[q2 0 o_ (λe=>by have:=hG6.mid e;omega)];exact o100);have oM':H1 M=some (.own 1 (QN g.nons.length (ze met c true)) false):=(by rw[q2 M o_ (hG6.neZ k3_2 dc_)];exact k3_2);have h16:itV (16 *(p:Int))=.agg [vi p,vi 0]:=by show V.agg [vi (16 *(p:Int) / 16),vi (16 *(p:Int) % 16)]=_;rw[show 16 *(p:Int) / 16=p by omega,show 16 *(p:Int) % 16=0 by omega]
             repeat' with_reducible first|refine s_ ?_|simp -implicitDefEqProofs only[wZZ,seval,g2,g8,g9,g10,g56,g57,o100,hzp]
             refine⟨o_,p+1,o_,?_⟩;repeat refine⟨True.intro,?_⟩
             refine⟨rfl,o_,⟨_,rfl,?_⟩,oM',o0'⟩;rw[hct,<- List.append_assoc,List.map_append];exact Or.inr ⟨by simp,s.next+1+2+8+4,by simp,by rw[q1];show _=some (MObj.own 2 (_++[itV (16 *(p:Int))]) false);rw[h16],o_,o_⟩
           . rw[if_neg he,List.append_nil]at hct;have hde:decide ((lf:Int)=c)=false:=decide_eq_false he;repeat' with_reducible first|refine s_ ?_|simp -implicitDefEqProofs only[wZZ,seval,g2,g8,g9,g10,g56,g57,o100,hzp,g6',hde]|apply qa<;>intro h h_<;>(try simp only[wD,reduceCtorEq]at h_)<;>(try exact wb_)<;>(try simp only[h])|refine t_ ?_
             refine⟨o_,p+1,o_,?_⟩;repeat refine⟨True.intro,?_⟩
             exact⟨rfl,o_,⟨v6,rfl,by rw[hct];exact hG6.keep rfl o_ (λ_ _ _=>rfl)⟩,k3_2,by first|trivial|exact o100⟩
         . have e:p=g.prods.length:=o_;subst e;repeat' with_reducible first|refine s_ ?_|simp -implicitDefEqProofs only[wZZ,seval,g2,g8,g9,g10,g56,g57,o100,hz]
           exact⟨o_,k+1,o_,trivial,by rw[hM],trivial,rfl,o_,_,_,hIc,⟨_,g6',hG6.keep rfl o_ (λ_ _ _=>rfl)⟩,k3_2⟩
   . have hID:ClI g l O O.length met:=⟨hI.nd,hI.sub,hI.lst,λi x h hi=>hI.mt i x h o_,hI.all,hI.new⟩
     skip
     have huq:=λL' hp hs=>(hID.done (L:=L') hp hs).uniq (zK hg hx hr).1;rcases hG' with ⟨e,rfl⟩|⟨e,id,rfl,hid,hb1,hb2⟩
     . rw[List.map_eq_nil_iff]at e;subst e;have huq:=huq [] (List.Perm.refl _) List.Pairwise.nil;have hcm:=qW (L:=[]) List.Pairwise.nil (by simp);rw[<- huq];repeat' with_reducible first|refine s_ ?_|simp -implicitDefEqProofs only[wZZ,seval,g2,g8,g9,o0,g5']|apply qa<;>intro h h_<;>(try simp only[wD,reduceCtorEq]at h_)<;>(try exact wb_)<;>(try simp only[h])
       refine jZ (hp:=qjf) (ErL.sl .nil) (.fn _ _ _ rfl (λi c c' h=>by simp at h)) ?_;repeat' with_reducible first|refine qL ?_|simp -implicitDefEqProofs only[wZZ,seval,g2,g8,g9,o0,g5']
       refine yY (hp:=hcm) (ErL.sl .nil) ?_;repeat' with_reducible first|refine vJ ?_|simp -implicitDefEqProofs only[wZZ,seval,g2,g8,g9,o0]
       refine qz rfl (Or.inr rfl) ?_;(simp -implicitDefEqProofs only[wL,seval]);exact ErL.sl .nil
     . have e:O≠[]:=λh=>e (by rw[h];rfl);obtain ⟨L',hp,hs,hE⟩:=Kq (next:=s.next+4+2) hid (List.length_pos_iff.2 e) o_;have hcl:=huq L' hp hs;have hLr:jq L':=(by rw[hcl];exact(zK hg hx hr).1.rise);have hLl:L'.length=O.length:=hp.length_eq;have hcm:=qW (L:=L') hLr o_;rw[<- hcl];rw[List.length_map]at g5';repeat' with_reducible first|refine s_ ?_|simp -implicitDefEqProofs only[wZZ,seval,g2,g8,g9,o0,g5']|apply qa<;>intro h h_<;>(try simp only[wD,reduceCtorEq]at h_)<;>(try exact wb_)<;>(try simp only[h])
       refine qR rfl rfl rfl (hE.mono ?_);rintro v1 H1 n1 ⟨rfl,rfl,q1,q2⟩;repeat' with_reducible first|refine qL ?_|simp -implicitDefEqProofs only[wZZ,seval,g2,g8,g9,o0,g5']
       refine qR (H:=H1) rfl wu_ rfl ((xq (λ_=>true) (by rw[qcb];exact qI (qd9 q1 hLl.symm) ji) hcm).mono ?_);rintro v2 H2 n2 ⟨rfl,rfl,rfl⟩;repeat' with_reducible first|refine vJ ?_|simp -implicitDefEqProofs only[wZZ,seval,g2,g8,g9,o0]
       refine qz rfl (Or.inr rfl) ?_;(simp -implicitDefEqProofs only[wL,seval]);exact qd
end Go.Proofs
