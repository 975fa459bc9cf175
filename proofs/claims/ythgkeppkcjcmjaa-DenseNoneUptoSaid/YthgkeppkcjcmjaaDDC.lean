/- Part of a proof that a law of the given program answers true. -/
import Derived.Test.YthgkeppkcjcmjaaDDB
import Derived.Test.YthgkeppkcjcmjaaDDA
import Derived.Test.YthgkeppkcjcmjaaDZH
import Derived.Test.YthgkeppkcjcmjaaDCA
set_option linter.unusedSimpArgs false
set_option linter.unusedVariables false
set_option maxHeartbeats 8000000
namespace Go.Proofs
open Go.E
theorem Ze {cls:Cls} {id:Nat} {s:St} {K:V→St→Prop} {z bytes ti n:Nat} {vy:V} {es ys:List V} {o:Option MObj} (hcl:(cls == .t)=false) (hO:s.H ti=o) (hH:o=some (.own z es false)) (hn:n≤es.length) (hs:qI s.H z ys vy)
 (hb:(n+ys.length) *bytes≤140737488355328) (hl:n+ys.length≤maxLen)
 (hk:K (.msl id z 0 (n+ys.length)) ((s.setO ti none).setO id (some (.own z (es.take n++ys) false)))):KG cls id s K true z bytes (.msl ti z 0 n) vy:=by
 subst hO
 unfold KG
 rw[hs.1 s rfl]
 refine⟨fun e=>(by subst e;cases hcl),?_⟩
 have e:qU id s true z (.msl ti z 0 n) ys=some (.msl id z 0 (n+ys.length),(s.setO ti none).setO id (some (.own z (es.take n++ys) false)),n+ys.length):=by simp[qU,hH,hn]
 rw[e]
 exact⟨hb,hl,hk⟩
theorem qci {z id n:Nat} {k:IntKind} {i:Int} {K:V→Prop} (h0:0≤i) (h:i.toNat≤n) (hk:K (.msl id z 0 i.toNat)):onS (xY z (.msl id z 0 n) none (some (.int k i)) none) K:=by
 have e:xY z (.msl id z 0 n) none (some (.int k i)) none=some (.msl id z 0 i.toNat):=by simp[xY,jL,idxOf,h0,h]
 rw[e];exact hk
theorem Jz {P:Program} [Glob P] {cls:Cls} {id:Nat} {s:St} {K:V→St→Prop} (m:Bool) (x y:Opd):qf P cls id s K (.minmax m [x,y])=onS (Qi m [ev s x,ev s y]) fun v=>K v s:=rfl
theorem X9 (a b:Int):Qi true [.int .i64 a,.int .i64 b]=some (.int .i64 (if b>a then b else a)):=by simp[Qi]
theorem qd1 (a b:Int):Qi false [.int .i64 a,.int .i64 b]=some (.int .i64 (if b<a then b else a)):=by simp[Qi]
theorem mxN (a b:Nat):(if (b:Int)>(a:Int)then(b:Int)else(a:Int))=((max a b:Nat):Int):=by split<;>omega
theorem JI {b:Bool} {H H':Nat→Option MObj} {next:Nat} {k:Int} {a s d:Nat} {p:List Int} {v:V} (hg:Gr H' next 1 (p.map (V.int .i64)) v):Er b H (.agg [vi k,vi a,vi s,vi d,v]) (RunR.V {kind:=k,at_:=a,steps:=s,deep:=d,prods:=p}):=
 ErL.agg (.cons (.int _ _) (.cons (.int _ _) (.cons (.int _ _) (.cons (.int _ _) (.cons (hg.er rfl) .nil)))))
theorem qGe {s0:St} {g:Grammar} {l:List Int} {at_:Nat} {a b c:V} {P4:V} {Q:Exit→St→Prop} (hl:l.length≤1000000) (hg:GOk g) (f2:s0.f 2=.sl 1 false (l.map (V.int .i64))) (f5:s0.f 5=.ptr 0 0 0) (f11:s0.f 11=.ptr 9 0 0) (f13:s0.f 13=vi 0) (o0:s0.H 0=some (.own 5 [g.V] false)) (o9:s0.H 9=some (.own 5 [.agg [a,vi at_,b,c,P4]] false))
 (hQ: ∀s',s'.f 2=s0.f 2→s'.f 3=s0.f 3→s'.f 4=s0.f 4→s'.f 5=s0.f 5→s'.f 6=s0.f 6→s'.f 10=s0.f 10→s'.f 11=s0.f 11→s'.f 12=s0.f 12→s'.f 13=vi (zw g.toks.length l at_)→s'.H=s0.H→s0.next≤s'.next→Q .normal s'):ewp Try.prog qbg Q s0:=by
 have htk:=hg.tk2
 by_cases hi:at_<l.length
 · have hgi:l[at_]?=some l[at_]:=ge_ hi
   have hT:zw g.toks.length l at_=if 0≤l[at_]∧l[at_]<g.toks.length∧l[at_]≠1 then l[at_]else 2:=by unfold zw;rw[hgi]
   rw[hT]at hQ
   generalize l[at_]=x at *
   repeat' with_reducible first
    |refine s_ ?_
    |simp only[wZZ,seval,f2,f5,f11,f13,o0,o9]
    |(first|apply qa|apply qh|apply qg)<;>intro h h_<;>(try simp only[wD,reduceCtorEq]at h_)<;>(try exact wb_)<;>(try simp only[h])
    |refine t_ ?_
   all_goals refine hQ _ (by(simp only[wL,seval])) (by(simp only[wL,seval])) (by(simp only[wL,seval])) (by(simp only[wL,seval])) (by(simp only[wL,seval])) (by(simp only[wL,seval])) (by(simp only[wL,seval])) (by(simp only[wL,seval])) (by(simp only[wL,seval]);first|rw[if_pos (by omega)]|rw[if_neg (by omega)]) rfl (by((try simp only[wN])<;>omega))
 · have hT:zw g.toks.length l at_=0:=by unfold zw;rw[List.getElem?_eq_none (by omega)]
   rw[hT]at hQ
   repeat' with_reducible first
    |refine s_ ?_
    |simp only[wZZ,seval,f2,f5,f11,f13,o0,o9]
    |apply qa<;>intro h h_<;>(try simp only[wD,reduceCtorEq]at h_)<;>(try exact wb_)<;>(try simp only[h])
    |refine t_ ?_
   all_goals refine hQ _ (by(simp only[wL,seval])) (by(simp only[wL,seval])) (by(simp only[wL,seval])) (by(simp only[wL,seval])) (by(simp only[wL,seval])) (by(simp only[wL,seval])) (by(simp only[wL,seval])) (by(simp only[wL,seval])) (by(simp only[wL,seval]);exact f13) rfl (by((try simp only[wN])<;>omega))
theorem QH {g:Grammar} {m:List Sta} {A:List (List (Int×Int))} {G:List (List Int)} {l:List Int} {depth steps:Int} (hg:GOk g) (hM:MOk g m) (hG:MGo g m) (hT:TabOk g m A G) (hl:l.length≤1000000) (hd: -9223372036854775808≤depth∧depth≤9223372036854775807) (hs: -9223372036854775808≤steps∧steps≤9223372036854775807):
 Pure Try.prog 19 [g.V,qdW A G,.sl 1 false (l.map (V.int .i64)),vi depth,vi steps] (zR g A G l (qX depth 100000) (qX steps 1000000)).V:=by
 refine pure_intro Try.func19 qsC qlQ (by show 5≤144;decide) ?_
 show ewp _ qeC _ _
 have hld:=vZ (k:=100000) hd
 have hls:=vZ (k:=1000000) hs
 have c1:=qcX depth 100000
 have c2:=qcX steps 1000000
 simp only[Int.cast_ofNat_Int]at c1 c2
 rw[c1]at hld
 rw[c2]at hls
 clear c1 c2
 have b1:=Qn depth 100000
 have b2:=Qn steps 1000000
 unfold zR
 generalize qX depth 100000=dp at *
 generalize qX steps 1000000=sp at *
 obtain ⟨RES,hRES⟩: ∃RES,j5 g A G l dp sp (sp+1) [0] {}=RES:=⟨_,rfl⟩
 rw[hRES]
 have htk:=hg.tk;have htk2:=hg.tk2;have hml:=hM.len
 repeat' with_reducible first
  |refine s_ ?_
  |simp only[wZZ,seval]
  |refine cq2 hld qb qb ?_
  |refine cq2 hls qb qb ?_
  |refine t_ ?_
 refine qd ?nx1 (fun(p:List Nat×RunR) s=>s.f 2=?v1_2∧s.f 3=?v1_3∧s.f 4=?v1_4∧s.f 5=?v1_5∧s.f 6=?v1_6∧s.f 10=?v1_10∧s.f 11=?v1_11∧s.H 0=some (.own 5 [g.V] false)∧s.H 1=some (.own 2 [qdW A G] false)∧s.H 2=some (.own 5 [.agg [.int .i64 0,.int .i64 0,.int .i64 0,.int .i64 0,.sl 1 true []]] false)∧(Path g m p.1)∧((p.2.kind=0))∧(p.1.length≤p.2.steps+1)∧(p.2.at_≤p.2.steps)∧(p.2.deep≤p.2.steps)∧(p.2.prods.length≤p.2.steps)∧(p.2.steps≤sp)∧((j5 g A G l dp sp (sp - p.2.steps+1) p.1 p.2=RES))∧((∃sid,s.f 12=.msl sid 1 0 p.1.length∧s.H sid=some (.own 1 (JH p.1) false)∧10≤sid∧sid<s.next))∧((∃vP,s.H 9=some (.own 5 [.agg [vi 0,vi p.2.at_,vi p.2.steps,vi p.2.deep,vP]] false)∧Gr s.H s.next 1 (p.2.prods.map (V.int .i64)) vP))) (fun p=>sp - p.2.steps) (([0],{})) wj_ (by refine⟨?_,?_,?_,?_,?_,?_,?_,?_,?_,?_,(by exact Path.base),(by rfl),(by exact Nat.le_refl _),(by exact Nat.le_refl _),(by exact Nat.le_refl _),(by exact Nat.le_refl _),(by exact Nat.zero_le _),(by exact hRES),(by exact⟨10,by(simp only[wL,seval]);rfl,by(simp only[wM];(repeat first|rw[if_pos trivial]|rw[if_pos rfl]|rw[if_neg (by omega)]))<;>rfl,by omega,by((try simp only[wN])<;>omega)⟩),(by exact⟨.sl 1 true [],by(simp only[wM];(repeat first|rw[if_pos trivial]|rw[if_pos rfl]|rw[if_neg (by omega)]))<;>rfl,Gr.nil⟩)⟩<;>first|(simp only[wL,wM,wN,wX,seval,Option.some.injEq]<;>exact wt_)|rfl|exact⟨_,rfl⟩) ?_
 intro p s hnx ⟨g2,g3,g4,g5,g6,g10,g11,o0,o1,o2,k1_0,k1_1,k1_2,k1_3,k1_4,k1_5,k1_6,k1_7,k1_8,k1_9⟩
 obtain ⟨st,r⟩:=p
 dsimp only at *
 obtain ⟨rk,ra,rs,rd,rp⟩:=r
 dsimp only at *
 subst k1_1
 obtain ⟨sid,g12,oS,sid1,sid2⟩:=k1_8
 obtain ⟨vP,oR,hGP⟩:=k1_9
 obtain ⟨q,st,rfl,hq⟩:=k1_0.lt hG
 obtain ⟨t,ht,htl⟩:=VN (nt:=g.toks.length) l ra (by omega)
 have W:= @qGe
 unfold qe0 qft qem
 generalize qbg=E at W ⊢
 repeat' with_reducible first
  |refine s_ ?_
  |simp only[wZZ,seval,g2,g3,g4,g5,g6,g10,g11,o0,o1,o2]
 refine W hl hg (by(simp only[wL,seval]);assumption) (by(simp only[wL,seval]);assumption) (by(simp only[wL,seval]);assumption) (by(simp only[wL,seval])) (by(simp only[wM];(repeat first|rw[if_pos trivial]|rw[if_pos rfl]|rw[if_neg (by omega)]));exact o0) (by(simp only[wM];(repeat first|rw[if_pos trivial]|rw[if_pos rfl]|rw[if_neg (by omega)]));exact oR) (fun s' f2 f3 f4 f5 f6 f10 f11 f12 f13 fH fn=>?_)
 have f2:=f2.trans g2;have f3:=f3.trans g3;have f4:=f4.trans g4;have f5:=f5.trans g5;have f6:=f6.trans g6;have f10:=f10.trans g10;have f11:=f11.trans g11;have f12:=f12.trans g12
 have fH:s'.H=s.H:=fH
 have fn:s.next+1≤s'.next:=fn
 rw[ht]at f13
 rw[← fH]at o0 o1 o2 oR oS hGP
 obtain ⟨row,a,h1,h2,h3⟩:=XZ hT hq htl
 have hgo:=V4 (st:=st) hg hM hG hT k1_0 hq htl
 have hsh:=qfE (st:=st) hT k1_0 hq htl
 rw[YU]at k1_7
 dsimp only at k1_7
 rw[ht,h3]at k1_7
 rw[h3]at hgo hsh
 have hst:=Xr (st:=q::st) (n:=0) (by simp)
 simp only[List.drop_zero,List.headD_cons,Nat.sub_zero]at hst
 have hsl:=qcB (q::st)
 obtain ⟨a1,a2⟩:=a
 dsimp only at *
 have hln:(q::st).length=st.length+1:=rfl
 generalize hS:(q::st)=S at *
 have hzl:IntKind.i64.wrap ((S.length:Int) - 1)=((S.length - 1:Nat):Int):=by rw[wrap64 (by omega) (by omega)];omega
 by_cases c3:a1=3
 · subst c3
   rw[if_pos rfl]at k1_7
   clear hgo hsh W
   repeat' with_reducible first
    |refine s_ ?_
    |simp only[wZZ,seval,g2,g3,g4,g5,g6,g10,g11,o0,o1,o2,f2,f3,f4,f5,f6,f10,f11,f12,f13,o0,o1,o2,oR,oS,hzl]
    |apply zb;omega;omega
    |(refine ldW rfl hst wu_ ?_)
    |refine t_ ?_
   rw[← k1_7]
   refine QN (id:=2) rfl (Or.inr rfl) (by(simp only[wL,seval]);assumption) (by(simp only[wM];(repeat first|rw[if_pos trivial]|rw[if_pos rfl]|rw[if_neg (by omega)]))<;>rfl) rfl ?_
   exact JI hGP
 · rw [if_neg c3]at k1_7
   have n0:(0=sid)=False:=eq_false (by omega)
   have n1:(1=sid)=False:=eq_false (by omega)
   have n2:(2=sid)=False:=eq_false (by omega)
   have n9:(9=sid)=False:=eq_false (by omega)
   have hzs:IntKind.i64.wrap ((rs:Int)+1)=((rs+1:Nat):Int):=by rw[wrap64 (by omega) (by omega)];omega
   have hza:IntKind.i64.wrap ((ra:Int)+1)=((ra+1:Nat):Int):=by rw[wrap64 (by omega) (by omega)];omega
   by_cases c1:a1=1
   · subst c1
     rw[if_pos rfl]at k1_7
     obtain ⟨n,rfl,hn,hP2⟩:=hsh rfl
     clear hgo hsh W
     by_cases hlim:sp≤rs∨dp<S.length
     · rw[if_pos hlim]at k1_7
       repeat' with_reducible first
        |refine s_ ?_
        |simp only[wZZ,seval,g2,g3,g4,g5,g6,g10,g11,o0,o1,o2,f2,f3,f4,f5,f6,f10,f11,f12,f13,o0,o1,o2,oR,oS,hzl]
        |(first|apply qa|apply qh|apply qg)<;>intro h h_<;>(try simp only[wD,reduceCtorEq]at h_)<;>(try exact wb_)<;>(try simp only[h])
        |apply zb;omega;omega
        |(refine ldW rfl hst wu_ ?_)
        |refine t_ ?_
       all_goals
        rw[← k1_7]
        refine QN (id:=2) rfl (Or.inr rfl) (by(simp only[wL,seval]);assumption) (by(simp only[wM];(repeat first|rw[if_pos trivial]|rw[if_pos rfl]|rw[if_neg (by omega)]))<;>rfl) rfl ?_
        exact JI hGP
     · rw[if_neg hlim]at k1_7
       repeat' with_reducible first
        |refine s_ ?_
        |simp only[wZZ,seval,g2,g3,g4,g5,g6,g10,g11,o0,o1,o2,f2,f3,f4,f5,f6,f10,f11,f12,f13,o0,o1,o2,oR,oS,hzl,hzs,hza,n0,n1,n2,n9,Jz,X9,mxN]
        |(first|apply qa|apply qh|apply qg)<;>intro h h_<;>(try simp only[wD,reduceCtorEq]at h_)<;>(try exact wb_)<;>(try simp only[h])
        |apply zb;omega;omega
        |(refine ldW rfl hst wu_ ?_)
        |refine t_ ?_
        |apply qci;omega;omega
        |(refine Ze (es:=JH S) rfl rfl (by((try simp only[wM]);(repeat first|rw[if_pos trivial]|rw[if_pos rfl]|rw[if_neg (by omega)]));exact oS) (by omega) qI.sl (by simp only[wZ]<;>omega) (by unfold maxLen;simp only[wZ]<;>omega) ?_)
        |simp(disch:=omega) only[w64,if_neg]
       have he:(JH S).take S.length++[vi n]=JH (n::S):=by rw[List.take_of_length_le (by omega)];exact Zd S n
       exact⟨by((try simp only[wN])<;>omega),(n::S,⟨0,ra+1,rs+1,max rd S.length,rp⟩),by dsimp only;omega,trivial,trivial,trivial,trivial,trivial,trivial,trivial,trivial,trivial,trivial,hP2,rfl,by dsimp only;rw[List.length_cons];omega,by dsimp only;omega,by dsimp only;omega,by dsimp only;omega,by dsimp only;omega,by dsimp only;rw[show sp - (rs+1)+1=sp - rs by omega];exact k1_7,⟨_,rfl,by((try simp only[wM]);(repeat first|rw[if_pos trivial]|rw[if_pos rfl]|rw[if_neg (by omega)]));rw[he],by omega,by((try simp only[wN])<;>omega)⟩,⟨vP,rfl,hGP.mono (by((try simp only[wN])<;>omega)) (fun x h1 h2=>by have:=Gr.ne hGP oS h1;have:=Gr.ne hGP oR h1;((try simp only[wM]);(repeat first|rw[if_pos trivial]|rw[if_pos rfl]|rw[if_neg (by omega)])))⟩⟩
   · rw [if_neg c1]at k1_7
     by_cases c2:a1=2
     · subst c2
       rw[if_pos rfl]at k1_7
       obtain ⟨p,x,l',q0,st0,n,row2,rfl,e2,e3,e4,e5,e6,e7,e8,e9,e10,g1,g3,g4,hnl,hP2⟩:=hgo rfl
       clear hgo hsh W
       rw[Int.toNat_natCast,e9,e7,e10,List.headD_cons,g4]at k1_7
       obtain ⟨xl,xr,xp,xc,xa,xt⟩:=x
       dsimp only at e3 e5 e6 e7 e9 k1_7
       subst e3
       have hz5:IntKind.i64.wrap ((S.length:Int) - (xr.length:Int))=((S.length - xr.length:Nat):Int):=by rw[wrap64 (by omega) (by omega)];omega
       have hz6:IntKind.i64.wrap (((S.length - xr.length:Nat):Int) - 1)=((S.length - xr.length - 1:Nat):Int):=by rw[wrap64 (by omega) (by omega)];omega
       have hst2:(JH S)[S.length - xr.length - 1]?=some (vi q0):=by
        have h:=Xr (st:=S) (n:=xr.length) e6
        rw[e7]at h
        rw[show S.length - xr.length - 1=S.length - 1 - xr.length by omega];exact h
       by_cases hlim:sp≤rs∨dp<S.length - xr.length
       · rw[if_pos hlim]at k1_7
         repeat' with_reducible first
          |refine s_ ?_
          |simp only[wZZ,seval,g2,g3,g4,g5,g6,g10,g11,o0,o1,o2,f2,f3,f4,f5,f6,f10,f11,f12,f13,o0,o1,o2,oR,oS,hzl,hz5,hz6]
          |(first|apply qa|apply qh|apply qg)<;>intro h h_<;>(try simp only[wD,reduceCtorEq]at h_)<;>(try exact wb_)<;>(try simp only[h])
          |apply zb;omega;omega
          |(refine ldW rfl hst wu_ ?_)
          |refine t_ ?_
         all_goals
          rw[← k1_7]
          refine QN (id:=2) rfl (Or.inr rfl) (by(simp only[wL,seval]);assumption) (by(simp only[wM];(repeat first|rw[if_pos trivial]|rw[if_pos rfl]|rw[if_neg (by omega)]))<;>rfl) rfl ?_
          exact JI hGP
       · rw[if_neg hlim]at k1_7
         repeat' with_reducible first
          |refine s_ ?_
          |simp only[wZZ,seval,g2,g3,g4,g5,g6,g10,g11,o0,o1,o2,f2,f3,f4,f5,f6,f10,f11,f12,f13,o0,o1,o2,oR,oS,hzl,hz5,hz6,hzs,n0,n1,n2,n9,Jz,X9,mxN]
          |(first|apply qa|apply qh|apply qg)<;>intro h h_<;>(try simp only[wD,reduceCtorEq]at h_)<;>(try exact wb_)<;>(try simp only[h])
          |apply zb;omega;omega
          |(refine ldW rfl hst wu_ ?_)
          |(refine ldW rfl hst2 wu_ ?_)
          |refine t_ ?_
          |apply qci;omega;omega
          |(refine Ze (es:=JH S) rfl rfl (by((try simp only[wM]);(repeat first|rw[if_pos trivial]|rw[if_pos rfl]|rw[if_neg (by omega)]));exact oS) (by omega) qI.sl (by simp only[wZ]<;>omega) (by unfold maxLen;simp only[wZ]<;>omega) ?_)
          |(apply qQ rfl (hGP.mono (Nat.le_refl _) (fun id h1 h2=>by have:=Gr.ne hGP oS h1;have:=Gr.ne hGP oR h1;((try simp only[wM]);(repeat first|rw[if_pos trivial]|rw[if_pos rfl]|rw[if_neg (by omega)]))));(focus exact qI.sl);(focus(simp only[wZ]<;>omega));(focus(unfold maxLen;simp only[wZ]<;>omega)))
          |(refine Yz (qz (fun x h=>Gr.ne hGP oR h) (by((try simp only[wM]);(repeat first|rw[if_pos trivial]|rw[if_pos rfl]|rw[if_neg (by omega)]))<;>rfl)) rfl wu_ wu_ wu_ (by simp) ?_)
          |simp(disch:=omega) only[w64,if_neg]
         have he:(JH S).take (S.length - xr.length)++[vi n]=JH (n::S.drop xr.length):=by rw[qac (by omega)];exact Zd _ n
         have hle:(n::q0::st0).length=S.length - xr.length+1:=by
          have h:=congrArg List.length e7
          rw[List.length_drop]at h
          rw[List.length_cons,← h]
         exact⟨by((try simp only[wN])<;>omega),(n::q0::st0,⟨0,ra,rs+1,max rd (S.length - xr.length),rp++[(p:Int)]⟩),by dsimp only;omega,trivial,trivial,trivial,trivial,trivial,trivial,trivial,qz (fun x h=>Gr.ne hGP o0 h) (by((try simp only[wM]);(repeat first|rw[if_pos trivial]|rw[if_pos rfl]|rw[if_neg (by omega)]));exact o0),qz (fun x h=>Gr.ne hGP o1 h) (by((try simp only[wM]);(repeat first|rw[if_pos trivial]|rw[if_pos rfl]|rw[if_neg (by omega)]));exact o1),qz (fun x h=>Gr.ne hGP o2 h) (by((try simp only[wM]);(repeat first|rw[if_pos trivial]|rw[if_pos rfl]|rw[if_neg (by omega)]));exact o2),hP2,rfl,by dsimp only;omega,by dsimp only;omega,by dsimp only;omega,by dsimp only;rw[List.length_append];simp;omega,by dsimp only;omega,by dsimp only;rw[show sp - (rs+1)+1=sp - rs by omega];exact k1_7,⟨_,by rw[hle],by((try simp only[wM]);(repeat first|rw[if_pos trivial]|rw[if_pos rfl]|rw[if_neg (by omega)]));exact qz (fun x h=>by have:=Gr.lt hGP h;omega) (by((try simp only[wM]);(repeat first|rw[if_pos trivial]|rw[if_pos rfl]|rw[if_neg (by omega)]));rw[he,e7]),by omega,by((try simp only[wN])<;>omega)⟩,⟨_,rfl,(Gr.tok (id:=s'.next+15+3+2+2+2+11+9+5+4+3+22+5) (fin:=_) (by((try simp only[wM]);(repeat first|rw[if_pos trivial]|rw[if_pos rfl]|rw[if_neg (by omega)]))) (by((try simp only[wN])<;>omega))).mono' (by rw[List.map_append]) (Nat.le_refl _) (fun _ _ _=>rfl)⟩⟩
     · rw[if_neg c2]at k1_7
       clear hgo hsh W
       repeat' with_reducible first
        |refine s_ ?_
        |simp only[wZZ,seval,g2,g3,g4,g5,g6,g10,g11,o0,o1,o2,f2,f3,f4,f5,f6,f10,f11,f12,f13,o0,o1,o2,oR,oS,hzl]
        |apply qa<;>intro h h_<;>(try simp only[wD,reduceCtorEq]at h_)<;>(try exact wb_)<;>(try simp only[h])
        |apply zb;omega;omega
        |(refine ldW rfl hst wu_ ?_)
        |refine t_ ?_
       rw[← k1_7]
       refine QN (id:=2) rfl (Or.inr rfl) (by(simp only[wL,seval]);assumption) (by(simp only[wM];(repeat first|rw[if_pos trivial]|rw[if_pos rfl]|rw[if_neg (by omega)]))<;>rfl) rfl ?_
       exact JI hGP
end Go.Proofs
