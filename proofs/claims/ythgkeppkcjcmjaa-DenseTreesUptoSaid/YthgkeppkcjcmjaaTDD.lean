/- Part of a proof that a law of the given program answers true. -/
import Derived.Test.YthgkeppkcjcmjaaTDB
import Derived.Test.YthgkeppkcjcmjaaTDA
import Derived.Test.YthgkeppkcjcmjaaTZH
import Derived.Test.YthgkeppkcjcmjaaTCA
set_option linter.unusedSimpArgs false
set_option linter.unusedVariables false
set_option maxHeartbeats 8000000
namespace Go.Proofs
open Go.E
theorem KF {cls:Cls} {id:Nat} {s:St} {K:V→St→Prop} {z bytes ti n:Nat} {vy:V} {es ys:List V} {o:Option MObj} (hcl:(cls == .t)=false) (hO:s.H ti=o) (hH:o=some (.own z es false)) (hn:n≤es.length) (hs:qU s.H z ys vy)
 (hb:(n+ys.length) *bytes≤140737488355328) (hl:n+ys.length≤maxLen)
 (hk:K (.msl id z 0 (n+ys.length)) ((s.setO ti none).setO id (some (.own z (es.take n++ys) false)))):Vr cls id s K true z bytes (.msl ti z 0 n) vy:=by
 subst hO
 unfold Vr
 rw[hs.1 s rfl]
 refine⟨fun e=>(by subst e;cases hcl),?_⟩
 have e:qW id s true z (.msl ti z 0 n) ys=some (.msl id z 0 (n+ys.length),(s.setO ti none).setO id (some (.own z (es.take n++ys) false)),n+ys.length):=by simp[qW,hH,hn]
 rw[e]
 exact⟨hb,hl,hk⟩
theorem qik {z id n:Nat} {k:IntKind} {i:Int} {K:V→Prop} (h0:0≤i) (h:i.toNat≤n) (hk:K (.msl id z 0 i.toNat)):onS (jZ z (.msl id z 0 n) none (some (.int k i)) none) K:=by
 have e:jZ z (.msl id z 0 n) none (some (.int k i)) none=some (.msl id z 0 i.toNat):=by simp[jZ,jr,idxOf,h0,h]
 rw[e];exact hk
theorem qbs {P:Program} [Glob P] {cls:Cls} {id:Nat} {s:St} {K:V→St→Prop} (m:Bool) (x y:Opd):qd P cls id s K (.minmax m [x,y])=onS (vU m [ev s x,ev s y]) fun v=>K v s:=rfl
theorem qbE (a b:Int):vU true [.int .i64 a,.int .i64 b]=some (.int .i64 (if b>a then b else a)):=by simp[vU]
theorem qoA (a b:Int):vU false [.int .i64 a,.int .i64 b]=some (.int .i64 (if b<a then b else a)):=by simp[vU]
theorem mxN (a b:Nat):(if (b:Int)>(a:Int)then(b:Int)else(a:Int))=((max a b:Nat):Int):=by split<;>omega
theorem qb3 {b:Bool} {H H':Nat→Option MObj} {next:Nat} {k:Int} {a s d:Nat} {p:List Int} {v:V} (hg:Gr H' next 1 (p.map (V.int .i64)) v):Er b H (.agg [vi k,vi a,vi s,vi d,v]) (RunR.V {kind:=k,at_:=a,steps:=s,deep:=d,prods:=p}):=
 ErL.agg (.cons (.int _ _) (.cons (.int _ _) (.cons (.int _ _) (.cons (.int _ _) (.cons (hg.er rfl) .nil)))))

theorem KU (n:Int) (k:Nat):(if (k:Int)<(if (0:Int)>n then 0 else n)then(k:Int)else(if (0:Int)>n then 0 else n))=((jK n k:Nat):Int):=by
 unfold jK;split<;>split<;>omega
theorem QS {g:Grammar} {m:List Sta} {A:List (List (Int×Int))} {G:List (List Int)} {l:List Int} {depth steps:Int} (hg:GOk g) (hM:MOk g m) (hG:MGo g m) (hT:TabOk g m A G) (hl:l.length≤1000000):
 Pure Try.prog 18 [g.V,qqy A G,.sl 1 false (l.map (V.int .i64)),vi depth,vi steps] (qgm g A G l (jK depth 100000) (jK steps 1000000)).V:=by
 refine pure_intro Try.func18 nm_ qsL (by show 5≤133;decide) ?_
 show ewp _ qfn _ _
 have c1:=KU depth 100000
 have c2:=KU steps 1000000
 simp only[Int.cast_ofNat_Int]at c1 c2
 have b1:=VB depth 100000
 have b2:=VB steps 1000000
 unfold qgm
 generalize jK depth 100000=dp at *
 generalize jK steps 1000000=sp at *
 obtain ⟨RES,hRES⟩: ∃RES,qeM g A G l dp sp (sp+1) [0] {}=RES:=⟨_,rfl⟩
 rw[hRES]
 have htk:=hg.tk;have htk2:=hg.tk2;have hml:=hM.len
 repeat' with_reducible first
  |refine s_ ?_
  |simp only[wZZ,seval,qbs,qbE,qoA,c1,c2]
  |refine t_ ?_
 refine qb ?nx1 (fun(p:List Nat×RunR) s=>s.f 2=?v1_2∧s.f 3=?v1_3∧s.f 4=?v1_4∧s.f 5=?v1_5∧s.f 6=?v1_6∧s.f 10=?v1_10∧s.f 11=?v1_11∧s.H 0=some (.own 5 [g.V] false)∧s.H 1=some (.own 2 [qqy A G] false)∧s.H 2=some (.own 5 [.agg [.int .i64 0,.int .i64 0,.int .i64 0,.int .i64 0,.sl 1 true []]] false)∧(Path g m p.1)∧((p.2.kind=0))∧(p.1.length≤p.2.steps+1)∧(p.2.at_≤p.2.steps)∧(p.2.deep≤p.2.steps)∧(p.2.prods.length≤p.2.steps)∧(p.2.steps≤sp)∧((qeM g A G l dp sp (sp - p.2.steps+1) p.1 p.2=RES))∧((∃sid,s.f 12=.msl sid 1 0 p.1.length∧s.H sid=some (.own 1 (Ku p.1) false)∧12≤sid∧sid<s.next))∧((∃vP,s.H 11=some (.own 5 [.agg [vi 0,vi p.2.at_,vi p.2.steps,vi p.2.deep,vP]] false)∧Gr s.H s.next 1 (p.2.prods.map (V.int .i64)) vP))) (fun p=>sp - p.2.steps) (([0],{})) wj_ (by refine⟨?_,?_,?_,?_,?_,?_,?_,?_,?_,?_,(by exact Path.base),(by rfl),(by exact Nat.le_refl _),(by exact Nat.le_refl _),(by exact Nat.le_refl _),(by exact Nat.le_refl _),(by exact Nat.zero_le _),(by exact hRES),(by exact⟨12,by(simp only[wL,seval]);rfl,by(simp only[wM];(repeat first|rw[if_pos trivial]|rw[if_pos rfl]|rw[if_neg o_]))<;>rfl,o_,wg_⟩),(by exact⟨.sl 1 true [],by(simp only[wM];(repeat first|rw[if_pos trivial]|rw[if_pos rfl]|rw[if_neg o_]))<;>rfl,Gr.nil⟩)⟩<;>first|(simp only[wL,wM,wN,wX,seval,Option.some.injEq]<;>exact wt_)|rfl|exact⟨_,rfl⟩) ?_
 intro p s hnx ⟨g2,g3,g4,g5,g6,g10,g11,o0,o1,o2,k1_0,k1_1,k1_2,k1_3,k1_4,k1_5,k1_6,k1_7,k1_8,k1_9⟩
 obtain ⟨st,r⟩:=p
 dsimp only at *
 obtain ⟨rk,ra,rs,rd,rp⟩:=r
 dsimp only at *
 subst k1_1
 obtain ⟨sid,g12,oS,sid1,sid2⟩:=k1_8
 obtain ⟨vP,oR,hGP⟩:=k1_9
 obtain ⟨q,st,rfl,hq⟩:=k1_0.lt hG
 obtain ⟨t,ht,htl⟩:=qjL (nt:=g.toks.length) l ra o_
 have htoc:=qbB (l:=l) (a:=ra) hl hg
 rw[ht]at htoc
 obtain ⟨row,a,h1,h2,h3⟩:=Kg hT hq htl
 have hgo:=qpx (st:=st) hg hM hG hT k1_0 hq htl
 have hsh:=qtj (st:=st) hT k1_0 hq htl
 rw[K9]at k1_7
 dsimp only at k1_7
 rw[ht,h3]at k1_7
 rw[h3]at hgo hsh
 have hst:=qbF (st:=q::st) (n:=0) (by simp)
 simp only[List.drop_zero,List.headD_cons,Nat.sub_zero]at hst
 have hsl:=qg9 (q::st)
 obtain ⟨a1,a2⟩:=a
 dsimp only at *
 have hln:(q::st).length=st.length+1:=rfl
 generalize hS:(q::st)=S at *
 have hzl:IntKind.i64.wrap ((S.length:Int) - 1)=((S.length - 1:Nat):Int):=by rw[wrap64 o_ o_];omega
 have htn:IntKind.i64.wrap ((S.length:Int) - 0)=(S.length:Int):=by rw[wrap64 o_ o_];omega
 by_cases c3:a1=3
 · subst c3
   rw[if_pos rfl]at k1_7
   clear hgo hsh
   repeat' with_reducible first
    |refine s_ ?_
    |simp only[wZZ,seval,g2,g3,g4,g5,g6,g10,g11,o0,o1,o2,g12,oR,oS,hzl,htn]
    |apply zm;omega;omega
    |(refine ldW rfl hst wu_ ?_)
    |refine t_ ?_
    |refine cq3 htoc qc qc qc ?_
   rw[← k1_7]
   refine qat (id:=2) rfl (Or.inr rfl) (by(simp only[wL,seval]);assumption) (by(simp only[wM];(repeat first|rw[if_pos trivial]|rw[if_pos rfl]|rw[if_neg o_]))<;>rfl) rfl ?_
   exact qb3 hGP
 · rw [if_neg c3]at k1_7
   have n0:(0=sid)=False:=eq_false o_
   have n1:(1=sid)=False:=eq_false o_
   have n2:(2=sid)=False:=eq_false o_
   have n9:(11=sid)=False:=eq_false o_
   have hzs:IntKind.i64.wrap ((rs:Int)+1)=((rs+1:Nat):Int):=by rw[wrap64 o_ o_];omega
   have hza:IntKind.i64.wrap ((ra:Int)+1)=((ra+1:Nat):Int):=by rw[wrap64 o_ o_];omega
   by_cases c1:a1=1
   · subst c1
     rw[if_pos rfl]at k1_7
     obtain ⟨n,rfl,hn,hP2⟩:=hsh rfl
     clear hgo hsh
     by_cases hlim:sp≤rs∨dp<S.length
     · rw[if_pos hlim]at k1_7
       repeat' with_reducible first
        |refine s_ ?_
        |simp only[wZZ,seval,g2,g3,g4,g5,g6,g10,g11,o0,o1,o2,g12,oR,oS,hzl,htn]
        |(first|apply qa|apply qg|apply qh)<;>intro h h_<;>(try simp only[wD,reduceCtorEq]at h_)<;>(try exact wb_)<;>(try simp only[h])
        |apply zm;omega;omega
        |(refine ldW rfl hst wu_ ?_)
        |refine t_ ?_
        |refine cq3 htoc qc qc qc ?_
       all_goals
        rw[← k1_7]
        refine qat (id:=2) rfl (Or.inr rfl) (by(simp only[wL,seval]);assumption) (by(simp only[wM];(repeat first|rw[if_pos trivial]|rw[if_pos rfl]|rw[if_neg o_]))<;>rfl) rfl ?_
        exact qb3 hGP
     · rw[if_neg hlim]at k1_7
       have hzp:IntKind.i64.wrap (((S.length+1:Nat):Int) - 1)=(S.length:Int):=by rw[wrap64 o_ o_];omega
       repeat' with_reducible first
        |refine s_ ?_
        |simp only[wZZ,seval,g2,g3,g4,g5,g6,g10,g11,o0,o1,o2,g12,oR,oS,hzl,htn,hzs,hza,hzp,n0,n1,n2,n9,qbs,qbE,mxN]
        |(first|apply qa|apply qg|apply qh)<;>intro h h_<;>(try simp only[wD,reduceCtorEq]at h_)<;>(try exact wb_)<;>(try simp only[h])
        |apply zm;omega;omega
        |(refine ldW rfl hst wu_ ?_)
        |refine t_ ?_
        |refine cq3 htoc qc qc qc ?_
        |apply qik;omega;omega
        |(refine KF (es:=Ku S) rfl rfl (by((try simp only[wM]);(repeat first|rw[if_pos trivial]|rw[if_pos rfl]|rw[if_neg o_]));exact oS) o_ qU.sl (by simp only[wZ]<;>omega) (by unfold maxLen;simp only[wZ]<;>omega) ?_)
        |simp(disch:=omega) only[w64,if_neg]
       have he:(Ku S).take S.length++[vi n]=Ku (n::S):=by rw[List.take_of_length_le o_];exact KI S n
       exact⟨wg_,(n::S,⟨0,ra+1,rs+1,max rd S.length,rp⟩),by dsimp only;omega,trivial,trivial,trivial,trivial,trivial,trivial,trivial,trivial,trivial,trivial,hP2,rfl,by dsimp only;rw[List.length_cons];omega,by dsimp only;omega,by dsimp only;omega,by dsimp only;omega,by dsimp only;omega,by dsimp only;rw[show sp - (rs+1)+1=sp - rs by omega];exact k1_7,⟨_,rfl,by((try simp only[wM]);(repeat first|rw[if_pos trivial]|rw[if_pos rfl]|rw[if_neg o_]));rw[he],o_,wg_⟩,⟨vP,rfl,hGP.mono wg_ (fun x h1 h2=>by have:=Gr.ne hGP oS h1;have:=Gr.ne hGP oR h1;((try simp only[wM]);(repeat first|rw[if_pos trivial]|rw[if_pos rfl]|rw[if_neg o_])))⟩⟩
   · rw [if_neg c1]at k1_7
     by_cases c2:a1=2
     · subst c2
       rw[if_pos rfl]at k1_7
       obtain ⟨p,x,l',q0,st0,n,row2,rfl,e2,e3,e4,e5,e6,e7,e8,e9,e10,g1_,g3_,g4_,hnl,hP2⟩:=hgo rfl
       clear hgo hsh
       rw[Int.toNat_natCast,e9,e7,e10,List.headD_cons,g4_]at k1_7
       obtain ⟨xl,xr,xp,xc,xa,xt⟩:=x
       dsimp only at e3 e5 e6 e7 e9 k1_7
       subst e3
       have hz5:IntKind.i64.wrap ((S.length:Int) - (xr.length:Int))=((S.length - xr.length:Nat):Int):=by rw[wrap64 o_ o_];omega
       have hz6:IntKind.i64.wrap (((S.length - 1:Nat):Int) - (xr.length:Int))=((S.length - 1 - xr.length:Nat):Int):=by rw[wrap64 o_ o_];omega
       have hst2:(Ku S)[S.length - 1 - xr.length]?=some (vi q0):=by
        have h:=qbF (st:=S) (n:=xr.length) e6
        rw[e7]at h
        exact h
       by_cases hlim:sp≤rs∨dp<S.length - xr.length
       · rw[if_pos hlim]at k1_7
         repeat' with_reducible first
          |refine s_ ?_
          |simp only[wZZ,seval,g2,g3,g4,g5,g6,g10,g11,o0,o1,o2,g12,oR,oS,hzl,htn,hz5,hz6]
          |(first|apply qa|apply qg|apply qh)<;>intro h h_<;>(try simp only[wD,reduceCtorEq]at h_)<;>(try exact wb_)<;>(try simp only[h])
          |apply zm;omega;omega
          |(refine ldW rfl hst wu_ ?_)
          |(refine ldW rfl hst2 wu_ ?_)
          |refine t_ ?_
          |refine cq3 htoc qc qc qc ?_
          |simp(disch:=omega) only[w64,if_neg]
         all_goals
          rw[← k1_7]
          refine qat (id:=2) rfl (Or.inr rfl) (by(simp only[wL,seval]);assumption) (by(simp only[wM];(repeat first|rw[if_pos trivial]|rw[if_pos rfl]|rw[if_neg o_]))<;>rfl) rfl ?_
          exact qb3 hGP
       · rw[if_neg hlim]at k1_7
         have hzp:IntKind.i64.wrap (((S.length - xr.length+1:Nat):Int) - 1)=((S.length - xr.length:Nat):Int):=by rw[wrap64 o_ o_];omega
         repeat' with_reducible first
          |refine s_ ?_
          |simp only[wZZ,seval,g2,g3,g4,g5,g6,g10,g11,o0,o1,o2,g12,oR,oS,hzl,htn,hz5,hz6,hzs,hzp,n0,n1,n2,n9,qbs,qbE,mxN]
          |(first|apply qa|apply qg|apply qh)<;>intro h h_<;>(try simp only[wD,reduceCtorEq]at h_)<;>(try exact wb_)<;>(try simp only[h])
          |apply zm;omega;omega
          |(refine ldW rfl hst wu_ ?_)
          |(refine ldW rfl hst2 wu_ ?_)
          |refine t_ ?_
          |refine cq3 htoc qc qc qc ?_
          |(apply za rfl (hGP.mono (Nat.le_refl _) (fun id h1 h2=>by have:=Gr.ne hGP oS h1;have:=Gr.ne hGP oR h1;((try simp only[wM]);(repeat first|rw[if_pos trivial]|rw[if_pos rfl]|rw[if_neg o_]))));(focus exact qU.sl);(focus(simp only[wZ]<;>omega));(focus(unfold maxLen;simp only[wZ]<;>omega)))
          |(refine VG (qI (fun x h=>Gr.ne hGP oR h) (by((try simp only[wM]);(repeat first|rw[if_pos trivial]|rw[if_pos rfl]|rw[if_neg o_]))<;>rfl)) rfl wu_ wu_ wu_ (by simp) ?_)
          |apply qik;omega;omega
          |(refine KF (es:=Ku S) rfl rfl (by((try simp only[wM]);(repeat first|rw[if_pos trivial]|rw[if_pos rfl]|rw[if_neg o_]));exact qI (fun x h=>Gr.ne hGP oS h) (by((try simp only[wM]);(repeat first|rw[if_pos trivial]|rw[if_pos rfl]|rw[if_neg o_]));exact oS)) o_ qU.sl (by simp only[wZ]<;>omega) (by unfold maxLen;simp only[wZ]<;>omega) ?_)
          |simp(disch:=omega) only[w64,if_neg]
         have he:(Ku S).take (S.length - xr.length)++[vi n]=Ku (n::S.drop xr.length):=by rw[qfY o_];exact KI _ n
         have hle:(n::q0::st0).length=S.length - xr.length+1:=by
          have h:=congrArg List.length e7
          rw[List.length_drop]at h
          rw[List.length_cons,← h]
         exact⟨wg_,(n::q0::st0,⟨0,ra,rs+1,max rd (S.length - xr.length),rp++[(p:Int)]⟩),by dsimp only;omega,trivial,trivial,trivial,trivial,trivial,trivial,trivial,qI (fun x h=>Gr.ne hGP o0 h) (by((try simp only[wM]);(repeat first|rw[if_pos trivial]|rw[if_pos rfl]|rw[if_neg o_]));exact o0),qI (fun x h=>Gr.ne hGP o1 h) (by((try simp only[wM]);(repeat first|rw[if_pos trivial]|rw[if_pos rfl]|rw[if_neg o_]));exact o1),qI (fun x h=>Gr.ne hGP o2 h) (by((try simp only[wM]);(repeat first|rw[if_pos trivial]|rw[if_pos rfl]|rw[if_neg o_]));exact o2),hP2,rfl,by dsimp only;omega,by dsimp only;omega,by dsimp only;omega,by dsimp only;rw[List.length_append];simp;omega,by dsimp only;omega,by dsimp only;rw[show sp - (rs+1)+1=sp - rs by omega];exact k1_7,⟨_,by rw[hle],by((try simp only[wM]);(repeat first|rw[if_pos trivial]|rw[if_pos rfl]|rw[if_neg o_]));rw[he,e7],o_,wg_⟩,⟨_,rfl,(Gr.tok (id:=s.next+6+15+4+2+2+2+9+22+12+5+3+5) (fin:=_) hh_ wg_).mono' (by rw[List.map_append]) (Nat.le_refl _) (fun _ _ _=>rfl)⟩⟩
     · rw[if_neg c2]at k1_7
       clear hgo hsh
       repeat' with_reducible first
        |refine s_ ?_
        |simp only[wZZ,seval,g2,g3,g4,g5,g6,g10,g11,o0,o1,o2,g12,oR,oS,hzl,htn]
        |apply qa<;>intro h h_<;>(try simp only[wD,reduceCtorEq]at h_)<;>(try exact wb_)<;>(try simp only[h])
        |apply zm;omega;omega
        |(refine ldW rfl hst wu_ ?_)
        |refine t_ ?_
        |refine cq3 htoc qc qc qc ?_
       rw[← k1_7]
       refine qat (id:=2) rfl (Or.inr rfl) (by(simp only[wL,seval]);assumption) (by(simp only[wM];(repeat first|rw[if_pos trivial]|rw[if_pos rfl]|rw[if_neg o_]))<;>rfl) rfl ?_
       exact qb3 hGP
end Go.Proofs
