import Derived.Test.YtkcegflhobejmaaGreatDoorBLS
import Derived.Test.YtkcegflhobejmaaGreatDoorBRB
import Derived.Test.YtkcegflhobejmaaGreatDoorCards
import Derived.Test.YtkcegflhobejmaaGreatDoorTie
import Derived.ProofKit
import Derived.OpenShut
import Derived.Lib.LaidTab
set_option maxRecDepth 20000
set_option linter.all false
set_option maxHeartbeats 8000000
namespace Go.Proofs
open Go.E
theorem YW{g:Grammar}{m:List Sta}{E:Nat->Bool}(hg:GOk g)(hM:MOk g m)(hR:∀q∈m,RMv q)(hG:MGo g m)(hS:qbp g m)(hE:IsGrow g false E):Pure Tryz.prog 28 [g.V,.sl 2 false (m.map Sta.V)] (.sl 1 false ((zW g E m).map zP)):=by
 refine pure_intro Tryz.func28 nm_ qqN (by show 2<=9;decide) ?_
 show ewp _ qvU _ _;have he:=yH (E:=E) hg hM hR hG hS;repeat' with_reducible first|refine qD ?_|simp -implicitDefEqProofs only[wZZ,seval]|(refine qJ rfl rfl rfl ((of_run hg hM hR hE).mono ?_);rintro v1 H1 n1 ⟨i,j,rfl,q1,q2,q3,q4,q5⟩)|refine t_ ?_
 refine qJ (H:=H1) rfl wu_ rfl ((xh (λ_=>true) (by rw[qbR];exact qO (kS q3 q5) jo) he).mono ?_);rintro v2 H2 n2 ⟨rfl,rfl,rfl⟩;repeat' with_reducible first|refine vD ?_
 refine qp rfl (Or.inr rfl) ?_;(simp -implicitDefEqProofs only[wL,seval]);exact qf
theorem qjR{src:Source}(h:qac src=true):GOk (jw src)/\MOk (jw src) (JH src)/\(∀q∈JH src,RMv q)/\MGo (jw src) (JH src)/\qbp (jw src) (JH src)/\qde (JH src)/\∀x,nxt (jw src) x≠1000:=by
 unfold qac at h;rw[Bool.and_eq_true]at h;obtain ⟨h1,h2⟩:=h;have hg:=gok h1;obtain ⟨m,hm⟩:=Option.isSome_iff_exists.1 h2;have e:JH src=m:=by unfold JH;rw[if_pos h1,hm];rfl
 rw[e];exact⟨hg,(qar hg hm).1,KP hg hm,(qar hg hm).2,qeo hm,qeq hg hm,qdY h1⟩
theorem qfw{g:Grammar}{m:List Sta}{E:Nat->Bool}(hg:GOk g)(hM:MOk g m):(qaQ g E m).length<=1000000/\∀l∈qaQ g E m,l.tk.length<=1000000:=by
 obtain ⟨hO,_⟩:=YU (E:=E) hM hg;have hml:=hM.len;have key:∀n,n<=m.length->(qf0 g m (zW g E m) n).length<=n *960:=λn=>by
  induction n with
  |zero=>intro _;exact Nat.zero_le _
  | succ n ih=>
    intro hn;have hq:m[n]?=some m[n]:=ge_ o_;have hk:qY m n=m[n].ker:=(by unfold qY;rw[hq];rfl);have hmem:=List.getElem_mem (show n<m.length by omega);have h1:=qbx hg (hM.ki _ hmem) (hM.kr _ hmem);have h2:=ih o_;rw[qbC,List.length_append,List.length_map,hk];omega
 have hdef:qaQ g E m=qf0 g m (zW g E m) m.length:=rfl;refine⟨by rw[hdef];have:=key m.length (Nat.le_refl _);omega,λl hl=>?_⟩;rw[hdef]at hl;unfold qf0 at hl;rw[List.mem_flatMap]at hl;obtain ⟨q,_,hl⟩:=hl;obtain ⟨p,_,rfl⟩:=List.mem_map.1 hl;have:=(Y1 hO (kN g m q p) [] kC).len
 show ((kN g m q p).foldl (qei (zW g E m)) []).length<=_;omega

set_option maxHeartbeats 4000000
@[reducible] def qa8:Source:={rules:=[{left:=[101],alts:=[{parts:=[{sym:={name:=[101]}},{sym:={name:=[43],lit:=true}},{sym:={name:=[120],lit:=true}}]},{parts:=[{sym:={name:=[120],lit:=true}}]}]}]}
def mC:List Sta:=[⟨[0],[(4,1),(1001,2)]⟩,⟨[33],[]⟩,⟨[1,17],[(3,3)]⟩,⟨[18],[(4,4)]⟩,⟨[19],[]⟩]
theorem lrC:(jw qa8).prods.map (λp=>(p.left,p.right))=[(0,[1001]),(1,[1001,3,4]),(1,[4])]:=by decide+kernel
theorem okC:J8 qa8=true:=by decide+kernel
theorem qx6:Zr (jw qa8)=some mC:=by decide+kernel
theorem qwG:qaQ (jw qa8) (λ_=>false) mC=[⟨1,2,[0,3]⟩,⟨4,1,[0,3]⟩]:=by decide+kernel
theorem qxP:zW (jw qa8) (λ_=>false) mC=[[0,3]]:=by decide+kernel
theorem qxZ:zS mC=[[0,3]]:=by decide+kernel
theorem qx3:qh mC=[(0,1001)]:=by decide+kernel
theorem qxU:jK (λ_=>false) mC=[[]]:=by decide+kernel
theorem qxQ:zl (jw qa8) (λ_=>false) mC=[[]]:=by decide+kernel
theorem qw3:VH (jw qa8) mC 1 2=[0]/\VH (jw qa8) mC 0 77=[]:=by decide+kernel
theorem qpN:Small qa8:=by
 refine⟨by simp,λd h=>?_,λd h=>?_,λd h=>?_,by simp,?_,?_,?_,?_⟩
 . cases h
 . cases h
 . cases h
 . decide
 . decide
 . decide
 . decide
theorem qwz:qa8.Fits:=by
 refine⟨by simp,by simp,by simp,λd h=>?_,by simp,λr hr=>?_⟩
 . cases h
 . simp only[List.mem_cons,List.not_mem_nil,or_false]at hr;subst hr;refine⟨by simp,by simp,λa ha=>?_⟩;simp only[List.mem_cons,List.not_mem_nil,or_false]at ha;rcases ha with rfl|rfl
   . refine⟨by simp,λp hp=>?_,by simp⟩;simp only[List.mem_cons,List.not_mem_nil,or_false]at hp;rcases hp with rfl|rfl|rfl<;>exact⟨by simp,by simp⟩
   . refine⟨by simp,λp hp=>?_,by simp⟩;simp only[List.mem_cons,List.not_mem_nil,or_false]at hp;subst hp;exact⟨by simp,by simp⟩
theorem qjy:IsGrow (jw qa8) false (λ_=>false):=by
 refine⟨λp hp h=>?_,λF hF k hk=>(by cases hk)⟩
 have:(p.left,p.right)∈(jw qa8).prods.map (λp=>(p.left,p.right)):=List.mem_map.2 ⟨p,hp,rfl⟩
 rw[lrC]at this;simp only[List.mem_cons,List.not_mem_nil,or_false,Prod.mk.injEq]at this;rcases this with ⟨e1,e2⟩|⟨e1,e2⟩|⟨e1,e2⟩<;>rw[e2]at h<;>cases h
theorem machC:qac qa8=true/\JH qa8=mC:=by unfold qac JH;rw[okC,qx6];exact⟨rfl,rfl⟩

set_option maxHeartbeats 8000000
theorem qm1{H:Nat->Option MObj}:Er false H (.agg [.str [],.sl 4 true [],.sl 3 true [.agg [.str [101],.sl 6 true [.agg [.sl 6 true [.agg [.str [101],.bool false,vi 0,vi 0,.str [],vi 0],.agg [.str [43],.bool true,vi 0,vi 0,.str [],vi 0],.agg [.str [120],.bool true,vi 0,vi 0,.str [],vi 0]],.str [],.bool false,vi 0,vi 0,vi 0],.agg [.sl 6 true [.agg [.str [120],.bool true,vi 0,vi 0,.str [],vi 0]],.str [],.bool false,vi 0,vi 0,vi 0]],vi 0]],.str []]) qa8.V:=by
 have p:∀(n:List UInt8) (b:Bool),Er false H (.agg [.str n,.bool b,vi 0,vi 0,.str [],vi 0]) (.agg [.str n,.bool b,vi 0,vi 0,.str [],vi 0]):=λn b=>qf;refine ErL.agg (.cons (.str _) (.cons (ErL.sl .nil) (.cons (ErL.sl ?_) (.cons (.str _) .nil))));refine .cons (ErL.agg (.cons (.str _) (.cons (ErL.sl ?_) (.cons (.int _ _) .nil)))) .nil;refine .cons (ErL.agg (.cons (ErL.sl ?_) (.cons (.str _) (.cons (.bool _) (.cons (.int _ _) (.cons (.int _ _) (.cons (.int _ _) .nil))))))) (.cons (ErL.agg (.cons (ErL.sl ?_) (.cons (.str _) (.cons (.bool _) (.cons (.int _ _) (.cons (.int _ _) (.cons (.int _ _) .nil))))))) .nil)
 . exact .cons (p _ _) (.cons (p _ _) (.cons (p _ _) .nil))
 . exact .cons (p _ _) .nil
theorem qwF:Pure Tryz.prog 13 [qa8.V] (.tup [(jw qa8).V,.sl 2 false (mC.map Sta.V),.bool true]):=by have:=Jv qwz (λ_=>qpN) gok;rw[machC.1,machC.2]at this;exact this
theorem JL{g:Grammar}{m:List Sta}{E:Nat->Bool}(hg:GOk g)(hM:MOk g m)(hR:∀q∈m,RMv q)(hG:MGo g m)(hS:qbp g m)(hE:IsGrow g false E):Pure Tryz.prog 22 [g.V,.sl 2 false (m.map Sta.V)] (.sl 1 false ((zl g E m).map zP)):=by
 refine pure_intro Tryz.func22 nm_ qui (by show 2<=9;decide) ?_
 show ewp _ qvI _ _;have he:=xK (E:=E) hg hM hR hG hS;repeat' with_reducible first|refine qD ?_|simp -implicitDefEqProofs only[wZZ,seval]|(refine qJ rfl rfl rfl ((of_run hg hM hR hE).mono ?_);rintro v1 H1 n1 ⟨i,j,rfl,q1,q2,q3,q4,q5⟩)|refine t_ ?_
 refine qJ (H:=H1) rfl wu_ rfl ((xh (λ_=>true) (by rw[qbR];exact qO (kS q3 q5) jo) he).mono ?_);rintro v2 H2 n2 ⟨rfl,rfl,rfl⟩;repeat' with_reducible first|refine vD ?_
 refine qp rfl (Or.inr rfl) ?_;(simp -implicitDefEqProofs only[wL,seval]);exact qf
theorem XY:Pure Tryz.prog 10 [] (.bool true):=by
 refine pure_intro Tryz.func10 nm_ qt3 (by show 0<=122;decide) ?_
 show ewp _ qq1 _ _;have hma:=qwF;obtain ⟨hg,hM,hR,hG,hMS,hMK,h1000⟩:=qjR machC.1;rw[machC.2]at hM hR hG hMS hMK;have a1:=Xo (m:=mC) (by decide) (by decide);rw[qx3]at a1;have a2:=qiy hg hM hR hG hMS qjy (hMK.k0 hg) h1000;rw[qwG]at a2;have a3:=Y8 hg hM hR;rw[qxZ]at a3;have a4:=YW hg hM hR hG hMS qjy;rw[qxP]at a4;have a5:=qxi (L:=[[0,3]]) (by decide) (by decide);have a6:=jC (a:=[0,3]) (b:=[0,3]) (by decide) (by decide);rw[decide_eq_true rfl]at a6;have a7:=VK (q:=1) (p:=2) hg hM hR;have a8:=VK (q:=0) (p:=77) hg hM hR;rw[qw3.1]at a7;rw[qw3.2]at a8;have a9:=jC (a:=[0]) (b:=[0]) (by decide) (by decide);rw[decide_eq_true rfl]at a9;have b1:=V8 hg hM hR qjy;rw[qxU]at b1;have b2:=JL hg hM hR hG hMS qjy;rw[qxQ]at b2;generalize jw qa8=g at *;generalize mC=m at *;repeat' with_reducible first|refine s_ ?_|simp -implicitDefEqProofs only[wZZ,seval]|apply jv (hp:=hma);with_unfolding_all exact qm1|apply jv (hp:=a1);with_unfolding_all exact qf|apply zQ (hp:=a2);with_unfolding_all exact qf;with_unfolding_all exact qf|apply zQ (hp:=a3);with_unfolding_all exact qf;with_unfolding_all exact qf|apply zQ (hp:=a4);with_unfolding_all exact qf;with_unfolding_all exact qf|apply zQ (hp:=a5);with_unfolding_all exact qf;with_unfolding_all exact ErL.sl (.cons (ErL.sl (.cons (.int _ _) (.cons (.int _ _) .nil))) .nil)|apply zQ (hp:=a6);with_unfolding_all exact qf;with_unfolding_all exact ErL.sl (.cons (.int _ _) (.cons (.int _ _) .nil))|apply qim (hp:=a7);with_unfolding_all exact qf;with_unfolding_all exact qf;with_unfolding_all exact qf;with_unfolding_all exact qf|apply qim (hp:=a8);with_unfolding_all exact qf;with_unfolding_all exact qf;with_unfolding_all exact qf;with_unfolding_all exact qf|apply zQ (hp:=a9);with_unfolding_all exact qf;with_unfolding_all exact ErL.sl (.cons (.int _ _) .nil)|(refine yK (v:=V.iptr 2 (prV (0,1001)) 0) wu_ ?_)|(refine yK (v:=V.iptr 3 (Lk.V ⟨1,2,[0,3]⟩) 0) wu_ ?_)|apply zQ (hp:=b1);with_unfolding_all exact qf;with_unfolding_all exact qf|apply zQ (hp:=b2);with_unfolding_all exact qf;with_unfolding_all exact qf|refine t_ ?_
 all_goals refine qp rfl (Or.inr rfl) ?_
 all_goals(try simp -implicitDefEqProofs only[wL,seval])
 all_goals refine er_ ?_
 all_goals(try(with_reducible rfl))

theorem qkm{g:Grammar}{m:List Sta}{E:Nat->Bool}(hg:GOk g)(hM:MOk g m):∀l∈qaQ g E m,∃q n:Nat,q<m.length/\1<=n/\n<g.prods.length/\l=qi2 g m (zW g E m) q n:=by
 intro l hl;have hdef:qaQ g E m=qf0 g m (zW g E m) m.length:=rfl;rw[hdef]at hl;unfold qf0 at hl;rw[List.mem_flatMap]at hl;obtain ⟨q,hq,hl⟩:=hl;have hq:=List.mem_range.1 hq;obtain ⟨p,hp,rfl⟩:=List.mem_map.1 hl;have hk:qY m q=m[q].ker:=by unfold qY;rw[ge_ hq];rfl
 have hmem:=List.getElem_mem hq;rw[hk]at hp;obtain ⟨n,rfl,h1,h2⟩:=qbl hg (hM.ki _ hmem) (hM.kr _ hmem) p hp;exact⟨q,n,hq,h1,h2,rfl⟩
theorem qj5{g:Grammar}{m:List Sta}(hg:GOk g)(hm:Zr g=some m):MOk g m/\(∀q∈m,RMv q)/\MGo g m/\qbp g m/\qde m:=
 ⟨(qar hg hm).1,KP hg hm,(qar hg hm).2,qeo hm,qeq hg hm⟩
theorem Zu{x:GrI}(hb1:x.rules.length<=1099511627776)(hb2:∀l∈x.rules,l.length<=1099511627776)(hib:x.inner.length<=1099511627776)(hlb:x.levels.length<=1099511627776):Pure Tryz.prog 7 [x.V] (.bool true):=by
 refine pure_intro Tryz.func7 nm_ qwV (by show 1<=137;decide) ?_
 show ewp _ qwm _ _;have hw:=XY;have hsrc:=X0 (x:=x) hb1 hb2 hib hlb;have hok:=qfO x;have hgr:=yO (src:=qX x) (XJ x) (λ_=>qaT x);rw[hok]at hgr;have hg:=gok hok;have h1000:=qdY hok;have hau:=qoY hg h1000;generalize jw (qX x)=g at *;cases ha:Zr g with
 | none=>
   rw[ha]at hau;simp only[qpC]at hau;repeat' with_reducible first|refine s_ ?_|simp -implicitDefEqProofs only[wZZ,seval]|refine cq0 hw ?_|refine cq1 hsrc qf ?_|refine cq1 hgr (XK (qX x)) ?_|refine cq1 hau qf ?_|refine t_ ?_
   all_goals refine qp rfl (Or.inr rfl) ?_
   all_goals(try simp -implicitDefEqProofs only[wL,seval])
   all_goals refine er_ ?_
   all_goals(try(with_reducible rfl))
 | some m =>
   rw[ha]at hau;simp only[qpC]at hau;obtain ⟨hM,hR,hG,hMS,hMK⟩:=qj5 hg ha;obtain ⟨E,hE,_⟩:=Jz (token:=false) hg;have htl:=hM.trans_len;obtain ⟨hO,hOl⟩:=YU (E:=E) hM hg;have hml:=hM.len;have a0:=Xo (m:=m) o_ (λq h=>by have:=hM.mvl q h;omega);have a1:=YW hg hM hR hG hMS hE;have a3:=qxi (L:=zW g E m) o_ (λl hl=>by have:=(hO l hl).len;omega);have b1:=qiy hg hM hR hG hMS hE (hMK.k0 hg) h1000;have d1:=JL hg hM hR hG hMS hE;have d2:=V8 hg hM hR hE;have d3:=Y8 hg hM hR;have hdo:=Vi hM hg;have hdl:=Xd m;have h4:=Zj hg hM hR (qd4 (E:=E) hM) hdo hdl;have hgo:=Zp (rel:=jK E m) 400000 hdo;have h5:=Zj hg hM hR (qej (g:=g) (E:=E) hM) hgo.1 (hgo.2.trans hdl);have hdef:zW g E m=j5 400000 (j5 400000 (zS m) (jK E m)) (zl g E m):=rfl;rw[<- hdef]at h5;obtain ⟨s1,s2⟩:=qfw (E:=E) hg hM;have hlm:=qkm (E:=E) hg hM;clear hdo hgo hdef;generalize qaQ g E m=L at *;generalize zW g E m=f at *;generalize j5 400000 (zS m) (jK E m)=A4 at *;generalize zl g E m=A1 at *;generalize jK E m=A2 at *;generalize zS m=A3 at *;have hbk:=λ(q p:Int)=>VK (g:=g) (m:=m) (q:=q) (p:=p) hg hM hR;have hbm:=λ(q p:Int)=>qbe (m:=m) (g:=g) (q:=q) (p:=p);have htr:((qh m).map prV).length=(qh m).length:=List.length_map _;generalize (qh m).map prV=TV at *;repeat' with_reducible first|refine s_ ?_|simp -implicitDefEqProofs only[wZZ,seval]|refine cq0 hw ?_|refine cq1 hsrc qf ?_|refine cq1 hgr (XK (qX x)) ?_|refine cq1 hau qf ?_|refine t_ ?_|refine cq1 a0 qf ?_|refine cq2 a1 qf qf ?_|refine cq2 d1 qf qf ?_|refine cq2 d2 qf qf ?_|refine cq2 d3 qf qf ?_|refine cq2 h4 qf qf ?_|refine cq2 h5 qf qf ?_|refine cq2 a3 qf qf ?_|refine cq2 b1 qf qf ?_
   refine qc ?nx1 (λ(i:Nat) s=>s.f 3=?v1_3/\s.f 5=?v1_5/\s.f 7=?v1_7/\s.f 8=?v1_8/\s.f 9=?v1_9/\s.H 10=some (.own 5 [g.V] false)/\s.f 10=vi i/\(i<=L.length)) (λi=>L.length - i) (0) wj_ (by refine⟨?_,?_,?_,?_,?_,?_,?_,wo_⟩<;>first|(simp -implicitDefEqProofs only[wL,wM,wN,wX,seval,Option.some.injEq]<;>exact wt_)|rfl|exact⟨_,rfl⟩) ?_;intro i s hnx ⟨g3,g5,g7,g8,g9,o0,g10,k1_0⟩;have hz:=w1_ i;by_cases hi:i<L.length
   . have hgi:L[i]?=some L[i]:=ge_ hi;obtain ⟨q,n,hq,hn1,hn2,hl⟩:=hlm _ (List.getElem_mem hi);rw[hl]at hgi;have hbk:=hbk (q:Int) (n:Int);have hba:VH g m (q:Int) (n:Int)=kN g m q n:=if_neg o_;rw[hba]at hbk;have hbm:=hbm (q:Int) (n:Int);have hbl:(kN g m q n).length<=9600:=by
      unfold kN;rw[List.length_map];exact Nat.le_trans (List.length_filter_le _ _) (by rw[List.length_range];exact htl)
     have hlk:qi2 g m f q n={st:=q,pr:=n,tk:=(kN g m q n).foldl (qei f) []}:=rfl;rw[hlk]at hgi;generalize kN g m q n=B at *;have hU0:=Y1 hO B [] kC;have heq:=jC (a:=B.foldl (qei f) []) (b:=B.foldl (qei f) []) (by have:=hU0.len;omega) (by have:=hU0.len;omega);rw[decide_eq_true rfl]at heq;generalize hT:B.foldl (qei f) []=T at *;repeat' with_reducible first|refine s_ ?_|simp -implicitDefEqProofs only[wZZ,seval,g3,g5,g7,g8,g9,g10,o0,hz]|apply qa<;>intro h h_<;>(try simp only[wD,reduceCtorEq]at h_)<;>(try exact wb_)<;>(try simp only[h])|refine t_ ?_|refine cq4 hbk qf qf qf qf ?_
     refine qc ?nx2 (λ(k:Nat) s=>s.f 3=?v2_3/\s.f 5=?v2_5/\s.f 7=?v2_7/\s.f 8=?v2_8/\s.f 9=?v2_9/\s.f 10=?v2_10/\s.f 11=?v2_11/\s.H 10=some (.own 5 [g.V] false)/\(∃c,s.f 12=.sl 1 c (((B.take k).foldl (qei f) []).map (V.int .i64)))/\s.f 13=vi k/\(k<=B.length)) (λk=>B.length - k) (0) wj_ (by refine⟨?_,?_,?_,?_,?_,?_,?_,?_,?_,?_,wo_⟩<;>first|(simp -implicitDefEqProofs only[wL,wM,wN,wX,seval,Option.some.injEq,g3,g5,g7,g8,g9,g10,o0]<;>exact wt_)|rfl|exact⟨_,rfl⟩) ?_;intro k s hnx ⟨g3,g5,g7,g8,g9,g10,g11,o0,⟨c12,g12⟩,g13,k2_0⟩;have hzk:=w1_ k;by_cases hk:k<B.length
     . have hgk:B[k]?=some B[k]:=ge_ hk;obtain ⟨b,hb,hb2⟩:=hbm _ (List.getElem_mem hk);have hst3:=kE (qei f) [] hgk;have hgf:f[b]?=some f[b]:=ge_ o_;have hSo:=hO _ (List.mem_of_getElem? hgf);have hU3:=Y1 hO (B.take k) [] kC;rw[hb]at hgk hst3;have hfD:f.getD ((b:Int)).toNat []=f[b]:=(by rw[show ((b:Int)).toNat=b from rfl,List.getD,hgf];rfl);simp only[qei,hfD,joinL]at hst3;have hbf:b<f.length:=o_;generalize f[b]=S at *;generalize hU3e:(B.take k).foldl (qei f) []=U3 at *;repeat' with_reducible first|refine s_ ?_|simp -implicitDefEqProofs only[wZZ,seval,g3,g5,g7,g8,g9,g10,g11,g12,g13,o0,hzk]|(first|apply qa|apply qw|apply qx)<;>intro h h_<;>(try simp only[wD,reduceCtorEq]at h_)<;>(try exact wb_)<;>(try simp only[h])|refine t_ ?_
       refine qc ?nx3 (λ(j:Nat) s=>s.f 3=?v3_3/\s.f 5=?v3_5/\s.f 7=?v3_7/\s.f 8=?v3_8/\s.f 9=?v3_9/\s.f 10=?v3_10/\s.f 11=?v3_11/\s.f 13=?v3_13/\s.H 10=some (.own 5 [g.V] false)/\(∃c,s.f 12=.sl 1 c (((S.take j).foldl xA U3).map (V.int .i64)))/\s.f 14=vi j/\(j<=S.length)) (λj=>S.length - j) (0) wj_ (by refine⟨?_,?_,?_,?_,?_,?_,?_,?_,?_,?_,?_,wo_⟩<;>first|(simp -implicitDefEqProofs only[wL,wM,wN,wX,seval,Option.some.injEq,g3,g5,g7,g8,g9,g10,g11,g12,g13,o0]<;>exact wt_)|rfl|exact⟨_,rfl⟩) ?_;intro j s hnx ⟨g3,g5,g7,g8,g9,g10,g11,g13,o0,⟨c12,g12⟩,g14,k3_0⟩;have hSl:=hSo.len;have hzj:=w1_ j;by_cases hj:j<S.length
       . have hgj:S[j]?=some S[j]:=ge_ hj;have hst4:=kE xA U3 hgj;have hUl:=(hU3.join (hSo.take j)).len;generalize (S.take j).foldl xA U3=W at *;generalize S[j]=y at *;have hput:=Js (l:=W) (x:=y) o_;repeat' with_reducible first|refine s_ ?_|simp -implicitDefEqProofs only[wZZ,seval,g3,g5,g7,g8,g9,g10,g11,g13,g12,g14,o0,hzj]|apply qa<;>intro h h_<;>(try simp only[wD,reduceCtorEq]at h_)<;>(try exact wb_)<;>(try simp only[h])|refine t_ ?_|refine cq2 hput yB qf ?_
         refine⟨wk_,j+1,o_,?_⟩;refine⟨?_,?_,?_,?_,?_,?_,?_,?_,?_,?_,?_,?_⟩;iterate 11 (focus(first|(simp -implicitDefEqProofs only[wL,wM,wN,wX,seval,Option.some.injEq,g3,g5,g7,g8,g9,g10,g11,g13,g12,g14,o0,hst4]<;>exact wt_)|rfl|exact⟨_,rfl⟩))
         all_goals try omega
       . have e:S.take j=S:=List.take_of_length_le o_;rw[e]at g12;repeat' with_reducible first|refine s_ ?_|simp -implicitDefEqProofs only[wZZ,seval,g3,g5,g7,g8,g9,g10,g11,g13,g12,g14,o0,hzk]|apply qa<;>intro h h_<;>(try simp only[wD,reduceCtorEq]at h_)<;>(try exact wb_)<;>(try simp only[h])|refine t_ ?_
         refine⟨wk_,k+1,o_,?_⟩;refine⟨?_,?_,?_,?_,?_,?_,?_,?_,?_,?_,?_⟩;iterate 10 (focus(first|(simp -implicitDefEqProofs only[wL,wM,wN,wX,seval,Option.some.injEq,g3,g5,g7,g8,g9,g10,g11,g13,g12,g14,o0,hst3]<;>exact wt_)|rfl|exact⟨_,rfl⟩))
         all_goals try omega
     . have e:B.take k=B:=List.take_of_length_le o_;rw[e]at g12;rw[hT]at g12
       skip
       repeat' with_reducible first|refine s_ ?_|simp -implicitDefEqProofs only[wZZ,seval,g3,g5,g7,g8,g9,g10,g11,g12,g13,o0,hz]|apply qa<;>intro h h_<;>(try simp only[wD,reduceCtorEq]at h_)<;>(try exact wb_)<;>(try simp only[h])|refine t_ ?_|refine cq2 heq qf yB ?_
       refine⟨wk_,i+1,o_,?_⟩;refine⟨?_,?_,?_,?_,?_,?_,?_,?_⟩;iterate 7 (focus(first|(simp -implicitDefEqProofs only[wL,wM,wN,wX,seval,Option.some.injEq,g3,g5,g7,g8,g9,g10,g11,g12,g13,o0]<;>exact wt_)|rfl|exact⟨_,rfl⟩))
       all_goals try omega
   . have hlf:decide ((f.length:Int)=(TV.length:Int))=true:=decide_eq_true o_
     skip
     repeat' with_reducible first|refine s_ ?_|simp -implicitDefEqProofs only[wZZ,seval,g3,g5,g7,g8,g9,g10,o0,hz,hlf]|apply qa<;>intro h h_<;>(try simp only[wD,reduceCtorEq]at h_)<;>(try exact wb_)<;>(try simp only[h])
     all_goals refine qp rfl (Or.inr rfl) ?_
     all_goals(try simp -implicitDefEqProofs only[wL,seval,g3,g5,g7,g8,g9,g10])
     all_goals refine er_ ?_
     all_goals(try(with_reducible rfl))
end Go.Proofs

namespace Go.Proofs.YtkcegflhobejmaaGreatDoor.law
open Go.E Go.ChangeShapes Go.WideShapes Go.ChangeAt Go.RowKit
def B(H:Type)(d:DataW H):Nat:=Rows.uptoBulk d
theorem qcK{H:Type}(l:List (DataW H)):Rows.uptoBulkAll l=(l.map (B H)).sum:=by
 induction l with
 |nil=>simp[Rows.uptoBulkAll]
 |cons x l ih=>simp only[Rows.uptoBulkAll,ih,List.map_cons,List.sum_cons];rfl
theorem qbn:BulkOk B where
 one:=λH d=>by
  cases d with
  |lit l=>cases l<;>simp[B,Rows.uptoBulk]
  | _=>simp[B,Rows.uptoBulk]
 str:=λH s=>by simp[B,Rows.uptoBulk]
 slice:=λH x y=>by show _<=Rows.uptoBulk (.slice x y);simp only[Rows.uptoBulk,qcK];omega
 agg:=λH x=>by show _<=Rows.uptoBulk (.agg x);simp only[Rows.uptoBulk,qcK];omega
theorem small{H:Type}{l:List (DataW H)}(hk:Rows.uptoSmall H l=true):(l.map (B H)).sum<=1048576:=by have h:Rows.uptoBulkAll l<=1048576:=of_decide_eq_true hk;rwa [qcK]at h
theorem own:ownKnob Tryz.prog.godebug=none:=by kernel_rfl
theorem kids:Kids Tryz.prog (· <Tryz.prog.types.size):=kids_rows (by kernel_rfl) (by kernel_rfl)
theorem slices:∀t e,t<Tryz.prog.types.size->Tryz.prog.underlying t=some (.slice e)->0<Tryz.prog.cellsOf e:=slices_full_of Tryz.prog (by kernel_rfl)
theorem cells3:Tryz.prog.cellsOf 3=1:=by kernel_rfl
theorem qxy(N:Nat):ReadsN N Tryz.prog B 3 (Img (λn:Int=>.int .i64 n) (λ_=>1) (λn=>(Lit.int .i64 n).wf=true)):=qgS qbn Tryz.underlying3 cells3 N
theorem ZW:Tryz.prog.cellsOf 27=1:=by kernel_rfl
theorem qav:Tryz.prog.cellsOf 26=1:=by kernel_rfl
theorem quP:Tryz.prog.cellsOf 4=1:=by kernel_rfl
theorem qwl(N:Nat):ReadsN N Tryz.prog B 4 (Img (λn:Bool=>.bool n) (λ_=>1) (λ_=>True)):=qe9 qbn Tryz.underlying4 quP N
def szI(l:List Int):Nat:=(l.map λ_=>1).sum+1
theorem qnK(N:Nat):ReadsN N Tryz.prog B 27 (Img (λl:List Int=>.sl 1 false (l.map (V.int .i64))) szI (λl=>∀n∈l,(Lit.int .i64 n).wf=true)):=by have h:=YJ qbn Tryz.underlying27 ZW (by rw[cells3];omega) (qxy N);rw[cells3]at h;exact h.le o_
theorem quA(N:Nat):ReadsN N Tryz.prog B 26 (Img (λl:List (List Int)=>.sl 1 false (l.map λl=>.sl 1 false (l.map (V.int .i64)))) (λl=>(l.map szI).sum+1) (λl=>∀a∈l,∀n∈a,(Lit.int .i64 n).wf=true)):=by have h:=YJ qbn Tryz.underlying26 (by kernel_rfl) (by rw[ZW];omega) (qnK N);rw[ZW]at h;exact h.le o_
def szG(x:GrI):Nat:=((x.rules.map szI).sum+1)+szI x.levels+szI x.inner
theorem rGr(N:Nat):ReadsN N Tryz.prog B 29 (Img (λx:GrI=>x.V) szG (λ_=>True)):=by
 have h:=qbN (N:=N) (Qs:=[Img (λn:Int=>.int .i64 n) (λ_=>1) (λn=>(Lit.int .i64 n).wf=true),Img (λl:List (List Int)=>.sl 1 false (l.map λl=>.sl 1 false (l.map (V.int .i64)))) (λl=>(l.map szI).sum+1) (λl=>∀a∈l,∀n∈a,(Lit.int .i64 n).wf=true),Img (λl:List Int=>.sl 1 false (l.map (V.int .i64))) szI (λl=>∀n∈l,(Lit.int .i64 n).wf=true),Img (λl:List Int=>.sl 1 false (l.map (V.int .i64))) szI (λl=>∀n∈l,(Lit.int .i64 n).wf=true),Img (λn:Bool=>.bool n) (λ_=>1) (λ_=>True)]) qbn Tryz.underlying29 (by kernel_rfl) (by
  intro j f hf
  match j,hf with
  |0,hf=>cases hf;rfl
  |1,hf=>cases hf;simp[cells3,qav,ZW]
  |2,hf=>cases hf;simp[cells3,qav,ZW]
  |3,hf=>cases hf;simp[cells3,qav,ZW]
  |4,hf=>cases hf;simp[cells3,qav,ZW]) rfl (by
  intro i f Q hf hQ
  match i,hf,hQ with
  |0,hf,hQ=>cases hf;cases hQ;exact qxy N
  |1,hf,hQ=>cases hf;cases hQ;exact quA N
  |2,hf,hQ=>cases hf;cases hQ;exact qnK N
  |3,hf,hQ=>cases hf;cases hQ;exact qnK N
  |4,hf,hQ=>cases hf;cases hQ;exact qwl N)
 have hc:Tryz.prog.cellsOf 29=5:=by kernel_rfl
 refine⟨?_,λH enc w fuel cs x hf hx=>?_⟩
 . rintro v n ⟨x,_,rfl,rfl⟩;refine⟨by rw[hc];rfl,?_,by simp[V.isAgg,qiS,Tryz.underlying29]⟩;intro c hcm;simp only[V.cells,List.mem_cons,List.not_mem_nil,or_false]at hcm;rcases hcm with rfl|rfl|rfl|rfl|rfl<;>rfl
 . obtain ⟨v,n,⟨ps,hl,hq,rfl,rfl⟩,h2,h3⟩:=h.rd H enc w fuel cs x o_ hx
   match ps,hl with
   | [p0,p1,p2,p3,p4],_=>
     obtain ⟨a0,-,e0,s0⟩:=hq 0 _ _ rfl rfl;obtain ⟨a1,-,e1,s1⟩:=hq 1 _ _ rfl rfl;obtain ⟨a2,-,e2,s2⟩:=hq 2 _ _ rfl rfl;obtain ⟨a3,-,e3,s3⟩:=hq 3 _ _ rfl rfl;obtain ⟨a4,-,e4,s4⟩:=hq 4 _ _ rfl rfl;refine⟨(GrI.mk a0 a1 a2 a3 a4).V,_,⟨GrI.mk a0 a1 a2 a3 a4,trivial,rfl,rfl⟩,?_,?_⟩
     . simp only[List.map_cons,List.map_nil,List.flatMap_cons,List.flatMap_nil,e0,e1,e2,e3,e4]at h2;exact h2
     . simp only[List.map_cons,List.map_nil,List.sum_cons,List.sum_nil,s0,s1,s2,s3,s4]at h3;simp only[szG];omega
theorem qcV(l:List Int):szI l=l.length+1:=by
 unfold szI
 induction l with
 |nil=>rfl
 |cons a l ih=>simp only[List.map_cons,List.sum_cons,List.length_cons]at ih ⊢;omega
theorem qdb:∀{L:List (List Int)} {l:List Int},l∈L->l.length+L.length<=(L.map szI).sum
 | a::L,l,h=>by
   have hs:∀L:List (List Int),L.length<=(L.map szI).sum:=λL=>by
    induction L with
    |nil=>simp
    |cons a L ih=>simp only[List.map_cons,List.sum_cons,List.length_cons,qcV];omega
   simp only[List.map_cons,List.sum_cons,List.length_cons,qcV];rcases List.mem_cons.1 h with rfl|h
   . have:=hs L;omega
   . have:=qdb h;omega
theorem qo5{x:GrI}(h:szG x<=1048576):x.rules.length<=1099511627776/\(∀l∈x.rules,l.length<=1099511627776)/\x.inner.length<=1099511627776/\x.levels.length<=1099511627776:=by
 simp only[szG,qcV]at h;refine⟨?_,λl hl=>by have:=qdb hl;omega,o_,o_⟩;cases hx:x.rules with
 |nil=>simp
 |cons a L=>have:=qdb (L:=x.rules) (l:=a) (by simp[hx]);rw[hx]at this h;simp only[List.length_cons]at this ⊢;omega
theorem qxx:Tryz.prog.globalNamed "math/bits.deBruijn64tab"=some 0:=by kernel_rfl
theorem qjG:(Tryz.prog.globals[0]?).map (·.type)=some 194:=by kernel_rfl
theorem table{W:World}(h:laidMetH Tryz.prog [("math/bits.deBruijn64tab",Rows.laid_math_bits_deBruijn64tab)] W):Lib.TabIs Tryz.prog W "math/bits.deBruijn64tab" .u8 (Lib.deBruijn64tab.map λ(n:Nat)=>(n:Int)):=
 Lib.tabIs_of_head (rest:=[]) qxx qjG Tryz.underlying194 Tryz.underlying5 (by kernel_rfl) (by kernel_rfl) h
theorem quI{W:World}(h:laidMetH Tryz.prog [("math/bits.deBruijn64tab",Rows.laid_math_bits_deBruijn64tab)] W):Go.E.GOk Tryz.prog W YX:=by
 intro g
 show R noβ W YX (if g=0 then _ else _) _;have hl:Lib.deBruijn64tab.length=64:=by decide
 split
 . rename_i e;subst e;refine .iptr 64 _ 0 0 0 (λj=>.int .u8 ((Lib.deBruijn64tab.map λ(n:Nat)=>(n:Int)).getD j 0)) (λj hj=>⟨trivial,?_⟩) (by simp[V.cells,hl]) (by simp[V.cells,V.scalar]) (λj c hc=>?_)
   . have:=(table h).cell qxx j (by simp[hl];exact hj);simpa using this
   . simp only[V.cells,List.getElem?_map,Option.map_eq_some_iff]at hc;obtain ⟨n,hn,rfl⟩:=hc
     have:(Lib.deBruijn64tab.map λ(n:Nat)=>(n:Int)).getD j 0=(n:Int):=by simp[List.getD,hn]
     rw[this];exact .int _ _
 . exact .iptr 0 (.agg []) 0 g 0 (λ_=>Go.undef) (λj hj=>absurd hj (Nat.not_lt_zero _)) rfl (by simp[V.cells]) (by simp[V.cells])
noncomputable def Vf (os:Os):World:=
 {World.holding Tryz.prog os ⟨#[],#[],[]⟩with heap:=(World.holding Tryz.prog os ⟨#[],#[],[]⟩).heap.modify 0 fun
  |.cells _ t frozen=>.cells ((Lib.deBruijn64tab.map λ(n:Nat)=>Value.int .u8 (n:Int)).toArray) t frozen
  |o=>o}
end Go.Proofs.YtkcegflhobejmaaGreatDoor.law
