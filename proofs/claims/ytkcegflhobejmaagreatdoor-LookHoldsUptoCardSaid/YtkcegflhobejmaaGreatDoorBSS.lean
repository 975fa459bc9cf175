import Derived.Test.YtkcegflhobejmaaGreatDoorBLH
import Derived.Test.YtkcegflhobejmaaGreatDoorBYB
import Derived.Test.YtkcegflhobejmaaGreatDoorCards
import Derived.Test.YtkcegflhobejmaaGreatDoorTie
import Derived.ProofKit
import Derived.OpenShut
import Derived.Lib.LaidTab
set_option maxRecDepth 20000
set_option linter.all false
set_option maxHeartbeats 8000000
namespace Go.Proofs
open Go.E
variable {g:Grammar}
theorem qdC{m:List Sta}{E:Nat->Bool}(hg:GOk g)(hM:MOk g m)(hR:∀q∈m,RMv q)(hG:MGo g m)(hS:V9 g m)(hE:IsGrow g false E):Pure Tryz.prog 28 [g.V,.sl 2 false (m.map Sta.V)] (.sl 1 false ((zJ g E m).map zS)):=by
 refine pure_intro Tryz.func28 nm_ qvs (by show 2<=9;decide) ?_
 show ewp _ qzc _ _;have he:=yt (E:=E) hg hM hR hG hS;repeat' with_reducible first|refine qL ?_|simp -implicitDefEqProofs only[wZZ,seval]|(refine qR rfl rfl rfl ((of_run hg hM hR hE).mono ?_);rintro v1 H1 n1 ⟨i,j,rfl,q1,q2,q3,q4,q5⟩)|refine t_ ?_
 refine qR (H:=H1) rfl wu_ rfl ((xq (λ_=>true) (by rw[qcb];exact qI (Qj q3 q5) ji) he).mono ?_);rintro v2 H2 n2 ⟨rfl,rfl,rfl⟩;repeat' with_reducible first|refine vJ ?_
 refine qz rfl (Or.inr rfl) ?_;(simp -implicitDefEqProofs only[wL,seval]);exact qd
theorem qjT{src:Source}(h:qaN src=true):GOk (jC src)/\MOk (jC src) (JJ src)/\(∀q∈JJ src,RMv q)/\MGo (jC src) (JJ src)/\V9 (jC src) (JJ src)/\qdw (JJ src)/\∀x,nxt (jC src) x≠1000:=by
 unfold qaN at h;rw[Bool.and_eq_true]at h;obtain ⟨h1,h2⟩:=h;have hg:=gok h1;obtain ⟨m,hm⟩:=Option.isSome_iff_exists.1 h2;have e:JJ src=m:=by unfold JJ;rw[if_pos h1,hm];rfl
 rw[e];exact⟨hg,(qaO hg hm).1,qab hg hm,(qaO hg hm).2,qeH hm,qeF hg hm,qeY h1⟩
theorem qgi{m:List Sta}{E:Nat->Bool}(hg:GOk g)(hM:MOk g m):(Vh g E m).length<=1000000/\∀l∈Vh g E m,l.tk.length<=1000000:=by
 obtain ⟨hO,_⟩:=Yy (E:=E) hM hg;have hml:=hM.len;have key:∀n,n<=m.length->(qen g m (zJ g E m) n).length<=n *960:=λn=>by
  induction n with
  |zero=>intro _;exact Nat.zero_le _
  | succ n ih=>
    intro hn;have hq:m[n]?=some m[n]:=ge_ o_;have hk:za m n=m[n].ker:=(by unfold za;rw[hq];rfl);have hmem:=List.getElem_mem (show n<m.length by omega);have h1:=qbD hg (hM.ki _ hmem) (hM.kr _ hmem);have h2:=ih o_;rw[qbW,List.length_append,List.length_map,hk];omega
 have hdef:Vh g E m=qen g m (zJ g E m) m.length:=rfl;refine⟨by rw[hdef];have:=key m.length (Nat.le_refl _);omega,λl hl=>?_⟩;rw[hdef]at hl;unfold qen at hl;rw[List.mem_flatMap]at hl;obtain ⟨q,_,hl⟩:=hl;obtain ⟨p,_,rfl⟩:=List.mem_map.1 hl;have:=(qaz hO (QL g m q p) [] QO).len
 show ((QL g m q p).foldl (qqu (zJ g E m)) []).length<=_;omega

set_option maxHeartbeats 4000000
@[reducible] def qbm:Source:={rules:=[{left:=[101],alts:=[{parts:=[{sym:={name:=[101]}},{sym:={name:=[43],lit:=true}},{sym:={name:=[120],lit:=true}}]},{parts:=[{sym:={name:=[120],lit:=true}}]}]}]}
def mC:List Sta:=[⟨[0],[(4,1),(1001,2)]⟩,⟨[33],[]⟩,⟨[1,17],[(3,3)]⟩,⟨[18],[(4,4)]⟩,⟨[19],[]⟩]
theorem lrC:(jC qbm).prods.map (λp=>(p.left,p.right))=[(0,[1001]),(1,[1001,3,4]),(1,[4])]:=by decide+kernel
theorem okC:YN qbm=true:=by decide+kernel
theorem qz3:Zr (jC qbm)=some mC:=by decide+kernel
theorem qy6:Vh (jC qbm) (λ_=>false) mC=[⟨1,2,[0,3]⟩,⟨4,1,[0,3]⟩]:=by decide+kernel
theorem qAk:zJ (jC qbm) (λ_=>false) mC=[[0,3]]:=by decide+kernel
theorem qzZ:zU mC=[[0,3]]:=by decide+kernel
theorem qAn:qh mC=[(0,1001)]:=by decide+kernel
theorem qAo:jA (λ_=>false) mC=[[]]:=by decide+kernel
theorem qAa:zo (jC qbm) (λ_=>false) mC=[[]]:=by decide+kernel
theorem qzR:VO (jC qbm) mC 1 2=[0]/\VO (jC qbm) mC 0 77=[]:=by decide+kernel
theorem qr8:Small qbm:=by
 refine⟨by simp,λd h=>?_,λd h=>?_,λd h=>?_,by simp,?_,?_,?_,?_⟩
 . cases h
 . cases h
 . cases h
 . decide
 . decide
 . decide
 . decide
theorem qyV:qbm.Fits:=by
 refine⟨by simp,by simp,by simp,λd h=>?_,by simp,λr hr=>?_⟩
 . cases h
 . simp only[List.mem_cons,List.not_mem_nil,or_false]at hr;subst hr;refine⟨by simp,by simp,λa ha=>?_⟩;simp only[List.mem_cons,List.not_mem_nil,or_false]at ha;rcases ha with rfl|rfl
   . refine⟨by simp,λp hp=>?_,by simp⟩;simp only[List.mem_cons,List.not_mem_nil,or_false]at hp;rcases hp with rfl|rfl|rfl<;>exact⟨by simp,by simp⟩
   . refine⟨by simp,λp hp=>?_,by simp⟩;simp only[List.mem_cons,List.not_mem_nil,or_false]at hp;subst hp;exact⟨by simp,by simp⟩
theorem qkn:IsGrow (jC qbm) false (λ_=>false):=by
 refine⟨λp hp h=>?_,λF hF k hk=>(by cases hk)⟩
 have:(p.left,p.right)∈(jC qbm).prods.map (λp=>(p.left,p.right)):=List.mem_map.2 ⟨p,hp,rfl⟩
 rw[lrC]at this;simp only[List.mem_cons,List.not_mem_nil,or_false,Prod.mk.injEq]at this;rcases this with ⟨e1,e2⟩|⟨e1,e2⟩|⟨e1,e2⟩<;>rw[e2]at h<;>cases h
theorem machC:qaN qbm=true/\JJ qbm=mC:=by unfold qaN JJ;rw[okC,qz3];exact⟨rfl,rfl⟩

set_option maxHeartbeats 8000000
theorem qpu{H:Nat->Option MObj}:Er false H (.agg [.str [],.sl 4 true [],.sl 3 true [.agg [.str [101],.sl 6 true [.agg [.sl 6 true [.agg [.str [101],.bool false,vi 0,vi 0,.str [],vi 0],.agg [.str [43],.bool true,vi 0,vi 0,.str [],vi 0],.agg [.str [120],.bool true,vi 0,vi 0,.str [],vi 0]],.str [],.bool false,vi 0,vi 0,vi 0],.agg [.sl 6 true [.agg [.str [120],.bool true,vi 0,vi 0,.str [],vi 0]],.str [],.bool false,vi 0,vi 0,vi 0]],vi 0]],.str []]) qbm.V:=by
 have p:∀(n:List UInt8) (b:Bool),Er false H (.agg [.str n,.bool b,vi 0,vi 0,.str [],vi 0]) (.agg [.str n,.bool b,vi 0,vi 0,.str [],vi 0]):=λn b=>qd;refine ErL.agg (.cons (.str _) (.cons (ErL.sl .nil) (.cons (ErL.sl ?_) (.cons (.str _) .nil))));refine .cons (ErL.agg (.cons (.str _) (.cons (ErL.sl ?_) (.cons (.int _ _) .nil)))) .nil;refine .cons (ErL.agg (.cons (ErL.sl ?_) (.cons (.str _) (.cons (.bool _) (.cons (.int _ _) (.cons (.int _ _) (.cons (.int _ _) .nil))))))) (.cons (ErL.agg (.cons (ErL.sl ?_) (.cons (.str _) (.cons (.bool _) (.cons (.int _ _) (.cons (.int _ _) (.cons (.int _ _) .nil))))))) .nil)
 . exact .cons (p _ _) (.cons (p _ _) (.cons (p _ _) .nil))
 . exact .cons (p _ _) .nil
theorem qy9:Pure Tryz.prog 13 [qbm.V] (.tup [(jC qbm).V,.sl 2 false (mC.map Sta.V),.bool true]):=by have:=Ju qyV (λ_=>qr8) gok;rw[machC.1,machC.2]at this;exact this
theorem qaC{m:List Sta}{E:Nat->Bool}(hg:GOk g)(hM:MOk g m)(hR:∀q∈m,RMv q)(hG:MGo g m)(hS:V9 g m)(hE:IsGrow g false E):Pure Tryz.prog 22 [g.V,.sl 2 false (m.map Sta.V)] (.sl 1 false ((zo g E m).map zS)):=by
 refine pure_intro Tryz.func22 nm_ qs0 (by show 2<=9;decide) ?_
 show ewp _ qyH _ _;have he:=xH (E:=E) hg hM hR hG hS;repeat' with_reducible first|refine qL ?_|simp -implicitDefEqProofs only[wZZ,seval]|(refine qR rfl rfl rfl ((of_run hg hM hR hE).mono ?_);rintro v1 H1 n1 ⟨i,j,rfl,q1,q2,q3,q4,q5⟩)|refine t_ ?_
 refine qR (H:=H1) rfl wu_ rfl ((xq (λ_=>true) (by rw[qcb];exact qI (Qj q3 q5) ji) he).mono ?_);rintro v2 H2 n2 ⟨rfl,rfl,rfl⟩;repeat' with_reducible first|refine vJ ?_
 refine qz rfl (Or.inr rfl) ?_;(simp -implicitDefEqProofs only[wL,seval]);exact qd
theorem XR:Pure Tryz.prog 10 [] (.bool true):=by
 refine pure_intro Tryz.func10 nm_ quK (by show 0<=122;decide) ?_
 show ewp _ qsi _ _;have hma:=qy9;obtain ⟨hg,hM,hR,hG,hMS,hMK,h1000⟩:=qjT machC.1;rw[machC.2]at hM hR hG hMS hMK;have a1:=qac (m:=mC) dc_ dc_;rw[qAn]at a1;have a2:=qg7 hg hM hR hG hMS qkn (hMK.k0 hg) h1000;rw[qy6]at a2;have a3:=qdq hg hM hR;rw[qzZ]at a3;have a4:=qdC hg hM hR hG hMS qkn;rw[qAk]at a4;have a5:=qAd (L:=[[0,3]]) dc_ dc_;have a6:=xN (a:=[0,3]) (b:=[0,3]) dc_ dc_;rw[decide_eq_true rfl]at a6;have a7:=qct (q:=1) (p:=2) hg hM hR;have a8:=qct (q:=0) (p:=77) hg hM hR;rw[qzR.1]at a7;rw[qzR.2]at a8;have a9:=xN (a:=[0]) (b:=[0]) dc_ dc_;rw[decide_eq_true rfl]at a9;have b1:=qfv hg hM hR qkn;rw[qAo]at b1;have b2:=qaC hg hM hR hG hMS qkn;rw[qAa]at b2;generalize jC qbm=g at *;generalize mC=m at *;repeat' with_reducible first|refine s_ ?_|simp -implicitDefEqProofs only[wZZ,seval]|apply yY (hp:=hma);with_unfolding_all exact qpu|apply yY (hp:=a1);with_unfolding_all exact qd|apply jZ (hp:=a2);with_unfolding_all exact qd;with_unfolding_all exact qd|apply jZ (hp:=a3);with_unfolding_all exact qd;with_unfolding_all exact qd|apply jZ (hp:=a4);with_unfolding_all exact qd;with_unfolding_all exact qd|apply jZ (hp:=a5);with_unfolding_all exact qd;with_unfolding_all exact ErL.sl (.cons (ErL.sl (.cons (.int _ _) (.cons (.int _ _) .nil))) .nil)|apply jZ (hp:=a6);with_unfolding_all exact qd;with_unfolding_all exact ErL.sl (.cons (.int _ _) (.cons (.int _ _) .nil))|apply qiQ (hp:=a7);with_unfolding_all exact qd;with_unfolding_all exact qd;with_unfolding_all exact qd;with_unfolding_all exact qd|apply qiQ (hp:=a8);with_unfolding_all exact qd;with_unfolding_all exact qd;with_unfolding_all exact qd;with_unfolding_all exact qd|apply jZ (hp:=a9);with_unfolding_all exact qd;with_unfolding_all exact ErL.sl (.cons (.int _ _) .nil)|(refine yw (v:=V.iptr 2 (prV (0,1001)) 0) wu_ ?_)|(refine yw (v:=V.iptr 3 (Lk.V ⟨1,2,[0,3]⟩) 0) wu_ ?_)|apply jZ (hp:=b1);with_unfolding_all exact qd;with_unfolding_all exact qd|apply jZ (hp:=b2);with_unfolding_all exact qd;with_unfolding_all exact qd|refine t_ ?_
 all_goals refine qz rfl (Or.inr rfl) ?_
 all_goals(try simp -implicitDefEqProofs only[wL,seval])
 all_goals refine er_ ?_
 all_goals(try(with_reducible rfl))

theorem qlp{m:List Sta}(hg:GOk g)(hm:Zr g=some m):MOk g m/\(∀q∈m,RMv q)/\MGo g m/\V9 g m/\qdw m:=
 ⟨(qaO hg hm).1,qab hg hm,(qaO hg hm).2,qeH hm,qeF hg hm⟩

theorem qgH{m:List Sta}{l:List Int}(hM:MOk g m)(h0:0<m.length)(hl:l.length<=1000000):Pure Tryz.prog 80 [.sl 2 false (m.map Sta.V),.sl 1 false (l.map (V.int .i64))] (vi (zT m 0 l)):=by
 refine pure_intro Tryz.func80 nm_ qw4 (by show 2<=8;decide) ?_
 show ewp _ qyd _ _;have hf:=qcc (q:=0) hM h0 hl;rw[show ((0:Nat):Int)=0 from rfl]at hf;repeat' with_reducible first|refine s_ ?_|simp -implicitDefEqProofs only[wZZ,seval]|refine cq3 hf qd qd qd ?_
 all_goals refine qz rfl (Or.inr rfl) ?_
 all_goals(try simp -implicitDefEqProofs only[wL,seval])
 all_goals refine er_ ?_
 all_goals(try(with_reducible rfl))
variable {L:List Lk}
theorem qfB{q p:Int}{i:Nat}{k:Lk}(h:L[i]?=some k):qbf q p (L.drop i)=if k.st=q/\k.pr=p then some k.tk else qbf q p (L.drop (i+1)):=by have hi:=List.getElem?_eq_some_iff.1 h;rw[List.drop_eq_getElem_cons hi.1,hi.2];rfl
theorem Xd{q p:Int}{T:List Int}(hL:L.length<=1000000)(h:qbf q p L=some T):Pure Tryz.prog 79 [.sl 3 false (L.map Lk.V),vi q,vi p] (.tup [.sl 1 false (T.map (V.int .i64)),.bool true]):=by
 refine pure_intro Tryz.func79 nm_ qxs (by show 3<=36;decide) ?_
 show ewp _ que _ _;repeat' with_reducible first|refine s_ ?_|simp -implicitDefEqProofs only[wZZ,seval]
 refine qb ?nx1 (λ(i:Nat) s=>s.f 0=?v1_0/\s.f 1=?v1_1/\s.f 2=?v1_2/\s.f 8=vi i/\(i<=L.length)/\(qbf q p (L.drop i)=some T)) (λi=>L.length - i) (0) wj_ (by refine⟨?_,?_,?_,?_,wo_,(by exact h)⟩<;>first|(simp -implicitDefEqProofs only[wL,wM,wN,wX,seval,Option.some.injEq]<;>exact wt_)|rfl|exact⟨_,rfl⟩) ?_;intro i s hnx ⟨g0,g1,g2,g8,k1_0,k1_1⟩;have hz:=w1_ i;by_cases hi:i<L.length
 . have hgi:L[i]?=some L[i]:=ge_ hi;rw[qfB hgi]at k1_1;generalize L[i]=k at *;obtain ⟨ks,kp,kt⟩:=k;dsimp only at k1_1;by_cases e1:ks=q
   . by_cases e2:kp=p
     . rw[if_pos ⟨e1,e2⟩]at k1_1;cases k1_1;have d1:decide (ks=q)=true:=decide_eq_true e1;have d2:decide (kp=p)=true:=decide_eq_true e2;repeat' with_reducible first|refine s_ ?_|simp -implicitDefEqProofs only[wZZ,seval,g0,g1,g2,g8,hz,d1,d2]|apply qa<;>intro h h_<;>(try simp only[wD,reduceCtorEq]at h_)<;>(try exact wb_)<;>(try simp only[h])|refine t_ ?_
       refine qft rfl (Or.inr rfl) ?_;(simp -implicitDefEqProofs only[wL,seval]);exact qd
     . rw[if_neg (λh=>e2 h.2)]at k1_1;have d1:decide (ks=q)=true:=decide_eq_true e1;have d2:decide (kp=p)=false:=decide_eq_false e2;repeat' with_reducible first|refine s_ ?_|simp -implicitDefEqProofs only[wZZ,seval,g0,g1,g2,g8,hz,d1,d2]|apply qa<;>intro h h_<;>(try simp only[wD,reduceCtorEq]at h_)<;>(try exact wb_)<;>(try simp only[h])|refine t_ ?_
       refine⟨wk_,i+1,o_,?_⟩;refine⟨?_,?_,?_,?_,?_,?_⟩;iterate 4 (focus(first|(simp -implicitDefEqProofs only[wL,wM,wN,wX,seval,Option.some.injEq,g0,g1,g2,g8]<;>exact wt_)|rfl|exact⟨_,rfl⟩))
       all_goals try omega
   . rw[if_neg (λh=>e1 h.1)]at k1_1;have d1:decide (ks=q)=false:=decide_eq_false e1;repeat' with_reducible first|refine s_ ?_|simp -implicitDefEqProofs only[wZZ,seval,g0,g1,g2,g8,hz,d1]|apply qa<;>intro h h_<;>(try simp only[wD,reduceCtorEq]at h_)<;>(try exact wb_)<;>(try simp only[h])|refine t_ ?_
     refine⟨wk_,i+1,o_,?_⟩;refine⟨?_,?_,?_,?_,?_,?_⟩;iterate 4 (focus(first|(simp -implicitDefEqProofs only[wL,wM,wN,wX,seval,Option.some.injEq,g0,g1,g2,g8]<;>exact wt_)|rfl|exact⟨_,rfl⟩))
     all_goals try omega
 . rw[List.drop_of_length_le o_]at k1_1;cases k1_1
theorem dh_{p:Prop}(h:p:=by(first|rfl|((try simp only[wM,jo,gid,Option.some.injEq,seval]);(repeat first|rw[if_pos trivial]|rw[if_pos rfl]|rw[if_neg o_])))):p:=h
theorem gr0{H:Nat->Option MObj}{next id fin:Nat}{A L:List Int}(h:H id=some (.tok fin))(hn:id<next):Gr H next 1 ((A++L.take 0).map (V.int .i64)) (.asl id fin 1 (A.map (V.int .i64))):=by rw[List.take_zero,List.append_nil];exact Gr.tok h hn
variable {ahead:List Int}
theorem qhr{m:List Sta}{y a next:Int}(hn:0<=0):Pure Tryz.prog 43 [g.V,.sl 2 false (m.map Sta.V),.sl 3 false (L.map Lk.V),(Nd.mk y (-1) a []).V,.sl 1 false (ahead.map (V.int .i64)),vi next] (.bool true):=by
 refine pure_intro Tryz.func43 nm_ ql3 (by show 6<=121;decide) ?_
 show ewp _ qlx _ _;rw[Nd.V_mk];repeat' with_reducible first|refine s_ ?_|simp -implicitDefEqProofs only[wZZ,seval]|refine t_ ?_
 all_goals refine qz rfl (Or.inr rfl) ?_
 all_goals(try simp -implicitDefEqProofs only[wL,seval])
 all_goals refine er_ ?_
 all_goals(try(with_reducible rfl))
theorem qzx{P:Program}[Glob P]{cls:Cls}{id:Nat}{s:St}{K:V->St->Prop}{f:FuncId}{x x' y y' z z' u u' v v' w w' res:V}(h1:Er false s.H x x')(h2:Er false s.H y y')(h3:Er false s.H z z')(h4:Er false s.H u u')(h5:Er false s.H v v')(h6:Er false s.H w w')(hp:E.Pure P f [x',y',z',u',v',w'] res)(hk:K res s):yL P cls id s K f [x,y,z,u,v,w]:=
 Or.inl ⟨false,[x',y',z',u',v',w'],res,λ_=>rfl,qI h1 (qI h2 (qI h3 (qI h4 (qI h5 (qI h6 ji))))),hp,(λh=>by cases h),hk⟩
theorem cq6{P:Program}[Glob P]{cls:Cls}{id:Nat}{s:St}{K:V->St->Prop}{f:FuncId}{x x' y y' z z' u u' v v' w w' res:V}(hp:E.Pure P f [x',y',z',u',v',w'] res)(h1:Er false s.H x x')(h2:Er false s.H y y')(h3:Er false s.H z z')(h4:Er false s.H u u')(h5:Er false s.H v v')(h6:Er false s.H w w')(hk:K res s):yL P cls id s K f [x,y,z,u,v,w]:=qzx h1 h2 h3 h4 h5 h6 hp hk
variable {ks:List Nd}
theorem qgC{j:Nat}{k:Nd}(h:ks[j]?=some k):Nd.ylds (ks.drop j)=k.yld++Nd.ylds (ks.drop (j+1)):=by have hi:=List.getElem?_eq_some_iff.1 h;rw[List.drop_eq_getElem_cons hi.1,hi.2,Nd.ylds]
theorem qhD{m:List Sta}{y a next:Int}{n:Nat}{right T:List Int}{q:Nat}(hg:GOk g)(hM:MOk g m)(h0:0<m.length)(hL:L.length<=1000000)(hb:(Nd.mk y n a ks).size<=100000)(ha:ahead.length<=1000000 - 10)(hp:∃p,g.prods[n]?=some p/\p.right=right)(hk:ks.length=right.length)(hsy:ks.map Nd.sym=right)(hwq:zT m 0 (ahead++right)=(q:Int))(hT:qbf q n L=some T)(hin:next∈T)(hTl:T.length<=1000)(ih:∀(i:Nat) k,ks[i]?=some k->Pure Tryz.prog 43 [g.V,.sl 2 false (m.map Sta.V),.sl 3 false (L.map Lk.V),k.V,.sl 1 false ((ahead++right.take i).map (V.int .i64)),vi ((Nd.ylds (ks.drop (i+1))).head?.getD next)] (.bool true)):Pure Tryz.prog 43 [g.V,.sl 2 false (m.map Sta.V),.sl 3 false (L.map Lk.V),(Nd.mk y n a ks).V,.sl 1 false (ahead.map (V.int .i64)),vi next] (.bool true):=by
 refine pure_intro Tryz.func43 nm_ ql3 (by show 6<=121;decide) ?_
 show ewp _ qlx _ _;obtain ⟨p,hp,hpr⟩:=hp;have hrl:=hg.rlen p (List.mem_of_getElem? hp);rw[hpr]at hrl;have hpl:=(List.getElem?_eq_some_iff.1 hp).1;have hpl2:=hg.pl2;obtain ⟨pl,pr,pc,pco,pa,pat⟩:=p;dsimp only at hpr;subst hpr;have hwk:=qgH (l:=ahead++pr) hM h0 (by rw[List.length_append];omega);rw[hwq]at hwk;have hto:=Xd (q:=(q:Int)) (p:=(n:Int)) hL hT;have hhas:=xX (a:=T) (x:=next) o_;rw[decide_eq_true hin]at hhas;have hsz:∀k∈ks,k.size<=100000:=λk hkm=>by have:=Nd.size_kid (s:=y) (p:=(n:Int)) (a:=a) hkm;omega
 rw[Nd.V_mk];repeat' with_reducible first|refine s_ ?_|simp -implicitDefEqProofs only[wZZ,seval,jo,gid,Option.some.injEq]|(first|apply qa|apply qA|apply qB)<;>intro h h_<;>(try simp only[wD,reduceCtorEq]at h_)<;>(try exact wb_)<;>(try simp only[h])|refine t_ ?_|(refine zq (next:=0) (xs:=[]) (ys:=ahead.map (V.int .i64)) rfl Gr.nil qY.sl (by simp only[wZ]<;>omega) (by unfold maxLen;simp only[wZ]<;>omega) ?_)|refine cq2 hwk qd Zy ?_|refine cq3 hto qd qd qd ?_|refine cq2 hhas qd qd ?_|(refine VE ?_;simp -implicitDefEqProofs only[wM,wN,seval,jo,gid,Option.some.injEq];apply qcE;(focus(first|exact qY.sl|exact qY.asl|exact qY.str));(exact wf_);(focus(unfold maxLen;first|omega|(simp only[wZ]<;>omega))))
 have hz0:0<ks.length->IntKind.i64.wrap ((ks.length:Int) - 1)=((ks.length - 1:Nat):Int):=λh=>by rw[wrap64 o_ o_];omega
 refine qb ?nx1 (λ(i:Nat) s=>s.f 1=?v1_1/\s.f 2=?v1_2/\s.f 5=?v1_5/\s.f 6=?v1_6/\s.f 9=?v1_9/\s.f 16=vi i/\(i<=ks.length)/\((∃v,s.f 15=v/\Gr s.H s.next 1 ((ahead++pr.take i).map (V.int .i64)) v))/\(s.H 0=some (.own 5 [g.V] false))/\(s.H 1=some (.own 4 [.agg [vi y,vi n,vi a,.sl 4 false (ks.map Nd.V)]] false))) (λi=>ks.length - i) (0) wj_ (by refine⟨?_,?_,?_,?_,?_,?_,wo_,(by exact⟨_,(by(simp -implicitDefEqProofs only[wL,seval])<;>rfl),gr0 dh_ wg_⟩),(by(try simp -implicitDefEqProofs only[wL,wM,wN,seval]);exact dh_),(by(try simp -implicitDefEqProofs only[wL,wM,wN,seval]);exact dh_)⟩<;>first|(simp -implicitDefEqProofs only[wL,wM,wN,wX,seval,Option.some.injEq]<;>exact wt_)|rfl|exact⟨_,rfl⟩) ?_;intro i s hnx ⟨g1,g2,g5,g6,g9,g16,k1_0,k1_1,o100,o101⟩;have hz:=w1_ i;by_cases hi:i<ks.length
 . obtain ⟨v15,g15,G15⟩:=k1_1;have hgi:ks[i]?=some ks[i]:=ge_ hi;have hzl:=hz0 o_;have hih:=ih i _ hgi;have hsi:pr[i]?=some ks[i].sym:=(by rw[<- hsy,List.getElem?_map,hgi];rfl);have htk:pr.take (i+1)=pr.take i++[ks[i].sym]:=(by rw[List.take_add_one,hsi];rfl);have hlt:(ahead++pr.take i).length<=1000000:=(by rw[List.length_append,List.length_take];omega);have htk2:ahead++pr.take (i+1)=(ahead++pr.take i)++[ks[i].sym]:=(by rw[htk,List.append_assoc]);generalize ahead++pr.take i=A at *;generalize hkk:ks[i]=k at *;have hkV:k.V=.agg [vi k.sym,vi k.prod,vi k.at_,.sl 4 false (k.kids.map Nd.V)]:=(by obtain ⟨e1,e2,e3,e4⟩:=k;rw[Nd.V_mk]);have hd0:Nd.ylds (ks.drop (ks.length - 1+1))=[]:=(by rw[List.drop_of_length_le o_];rfl);have h17:vi next=vi ((Nd.ylds (ks.drop (ks.length - 1+1))).head?.getD next):=by rw[hd0];rfl
   repeat' with_reducible first|refine s_ ?_|simp -implicitDefEqProofs only[wZZ,seval,g1,g2,g5,g6,g9,g16,o100,o101,hz,hzl]|apply qa<;>intro h h_<;>(try simp only[wD,reduceCtorEq]at h_)<;>(try exact wb_)<;>(try simp only[h])|refine t_ ?_
   refine qb ?nx2 (λ(j:Nat) s=>s.f 1=?v2_1/\s.f 2=?v2_2/\s.f 5=?v2_5/\s.f 6=?v2_6/\s.f 9=?v2_9/\s.f 16=?v2_16/\s.f 18=vi j/\(i<=j)/\(j<ks.length)/\(Gr s.H s.next 1 (A.map (V.int .i64)) v15)/\(s.H 0=some (.own 5 [g.V] false))/\(s.H 1=some (.own 4 [.agg [vi y,vi n,vi a,.sl 4 false (ks.map Nd.V)]] false))/\(s.f 17=vi ((Nd.ylds (ks.drop (j+1))).head?.getD next))/\(s.f 15=v15)) (λj=>j - i) (ks.length - 1) wj_ (by refine⟨?_,?_,?_,?_,?_,?_,?_,wo_,wo_,(by exact G15.mono wg_ (λj h1 h2=>hh_)),(by(try simp -implicitDefEqProofs only[wL,wM,wN,seval,g1,g2,g5,g6,g9,g16,o100,o101]);first|done|exact o0),(by(try simp -implicitDefEqProofs only[wL,wM,wN,seval,g1,g2,g5,g6,g9,g16,o100,o101]);first|done|exact o1),(by(try simp -implicitDefEqProofs only[wL,wM,wN,seval,g1,g2,g5,g6,g9,g16,o100,o101]);first|done|exact h17|rfl),(by(try simp -implicitDefEqProofs only[wL,wM,wN,seval,g1,g2,g5,g6,g9,g16,o100,o101]);first|done|rfl|exact g15)⟩<;>first|(simp -implicitDefEqProofs only[wL,wM,wN,wX,seval,Option.some.injEq,g1,g2,g5,g6,g9,g16,o100,o101]<;>exact wt_)|rfl|exact⟨_,rfl⟩) ?_;intro j s hnx ⟨g1,g2,g5,g6,g9,g16,g18,k2_0,k2_1,k2_2,o100,o101,g17,g15⟩;have hzj:0<j->IntKind.i64.wrap ((j:Int) - 1)=((j - 1:Nat):Int):=λh=>by rw[wrap64 o_ o_];omega
   by_cases hj:i<j
   . have hgj:ks[j]?=some ks[j]:=ge_ k2_1;have hyd:=qgC hgj;have hszj:=hsz _ (List.getElem_mem k2_1);have hte:=qbA 100000 ks[j] hszj o_;have hzj:=hzj o_;generalize ks[j]=kj at *;have hjV:kj.V=.agg [vi kj.sym,vi kj.prod,vi kj.at_,.sl 4 false (kj.kids.map Nd.V)]:=(by obtain ⟨e1,e2,e3,e4⟩:=kj;rw[Nd.V_mk]);simp only[hjV,qgP]at hte;have hhd:(Nd.ylds (ks.drop (j - 1+1))).head?=kj.yld.head?.or (Nd.ylds (ks.drop (j+1))).head?:=(by rw[show j - 1+1=j by omega,hyd,qa1]);cases hyl:kj.yld with
     | nil=>
       rw[hyl]at hte hhd;repeat' with_reducible first|refine s_ ?_|simp -implicitDefEqProofs only[wZZ,seval,g1,g2,g5,g6,g9,g16,g18,g17,g15,o100,o101,hz,hzj,hjV]|apply qa<;>intro h h_<;>(try simp only[wD,reduceCtorEq]at h_)<;>(try exact wb_)<;>(try simp only[h])|refine t_ ?_|refine cq1 hte qd ?_
       refine⟨wg_,j - 1,o_,?_⟩;repeat refine⟨True.intro,?_⟩
       exact⟨rfl,o_,o_,k2_2.mono wg_ (λ_ _ _=>rfl),trivial,trivial,by rw[hhd];rfl,trivial⟩
     | cons y0 yr=>
       rw[hyl]at hte hhd;have hg0:(y0::yr)[0]?=some y0:=rfl;repeat' with_reducible first|refine s_ ?_|simp -implicitDefEqProofs only[wZZ,seval,g1,g2,g5,g6,g9,g16,g18,g17,g15,o100,o101,hz,hzj,hjV]|apply qa<;>intro h h_<;>(try simp only[wD,reduceCtorEq]at h_)<;>(try exact wb_)<;>(try simp only[h])|refine t_ ?_|refine cq1 hte qd ?_
       refine⟨wg_,j - 1,o_,?_⟩;repeat refine⟨True.intro,?_⟩
       exact⟨rfl,o_,o_,k2_2.mono wg_ (λ_ _ _=>rfl),trivial,trivial,by rw[hhd];rfl,trivial⟩
   . have e:j=i:=o_;subst e;simp only[hkV]at hih;have hlA:(A.map (V.int .i64)).length=A.length:=List.length_map _;repeat' with_reducible first|refine s_ ?_|simp -implicitDefEqProofs only[wZZ,seval,g1,g2,g5,g6,g9,g16,g18,g17,g15,o100,o101,hz,hkV]|refine t_ ?_|refine cq6 hih qd qd qd qd (k2_2.er rfl) qd ?_|apply zq rfl (k2_2.mono (Nat.le_refl _) (λid h1 h2=>by(try simp only[wM]);(repeat rw[if_neg o_])));(focus(first|exact qY.sl|exact qY.asl));(focus(simp only[wZ,hlA];omega));(focus(unfold maxLen;simp only[wZ,hlA];omega))
     refine⟨wg_,j+1,o_,?_⟩;repeat refine⟨True.intro,?_⟩
     exact⟨rfl,o_,⟨_,rfl,by rw[htk2];exact Gr.tok (fin:=A.length+1) hh_ wg_⟩,k2_2.dropO as_,k2_2.dropO as_⟩
 . skip
   repeat' with_reducible first|refine s_ ?_|simp -implicitDefEqProofs only[wZZ,seval,g1,g2,g5,g6,g9,g16,o100,o101,hz]|apply qa<;>intro h h_<;>(try simp only[wD,reduceCtorEq]at h_)<;>(try exact wb_)<;>(try simp only[h])|refine t_ ?_
   all_goals refine qz rfl (Or.inr rfl) ?_
   all_goals(try simp -implicitDefEqProofs only[wL,seval,g1,g2,g5,g6,g9,g16])
   all_goals refine er_ ?_
   all_goals(try(with_reducible rfl))

theorem qje{g:Grammar}{L:Nat->Int->Prop}{d:Nat}:∀{l:List Int} {i b:Nat} {ks:List Nd},Fst (kK g L d) l i b ks->ks.map Nd.sym=l
 |[],i,b,ks,⟨_,e⟩=>by subst e;rfl
 | x::l,i,b,ks,⟨a,k,r,e,h1,h2⟩=>by subst e;rw[List.map_cons,qfx h1,qje h2]
theorem qez{g:Grammar}{m:List Sta}{E:Nat->Bool}(hg:GOk g)(hM:MOk g m)(hG:MGo g m)(hS:V9 g m)(hE:IsGrow g false E)(h1000:∀x,nxt g x≠1000)(hl:(Vh g E m).length<=1000000):∀(N:Nat) (t:Nd),t.size<=N->∀(d:Nat) (s:Int) (i j:Nat) (ahead:List Int) (next:Int),kK g qoz d s i j t->qbZ m (zJ g E m) s ahead next->ahead.length+10 *t.size<=900000->t.size<=100000->
 Pure Tryz.prog 43 [g.V,.sl 2 false (m.map Sta.V),.sl 3 false ((Vh g E m).map Lk.V),t.V,.sl 1 false (ahead.map (V.int .i64)),vi next] (.bool true)
 |0,t,h,_,_,_,_,_,_,_,_,_,_=>by have:=t.size_pos;omega
 | N + 1,t,h,d,s,i,j,ahead,next,hT,hH,hb,hb2=>by
   cases d with
   |zero=>exact hT.elim
   | succ d=>
     rcases hT with ⟨_,_,_,rfl⟩|⟨n,p,ks,hp,hs,rfl,hF⟩
     . exact qhr (Nat.le_refl _)
     . subst hs;obtain ⟨q,T,h1,h2,h3,h4,h5⟩:=qqD hg hM hG hS h1000 hp hH;obtain ⟨k1,k2⟩:=ql1 hF;have hrl:=hg.rlen p (List.mem_of_getElem? hp);have hTl:=h5.len;refine qhD hg hM hG.len hl hb2 o_ ⟨p,hp,rfl⟩ k1 (qje hF) h1 h3 h4 o_ λc k hk=>?_;obtain ⟨s',a,b,e1,e2,e3⟩:=k2 c k hk;have hkm:=Nd.size_kid (s:=1000+p.left) (p:=(n:Int)) (a:= -1) (List.mem_of_getElem? hk);refine qez hg hM hG hS hE h1000 hl N k o_ d s' a b _ _ e2 (qk3 hg hM hG hS hE hp hH e1 (qhf _ e3)) ?_ o_;rw[List.length_append,List.length_take];omega
theorem Zn{y:Source}{P:List Int}(hy:y.Fits)(hP:P.length<=1099511627776):Pure Tryz.prog 9 [y.V,.sl 1 false (P.map (V.int .i64))] (.bool true):=by
 refine pure_intro Tryz.func9 nm_ qyg (by show 2<=51;decide) ?_
 show ewp _ qyO _ _;have hw:=XR;have hcut:=qaI hy;have hgr:=y9 (src:=qgn y) (qhm y) (qfw y);have hint:=VT (n:=20) hP o_;have hil:(qcs P 20).length<=1099511627776:=by
  unfold qcs;split
  . rw[List.length_take];omega
  . exact hP
 generalize qcs P 20=P2 at *;generalize qgn y=src at *;cases hb:YN src with
 | false=>
   rw[hb]at hgr;generalize jC src=g at *;repeat' with_reducible first|refine s_ ?_|simp -implicitDefEqProofs only[wZZ,seval]|refine cq0 hw ?_|refine cq1 hcut (yU y) ?_|refine cq1 hgr (yU src) ?_|refine t_ ?_
   all_goals refine qz rfl (Or.inr rfl) ?_
   all_goals(try simp -implicitDefEqProofs only[wL,seval])
   all_goals refine er_ ?_
   all_goals(try(with_reducible rfl))
 | true =>
   rw[hb]at hgr;have hg:=gok hb;have h1000:=qeY hb;have hau:=qm8 hg h1000;generalize jC src=g at *;have hk:∃k p r,g.prods=p::r/\p.right=[1000+((k:Nat):Int)]/\k<g.nons.length:=by obtain ⟨p,r,ep,_,k,h1,h2⟩:=hg.head;exact⟨k,p,r,ep,h1,h2⟩
   obtain ⟨k,p,r,ep,hpr,hkn⟩:=hk;obtain ⟨v,⟨t,ok,rfl,htree⟩,hgw⟩:=qqr hg hil ⟨p,r,ep,hpr⟩ hkn;have htV:t.V=.agg [vi t.sym,vi t.prod,vi t.at_,.sl 4 false (t.kids.map Nd.V)]:=(by obtain ⟨e1,e2,e3,e4⟩:=t;rw[Nd.V_mk]);cases ha:Zr g with
   | none=>
     rw[ha]at hau;simp only[qqW]at hau;repeat' with_reducible first|refine s_ ?_|simp -implicitDefEqProofs only[wZZ,seval,htV]|refine cq0 hw ?_|refine cq1 hcut (yU y) ?_|refine cq1 hgr (yU src) ?_|refine t_ ?_|refine cq1 hau qd ?_|refine cq2 hint qd qd ?_|refine cq2 hgw qd qd ?_
     all_goals refine qz rfl (Or.inr rfl) ?_
     all_goals(try simp -implicitDefEqProofs only[wL,seval])
     all_goals refine er_ ?_
     all_goals(try(with_reducible rfl))
   | some m=>
     rw[ha]at hau;simp only[qqW]at hau;obtain ⟨hM,hR,hG,hMS,hMK⟩:=qlp hg ha;obtain ⟨E,hE,_⟩:=Js (token:=false) hg;have b1:=qg7 hg hM hR hG hMS hE (hMK.k0 hg) h1000;obtain ⟨s1,s2⟩:=qgi (E:=E) hg hM;cases ok with
     | false=>
       repeat' with_reducible first|refine s_ ?_|simp -implicitDefEqProofs only[wZZ,seval,htV]|refine cq0 hw ?_|refine cq1 hcut (yU y) ?_|refine cq1 hgr (yU src) ?_|refine t_ ?_|refine cq1 hau qd ?_|refine cq2 hint qd qd ?_|refine cq2 hgw qd qd ?_
       all_goals refine qz rfl (Or.inr rfl) ?_
       all_goals(try simp -implicitDefEqProofs only[wL,seval])
       all_goals refine er_ ?_
       all_goals(try(with_reducible rfl))
     | true=>
       obtain ⟨hts,d,j,hT⟩:=htree rfl;have hsz:=qet 4000 t hts o_;have hszl:=t.sizeR_le;have hst:=qfp (E:=E) hg hM hG ⟨p,r,ep,hpr⟩;have hhe:=qez hg hM hG hMS hE h1000 s1 4000 t hts d _ 0 j [] 0 hT hst so_ o_;generalize Vh g E m=L at *;simp only[htV]at hhe hsz;rw[List.map_nil]at hhe;generalize t.sizeR=z at *;repeat' with_reducible first|refine s_ ?_|simp -implicitDefEqProofs only[wZZ,seval,htV]|apply qa<;>intro h h_<;>(try simp only[wD,reduceCtorEq]at h_)<;>(try exact wb_)<;>(try simp only[h])|refine cq0 hw ?_|refine cq1 hcut (yU y) ?_|refine cq1 hgr (yU src) ?_|refine t_ ?_|refine cq1 hau qd ?_|refine cq2 hint qd qd ?_|refine cq2 hgw qd qd ?_|refine cq1 hsz qd ?_|refine cq2 b1 qd qd ?_|refine cq6 hhe qd qd qd qd yN qd ?_
       all_goals refine qz rfl (Or.inr rfl) ?_
       all_goals(try simp -implicitDefEqProofs only[wL,seval])
       all_goals refine er_ ?_
       all_goals(try(with_reducible rfl))
end Go.Proofs

namespace Go.Proofs.YtkcegflhobejmaaGreatDoor.law
open Go.E Go.ChangeShapes Go.WideShapes Go.ChangeAt Go.RowKit
def B(H:Type)(d:DataW H):Nat:=Rows.uptoBulk d
theorem qcV{H:Type}(l:List (DataW H)):Rows.uptoBulkAll l=(l.map (B H)).sum:=by
 induction l with
 |nil=>simp[Rows.uptoBulkAll]
 |cons x l ih=>simp only[Rows.uptoBulkAll,ih,List.map_cons,List.sum_cons];rfl
theorem QB:BulkOk B where
 one:=λH d=>by
  cases d with
  |lit l=>cases l<;>simp[B,Rows.uptoBulk]
  | _=>simp[B,Rows.uptoBulk]
 str:=λH s=>by simp[B,Rows.uptoBulk]
 slice:=λH x y=>by show _<=Rows.uptoBulk (.slice x y);simp only[Rows.uptoBulk,qcV];omega
 agg:=λH x=>by show _<=Rows.uptoBulk (.agg x);simp only[Rows.uptoBulk,qcV];omega
theorem small{H:Type}{l:List (DataW H)}(hk:Rows.uptoSmall H l=true):(l.map (B H)).sum<=1048576:=by have h:Rows.uptoBulkAll l<=1048576:=of_decide_eq_true hk;rwa [qcV]at h
theorem own:ownKnob Tryz.prog.godebug=none:=nm_
theorem kids:Kids Tryz.prog (· <Tryz.prog.types.size):=kids_rows nm_ nm_
theorem slices:∀t e,t<Tryz.prog.types.size->Tryz.prog.underlying t=some (.slice e)->0<Tryz.prog.cellsOf e:=slices_full_of Tryz.prog nm_
theorem cells3:Tryz.prog.cellsOf 3=1:=nm_
theorem qlu(N:Nat):ReadsN N Tryz.prog B 3 (Img (λn:Int=>.int .i64 n) (λ_=>1) (λn=>(Lit.int .i64 n).wf=true)):=qgR QB Tryz.underlying3 cells3 N
theorem qpe:Tryz.prog.cellsOf 27=1:=nm_
theorem qv1:Tryz.prog.cellsOf 4=1:=nm_
theorem qy5(N:Nat):ReadsN N Tryz.prog B 4 (Img (λn:Bool=>.bool n) (λ_=>1) (λ_=>True)):=qfF QB Tryz.underlying4 qv1 N
def szI(l:List Int):Nat:=(l.map λ_=>1).sum+1
theorem qye(N:Nat):ReadsN N Tryz.prog B 27 (Img (λl:List Int=>.sl 1 false (l.map (V.int .i64))) szI (λl=>∀n∈l,(Lit.int .i64 n).wf=true)):=by have h:=xh QB Tryz.underlying27 qpe (by rw[cells3];omega) (qlu N);rw[cells3]at h;exact h.le o_
theorem qnE(l:List Int):szI l=l.length+1:=by
 unfold szI
 induction l with
 |nil=>rfl
 |cons a l ih=>simp only[List.map_cons,List.sum_cons,List.length_cons]at ih ⊢;omega
theorem qzM:Tryz.prog.globalNamed "math/bits.deBruijn64tab"=some 0:=nm_
theorem qkH:(Tryz.prog.globals[0]?).map (·.type)=some 194:=nm_
theorem table{W:World}(h:laidMetH Tryz.prog [("math/bits.deBruijn64tab",Rows.laid_math_bits_deBruijn64tab)] W):Lib.TabIs Tryz.prog W "math/bits.deBruijn64tab" .u8 (Lib.deBruijn64tab.map λ(n:Nat)=>(n:Int)):=
 Lib.tabIs_of_head (rest:=[]) qzM qkH Tryz.underlying194 Tryz.underlying5 nm_ nm_ h
theorem qt7{W:World}(h:laidMetH Tryz.prog [("math/bits.deBruijn64tab",Rows.laid_math_bits_deBruijn64tab)] W):Go.E.GOk Tryz.prog W YM:=by
 intro g
 show R noβ W YM (if g=0 then _ else _) _;have hl:Lib.deBruijn64tab.length=64:=dc_
 split
 . rename_i e;subst e;refine .iptr 64 _ 0 0 0 (λj=>.int .u8 ((Lib.deBruijn64tab.map λ(n:Nat)=>(n:Int)).getD j 0)) (λj hj=>⟨trivial,?_⟩) (by simp[V.cells,hl]) (by simp[V.cells,V.scalar]) (λj c hc=>?_)
   . have:=(table h).cell qzM j (by simp[hl];exact hj);simpa using this
   . simp only[V.cells,List.getElem?_map,Option.map_eq_some_iff]at hc;obtain ⟨n,hn,rfl⟩:=hc
     have:(Lib.deBruijn64tab.map λ(n:Nat)=>(n:Int)).getD j 0=(n:Int):=by simp[List.getD,hn]
     rw[this];exact .int _ _
 . exact .iptr 0 (.agg []) 0 g 0 (λ_=>Go.undef) (λj hj=>absurd hj (Nat.not_lt_zero _)) rfl (by simp[V.cells]) (by simp[V.cells])
noncomputable def Vu (os:Os):World:=
 {World.holding Tryz.prog os ⟨#[],#[],[]⟩with heap:=(World.holding Tryz.prog os ⟨#[],#[],[]⟩).heap.modify 0 fun
  |.cells _ t frozen=>.cells ((Lib.deBruijn64tab.map λ(n:Nat)=>Value.int .u8 (n:Int)).toArray) t frozen
  |o=>o}
end Go.Proofs.YtkcegflhobejmaaGreatDoor.law

namespace Go.Proofs.YtkcegflhobejmaaGreatDoor.law
open Go.E Go.ChangeShapes Go.WideShapes Go.ChangeAt Go.RowKit
variable {fs:Array Field}
theorem qiR{t:TypeId}(ht:Tryz.prog.underlying t=some (.struct fs))(hl:fs.toList.length=3)
(hsum:Tryz.prog.cellsOf t=(fs.toList.map λf=>Tryz.prog.cellsOf f.type).sum)(ho:∀j,j<4->∀f∈fs.toList[j]?,f.offset=((fs.toList.take j).map λf=>Tryz.prog.cellsOf f.type).sum)
{N:Nat}{α β γ δ:Type}{f1:α->V}{f2:β->V}{f3:γ->V}{s1:α->Nat}{s2:β->Nat}{s3:γ->Nat}{p1:α->Prop}{p2:β->Prop}{p3:γ->Prop}
(h1:∀f,fs.toList[0]?=some f->ReadsN N Tryz.prog B f.type (Img f1 s1 p1))(h2:∀f,fs.toList[1]?=some f->ReadsN N Tryz.prog B f.type (Img f2 s2 p2))(h3:∀f,fs.toList[2]?=some f->ReadsN N Tryz.prog B f.type (Img f3 s3 p3))
(d1:δ->α)(d2:δ->β)(d3:δ->γ)(mk:α->β->γ->δ)(hd:∀a b c,d1 (mk a b c)=a/\d2 (mk a b c)=b/\d3 (mk a b c)=c)(e:δ->V)(he:∀x,e x=.agg ((f1 (d1 x)).cells++((f2 (d2 x)).cells++(f3 (d3 x)).cells))):
 ReadsN (N+1) Tryz.prog B t (Img e (λx=>s1 (d1 x)+s2 (d2 x)+s3 (d3 x)+1) (λx=>p1 (d1 x)/\p2 (d2 x)/\p3 (d3 x))):=by
 have h:=XM (N:=N) (Qs:=[Img f1 s1 p1,Img f2 s2 p2,Img f3 s3 p3]) QB ht hsum (λj f hj=>ho j (by have:=(List.getElem?_eq_some_iff.1 hj).1;omega) f hj) (by rw[hl];rfl) (by
  intro i f Q hf hQ
  match i,hf,hQ with
  |0,hf,hQ=>cases hQ;exact h1 f hf
  |1,hf,hQ=>cases hQ;exact h2 f hf
  |2,hf,hQ=>cases hQ;exact h3 f hf)
 refine⟨λv n ⟨x,hx,hv,hn⟩=>?_,λH enc w fuel cs x hf hx=>?_⟩
 . refine h.shape v n ⟨[(f1 (d1 x),s1 (d1 x)),(f2 (d2 x),s2 (d2 x)),(f3 (d3 x),s3 (d3 x))],rfl,λi p Q hp hQ=>?_,by rw[hv,he];simp,by rw[hn];simp;omega⟩
   match i,hp,hQ with
   |0,hp,hQ=>cases hp;cases hQ;exact⟨_,hx.1,rfl,rfl⟩
   |1,hp,hQ=>cases hp;cases hQ;exact⟨_,hx.2.1,rfl,rfl⟩
   |2,hp,hQ=>cases hp;cases hQ;exact⟨_,hx.2.2,rfl,rfl⟩
 . obtain ⟨v,n,⟨ps,hl,hq,rfl,rfl⟩,h2,h3⟩:=h.rd H enc w fuel cs x hf hx
   match ps,hl with
   | [q0,q1,q2],_=>
     obtain ⟨a,wa,e0,z0⟩:=hq 0 _ _ rfl rfl;obtain ⟨b,wb,e1,z1⟩:=hq 1 _ _ rfl rfl;obtain ⟨c,wc,e2,z2⟩:=hq 2 _ _ rfl rfl;obtain ⟨k1,k2,k3⟩:=hd a b c;refine⟨e (mk a b c),_,⟨mk a b c,by dsimp only;rw[k1,k2,k3];exact⟨wa,wb,wc⟩,rfl,rfl⟩,?_,?_⟩
     . rw[he,k1,k2,k3];simpa[e0,e1,e2,V.cells]using h2
     . simp only[k1,k2,k3];simp only[List.map_cons,List.map_nil,List.sum_cons,List.sum_nil,z0,z1,z2]at h3;omega
theorem qhv{t:TypeId}(ht:Tryz.prog.underlying t=some (.struct fs))(hl:fs.toList.length=4)
(hsum:Tryz.prog.cellsOf t=(fs.toList.map λf=>Tryz.prog.cellsOf f.type).sum)(ho:∀j,j<4->∀f∈fs.toList[j]?,f.offset=((fs.toList.take j).map λf=>Tryz.prog.cellsOf f.type).sum)
{N:Nat}{α β γ ε δ:Type}{f1:α->V}{f2:β->V}{f3:γ->V}{f4:ε->V}{s1:α->Nat}{s2:β->Nat}{s3:γ->Nat}{s4:ε->Nat}{p1:α->Prop}{p2:β->Prop}{p3:γ->Prop}{p4:ε->Prop}
(h1:∀f,fs.toList[0]?=some f->ReadsN N Tryz.prog B f.type (Img f1 s1 p1))(h2:∀f,fs.toList[1]?=some f->ReadsN N Tryz.prog B f.type (Img f2 s2 p2))(h3:∀f,fs.toList[2]?=some f->ReadsN N Tryz.prog B f.type (Img f3 s3 p3))(h4:∀f,fs.toList[3]?=some f->ReadsN N Tryz.prog B f.type (Img f4 s4 p4))
(d1:δ->α)(d2:δ->β)(d3:δ->γ)(d4:δ->ε)(mk:α->β->γ->ε->δ)(hd:∀a b c d,d1 (mk a b c d)=a/\d2 (mk a b c d)=b/\d3 (mk a b c d)=c/\d4 (mk a b c d)=d)(e:δ->V)(he:∀x,e x=.agg ((f1 (d1 x)).cells++((f2 (d2 x)).cells++((f3 (d3 x)).cells++(f4 (d4 x)).cells)))):
 ReadsN (N+1) Tryz.prog B t (Img e (λx=>s1 (d1 x)+s2 (d2 x)+s3 (d3 x)+s4 (d4 x)+1) (λx=>p1 (d1 x)/\p2 (d2 x)/\p3 (d3 x)/\p4 (d4 x))):=by
 have h:=XM (N:=N) (Qs:=[Img f1 s1 p1,Img f2 s2 p2,Img f3 s3 p3,Img f4 s4 p4]) QB ht hsum (λj f hj=>ho j (by have:=(List.getElem?_eq_some_iff.1 hj).1;omega) f hj) (by rw[hl];rfl) (by
  intro i f Q hf hQ
  match i,hf,hQ with
  |0,hf,hQ=>cases hQ;exact h1 f hf
  |1,hf,hQ=>cases hQ;exact h2 f hf
  |2,hf,hQ=>cases hQ;exact h3 f hf
  |3,hf,hQ=>cases hQ;exact h4 f hf)
 refine⟨λv n ⟨x,hx,hv,hn⟩=>?_,λH enc w fuel cs x hf hx=>?_⟩
 . refine h.shape v n ⟨[(f1 (d1 x),s1 (d1 x)),(f2 (d2 x),s2 (d2 x)),(f3 (d3 x),s3 (d3 x)),(f4 (d4 x),s4 (d4 x))],rfl,λi p Q hp hQ=>?_,by rw[hv,he];simp,by rw[hn];simp;omega⟩
   match i,hp,hQ with
   |0,hp,hQ=>cases hp;cases hQ;exact⟨_,hx.1,rfl,rfl⟩
   |1,hp,hQ=>cases hp;cases hQ;exact⟨_,hx.2.1,rfl,rfl⟩
   |2,hp,hQ=>cases hp;cases hQ;exact⟨_,hx.2.2.1,rfl,rfl⟩
   |3,hp,hQ=>cases hp;cases hQ;exact⟨_,hx.2.2.2,rfl,rfl⟩
 . obtain ⟨v,n,⟨ps,hl,hq,rfl,rfl⟩,h2,h3⟩:=h.rd H enc w fuel cs x hf hx
   match ps,hl with
   | [q0,q1,q2,q3],_=>
     obtain ⟨a,wa,e0,z0⟩:=hq 0 _ _ rfl rfl;obtain ⟨b,wb,e1,z1⟩:=hq 1 _ _ rfl rfl;obtain ⟨c,wc,e2,z2⟩:=hq 2 _ _ rfl rfl;obtain ⟨d,wd,e3,z3⟩:=hq 3 _ _ rfl rfl;obtain ⟨k1,k2,k3,k4⟩:=hd a b c d;refine⟨e (mk a b c d),_,⟨mk a b c d,by dsimp only;rw[k1,k2,k3,k4];exact⟨wa,wb,wc,wd⟩,rfl,rfl⟩,?_,?_⟩
     . rw[he,k1,k2,k3,k4];simpa[e0,e1,e2,e3,V.cells]using h2
     . simp only[k1,k2,k3,k4];simp only[List.map_cons,List.map_nil,List.sum_cons,List.sum_nil,z0,z1,z2,z3]at h3;omega
theorem qqR(N:Nat):ReadsN N Tryz.prog B 9 (Img (λs:List UInt8=>.str s) (λs=>s.length+1) (λ_=>True)):=(qgD QB Tryz.underlying9 nm_ N).mono (λ_ _ ⟨a,_,h1,h2⟩=>⟨a,trivial,h1,h2⟩) (λv n ⟨a,_,h1,h2⟩=>by subst h1;exact⟨nm_,by simp[V.cells,V.scalar],nm_⟩)
abbrev okI(n:Int):Prop:=(Lit.int .i64 n).wf=true
abbrev XV(x:Sym):Nat:=(x.name.length+1)+1+1+1+1
abbrev qj3(x:Sym):Prop:=True/\True/\okI x.num/\okI x.at_
theorem qys(N:Nat):ReadsN (N+1) Tryz.prog B 57 (Img Sym.V XV qj3):=
 qhv (N:=N) (t:=57) Tryz.underlying57 rfl nm_ (by decide+kernel) (λf hf=>by cases hf;exact qqR N) (λf hf=>by cases hf;exact qy5 N) (λf hf=>by cases hf;exact qlu N) (λf hf=>by cases hf;exact qlu N) (λx:Sym=>x.name) (·.lit) (·.num) (·.at_) Sym.mk (λ_ _ _ _=>⟨rfl,rfl,rfl,rfl⟩) Sym.V (λ_=>rfl)
abbrev Ka(x:Part):Nat:=XV x.sym+(x.code.length+1)+1+1
abbrev qlN(x:Part):Prop:=qj3 x.sym/\True/\okI x.at_
theorem qy4(N:Nat):ReadsN (N+1+1) Tryz.prog B 59 (Img Part.V Ka qlN):=
 qiR (N:=N+1) (t:=59) Tryz.underlying59 rfl nm_ (by decide+kernel) (λf hf=>by cases hf;exact qys N) (λf hf=>by cases hf;exact qqR _) (λf hf=>by cases hf;exact qlu _) (λx:Part=>x.sym) (·.code) (·.at_) Part.mk (λ_ _ _=>⟨rfl,rfl,rfl⟩) Part.V (λ_=>rfl)
abbrev qaW(l:List Part):Nat:=(l.map Ka).sum+1
abbrev qhS(l:List Part):Prop:= ∀a∈l,qlN a
theorem qik:Tryz.prog.cellsOf 59=6:=nm_
theorem qu4(N:Nat):ReadsN (N+1+1+1) Tryz.prog B 60 (Img (λl:List Part=>.sl 6 false (l.map Part.V)) qaW qhS):=by have h:=xh QB Tryz.underlying60 nm_ (by rw[qik];omega) (qy4 N);rw[qik]at h;exact h
abbrev qfA(x:Alt):Nat:=qaW x.parts+XV x.prec+1+1
abbrev qrw(x:Alt):Prop:=qhS x.parts/\qj3 x.prec/\okI x.at_
theorem qz7(N:Nat):ReadsN (N+1+1+1+1) Tryz.prog B 62 (Img Alt.V qfA qrw):=
 qiR (N:=N+1+1+1) (t:=62) Tryz.underlying62 rfl nm_ (by decide+kernel) (λf hf=>by cases hf;exact qu4 N) (λf hf=>by cases hf;exact qys (N+2)) (λf hf=>by cases hf;exact qlu _) (λx:Alt=>x.parts) (·.prec) (·.at_) Alt.mk (λ_ _ _=>⟨rfl,rfl,rfl⟩) Alt.V (λ_=>rfl)
abbrev qep(l:List Alt):Nat:=(l.map qfA).sum+1
abbrev ql5(l:List Alt):Prop:= ∀a∈l,qrw a
theorem qi7:Tryz.prog.cellsOf 62=6:=nm_
theorem qyW(N:Nat):ReadsN (N+1+1+1+1+1) Tryz.prog B 63 (Img (λl:List Alt=>.sl 6 false (l.map Alt.V)) qep ql5):=by have h:=xh QB Tryz.underlying63 nm_ (by rw[qi7];omega) (qz7 N);rw[qi7]at h;exact h
abbrev KR(x:Rule):Nat:=(x.left.length+1)+qep x.alts+1+1
abbrev qlY(x:Rule):Prop:=True/\ql5 x.alts/\okI x.at_
theorem qyw(N:Nat):ReadsN (N+1+1+1+1+1+1) Tryz.prog B 65 (Img Rule.V KR qlY):=
 qiR (N:=N+1+1+1+1+1) (t:=65) Tryz.underlying65 rfl nm_ (by decide+kernel) (λf hf=>by cases hf;exact qqR _) (λf hf=>by cases hf;exact qyW N) (λf hf=>by cases hf;exact qlu _) (λx:Rule=>x.left) (·.alts) (·.at_) Rule.mk (λ_ _ _=>⟨rfl,rfl,rfl⟩) Rule.V (λ_=>rfl)
abbrev qdL(l:List Rule):Nat:=(l.map KR).sum+1
abbrev qhc(l:List Rule):Prop:= ∀a∈l,qlY a
theorem qil:Tryz.prog.cellsOf 65=3:=nm_
theorem qs7(N:Nat):ReadsN (N+1+1+1+1+1+1+1) Tryz.prog B 23 (Img (λl:List Rule=>.sl 3 false (l.map Rule.V)) qdL qhc):=by have h:=xh QB Tryz.underlying23 nm_ (by rw[qil];omega) (qyw N);rw[qil]at h;exact h
abbrev qeJ(l:List Sym):Nat:=(l.map XV).sum+1
abbrev qlX(l:List Sym):Prop:= ∀a∈l,qj3 a
theorem qiF:Tryz.prog.cellsOf 57=4:=nm_
theorem qx5(N:Nat):ReadsN (N+1+1) Tryz.prog B 91 (Img (λl:List Sym=>.sl 4 false (l.map Sym.V)) qeJ qlX):=by have h:=xh QB Tryz.underlying91 nm_ (by rw[qiF];omega) (qys N);rw[qiF]at h;exact h
abbrev Vb(x:Decl):Nat:=1+(x.tag.length+1)+qeJ x.syms+1+1
abbrev qlL(x:Decl):Prop:=okI x.kind/\True/\qlX x.syms/\okI x.at_
theorem qxJ(N:Nat):ReadsN (N+1+1+1) Tryz.prog B 93 (Img Decl.V Vb qlL):=
 qhv (N:=N+1+1) (t:=93) Tryz.underlying93 rfl nm_ (by decide+kernel) (λf hf=>by cases hf;exact qlu _) (λf hf=>by cases hf;exact qqR _) (λf hf=>by cases hf;exact qx5 N) (λf hf=>by cases hf;exact qlu _) (λx:Decl=>x.kind) (·.tag) (·.syms) (·.at_) Decl.mk (λ_ _ _ _=>⟨rfl,rfl,rfl,rfl⟩) Decl.V (λ_=>rfl)
abbrev qdj(l:List Decl):Nat:=(l.map Vb).sum+1
abbrev qhL(l:List Decl):Prop:= ∀a∈l,qlL a
theorem qju:Tryz.prog.cellsOf 93=4:=nm_
theorem qv6(N:Nat):ReadsN (N+1+1+1+1) Tryz.prog B 22 (Img (λl:List Decl=>.sl 4 false (l.map Decl.V)) qdj qhL):=by have h:=xh QB Tryz.underlying22 nm_ (by rw[qju];omega) (qxJ N);rw[qju]at h;exact h
abbrev JQ(x:Source):Nat:=(x.pro.length+1)+qdj x.decls+qdL x.rules+(x.tail.length+1)+1
abbrev qaJ(x:Source):Prop:=True/\qhL x.decls/\qhc x.rules/\True
theorem qpX(N:Nat):ReadsN (N+1+1+1+1+1+1+1+1) Tryz.prog B 25 (Img Source.V JQ qaJ):=
 qhv (N:=N+1+1+1+1+1+1+1) (t:=25) Tryz.underlying25 rfl nm_ (by decide+kernel) (λf hf=>by cases hf;exact qqR _) (λf hf=>by cases hf;exact qv6 (N+3)) (λf hf=>by cases hf;exact qs7 N) (λf hf=>by cases hf;exact qqR _) (λx:Source=>x.pro) (·.decls) (·.rules) (·.tail) Source.mk (λ_ _ _ _=>⟨rfl,rfl,rfl,rfl⟩) Source.V (λ_=>rfl)
theorem Kg{α:Type}(sz:α->Nat):∀{l:List α} {a:α},a∈l->sz a<=(l.map sz).sum
 | b::l,a,h=>by
   rw[List.map_cons,List.sum_cons];rcases List.mem_cons.1 h with rfl|h
   . omega
   . have:=Kg sz h;omega
theorem KN{α:Type}(sz:α->Nat)(h:∀a,1<=sz a):∀l:List α,l.length<=(l.map sz).sum
 |[]=>Nat.zero_le _
 |a::l=>by have:=KN sz h l;have:=h a;rw[List.map_cons,List.sum_cons,List.length_cons];omega
theorem qn3{x:Source}(h:JQ x<=1048576):x.Fits:=by
 have l1:=KN Vb (λ_=>by unfold Vb;omega) x.decls;have l2:=KN KR (λ_=>by unfold KR;omega) x.rules;unfold JQ qdj qdL at h;refine⟨o_,o_,o_,λd hd=>?_,o_,λr hr=>?_⟩
 . have m:=Kg Vb hd;unfold Vb qeJ at m;have l3:=KN XV (λ_=>by unfold XV;omega) d.syms;unfold Vb qeJ at h;refine⟨o_,o_,λy hy=>?_⟩;have m2:=Kg XV hy;unfold XV at *;omega
 . have m:=Kg KR hr;have l3:=KN qfA (λ_=>by unfold qfA;omega) r.alts;have m':r.left.length+1+qep r.alts+1+1<=(x.rules.map KR).sum:=m;unfold qep at m';refine⟨o_,o_,λa ha=>?_⟩;have n:=Kg qfA ha;have l4:=KN Ka (λ_=>by unfold Ka;omega) a.parts;have n':qaW a.parts+XV a.prec+1+1<=(r.alts.map qfA).sum:=n;unfold qaW XV at n';refine⟨o_,λw hw=>?_,o_⟩;have q:=Kg Ka hw;have q':XV w.sym+(w.code.length+1)+1+1<=(a.parts.map Ka).sum:=q;unfold XV at q';exact⟨o_,o_⟩
end Go.Proofs.YtkcegflhobejmaaGreatDoor.law
