import Derived.Test.YtkcegflhobejmaaGreatDoorBRB
import Derived.Test.YtkcegflhobejmaaGreatDoorBRA
import Derived.Test.YtkcegflhobejmaaGreatDoorCards
import Derived.Test.YtkcegflhobejmaaGreatDoorTie
import Derived.ProofKit
import Derived.OpenShut
import Derived.Lib.LaidTab
set_option maxRecDepth 20000
set_option linter.all false
set_option maxHeartbeats 8000000
namespace Go.Proofs
open Go.E
theorem qdy{g:Grammar}{m:List Sta}{E:Nat->Bool}(hg:GOk g)(hM:MOk g m)(hR:∀q∈m,RMv q)(hG:MGo g m)(hS:qaQ g m)(hE:IsGrow g false E):Pure Tryz.prog 28 [g.V,.sl 2 false (m.map Sta.V)] (.sl 1 false ((zy g E m).map zQ)):=by
 refine pure_intro Tryz.func28 nm_ qs0 (by show 2<=9;decide) ?_
 show ewp _ qxN _ _;have he:=yJ (E:=E) hg hM hR hG hS;repeat' with_reducible first|refine qF ?_|simp -implicitDefEqProofs only[wZZ,seval]|(refine qL rfl rfl rfl ((of_run hg hM hR hE).mono ?_);rintro v1 H1 n1 ⟨i,j,rfl,q1,q2,q3,q4,q5⟩)|refine t_ ?_
 refine qL (H:=H1) rfl wu_ rfl ((xI (λ_=>true) (by rw[qcQ];exact qP (kZ q3 q5) jy) he).mono ?_);rintro v2 H2 n2 ⟨rfl,rfl,rfl⟩;repeat' with_reducible first|refine vD ?_
 refine qw rfl (Or.inr rfl) ?_;(simp -implicitDefEqProofs only[wL,seval]);exact qf
theorem qkt{src:Source}(h:qao src=true):GOk (zR src)/\MOk (zR src) (JF src)/\(∀q∈JF src,RMv q)/\MGo (zR src) (JF src)/\qaQ (zR src) (JF src)/\qdw (JF src)/\∀x,nxt (zR src) x≠1000:=by
 unfold qao at h;rw[Bool.and_eq_true]at h;obtain ⟨h1,h2⟩:=h;have hg:=gok h1;obtain ⟨m,hm⟩:=Option.isSome_iff_exists.1 h2;have e:JF src=m:=by unfold JF;rw[if_pos h1,hm];rfl
 rw[e];exact⟨hg,(qa1 hg hm).1,qaa hg hm,(qa1 hg hm).2,qeN hm,qfy hg hm,qev h1⟩
theorem qgo{g:Grammar}{m:List Sta}{E:Nat->Bool}(hg:GOk g)(hM:MOk g m):(Xd g E m).length<=1000000/\∀l∈Xd g E m,l.tk.length<=1000000:=by
 obtain ⟨hO,_⟩:=Vp (E:=E) hM hg;have hml:=hM.len;have key:∀n,n<=m.length->(qc0 g m (zy g E m) n).length<=n *960:=λn=>by
  induction n with
  |zero=>intro _;exact Nat.zero_le _
  | succ n ih=>
    intro hn;have hq:m[n]?=some m[n]:=ge_ o_;have hk:qR m n=m[n].ker:=(by unfold qR;rw[hq];rfl);have hmem:=List.getElem_mem (show n<m.length by omega);have h1:=qbQ hg (hM.ki _ hmem) (hM.kr _ hmem);have h2:=ih o_;rw[qcC,List.length_append,List.length_map,hk];omega
 have hdef:Xd g E m=qc0 g m (zy g E m) m.length:=rfl;refine⟨by rw[hdef];have:=key m.length (Nat.le_refl _);omega,λl hl=>?_⟩;rw[hdef]at hl;unfold qc0 at hl;rw[List.mem_flatMap]at hl;obtain ⟨q,_,hl⟩:=hl;obtain ⟨p,_,rfl⟩:=List.mem_map.1 hl;have:=(qaw hO (kJ g m q p) [] Zg).len
 show ((kJ g m q p).foldl (qjs (zy g E m)) []).length<=_;omega

set_option maxHeartbeats 4000000
@[reducible] def qbt:Source:={rules:=[{left:=[101],alts:=[{parts:=[{sym:={name:=[101]}},{sym:={name:=[43],lit:=true}},{sym:={name:=[120],lit:=true}}]},{parts:=[{sym:={name:=[120],lit:=true}}]}]}]}
def mC:List Sta:=[⟨[0],[(4,1),(1001,2)]⟩,⟨[33],[]⟩,⟨[1,17],[(3,3)]⟩,⟨[18],[(4,4)]⟩,⟨[19],[]⟩]
theorem lrC:(zR qbt).prods.map (λp=>(p.left,p.right))=[(0,[1001]),(1,[1001,3,4]),(1,[4])]:=by decide+kernel
theorem okC:Xr qbt=true:=by decide+kernel
theorem qyL:Zc (zR qbt)=some mC:=by decide+kernel
theorem qxy:Xd (zR qbt) (λ_=>false) mC=[⟨1,2,[0,3]⟩,⟨4,1,[0,3]⟩]:=by decide+kernel
theorem qyW:zy (zR qbt) (λ_=>false) mC=[[0,3]]:=by decide+kernel
theorem qy2:zI mC=[[0,3]]:=by decide+kernel
theorem qyK:qh mC=[(0,1001)]:=by decide+kernel
theorem qyS:jc (λ_=>false) mC=[[]]:=by decide+kernel
theorem qyG:qX (zR qbt) (λ_=>false) mC=[[]]:=by decide+kernel
theorem qx3:Ke (zR qbt) mC 1 2=[0]/\Ke (zR qbt) mC 0 77=[]:=by decide+kernel
theorem qsg:Small qbt:=by
 refine⟨by simp,λd h=>?_,λd h=>?_,λd h=>?_,by simp,?_,?_,?_,?_⟩
 . cases h
 . cases h
 . cases h
 . decide
 . decide
 . decide
 . decide
theorem qxB:qbt.Fits:=by
 refine⟨by simp,by simp,by simp,λd h=>?_,by simp,λr hr=>?_⟩
 . cases h
 . simp only[List.mem_cons,List.not_mem_nil,or_false]at hr;subst hr;refine⟨by simp,by simp,λa ha=>?_⟩;simp only[List.mem_cons,List.not_mem_nil,or_false]at ha;rcases ha with rfl|rfl
   . refine⟨by simp,λp hp=>?_,by simp⟩;simp only[List.mem_cons,List.not_mem_nil,or_false]at hp;rcases hp with rfl|rfl|rfl<;>exact⟨by simp,by simp⟩
   . refine⟨by simp,λp hp=>?_,by simp⟩;simp only[List.mem_cons,List.not_mem_nil,or_false]at hp;subst hp;exact⟨by simp,by simp⟩
theorem qk8:IsGrow (zR qbt) false (λ_=>false):=by
 refine⟨λp hp h=>?_,λF hF k hk=>(by cases hk)⟩
 have:(p.left,p.right)∈(zR qbt).prods.map (λp=>(p.left,p.right)):=List.mem_map.2 ⟨p,hp,rfl⟩
 rw[lrC]at this;simp only[List.mem_cons,List.not_mem_nil,or_false,Prod.mk.injEq]at this;rcases this with ⟨e1,e2⟩|⟨e1,e2⟩|⟨e1,e2⟩<;>rw[e2]at h<;>cases h
theorem machC:qao qbt=true/\JF qbt=mC:=by unfold qao JF;rw[okC,qyL];exact⟨rfl,rfl⟩

set_option maxHeartbeats 8000000
theorem qop{H:Nat->Option MObj}:Er false H (.agg [.str [],.sl 4 true [],.sl 3 true [.agg [.str [101],.sl 6 true [.agg [.sl 6 true [.agg [.str [101],.bool false,vi 0,vi 0,.str [],vi 0],.agg [.str [43],.bool true,vi 0,vi 0,.str [],vi 0],.agg [.str [120],.bool true,vi 0,vi 0,.str [],vi 0]],.str [],.bool false,vi 0,vi 0,vi 0],.agg [.sl 6 true [.agg [.str [120],.bool true,vi 0,vi 0,.str [],vi 0]],.str [],.bool false,vi 0,vi 0,vi 0]],vi 0]],.str []]) qbt.V:=by
 have p:∀(n:List UInt8) (b:Bool),Er false H (.agg [.str n,.bool b,vi 0,vi 0,.str [],vi 0]) (.agg [.str n,.bool b,vi 0,vi 0,.str [],vi 0]):=λn b=>qf;refine ErL.agg (.cons (.str _) (.cons (ErL.sl .nil) (.cons (ErL.sl ?_) (.cons (.str _) .nil))));refine .cons (ErL.agg (.cons (.str _) (.cons (ErL.sl ?_) (.cons (.int _ _) .nil)))) .nil;refine .cons (ErL.agg (.cons (ErL.sl ?_) (.cons (.str _) (.cons (.bool _) (.cons (.int _ _) (.cons (.int _ _) (.cons (.int _ _) .nil))))))) (.cons (ErL.agg (.cons (ErL.sl ?_) (.cons (.str _) (.cons (.bool _) (.cons (.int _ _) (.cons (.int _ _) (.cons (.int _ _) .nil))))))) .nil)
 . exact .cons (p _ _) (.cons (p _ _) (.cons (p _ _) .nil))
 . exact .cons (p _ _) .nil
theorem qwR:Pure Tryz.prog 13 [qbt.V] (.tup [(zR qbt).V,.sl 2 false (mC.map Sta.V),.bool true]):=by have:=JN qxB (λ_=>qsg) gok;rw[machC.1,machC.2]at this;exact this
theorem qa6{g:Grammar}{m:List Sta}{E:Nat->Bool}(hg:GOk g)(hM:MOk g m)(hR:∀q∈m,RMv q)(hG:MGo g m)(hS:qaQ g m)(hE:IsGrow g false E):Pure Tryz.prog 22 [g.V,.sl 2 false (m.map Sta.V)] (.sl 1 false ((qX g E m).map zQ)):=by
 refine pure_intro Tryz.func22 nm_ qu7 (by show 2<=9;decide) ?_
 show ewp _ qxR _ _;have he:=xR (E:=E) hg hM hR hG hS;repeat' with_reducible first|refine qF ?_|simp -implicitDefEqProofs only[wZZ,seval]|(refine qL rfl rfl rfl ((of_run hg hM hR hE).mono ?_);rintro v1 H1 n1 ⟨i,j,rfl,q1,q2,q3,q4,q5⟩)|refine t_ ?_
 refine qL (H:=H1) rfl wu_ rfl ((xI (λ_=>true) (by rw[qcQ];exact qP (kZ q3 q5) jy) he).mono ?_);rintro v2 H2 n2 ⟨rfl,rfl,rfl⟩;repeat' with_reducible first|refine vD ?_
 refine qw rfl (Or.inr rfl) ?_;(simp -implicitDefEqProofs only[wL,seval]);exact qf
theorem Yp:Pure Tryz.prog 10 [] (.bool true):=by
 refine pure_intro Tryz.func10 nm_ qt9 (by show 0<=122;decide) ?_
 show ewp _ qr2 _ _;have hma:=qwR;obtain ⟨hg,hM,hR,hG,hMS,hMK,h1000⟩:=qkt machC.1;rw[machC.2]at hM hR hG hMS hMK;have a1:=qal (m:=mC) (by decide) (by decide);rw[qyK]at a1;have a2:=qhx hg hM hR hG hMS qk8 (hMK.k0 hg) h1000;rw[qxy]at a2;have a3:=qdE hg hM hR;rw[qy2]at a3;have a4:=qdy hg hM hR hG hMS qk8;rw[qyW]at a4;have a5:=qyX (L:=[[0,3]]) (by decide) (by decide);have a6:=xS (a:=[0,3]) (b:=[0,3]) (by decide) (by decide);rw[decide_eq_true rfl]at a6;have a7:=qcv (q:=1) (p:=2) hg hM hR;have a8:=qcv (q:=0) (p:=77) hg hM hR;rw[qx3.1]at a7;rw[qx3.2]at a8;have a9:=xS (a:=[0]) (b:=[0]) (by decide) (by decide);rw[decide_eq_true rfl]at a9;have b1:=qgb hg hM hR qk8;rw[qyS]at b1;have b2:=qa6 hg hM hR hG hMS qk8;rw[qyG]at b2;generalize zR qbt=g at *;generalize mC=m at *;repeat' with_reducible first|refine s_ ?_|simp -implicitDefEqProofs only[wZZ,seval]|apply jH (hp:=hma);with_unfolding_all exact qop|apply jH (hp:=a1);with_unfolding_all exact qf|apply zV (hp:=a2);with_unfolding_all exact qf;with_unfolding_all exact qf|apply zV (hp:=a3);with_unfolding_all exact qf;with_unfolding_all exact qf|apply zV (hp:=a4);with_unfolding_all exact qf;with_unfolding_all exact qf|apply zV (hp:=a5);with_unfolding_all exact qf;with_unfolding_all exact ErL.sl (.cons (ErL.sl (.cons (.int _ _) (.cons (.int _ _) .nil))) .nil)|apply zV (hp:=a6);with_unfolding_all exact qf;with_unfolding_all exact ErL.sl (.cons (.int _ _) (.cons (.int _ _) .nil))|apply qhf (hp:=a7);with_unfolding_all exact qf;with_unfolding_all exact qf;with_unfolding_all exact qf;with_unfolding_all exact qf|apply qhf (hp:=a8);with_unfolding_all exact qf;with_unfolding_all exact qf;with_unfolding_all exact qf;with_unfolding_all exact qf|apply zV (hp:=a9);with_unfolding_all exact qf;with_unfolding_all exact ErL.sl (.cons (.int _ _) .nil)|(refine yN (v:=V.iptr 2 (prV (0,1001)) 0) wu_ ?_)|(refine yN (v:=V.iptr 3 (Lk.V ⟨1,2,[0,3]⟩) 0) wu_ ?_)|apply zV (hp:=b1);with_unfolding_all exact qf;with_unfolding_all exact qf|apply zV (hp:=b2);with_unfolding_all exact qf;with_unfolding_all exact qf|refine t_ ?_
 all_goals refine qw rfl (Or.inr rfl) ?_
 all_goals(try simp -implicitDefEqProofs only[wL,seval])
 all_goals refine er_ ?_
 all_goals(try(with_reducible rfl))

theorem qkQ{g:Grammar}{m:List Sta}{E:Nat->Bool}(hg:GOk g)(hM:MOk g m):∀l∈Xd g E m,∃q n:Nat,q<m.length/\1<=n/\n<g.prods.length/\l=qli g m (zy g E m) q n:=by
 intro l hl;have hdef:Xd g E m=qc0 g m (zy g E m) m.length:=rfl;rw[hdef]at hl;unfold qc0 at hl;rw[List.mem_flatMap]at hl;obtain ⟨q,hq,hl⟩:=hl;have hq:=List.mem_range.1 hq;obtain ⟨p,hp,rfl⟩:=List.mem_map.1 hl;have hk:qR m q=m[q].ker:=by unfold qR;rw[ge_ hq];rfl
 have hmem:=List.getElem_mem hq;rw[hk]at hp;obtain ⟨n,rfl,h1,h2⟩:=qck hg (hM.ki _ hmem) (hM.kr _ hmem) p hp;exact⟨q,n,hq,h1,h2,rfl⟩
theorem qjG{g:Grammar}{m:List Sta}(hg:GOk g)(hm:Zc g=some m):MOk g m/\(∀q∈m,RMv q)/\MGo g m/\qaQ g m/\qdw m:=
 ⟨(qa1 hg hm).1,qaa hg hm,(qa1 hg hm).2,qeN hm,qfy hg hm⟩

abbrev qjt(a:List Int)(p:GPr):List Int:=p.right.foldl jT a
def qgq(g:Grammar):List Int:=g.prods.foldl qjt []
theorem qem{x:Int}:∀(l:List GPr) (a:List Int),x∈l.foldl qjt a↔x∈a\/ ∃p∈l,x∈p.right
 |[],a=>by simp
 | p::l,a=>by rw[List.foldl_cons,qem l,JH];simp only[List.mem_cons,exists_eq_or_imp,or_assoc]
theorem qii{g:Grammar}{x:Int}:x∈qgq g↔ ∃p∈g.prods,x∈p.right:=by unfold qgq;rw[qem];simp
theorem qaA:∀(r a:List Int),(r.foldl jT a).length<=a.length+r.length
 |[],a=>Nat.le_refl _
 | x::r,a=>by have h1:=Yw a x;have h2:=qaA r (jT a x);rw[List.foldl_cons,List.length_cons];omega
theorem qbh(B:Nat):∀(l:List GPr) (a:List Int),(∀p∈l,p.right.length<=B)->(l.foldl qjt a).length<=a.length+B *l.length
 |[],a,_=>by simp
 | p::l,a,h=>by have h1:(qjt a p).length<=_:=qaA p.right a;have h2:=qbh B l (qjt a p) λq hq=>h q (List.mem_cons_of_mem _ hq);have h3:=h p (by simp);rw[List.foldl_cons,List.length_cons,Nat.mul_succ];omega
theorem YZ{g:Grammar}(hg:GOk g):Pure Tryz.prog 39 [g.V] (.sl 1 false ((qgq g).map (V.int .i64))):=by
 refine pure_intro Tryz.func39 nm_ qtO (by show 1<=36;decide) ?_
 show ewp _ qrB _ _;have hpl:=hg.pl2;have hrl:=hg.rlen;have hdef:qgq g=g.prods.foldl qjt []:=rfl;rw[hdef];repeat' with_reducible first|refine s_ ?_|simp -implicitDefEqProofs only[wZZ,seval]|refine t_ ?_
 refine qc ?nx1 (λ(i:Nat) s=>s.f 1=?v1_1/\s.H 0=some (.own 5 [g.V] false)/\(∃c,s.f 3=.sl 1 c (((g.prods.take i).foldl qjt []).map (V.int .i64)))/\s.f 4=vi i/\(i<=g.prods.length)) (λi=>g.prods.length - i) (0) wj_ (by refine⟨?_,?_,?_,?_,wo_⟩<;>first|(simp -implicitDefEqProofs only[wL,wM,wN,wX,seval,Option.some.injEq]<;>exact wt_)|rfl|exact⟨_,rfl⟩) ?_;intro i s hnx ⟨g1,o0,⟨c3,g3⟩,g4,k1_0⟩;have hz:=w1_ i;by_cases hi:i<g.prods.length
 . have hgi:g.prods[i]?=some g.prods[i]:=ge_ hi;have hst:=kN qjt [] hgi;have hUl:=qbh 8 (g.prods.take i) [] λp hp=>hrl p (List.mem_of_mem_take hp);rw[List.length_nil,List.length_take]at hUl;have hpr:=hrl _ (List.getElem_mem hi);generalize (g.prods.take i).foldl qjt []=U at *;generalize g.prods[i]=p at *;obtain ⟨pl,pr,pc,pco,pa,pat⟩:=p;dsimp only at hpr hst;repeat' with_reducible first|refine s_ ?_|simp -implicitDefEqProofs only[wZZ,seval,g1,g3,g4,o0,hz]|apply qa<;>intro h h_<;>(try simp only[wD,reduceCtorEq]at h_)<;>(try exact wb_)<;>(try simp only[h])|refine t_ ?_
   refine qc ?nx2 (λ(j:Nat) s=>s.f 1=?v2_1/\s.f 4=?v2_4/\s.H 0=some (.own 5 [g.V] false)/\(∃c,s.f 3=.sl 1 c (((pr.take j).foldl jT U).map (V.int .i64)))/\s.f 5=vi j/\(j<=pr.length)) (λj=>pr.length - j) (0) wj_ (by refine⟨?_,?_,?_,?_,?_,wo_⟩<;>first|(simp -implicitDefEqProofs only[wL,wM,wN,wX,seval,Option.some.injEq,g1,g3,g4,o0]<;>exact wt_)|rfl|exact⟨_,rfl⟩) ?_;intro j s hnx ⟨g1,g4,o0,⟨c3,g3⟩,g5,k2_0⟩;have hzj:=w1_ j;by_cases hj:j<pr.length
   . have hgj:pr[j]?=some pr[j]:=ge_ hj;have hst4:=kN jT U hgj;have hWl:=qaA (pr.take j) U;rw[List.length_take]at hWl;generalize (pr.take j).foldl jT U=W at *;generalize pr[j]=y at *;have hput:=JI (l:=W) (x:=y) o_;repeat' with_reducible first|refine s_ ?_|simp -implicitDefEqProofs only[wZZ,seval,g1,g4,g3,g5,o0,hzj]|apply qa<;>intro h h_<;>(try simp only[wD,reduceCtorEq]at h_)<;>(try exact wb_)<;>(try simp only[h])|refine t_ ?_|refine cq2 hput yP qf ?_
     refine⟨wk_,j+1,o_,?_⟩;refine⟨?_,?_,?_,?_,?_,?_⟩;iterate 5 (focus(first|(simp -implicitDefEqProofs only[wL,wM,wN,wX,seval,Option.some.injEq,g1,g4,g3,g5,o0,hst4]<;>exact wt_)|rfl|exact⟨_,rfl⟩))
     all_goals try omega
   . have e:pr.take j=pr:=List.take_of_length_le o_;rw[e]at g3;repeat' with_reducible first|refine s_ ?_|simp -implicitDefEqProofs only[wZZ,seval,g1,g4,g3,g5,o0,hz]|apply qa<;>intro h h_<;>(try simp only[wD,reduceCtorEq]at h_)<;>(try exact wb_)<;>(try simp only[h])|refine t_ ?_
     refine⟨wk_,i+1,o_,?_⟩;refine⟨?_,?_,?_,?_,?_⟩;iterate 4 (focus(first|(simp -implicitDefEqProofs only[wL,wM,wN,wX,seval,Option.some.injEq,g1,g4,g3,g5,o0,hst]<;>exact wt_)|rfl|exact⟨_,rfl⟩))
     all_goals try omega
 . have e:g.prods.take i=g.prods:=List.take_of_length_le o_;rw[e]at g3
   skip
   repeat' with_reducible first|refine s_ ?_|simp -implicitDefEqProofs only[wZZ,seval,g1,g3,g4,o0,hz]|apply qa<;>intro h h_<;>(try simp only[wD,reduceCtorEq]at h_)<;>(try exact wb_)<;>(try simp only[h])|refine t_ ?_
   all_goals refine qw rfl (Or.inr rfl) ?_
   all_goals(try simp -implicitDefEqProofs only[wL,seval,g1,g3,g4])
   all_goals refine er_ ?_
   all_goals(try(with_reducible rfl))
theorem qjF{g:Grammar}{m:List Sta}{E:Nat->Bool}(hg:GOk g)(hM:MOk g m):∀l∈Xd g E m,yQ l.tk:=by obtain ⟨hO,_⟩:=Vp (E:=E) hM hg;intro l hl;obtain ⟨q,n,_,_,_,rfl⟩:=qkQ hg hM l hl;exact qaw hO _ [] Zg
theorem Jz{x:GrI}(hb1:x.rules.length<=1099511627776)(hb2:∀l∈x.rules,l.length<=1099511627776)(hib:x.inner.length<=1099511627776)(hlb:x.levels.length<=1099511627776):Pure Tryz.prog 8 [x.V] (.bool true):=by
 refine pure_intro Tryz.func8 nm_ qxV (by show 1<=96;decide) ?_
 show ewp _ qxx _ _;have hw:=Yp;obtain ⟨y,hy⟩:∃y:GrI,y={x with bare:=false}:=⟨_,rfl⟩;have hsrc:=Yj (x:=y) (by rw[hy];exact hb1) (by rw[hy];exact hb2) (by rw[hy];exact hib) (by rw[hy];exact hlb);have hyV:y.V=.agg [vi x.nons,.sl 1 false (x.rules.map zQ),zQ x.levels,zQ x.inner,.bool false]:=by rw[hy]
 rw[hyV]at hsrc;have hok:=Zj y;have hgr:=vw (src:=qz y) (X5 y) (λ_=>qbr y);rw[hok]at hgr;have hg:=gok hok;have h1000:=qev hok;have hPr:=qdR (x:=y) (by rw[hy]);have hau:=qpT hg h1000;have hus:=YZ hg;generalize zR (qz y)=g at *;cases ha:Zc g with
 | none=>
   rw[ha]at hau;simp only[qqr]at hau;repeat' with_reducible first|refine s_ ?_|simp -implicitDefEqProofs only[wZZ,seval]|refine cq0 hw ?_|refine cq1 hsrc qf ?_|refine cq1 hgr (X4 (qz y)) ?_|refine cq1 hau qf ?_|refine t_ ?_
   all_goals refine qw rfl (Or.inr rfl) ?_
   all_goals(try simp -implicitDefEqProofs only[wL,seval])
   all_goals refine er_ ?_
   all_goals(try(with_reducible rfl))
 | some m =>
   rw[ha]at hau;simp only[qqr]at hau;obtain ⟨hM,hR,hG,hMS,hMK⟩:=qjG hg ha;obtain ⟨E,hE,_⟩:=JG (token:=false) hg;have hPre:=qk7 ha;have b1:=qhx hg hM hR hG hMS hE (hMK.k0 hg) h1000;have c1:=qwi hg hM hR hG hE hPre hPr;have c2:=qom (E:=E) hg hM hMS;have c3:=qjF (E:=E) hg hM;obtain ⟨s1,s2⟩:=qgo (E:=E) hg hM;have hum:=λt=>qii (g:=g) (x:=t);have hul:=qbh 8 g.prods [] hg.rlen;have hpl:=hg.pl2;rw[show g.prods.foldl qjt []=qgq g from rfl,List.length_nil]at hul;generalize Xd g E m=L at *;generalize qgq g=U at *;repeat' with_reducible first|refine s_ ?_|simp -implicitDefEqProofs only[wZZ,seval]|refine cq0 hw ?_|refine cq1 hsrc qf ?_|refine cq1 hgr (X4 (qz y)) ?_|refine cq1 hau qf ?_|refine t_ ?_|refine cq2 b1 qf qf ?_
   refine qc ?nx1 (λ(i:Nat) s=>s.f 3=?v1_3/\s.f 7=?v1_7/\s.H 12=some (.own 5 [g.V] false)/\s.f 8=vi i/\(i<=L.length)) (λi=>L.length - i) (0) wj_ (by refine⟨?_,?_,?_,?_,wo_⟩<;>first|(simp -implicitDefEqProofs only[wL,wM,wN,wX,seval,Option.some.injEq]<;>exact wt_)|rfl|exact⟨_,rfl⟩) ?_;intro i s hnx ⟨g3,g7,o0,g8,k1_0⟩;have hz:=w1_ i;by_cases hi:i<L.length
   . have hgi:L[i]?=some L[i]:=ge_ hi;have d1:=c1 _ (List.getElem_mem hi);have d2:=c2 _ (List.getElem_mem hi);have d3:=c3 _ (List.getElem_mem hi);generalize L[i]=l at *;obtain ⟨ls,lp,T⟩:=l;dsimp only at d1 d2 d3;have hTl:=d3.len;have hT0:0<T.length:=List.length_pos_iff.2 d1;repeat' with_reducible first|refine s_ ?_|simp -implicitDefEqProofs only[wZZ,seval,g3,g7,g8,o0,hz]|apply qa<;>intro h h_<;>(try simp only[wD,reduceCtorEq]at h_)<;>(try exact wb_)<;>(try simp only[h])|refine t_ ?_
     refine qc ?nx2 (λ(k:Nat) s=>s.f 3=?v2_3/\s.f 7=?v2_7/\s.f 8=?v2_8/\s.H 12=some (.own 5 [g.V] false)/\s.f 9=vi k/\(k<=T.length)) (λk=>T.length - k) (0) wj_ (by refine⟨?_,?_,?_,?_,?_,wo_⟩<;>first|(simp -implicitDefEqProofs only[wL,wM,wN,wX,seval,Option.some.injEq,g3,g7,g8,o0]<;>exact wt_)|rfl|exact⟨_,rfl⟩) ?_;intro k s hnx ⟨g3,g7,g8,o0,g9,k2_0⟩;have hzk:=w1_ k;by_cases hk:k<T.length
     . have hgk:T[k]?=some T[k]:=ge_ hk;have e2:=d2 _ (List.getElem_mem hk);have e3:∀j y,j<k->T[j]?=some y->y<T[k]:=λj y hj hy=>by
        obtain ⟨h1,h2⟩:=List.getElem?_eq_some_iff.1 hy;rw[<- h2];exact List.pairwise_iff_getElem.1 d3.1 j k h1 hk hj
       generalize T[k]=t at *;have hhas:=JB (a:=U) (x:=t) o_;by_cases hk0:k=0
       . subst hk0;by_cases ht:t=0
         . subst ht;repeat' with_reducible first|refine s_ ?_|simp -implicitDefEqProofs only[wZZ,seval,g3,g7,g8,g9,o0,hzk]|apply qa<;>intro h h_<;>(try simp only[wD,reduceCtorEq]at h_)<;>(try exact wb_)<;>(try simp only[h])|refine t_ ?_|simp -implicitDefEqProofs (disch:=omega) only[w64,if_neg]
           refine⟨wk_,0+1,o_,?_⟩;refine⟨?_,?_,?_,?_,?_,?_⟩;iterate 5 (focus(first|(simp -implicitDefEqProofs only[wL,wM,wN,wX,seval,Option.some.injEq,g3,g7,g8,g9,o0]<;>exact wt_)|rfl|exact⟨_,rfl⟩))
           all_goals try omega
         . have hm:=(hum t).2 (e2.resolve_left ht);rw[decide_eq_true hm]at hhas;repeat' with_reducible first|refine s_ ?_|simp -implicitDefEqProofs only[wZZ,seval,g3,g7,g8,g9,o0,hzk]|(first|apply qa|apply qy|apply qx)<;>intro h h_<;>(try simp only[wD,reduceCtorEq]at h_)<;>(try exact wb_)<;>(try simp only[h])|refine t_ ?_|refine cq1 hus qf ?_|refine cq2 hhas qf qf ?_|simp -implicitDefEqProofs (disch:=omega) only[w64,if_neg]
           refine⟨wk_,0+1,o_,?_⟩;refine⟨?_,?_,?_,?_,?_,?_⟩;iterate 5 (focus(first|(simp -implicitDefEqProofs only[wL,wM,wN,wX,seval,Option.some.injEq,g3,g7,g8,g9,o0]<;>exact wt_)|rfl|exact⟨_,rfl⟩))
           all_goals try omega
       . have hz1:IntKind.i64.wrap ((k:Int) - 1)=((k - 1:Nat):Int):=(by rw[wrap64 o_ o_];omega);have hgj:T[k - 1]?=some T[k - 1]:=ge_ o_;have e4:=e3 (k - 1) _ o_ hgj;generalize T[k - 1]=u at *;by_cases ht:t=0
         . subst ht;repeat' with_reducible first|refine s_ ?_|simp -implicitDefEqProofs only[wZZ,seval,g3,g7,g8,g9,o0,hzk,hz1]|(first|apply qa|apply qy|apply qx)<;>intro h h_<;>(try simp only[wD,reduceCtorEq]at h_)<;>(try exact wb_)<;>(try simp only[h])|refine t_ ?_
           refine⟨wk_,k+1,o_,?_⟩;refine⟨?_,?_,?_,?_,?_,?_⟩;iterate 5 (focus(first|(simp -implicitDefEqProofs only[wL,wM,wN,wX,seval,Option.some.injEq,g3,g7,g8,g9,o0]<;>exact wt_)|rfl|exact⟨_,rfl⟩))
           all_goals try omega
         . have hm:=(hum t).2 (e2.resolve_left ht);rw[decide_eq_true hm]at hhas;repeat' with_reducible first|refine s_ ?_|simp -implicitDefEqProofs only[wZZ,seval,g3,g7,g8,g9,o0,hzk,hz1]|(first|apply qa|apply qy|apply qx)<;>intro h h_<;>(try simp only[wD,reduceCtorEq]at h_)<;>(try exact wb_)<;>(try simp only[h])|refine t_ ?_|refine cq1 hus qf ?_|refine cq2 hhas qf qf ?_
           refine⟨wk_,k+1,o_,?_⟩;refine⟨?_,?_,?_,?_,?_,?_⟩;iterate 5 (focus(first|(simp -implicitDefEqProofs only[wL,wM,wN,wX,seval,Option.some.injEq,g3,g7,g8,g9,o0]<;>exact wt_)|rfl|exact⟨_,rfl⟩))
           all_goals try omega
     . repeat' with_reducible first|refine s_ ?_|simp -implicitDefEqProofs only[wZZ,seval,g3,g7,g8,g9,o0,hz]|apply qa<;>intro h h_<;>(try simp only[wD,reduceCtorEq]at h_)<;>(try exact wb_)<;>(try simp only[h])|refine t_ ?_
       refine⟨wk_,i+1,o_,?_⟩;refine⟨?_,?_,?_,?_,?_⟩;iterate 4 (focus(first|(simp -implicitDefEqProofs only[wL,wM,wN,wX,seval,Option.some.injEq,g3,g7,g8,g9,o0]<;>exact wt_)|rfl|exact⟨_,rfl⟩))
       all_goals try omega
   . skip
     repeat' with_reducible first|refine s_ ?_|simp -implicitDefEqProofs only[wZZ,seval,g3,g7,g8,o0,hz]|apply qa<;>intro h h_<;>(try simp only[wD,reduceCtorEq]at h_)<;>(try exact wb_)<;>(try simp only[h])
     all_goals refine qw rfl (Or.inr rfl) ?_
     all_goals(try simp -implicitDefEqProofs only[wL,seval,g3,g7,g8])
     all_goals refine er_ ?_
     all_goals(try(with_reducible rfl))
end Go.Proofs

namespace Go.Proofs.YtkcegflhobejmaaGreatDoor.law
open Go.E Go.ChangeShapes Go.WideShapes Go.ChangeAt Go.RowKit
def B(H:Type)(d:DataW H):Nat:=Rows.uptoBulk d
theorem qdA{H:Type}(l:List (DataW H)):Rows.uptoBulkAll l=(l.map (B H)).sum:=by
 induction l with
 |nil=>simp[Rows.uptoBulkAll]
 |cons x l ih=>simp only[Rows.uptoBulkAll,ih,List.map_cons,List.sum_cons];rfl
theorem qbC:BulkOk B where
 one:=λH d=>by
  cases d with
  |lit l=>cases l<;>simp[B,Rows.uptoBulk]
  | _=>simp[B,Rows.uptoBulk]
 str:=λH s=>by simp[B,Rows.uptoBulk]
 slice:=λH x y=>by show _<=Rows.uptoBulk (.slice x y);simp only[Rows.uptoBulk,qdA];omega
 agg:=λH x=>by show _<=Rows.uptoBulk (.agg x);simp only[Rows.uptoBulk,qdA];omega
theorem small{H:Type}{l:List (DataW H)}(hk:Rows.uptoSmall H l=true):(l.map (B H)).sum<=1048576:=by have h:Rows.uptoBulkAll l<=1048576:=of_decide_eq_true hk;rwa [qdA]at h
theorem own:ownKnob Tryz.prog.godebug=none:=by kernel_rfl
theorem kids:Kids Tryz.prog (· <Tryz.prog.types.size):=kids_rows (by kernel_rfl) (by kernel_rfl)
theorem slices:∀t e,t<Tryz.prog.types.size->Tryz.prog.underlying t=some (.slice e)->0<Tryz.prog.cellsOf e:=slices_full_of Tryz.prog (by kernel_rfl)
theorem cells3:Tryz.prog.cellsOf 3=1:=by kernel_rfl
theorem qxX(N:Nat):ReadsN N Tryz.prog B 3 (Img (λn:Int=>.int .i64 n) (λ_=>1) (λn=>(Lit.int .i64 n).wf=true)):=qhC qbC Tryz.underlying3 cells3 N
theorem Jp:Tryz.prog.cellsOf 27=1:=by kernel_rfl
theorem qbs:Tryz.prog.cellsOf 26=1:=by kernel_rfl
theorem qww:Tryz.prog.cellsOf 4=1:=by kernel_rfl
theorem qwX(N:Nat):ReadsN N Tryz.prog B 4 (Img (λn:Bool=>.bool n) (λ_=>1) (λ_=>True)):=qf2 qbC Tryz.underlying4 qww N
def szI(l:List Int):Nat:=(l.map λ_=>1).sum+1
theorem qox(N:Nat):ReadsN N Tryz.prog B 27 (Img (λl:List Int=>.sl 1 false (l.map (V.int .i64))) szI (λl=>∀n∈l,(Lit.int .i64 n).wf=true)):=by have h:=VW qbC Tryz.underlying27 Jp (by rw[cells3];omega) (qxX N);rw[cells3]at h;exact h.le o_
theorem qtd(N:Nat):ReadsN N Tryz.prog B 26 (Img (λl:List (List Int)=>.sl 1 false (l.map λl=>.sl 1 false (l.map (V.int .i64)))) (λl=>(l.map szI).sum+1) (λl=>∀a∈l,∀n∈a,(Lit.int .i64 n).wf=true)):=by have h:=VW qbC Tryz.underlying26 (by kernel_rfl) (by rw[Jp];omega) (qox N);rw[Jp]at h;exact h.le o_
def szG(x:GrI):Nat:=((x.rules.map szI).sum+1)+szI x.levels+szI x.inner
theorem rGr(N:Nat):ReadsN N Tryz.prog B 29 (Img (λx:GrI=>x.V) szG (λ_=>True)):=by
 have h:=qco (N:=N) (Qs:=[Img (λn:Int=>.int .i64 n) (λ_=>1) (λn=>(Lit.int .i64 n).wf=true),Img (λl:List (List Int)=>.sl 1 false (l.map λl=>.sl 1 false (l.map (V.int .i64)))) (λl=>(l.map szI).sum+1) (λl=>∀a∈l,∀n∈a,(Lit.int .i64 n).wf=true),Img (λl:List Int=>.sl 1 false (l.map (V.int .i64))) szI (λl=>∀n∈l,(Lit.int .i64 n).wf=true),Img (λl:List Int=>.sl 1 false (l.map (V.int .i64))) szI (λl=>∀n∈l,(Lit.int .i64 n).wf=true),Img (λn:Bool=>.bool n) (λ_=>1) (λ_=>True)]) qbC Tryz.underlying29 (by kernel_rfl) (by
  intro j f hf
  match j,hf with
  |0,hf=>cases hf;rfl
  |1,hf=>cases hf;simp[cells3,qbs,Jp]
  |2,hf=>cases hf;simp[cells3,qbs,Jp]
  |3,hf=>cases hf;simp[cells3,qbs,Jp]
  |4,hf=>cases hf;simp[cells3,qbs,Jp]) rfl (by
  intro i f Q hf hQ
  match i,hf,hQ with
  |0,hf,hQ=>cases hf;cases hQ;exact qxX N
  |1,hf,hQ=>cases hf;cases hQ;exact qtd N
  |2,hf,hQ=>cases hf;cases hQ;exact qox N
  |3,hf,hQ=>cases hf;cases hQ;exact qox N
  |4,hf,hQ=>cases hf;cases hQ;exact qwX N)
 have hc:Tryz.prog.cellsOf 29=5:=by kernel_rfl
 refine⟨?_,λH enc w fuel cs x hf hx=>?_⟩
 . rintro v n ⟨x,_,rfl,rfl⟩;refine⟨by rw[hc];rfl,?_,by simp[V.isAgg,qju,Tryz.underlying29]⟩;intro c hcm;simp only[V.cells,List.mem_cons,List.not_mem_nil,or_false]at hcm;rcases hcm with rfl|rfl|rfl|rfl|rfl<;>rfl
 . obtain ⟨v,n,⟨ps,hl,hq,rfl,rfl⟩,h2,h3⟩:=h.rd H enc w fuel cs x o_ hx
   match ps,hl with
   | [p0,p1,p2,p3,p4],_=>
     obtain ⟨a0,-,e0,s0⟩:=hq 0 _ _ rfl rfl;obtain ⟨a1,-,e1,s1⟩:=hq 1 _ _ rfl rfl;obtain ⟨a2,-,e2,s2⟩:=hq 2 _ _ rfl rfl;obtain ⟨a3,-,e3,s3⟩:=hq 3 _ _ rfl rfl;obtain ⟨a4,-,e4,s4⟩:=hq 4 _ _ rfl rfl;refine⟨(GrI.mk a0 a1 a2 a3 a4).V,_,⟨GrI.mk a0 a1 a2 a3 a4,trivial,rfl,rfl⟩,?_,?_⟩
     . simp only[List.map_cons,List.map_nil,List.flatMap_cons,List.flatMap_nil,e0,e1,e2,e3,e4]at h2;exact h2
     . simp only[List.map_cons,List.map_nil,List.sum_cons,List.sum_nil,s0,s1,s2,s3,s4]at h3;simp only[szG];omega
theorem qdl(l:List Int):szI l=l.length+1:=by
 unfold szI
 induction l with
 |nil=>rfl
 |cons a l ih=>simp only[List.map_cons,List.sum_cons,List.length_cons]at ih ⊢;omega
theorem qdM:∀{L:List (List Int)} {l:List Int},l∈L->l.length+L.length<=(L.map szI).sum
 | a::L,l,h=>by
   have hs:∀L:List (List Int),L.length<=(L.map szI).sum:=λL=>by
    induction L with
    |nil=>simp
    |cons a L ih=>simp only[List.map_cons,List.sum_cons,List.length_cons,qdl];omega
   simp only[List.map_cons,List.sum_cons,List.length_cons,qdl];rcases List.mem_cons.1 h with rfl|h
   . have:=hs L;omega
   . have:=qdM h;omega
theorem qmm{x:GrI}(h:szG x<=1048576):x.rules.length<=1099511627776/\(∀l∈x.rules,l.length<=1099511627776)/\x.inner.length<=1099511627776/\x.levels.length<=1099511627776:=by
 simp only[szG,qdl]at h;refine⟨?_,λl hl=>by have:=qdM hl;omega,o_,o_⟩;cases hx:x.rules with
 |nil=>simp
 |cons a L=>have:=qdM (L:=x.rules) (l:=a) (by simp[hx]);rw[hx]at this h;simp only[List.length_cons]at this ⊢;omega
theorem qyi:Tryz.prog.globalNamed "math/bits.deBruijn64tab"=some 0:=by kernel_rfl
theorem qkW:(Tryz.prog.globals[0]?).map (·.type)=some 194:=by kernel_rfl
theorem table{W:World}(h:laidMetH Tryz.prog [("math/bits.deBruijn64tab",Rows.laid_math_bits_deBruijn64tab)] W):Lib.TabIs Tryz.prog W "math/bits.deBruijn64tab" .u8 (Lib.deBruijn64tab.map λ(n:Nat)=>(n:Int)):=
 Lib.tabIs_of_head (rest:=[]) qyi qkW Tryz.underlying194 Tryz.underlying5 (by kernel_rfl) (by kernel_rfl) h
theorem qtq{W:World}(h:laidMetH Tryz.prog [("math/bits.deBruijn64tab",Rows.laid_math_bits_deBruijn64tab)] W):Go.E.GOk Tryz.prog W Vb:=by
 intro g
 show R noβ W Vb (if g=0 then _ else _) _;have hl:Lib.deBruijn64tab.length=64:=by decide
 split
 . rename_i e;subst e;refine .iptr 64 _ 0 0 0 (λj=>.int .u8 ((Lib.deBruijn64tab.map λ(n:Nat)=>(n:Int)).getD j 0)) (λj hj=>⟨trivial,?_⟩) (by simp[V.cells,hl]) (by simp[V.cells,V.scalar]) (λj c hc=>?_)
   . have:=(table h).cell qyi j (by simp[hl];exact hj);simpa using this
   . simp only[V.cells,List.getElem?_map,Option.map_eq_some_iff]at hc;obtain ⟨n,hn,rfl⟩:=hc
     have:(Lib.deBruijn64tab.map λ(n:Nat)=>(n:Int)).getD j 0=(n:Int):=by simp[List.getD,hn]
     rw[this];exact .int _ _
 . exact .iptr 0 (.agg []) 0 g 0 (λ_=>Go.undef) (λj hj=>absurd hj (Nat.not_lt_zero _)) rfl (by simp[V.cells]) (by simp[V.cells])
noncomputable def Vz (os:Os):World:=
 {World.holding Tryz.prog os ⟨#[],#[],[]⟩with heap:=(World.holding Tryz.prog os ⟨#[],#[],[]⟩).heap.modify 0 fun
  |.cells _ t frozen=>.cells ((Lib.deBruijn64tab.map λ(n:Nat)=>Value.int .u8 (n:Int)).toArray) t frozen
  |o=>o}
end Go.Proofs.YtkcegflhobejmaaGreatDoor.law
