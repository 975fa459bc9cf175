/- Part of a proof that a law of the given program answers true. -/
import Derived.Test.YthgkeppkcjcmjaaDDE
import Derived.Test.YthgkeppkcjcmjaaDJC
set_option linter.unusedSimpArgs false
set_option linter.unusedVariables false
set_option maxHeartbeats 8000000
namespace Go.Proofs
open Go.E
theorem vX {y:Source} {x:GrI} {w raw:List Int} {depth steps:Int} (hy:y.Fits) (hb1:x.rules.length≤1099511627776) (hb2: ∀l∈x.rules,l.length≤1099511627776) (hib:x.inner.length≤1099511627776) (hlb:x.levels.length≤1099511627776) (hw:w.length≤1099511627776) (hr:raw.length≤1099511627776) (hd: -9223372036854775808≤depth∧depth≤9223372036854775807) (hs: -9223372036854775808≤steps∧steps≤9223372036854775807):Pure Try.prog 3 [y.V,x.V,.sl 1 false (w.map (V.int .i64)),.sl 1 false (raw.map (V.int .i64)),vi depth,vi steps] (.bool true):=by
 refine pure_intro Try.func3 qMv qM5 (by show 6≤84;decide) ?_
 show ewp _ qvR _ _
 have hwk:=JG
 have hcut:=Vv hy
 have hsrc:=Jv (x:=x) hb1 hb2 hib hlb
 have hsl:V.sl 4 true [(qbF y).V,(zy x).V]=.sl 4 true ([qbF y,zy x].map Source.V):=rfl
 repeat' with_reducible first
  |refine s_ ?_
  |simp only[wZZ,seval]
  |refine cq0 hwk ?_
  |refine cq1 hcut (xZ y) ?_
  |refine cq1 hsrc qc ?_
  |refine t_ ?_
 rw[hsl]
 have h2:=qKa x y
 generalize hL:[qbF y,zy x]=L at *
 have hLl:L.length=2:=by rw[← hL];rfl
 clear hL hsl
 obtain ⟨sp,hsp⟩: ∃sp:Int,sp=(if 4000<steps then 4000 else steps):=⟨_,rfl⟩
 have hspb: -9223372036854775808≤sp∧sp≤9223372036854775807:=by rw[hsp];split<;>omega
 refine qd ?nx1 (fun(i:Nat) s=>s.f 2=?v1_2∧s.f 3=?v1_3∧s.f 4=?v1_4∧s.f 5=?v1_5∧s.f 13=?v1_13∧s.f 14=vi i∧(i≤L.length)) (fun i=>L.length - i) (0) wj_ (by refine⟨?_,?_,?_,?_,?_,?_,wo_⟩<;>first|(simp only[wL,wM,wN,wX,seval,Option.some.injEq]<;>exact wt_)|rfl|exact⟨_,rfl⟩) ?_
 intro i s hnx ⟨g2,g3,g4,g5,g13,g14,k1_0⟩
 have hz:=w1_ i
 by_cases hi:i<L.length
 · have hgi:L[i]?=some L[i]:=ge_ hi
   obtain ⟨hf,hS⟩:=h2 i _ hgi
   generalize L[i]=src at *
   have hE: ∃E,jQ src=true→IsGrow (qN src) false E:=by
    cases hb:jQ src with
    |false=>exact⟨fun _=>false,fun h=>(by cases h)⟩
    | true=>
      obtain ⟨_,hg,_⟩:=Qi hb
      obtain ⟨E,hE,_⟩:=xJ hg
      exact⟨E,fun _=>hE⟩
   obtain ⟨E,hE⟩:=hE
   have hde:=yS hf hS hE
   have hmk:= @Qi src
   have htb:= @qiB src E
   cases hb:jQ src with
   | false=>
     rw[hb]at hde
     clear htb hmk
     generalize qgU (Zc src E)=rw_ at *
     generalize qaT src E=A at *
     generalize qbh src=G at *
     generalize qN src=g at *
     repeat' with_reducible first
      |refine s_ ?_
      |simp only[wZZ,seval,g2,g3,g4,g5,g13,g14,hz]
      |apply qa<;>intro h h_<;>(try simp only[wD,reduceCtorEq]at h_)<;>(try exact wb_)<;>(try simp only[h])
      |refine t_ ?_
      |refine cq1 hde (xZ src) ?_
      |simp(disch:=omega) only[w64,if_neg]
     exact⟨by((try simp only[wN])<;>omega),i+1,by omega,trivial,trivial,trivial,trivial,trivial,rfl,by omega⟩
   | true=>
     rw[hb]at hde
     obtain ⟨_,hg,hM,hG⟩:=hmk hb
     have hT:=htb hb
     clear htb hmk
     generalize qgU (Zc src E)=rw_ at *
     generalize qaT src E=A at *
     generalize qbh src=G at *
     generalize ze src=m at *
     generalize qN src=g at *
     have htk:=hg.tk2
     have hto:=J8 (g:=g) (l:=w) (n:=40) (by omega) (by omega) hw
     have hin:=Yt (l:=raw) (n:=9) hr (by omega)
     simp only[Int.cast_ofNat_Int]at hto hin
     have hl1:(Jb g w 40).length≤1000000:=by unfold Jb;rw[List.length_map,List.length_take];omega
     have hl2:(qav raw 9).length≤1000000:=by unfold qav;split<;>(try rw[List.length_take])<;>omega
     generalize Jb g w 40=a at *
     generalize qav raw 9=b at *
     have r1:=kJ (l:=a) (depth:=depth) (steps:=sp) hg hM hG hT hl1
     have r2:=Qe (l:=a) (depth:=depth) (steps:=sp) hg hM hG hT hl1 hd hspb
     have r3:=kJ (l:=b) (depth:=depth) (steps:=sp) hg hM hG hT hl2
     have r4:=Qe (l:=b) (depth:=depth) (steps:=sp) hg hM hG hT hl2 hd hspb
     have q1:=qbD (g:=g) (A:=A) (G:=G) (l:=a) (dp:=zq depth 100000) (kM sp 1000000)
     have q2:=qbD (g:=g) (A:=A) (G:=G) (l:=b) (dp:=zq depth 100000) (kM sp 1000000)
     generalize qeo g A G a (zq depth 100000) (zq sp 1000000)=R1 at *
     generalize qeo g A G b (zq depth 100000) (zq sp 1000000)=R2 at *
     have heq1:=jS q1
     have heq2:=jS q2
     repeat' with_reducible first
      |refine s_ ?_
      |simp only[wZZ,seval,g2,g3,g4,g5,g13,g14,hz,Zp,qfh,← hsp]
      |apply qa<;>intro h h_<;>(try simp only[wD,reduceCtorEq]at h_)<;>(try exact wb_)<;>(try simp only[h])
      |refine t_ ?_
      |refine cq1 hde (xZ src) ?_
      |refine cq3 hto qc qc qc ?_
      |refine cq2 hin qc qc ?_
      |refine cq5 r1 qc qc qc qc qc ?_
      |refine cq5 r2 qc qc qc qc qc ?_
      |refine cq5 r3 qc qc qc qc qc ?_
      |refine cq5 r4 qc qc qc qc qc ?_
      |refine cq2 heq1 qc qc ?_
      |refine cq2 heq2 qc qc ?_
      |simp(disch:=omega) only[w64,if_neg]
     exact⟨by((try simp only[wN])<;>omega),i+1,by omega,trivial,trivial,trivial,trivial,trivial,rfl,by omega⟩
 · have e:i=L.length:=by omega
   repeat' with_reducible first
    |refine s_ ?_
    |simp only[wZZ,seval,g2,g3,g4,g5,g13,g14,hz]
    |apply qa<;>intro h h_<;>(try simp only[wD,reduceCtorEq]at h_)<;>(try exact wb_)<;>(try simp only[h])
   all_goals refine qw rfl (Or.inr rfl) ?_
   all_goals(try simp only[wL,seval,g2,g3,g4,g5,g13,g14])
   all_goals refine er_ ?_
   all_goals(try(with_reducible rfl))
end Go.Proofs
