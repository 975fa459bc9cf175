/- Part of a proof that a law of the given program answers true. -/
import Derived.Test.YtjdjdbkoplmjeaaMND
import Derived.Test.YtjdjdbkoplmjeaaMKA
import Derived.Test.YtjdjdbkoplmjeaaMNA
import Derived.Test.YtjdjdbkoplmjeaaMNC
import Derived.Test.YtjdjdbkoplmjeaaMNM
set_option linter.unusedSimpArgs false
set_option linter.unusedVariables false
set_option maxHeartbeats 4000000
set_option maxRecDepth 20000
namespace Go.Proofs
open Go.E
def qev (t:Tok):List UInt8:=if t.lit then qtS (t.name.headD 0)else t.name
def vF (g:Grammar) (s:Int):List UInt8:=if s<1000 then((g.toks[s.toNat]?).map qev).getD []else((g.nons[(s - 1000).toNat]?).map Non.name).getD []
def qkF (g:Grammar) (s:Int):Prop:=(∃(t:Nat) (x:Tok),s=t∧t<1000∧g.toks[t]?=some x∧(x.lit=true→x.name≠[]))∨ ∃(k:Nat) (x:Non),s=1000+(k:Int)∧g.nons[k]?=some x
theorem qca {g:Grammar} {s:Int} (h:qkF g s) (ht:g.toks.length≤1000) (hn:g.nons.length≤100000):Pure Try.prog 66 [g.V,vi s] (.str (vF g s)):=by
 refine pure_intro Try.func66 nm_ qru (by show 2≤65;decide) ?_
 show ewp _ qfL _ _
 rcases h with ⟨t,x,rfl,ht2,hg,hx⟩|⟨k,x,rfl,hg⟩
 · have hl:=(List.getElem?_eq_some_iff.1 hg).1
   have e:vF g (t:Int)=qev x:=by unfold vF;rw[if_pos o_,Int.toNat_natCast,hg];rfl
   rw[e]
   obtain ⟨nm,lt,nu,lv,as_,tg⟩:=x
   cases lt with
   | true=>
     cases nm with
     |nil=>exact absurd rfl (hx rfl)
     | cons c r=>
       have hq:=qdj (c:=c)
       have e2:qev ⟨c::r,true,nu,lv,as_,tg⟩=qtS c:=rfl
       rw[e2]
       repeat' with_reducible first
        |refine s_ ?_
        |simp -implicitDefEqProofs only[wZZ,seval]
        |(first|apply qh|apply qi)<;>intro h h_<;>(try simp only[wD,reduceCtorEq]at h_)<;>(try exact wb_)<;>(try simp only[h])
        |refine t_ ?_
        |apply qi3;omega;exact wu_
        |refine cq1 hq qc ?_
       refine qA rfl (Or.inr rfl) ?_
       simp -implicitDefEqProofs only[wL,seval]
       refine er_ ?_
       try(with_reducible rfl)
   | false=>
     have e2:qev ⟨nm,false,nu,lv,as_,tg⟩=nm:=rfl
     rw[e2]
     repeat' with_reducible first
      |refine s_ ?_
      |simp -implicitDefEqProofs only[wZZ,seval]
      |(first|apply qa|apply qh|apply qi)<;>intro h h_<;>(try simp only[wD,reduceCtorEq]at h_)<;>(try exact wb_)<;>(try simp only[h])
      |refine t_ ?_
     refine qA rfl (Or.inr rfl) ?_
     simp -implicitDefEqProofs only[wL,seval]
     refine er_ ?_
     try(with_reducible rfl)
 · have hl:=(List.getElem?_eq_some_iff.1 hg).1
   have e:vF g (1000+(k:Int))=x.name:=by unfold vF;rw[if_neg o_,show (1000+(k:Int) - 1000).toNat=k by omega,hg];rfl
   rw[e]
   obtain ⟨nm,tg⟩:=x
   have hz:IntKind.i64.wrap (1000+(k:Int) - 1000)=(k:Int):=by rw[wrap64 o_ o_];omega
   repeat' with_reducible first
    |refine s_ ?_
    |simp -implicitDefEqProofs only[wZZ,seval,hz]
    |(first|apply qa|apply qh|apply qi)<;>intro h h_<;>(try simp only[wD,reduceCtorEq]at h_)<;>(try exact wb_)<;>(try simp only[h])
    |refine t_ ?_
   refine qA rfl (Or.inr rfl) ?_
   simp -implicitDefEqProofs only[wL,seval]
   refine er_ ?_
   try(with_reducible rfl)
theorem Xu {g:Grammar} {s:Int} (h:qkF g s) (ht:g.toks.length≤1000) (hn:g.nons.length≤100000):Pure Try.prog 73 [g.V,vi s] (.str (vF g s)):=by
 refine pure_intro Try.func73 nm_ qmU (by show 2≤41;decide) ?_
 show ewp _ qfJ _ _
 have hsy:=ZW (g:=g) (x:=s) o_ o_
 have hT:xK g.toks.length g.nons.length s=true:=by
  rcases h with ⟨t,x,rfl,ht2,hg,hx⟩|⟨k,x,rfl,hg⟩
  · have hl:=(List.getElem?_eq_some_iff.1 hg).1
    simp[xK];omega
  · have hl:=(List.getElem?_eq_some_iff.1 hg).1
    simp[xK];omega
 rw[hT]at hsy
 rcases h with ⟨t,x,rfl,ht2,hg,hx⟩|⟨k,x,rfl,hg⟩
 · have hl:=(List.getElem?_eq_some_iff.1 hg).1
   have e:vF g (t:Int)=qev x:=by unfold vF;rw[if_pos o_,Int.toNat_natCast,hg];rfl
   rw[e]
   obtain ⟨nm,lt,nu,lv,as_,tg⟩:=x
   cases lt with
   | true=>
     cases nm with
     |nil=>exact absurd rfl (hx rfl)
     | cons c r=>
       have hq:=J6 (c:=c)
       have e2:qev ⟨c::r,true,nu,lv,as_,tg⟩=qtS c:=rfl
       rw[e2]
       repeat' with_reducible first
        |refine s_ ?_
        |simp -implicitDefEqProofs only[wZZ,seval]
        |apply qa<;>intro h h_<;>(try simp only[wD,reduceCtorEq]at h_)<;>(try exact wb_)<;>(try simp only[h])
        |refine cq2 hsy qc qc ?_
        |refine t_ ?_
        |apply qi3;omega;exact wu_
        |refine cq1 hq qc ?_
       refine qA rfl (Or.inr rfl) ?_
       simp -implicitDefEqProofs only[wL,seval]
       refine er_ ?_
       try(with_reducible rfl)
   | false=>
     have e2:qev ⟨nm,false,nu,lv,as_,tg⟩=nm:=rfl
     rw[e2]
     repeat' with_reducible first
      |refine s_ ?_
      |simp -implicitDefEqProofs only[wZZ,seval]
      |apply qa<;>intro h h_<;>(try simp only[wD,reduceCtorEq]at h_)<;>(try exact wb_)<;>(try simp only[h])
      |refine cq2 hsy qc qc ?_
      |refine t_ ?_
     refine qA rfl (Or.inr rfl) ?_
     simp -implicitDefEqProofs only[wL,seval]
     refine er_ ?_
     try(with_reducible rfl)
 · have hl:=(List.getElem?_eq_some_iff.1 hg).1
   have e:vF g (1000+(k:Int))=x.name:=by unfold vF;rw[if_neg o_,show (1000+(k:Int) - 1000).toNat=k by omega,hg];rfl
   rw[e]
   obtain ⟨nm,tg⟩:=x
   have hz:IntKind.i64.wrap (1000+(k:Int) - 1000)=(k:Int):=by rw[wrap64 o_ o_];omega
   repeat' with_reducible first
    |refine s_ ?_
    |simp -implicitDefEqProofs only[wZZ,seval,hz]
    |apply qa<;>intro h h_<;>(try simp only[wD,reduceCtorEq]at h_)<;>(try exact wb_)<;>(try simp only[h])
    |refine cq2 hsy qc qc ?_
    |refine t_ ?_
   refine qA rfl (Or.inr rfl) ?_
   simp -implicitDefEqProofs only[wL,seval]
   refine er_ ?_
   try(with_reducible rfl)

theorem qbN {g : Grammar} {y p a:Int} {ks:List Nd} (hg:GOk g) (ih: ∀k∈ks,Pure Try.prog 61 [g.V,k.V] (.bool (k.whole g))) (hkl:ks.length≤1000000000000):Pure Try.prog 61 [g.V,(Nd.mk y p a ks).V] (.bool ((Nd.mk y p a ks).whole g)):=by
 refine pure_intro Try.func61 nm_ qpB (by show 2≤108;decide) ?_
 show ewp _ qgM _ _
 rw[Nd.V_mk]
 by_cases hp:p= -1
 · subst hp
   have hb:(Nd.mk y (-1) a ks).whole g=decide (0≤y∧y<g.toks.length∧0≤a∧ks.length=0):=by rw[Nd.whole,if_pos rfl]
   rw[hb]
   repeat' with_reducible first
    |refine s_ ?_
    |simp -implicitDefEqProofs only[wZZ,seval]
    |(first|apply qh|apply qi)<;>intro h h_<;>(try simp only[wD,reduceCtorEq]at h_)<;>(try exact wb_)<;>(try simp only[h])
    |refine t_ ?_
   all_goals refine qA rfl (Or.inr rfl) ?_
   all_goals(simp -implicitDefEqProofs only[wL,seval])
   all_goals refine yG ?_
   all_goals(try simp only[List.length_map])
   all_goals first|rfl|(rw[Bool.eq_iff_iff,decide_eq_true_eq,decide_eq_true_eq];constructor<;>intro hh<;>omega)|(symm;rw[decide_eq_false_iff_not];omega)|(symm;rw[decide_eq_true_eq];omega)
 · by_cases hpa : ¬ (0≤p∧a= -1)
   · have hb:(Nd.mk y p a ks).whole g=false:=by rw[Nd.whole,if_neg hp,decide_eq_false hpa];simp
     rw[hb]
     by_cases hp0:p<0
     · repeat' with_reducible first
        |refine s_ ?_
        |simp -implicitDefEqProofs only[wZZ,seval]
        |(first|apply qa|apply qh|apply qi)<;>intro h h_<;>(try simp only[wD,reduceCtorEq]at h_)<;>(try exact wb_)<;>(try simp only[h])
        |refine t_ ?_
       all_goals refine qA rfl (Or.inr rfl) ?_
       all_goals(try simp -implicitDefEqProofs only[wL,seval])
       all_goals refine er_ ?_
       all_goals(try(with_reducible rfl))
     · cases hpr:g.prods[p.toNat]? with
       | none=>
         have hml:=List.getElem?_eq_none_iff.1 hpr
         repeat' with_reducible first
          |refine s_ ?_
          |simp -implicitDefEqProofs only[wZZ,seval]
          |(first|apply qa|apply qh|apply qi)<;>intro h h_<;>(try simp only[wD,reduceCtorEq]at h_)<;>(try exact wb_)<;>(try simp only[h])
          |refine t_ ?_
         all_goals first|(exfalso;omega)|(refine qA rfl (Or.inr rfl) ?_;(simp -implicitDefEqProofs only[wL,seval]);refine yG ?_;first|rfl|(simp;omega))
       | some pr=>
         have hml:=(List.getElem?_eq_some_iff.1 hpr).1
         obtain ⟨m,rfl⟩: ∃m:Nat,p=m:=⟨p.toNat,o_⟩
         rw[Int.toNat_natCast]at hpr hml
         have hmem:=List.mem_of_getElem? hpr
         obtain ⟨lf,hlf,hln⟩:=hg.left pr hmem
         have hnl:=hg.nn2
         obtain ⟨pl,prr,pc,pco,pa,pat⟩:=pr
         dsimp only at hlf
         subst hlf
         have hzl:IntKind.i64.wrap (1000+(lf:Int))=1000+(lf:Int):=wrap64 o_ o_
         repeat' with_reducible first
          |refine s_ ?_
          |simp -implicitDefEqProofs only[wZZ,seval,hzl]
          |(first|apply qh|apply qi)<;>intro h h_<;>(try simp only[wD,reduceCtorEq]at h_)<;>(try exact wb_)<;>(try simp only[h])
          |refine t_ ?_
         all_goals first|(exfalso;omega)|(refine qA rfl (Or.inr rfl) ?_;(simp -implicitDefEqProofs only[wL,seval]);refine yG ?_;first|rfl|(simp;omega))
   · obtain ⟨hp0,rfl⟩:=Classical.not_not.1 hpa
     obtain ⟨m,rfl⟩: ∃m:Nat,p=m:=⟨p.toNat,o_⟩
     cases hpr:g.prods[m]? with
     | none=>
       have hml:=List.getElem?_eq_none_iff.1 hpr
       have hb:(Nd.mk y m (-1) ks).whole g=false:=by rw[Nd.whole,if_neg hp,Int.toNat_natCast,hpr];simp
       rw[hb]
       repeat' with_reducible first
        |refine s_ ?_
        |simp -implicitDefEqProofs only[wZZ,seval]
        |(first|apply qh|apply qi)<;>intro h h_<;>(try simp only[wD,reduceCtorEq]at h_)<;>(try exact wb_)<;>(try simp only[h])
        |refine t_ ?_
       all_goals first|(exfalso;omega)|(refine qA rfl (Or.inr rfl) ?_;(simp -implicitDefEqProofs only[wL,seval]);refine yG ?_;first|rfl|(simp;omega))
     | some pr =>
       have hml:=(List.getElem?_eq_some_iff.1 hpr).1
       have hmem:=List.mem_of_getElem? hpr
       obtain ⟨lf,hlf,hln⟩:=hg.left pr hmem
       have hrl:=hg.rlen pr hmem
       have hnl:=hg.nn2
       obtain ⟨pl,prr,pc,pco,pa,pat⟩:=pr
       dsimp only at hlf hrl
       subst hlf
       have hzl:IntKind.i64.wrap (1000+(lf:Int))=1000+(lf:Int):=wrap64 o_ o_
       have hwh:(Nd.mk y m (-1) ks).whole g=(decide (y=1000+(lf:Int)) && Nd.wholes g prr ks):=by rw[Nd.whole,if_neg hp,Int.toNat_natCast,hpr,decide_eq_true (show 0≤(m:Int)∧(-1:Int)= -1 by omega)];rfl
       rw[hwh]
       by_cases hys: ¬ (y=1000+(lf:Int)∧ks.length=prr.length)
       · have hb:(decide (y=1000+(lf:Int)) && Nd.wholes g prr ks)=false:=by
          rw[Bool.and_eq_false_iff]
          by_cases e:y=1000+(lf:Int)
          · right
            cases hw:Nd.wholes g prr ks with
            |false=>rfl
            |true=>exact absurd ⟨e,Nd.wholes_len hw⟩ hys
          · left;exact decide_eq_false e
         rw[hb]
         repeat' with_reducible first
          |refine s_ ?_
          |simp -implicitDefEqProofs only[wZZ,seval,hzl]
          |(first|apply qa|apply qh|apply qi)<;>intro h h_<;>(try simp only[wD,reduceCtorEq]at h_)<;>(try exact wb_)<;>(try simp only[h])
          |refine t_ ?_
         all_goals first|(exfalso;omega)|(refine qA rfl (Or.inr rfl) ?_;(simp -implicitDefEqProofs only[wL,seval]);refine yG ?_;first|rfl|(simp;omega))
       · obtain ⟨rfl,hlen⟩:=Classical.not_not.1 hys
         rw[decide_eq_true rfl,Bool.true_and]
         repeat' with_reducible first
          |refine s_ ?_
          |simp -implicitDefEqProofs only[wZZ,seval,hzl]
          |(first|apply qa|apply qh|apply qi)<;>intro h h_<;>(try simp only[wD,reduceCtorEq]at h_)<;>(try exact wb_)<;>(try simp only[h])
          |refine t_ ?_
         refine qg ?nx1 (fun(i:Nat) s=>s.f 2=?v1_2∧s.f 3=?v1_3∧s.H 0=some (.own 5 [g.V] false)∧s.H 1=some (.own 4 [.agg [vi (1000+(lf:Int)),vi m,vi (-1),.sl 4 false (ks.map Nd.V)]] false)∧s.f 5=vi i∧(i≤ks.length)∧(qf8 g prr ks i)) (fun i=>ks.length - i) (0) wj_ (by refine⟨?_,?_,?_,?_,?_,wo_,(by intro j x k h;omega)⟩<;>first|(simp -implicitDefEqProofs only[wL,wM,wN,wX,seval,Option.some.injEq]<;>exact wt_)|rfl|exact⟨_,rfl⟩) ?_
         intro i s hnx ⟨g2,g3,o0,o1,g5,k1_0,k1_1⟩
         have hzi:=w1_ i
         by_cases hi:i<ks.length
         · have hgi:ks[i]?=some ks[i]:=ge_ hi
           have hri:prr[i]?=some prr[i]:=ge_ o_
           have hih:=ih _ (List.getElem_mem hi)
           generalize ks[i]=k at *
           generalize prr[i]=x at *
           have hkV:k.V=.agg [vi k.sym,vi k.prod,vi k.at_,.sl 4 false (k.kids.map Nd.V)]:=by obtain ⟨e1,e2,e3,e4⟩:=k;rw[Nd.V_mk]
           have hwx:Nd.wholes g prr ks=true→k.sym=x∧k.whole g=true:=fun h=>Nd.wholes_at h hri hgi
           rw[hkV]at hih
           by_cases hsx:k.sym=x
           · subst hsx
             cases hkb:k.whole g with
             | false=>
               have hb:Nd.wholes g prr ks=false:=by
                cases hw:Nd.wholes g prr ks with
                |false=>rfl
                |true=>rw[(hwx hw).2]at hkb;cases hkb
               rw[hkb]at hih
               rw[hb]
               repeat' with_reducible first
                |refine s_ ?_
                |simp -implicitDefEqProofs only[wZZ,seval,g2,g3,g5,o0,o1,hzi,hkV]
                |apply qa<;>intro h h_<;>(try simp only[wD,reduceCtorEq]at h_)<;>(try exact wb_)<;>(try simp only[h])
                |refine t_ ?_
                |refine cq2 hih qc qc ?_
               all_goals refine qA rfl (Or.inr rfl) ?_
               all_goals(try simp -implicitDefEqProofs only[wL,seval,g2,g3,g5])
               all_goals refine er_ ?_
               all_goals(try(with_reducible rfl))
             | true=>
               rw[hkb]at hih
               repeat' with_reducible first
                |refine s_ ?_
                |simp -implicitDefEqProofs only[wZZ,seval,g2,g3,g5,o0,o1,hzi,hkV]
                |apply qa<;>intro h h_<;>(try simp only[wD,reduceCtorEq]at h_)<;>(try exact wb_)<;>(try simp only[h])
                |refine t_ ?_
                |refine cq2 hih qc qc ?_
               refine⟨wg_,i+1,o_,?_⟩;(repeat refine⟨True.intro,?_⟩)
               refine⟨rfl,o_,fun j x' k' h1 h2 h3=>?_⟩
               by_cases e:j=i
               · subst e
                 rw[hri]at h2
                 rw[hgi]at h3
                 cases h2
                 cases h3
                 exact⟨rfl,hkb⟩
               · exact k1_1 j x' k' o_ h2 h3
           · have hb:Nd.wholes g prr ks=false:=by
              cases hw:Nd.wholes g prr ks with
              |false=>rfl
              |true=>exact absurd (hwx hw).1 hsx
             rw[hb]
             repeat' with_reducible first
              |refine s_ ?_
              |simp -implicitDefEqProofs only[wZZ,seval,g2,g3,g5,o0,o1,hzi,hkV]
              |(first|apply qa|apply qh|apply qi)<;>intro h h_<;>(try simp only[wD,reduceCtorEq]at h_)<;>(try exact wb_)<;>(try simp only[h])
              |refine t_ ?_
             all_goals first|(exfalso;omega)|(refine qA rfl (Or.inr rfl) ?_;(simp -implicitDefEqProofs only[wL,seval]);refine yG ?_;first|rfl|(simp;omega))
         · have hb:Nd.wholes g prr ks=true:=Nd.wholes_all hlen fun j x k h1 h2=>k1_1 j x k (by have:=(List.getElem?_eq_some_iff.1 h2).1;omega) h1 h2
           rw[hb]
           repeat' with_reducible first
            |refine s_ ?_
            |simp -implicitDefEqProofs only[wZZ,seval,g2,g3,g5,o0,o1]
            |apply qa<;>intro h h_<;>(try simp only[wD,reduceCtorEq]at h_)<;>(try exact wb_)<;>(try simp only[h])
            |refine t_ ?_
           all_goals refine qA rfl (Or.inr rfl) ?_
           all_goals(try simp -implicitDefEqProofs only[wL,seval,g2,g3,g5])
           all_goals refine er_ ?_
           all_goals(try(with_reducible rfl))
theorem VP {g:Grammar} (hg:GOk g): ∀(n:Nat) (t:Nd),t.size≤n→t.size≤1000000000000→Pure Try.prog 61 [g.V,t.V] (.bool (t.whole g))
 |0,t,h,_=>by have:=t.size_pos;omega
 |n+1,.mk s p a ks,h,hb=>qbN hg (fun k hk=>by have:=Nd.size_kid (s:=s) (p:=p) (a:=a) hk;exact VP hg n k o_ o_) (by have:=Nd.sizes_len ks;rw[Nd.size]at hb;omega)
theorem qhy {g:Grammar} (t:Nd):(decide (t.sizeR≤3000) && t.whole g)=t.z8 g 3000:=by
 unfold Nd.z8
 congr 1
 rw[Bool.eq_iff_iff,decide_eq_true_eq,decide_eq_true_eq]
 have h1:=Nd.sizeR_le t
 have h2:=Nd.sizeR_eq t
 exact⟨fun h=>by have:=h2 h;omega,fun h=>by omega⟩
theorem kY {g:Grammar} {t:Nd} (hg:GOk g) (hb:t.size≤1000000000):Pure Try.prog 34 [g.V,t.V] (.bool (t.z8 g 3000)):=by
 refine pure_intro Try.func34 nm_ qBr (by show 2≤13;decide) ?_
 show ewp _ qyE _ _
 have h1:=YC t.size t (Nat.le_refl _) o_
 have h2:=VP hg t.size t (Nat.le_refl _) o_
 rw[← qhy t]
 have hkV:t.V=.agg [vi t.sym,vi t.prod,vi t.at_,.sl 4 false (t.kids.map Nd.V)]:=by obtain ⟨e1,e2,e3,e4⟩:=t;rw[Nd.V_mk]
 rw[hkV]at h1 h2 ⊢
 by_cases h3:t.sizeR≤3000
 · rw[decide_eq_true h3,Bool.true_and]
   repeat' with_reducible first
    |refine s_ ?_
    |simp -implicitDefEqProofs only[wZZ,seval]
    |(first|apply qh|apply qi)<;>intro h h_<;>(try simp only[wD,reduceCtorEq]at h_)<;>(try exact wb_)<;>(try simp only[h])
    |refine cq1 h1 qc ?_
    |refine cq2 h2 qc qc ?_
    |refine t_ ?_
   all_goals refine qA rfl (Or.inr rfl) ?_
   all_goals(try simp -implicitDefEqProofs only[wL,seval])
   all_goals refine er_ ?_
   all_goals(try(with_reducible rfl))
 · rw[decide_eq_false h3,Bool.false_and]
   repeat' with_reducible first
    |refine s_ ?_
    |simp -implicitDefEqProofs only[wZZ,seval]
    |(first|apply qh|apply qi)<;>intro h h_<;>(try simp only[wD,reduceCtorEq]at h_)<;>(try exact wb_)<;>(try simp only[h])
    |refine cq1 h1 qc ?_
    |refine t_ ?_
   all_goals refine qA rfl (Or.inr rfl) ?_
   all_goals(try simp -implicitDefEqProofs only[wL,seval])
   all_goals refine er_ ?_
   all_goals(try(with_reducible rfl))

theorem qi1 {a b c:List UInt8} {K:V→Prop} (h:a.length+b.length≤9223372036854775807) (e:a++b=c) (hk:K (.str c)):onS (xJ .add (.str a) (.str b)) K:=by subst e;exact vk h hk
theorem qbl {g:Grammar} {y p a:Int} {ks:List Nd} (hnm:Pure Try.prog 73 [g.V,vi y] (.str (vF g y))) (ih: ¬ p= -1→ ∀k∈ks,Pure Try.prog 62 [g.V,k.V] (.str (k.txt (vF g)))) (hkl:ks.length≤1000000000000) (hl:((Nd.mk y p a ks).txt (vF g)).length≤140737488355328):Pure Try.prog 62 [g.V,(Nd.mk y p a ks).V] (.str ((Nd.mk y p a ks).txt (vF g))):=by
 refine pure_intro Try.func62 nm_ qmo (by show 2≤36;decide) ?_
 show ewp _ qf3 _ _
 rw[Nd.V_mk]
 rw[Nd.txt]at hl ⊢
 by_cases hp:p= -1
 · rw[if_pos hp]at hl ⊢
   subst hp
   repeat' with_reducible first
    |refine s_ ?_
    |simp -implicitDefEqProofs only[wZZ,seval]
    |refine cq2 hnm qc qc ?_
    |refine t_ ?_
   refine qA rfl (Or.inr rfl) ?_
   simp -implicitDefEqProofs only[wL,seval]
   refine er_ ?_
   try(with_reducible rfl)
 · rw [if_neg hp]at hl ⊢
   have hl1:(vF g y).length+(Nd.txts (vF g) ks).length+2≤140737488355328:=by simp only[List.length_append,List.length_cons,List.length_nil]at hl;omega
   generalize vF g y=Y at *
   have he1:([40]:List UInt8)++Y=[40]++Y++Nd.txts (vF g) (ks.take 0):=by simp[Nd.txts]
   have hs1:([40]:List UInt8).length+Y.length≤9223372036854775807:=by simp only[List.length_cons,List.length_nil];omega
   repeat' with_reducible first
    |refine s_ ?_
    |simp -implicitDefEqProofs only[wZZ,seval]
    |apply qa<;>intro h h_<;>(try simp only[wD,reduceCtorEq]at h_)<;>(try exact wb_)<;>(try simp only[h])
    |refine cq2 hnm qc qc ?_
    |(refine qi1 hs1 he1 ?_)
    |refine t_ ?_
   refine qg ?nx1 (fun(i:Nat) s=>s.f 2=?v1_2∧s.f 3=?v1_3∧s.H 0=some (.own 5 [g.V] false)∧s.H 1=some (.own 4 [.agg [vi y,vi p,vi a,.sl 4 false (ks.map Nd.V)]] false)∧s.f 5=.str ([40]++Y++Nd.txts (vF g) (ks.take i))∧s.f 6=vi i∧(i≤ks.length)) (fun i=>ks.length - i) (0) wj_ (by refine⟨?_,?_,?_,?_,?_,?_,wo_⟩<;>first|(simp -implicitDefEqProofs only[wL,wM,wN,wX,seval,Option.some.injEq]<;>exact wt_)|rfl|exact⟨_,rfl⟩) ?_
   intro i s hnx ⟨g2,g3,o0,o1,g5,g6,k1_0⟩
   have hzi:=w1_ i
   by_cases hi:i<ks.length
   · have hgi:ks[i]?=some ks[i]:=ge_ hi
     have hih:=ih hp _ (List.getElem_mem hi)
     have hts:=Nd.txts_take (vF g) ks i _ hgi
     have htl:=Nd.QT (vF g) ks (i+1)
     rw[hts,List.length_append,List.length_cons]at htl
     generalize ks[i]=k at *
     have hkV:k.V=.agg [vi k.sym,vi k.prod,vi k.at_,.sl 4 false (k.kids.map Nd.V)]:=by obtain ⟨e1,e2,e3,e4⟩:=k;rw[Nd.V_mk]
     rw[hkV]at hih
     generalize Nd.txts (vF g) (ks.take i)=Z at *
     generalize k.txt (vF g)=Q at *
     have hs2:([40]++Y++Z).length+([32]:List UInt8).length≤9223372036854775807:=by simp only[List.length_append,List.length_cons,List.length_nil];omega
     have hs3:([40]++Y++Z++[32]).length+Q.length≤9223372036854775807:=by simp only[List.length_append,List.length_cons,List.length_nil];omega
     repeat' with_reducible first
      |refine s_ ?_
      |simp -implicitDefEqProofs only[wZZ,seval,g2,g3,g5,g6,o0,o1,hzi,hkV]
      |apply qa<;>intro h h_<;>(try simp only[wD,reduceCtorEq]at h_)<;>(try exact wb_)<;>(try simp only[h])
      |refine t_ ?_
      |refine cq2 hih qc qc ?_
      |(refine vk hs2 ?_)
      |(refine vk hs3 ?_)
     refine⟨wg_,i+1,o_,?_⟩;(repeat refine⟨True.intro,?_⟩)
     exact⟨by rw[hts];simp,rfl,o_⟩
   · have et:ks.take i=ks:=List.take_of_length_le o_
     rw[et]at g5
     have hs2:([40]++Y++Nd.txts (vF g) ks).length+([41]:List UInt8).length≤9223372036854775807:=by simp only[List.length_append,List.length_cons,List.length_nil];omega
     repeat' with_reducible first
      |refine s_ ?_
      |simp -implicitDefEqProofs only[wZZ,seval,g2,g3,g5,g6,o0,o1]
      |apply qa<;>intro h h_<;>(try simp only[wD,reduceCtorEq]at h_)<;>(try exact wb_)<;>(try simp only[h])
      |(refine vk hs2 ?_)
      |refine t_ ?_
     refine qA rfl (Or.inr rfl) ?_
     simp -implicitDefEqProofs only[wL,seval,g2,g3,g5,g6]
     refine er_ ?_
     try(with_reducible rfl)
     all_goals simp
theorem V8 {g:Grammar}: ∀(n:Nat) (t:Nd),t.size≤n→t.size≤1000000000000→t.NmAll (fun s=>Pure Try.prog 73 [g.V,vi s] (.str (vF g s)))→(t.txt (vF g)).length≤140737488355328→Pure Try.prog 62 [g.V,t.V] (.str (t.txt (vF g)))
 |0,t,h,_,_,_=>by have:=t.size_pos;omega
 | n+1,.mk s p a ks,h,hb,hq,hl=>by
   have hkl:=Nd.sizes_len ks
   refine qbl hq.1 (fun hp k hk=>?_) (by rw[Nd.size]at hb;omega) hl
   have h1:=Nd.size_kid (s:=s) (p:=p) (a:=a) hk
   have h2:=Nd.txts_mem (vF g) hk
   rw[Nd.txt,if_neg hp]at hl
   simp only[List.length_append,List.length_cons,List.length_nil]at hl
   exact V8 n k o_ o_ (Nd.NmAlls_mem hq.2 k hk) o_
theorem Jy {g:Grammar} {t:Nd} (hg:GOk g) (hb:t.size≤1000000000) (hq:t.z8 g 3000=true→t.NmAll (fun s=>Pure Try.prog 73 [g.V,vi s] (.str (vF g s)))) (hl:t.z8 g 3000=true→(t.txt (vF g)).length≤140737488355328):Pure Try.prog 35 [g.V,t.V] (.str (if t.z8 g 3000 then t.txt (vF g)else[])):=by
 refine pure_intro Try.func35 nm_ qwi (by show 2≤12;decide) ?_
 show ewp _ qnI _ _
 have h1:=kY hg hb
 have h2:t.z8 g 3000=true→_:=fun h=>V8 t.size t (Nat.le_refl _) o_ (hq h) (hl h)
 have hkV:t.V=.agg [vi t.sym,vi t.prod,vi t.at_,.sl 4 false (t.kids.map Nd.V)]:=by obtain ⟨e1,e2,e3,e4⟩:=t;rw[Nd.V_mk]
 rw[hkV]at h1 h2 ⊢
 cases h:t.z8 g 3000 with
 | true=>
   rw[h]at h1
   have h3:=h2 h
   rw[if_pos rfl]
   repeat' with_reducible first
    |refine s_ ?_
    |simp -implicitDefEqProofs only[wZZ,seval]
    |refine cq2 h1 qc qc ?_
    |refine cq2 h3 qc qc ?_
    |refine t_ ?_
   all_goals refine qA rfl (Or.inr rfl) ?_
   all_goals(try simp -implicitDefEqProofs only[wL,seval])
   all_goals refine er_ ?_
   all_goals(try(with_reducible rfl))
 | false=>
   rw[h]at h1
   rw[if_neg (by simp)]
   repeat' with_reducible first
    |refine s_ ?_
    |simp -implicitDefEqProofs only[wZZ,seval]
    |refine cq2 h1 qc qc ?_
    |refine t_ ?_
   all_goals refine qA rfl (Or.inr rfl) ?_
   all_goals(try simp -implicitDefEqProofs only[wL,seval])
   all_goals refine er_ ?_
   all_goals(try(with_reducible rfl))

mutual
def vI (d l:Nat):Nd→Nd×Nat
 |.mk s p a ks=>(.mk s p a (zb d [] (l - 1) ks).1,(zb d [] (l - 1) ks).2)
def zb (d:Nat) (acc:List Nd) (l:Nat):List Nd→List Nd×Nat
 |[]=>(acc,l)
 |k::r=>if 0<d∧0<l then zb d (acc++[(vI (d - 1) l k).1]) (vI (d - 1) l k).2 r else zb d acc l r
end
theorem kQ (d:Nat): ∀(m r:List Nd) (acc:List Nd) (l:Nat),zb d acc l (m++r)=zb d (zb d acc l m).1 (zb d acc l m).2 r
 |[],r,acc,l=>by rw[List.nil_append,zb]
 | k::m,r,acc,l=>by
   rw[List.cons_append,zb,zb]
   split
   · exact kQ d m r _ _
   · exact kQ d m r _ _
theorem JY {d:Nat}: ∀(r:List Nd) {acc:List Nd} {l:Nat},¬ (0<d∧0<l)→zb d acc l r=(acc,l)
 |[],acc,l,h=>by rw[zb]
 |k::r,acc,l,h=>by rw[zb,if_neg h];exact JY r h
mutual
theorem qbA: ∀(t:Nd) (d l:Nat),1≤l→(vI d l t).1.size+(vI d l t).2=l
 | .mk s p a ks,d,l,h=>by
   have:=yN ks d [] (l - 1)
   rw[Nd.sizes]at this
   rw[vI,Nd.size];dsimp only;omega
theorem yN: ∀(ks:List Nd) (d:Nat) (acc:List Nd) (l:Nat),Nd.sizes (zb d acc l ks).1+(zb d acc l ks).2=Nd.sizes acc+l
 |[],d,acc,l=>by rw[zb]
 | k ::r,d,acc,l=>by
   rw[zb]
   split
   · rename_i h
     have h1:=qbA k (d - 1) l h.2
     have h2:=yN r d (acc++[(vI (d - 1) l k).1]) (vI (d - 1) l k).2
     rw[Nd.sizes_snoc]at h2
     omega
   · exact yN r d acc l
end
theorem QXa {y p a:Int} {ks:List Nd} {d l:Nat} (ih: ∀k∈ks,∀(d l:Nat),d≤20→1≤l→l≤1000→Pure Try.prog 33 [k.V,vi d,vi l] (.tup [(vI d l k).1.V,vi ((vI d l k).2:Nat)])) (hd:d≤20) (h1:1≤l) (h2:l≤1000) (hkl:ks.length≤1000000000000):Pure Try.prog 33 [(Nd.mk y p a ks).V,vi d,vi l] (.tup [(vI d l (.mk y p a ks)).1.V,vi ((vI d l (.mk y p a ks)).2:Nat)]):=by
 refine pure_intro Try.func33 nm_ qlP (by show 3≤55;decide) ?_
 show ewp _ qf4 _ _
 rw[vI]
 dsimp only
 rw[Nd.V_mk,Nd.V_mk]
 have hz1:IntKind.i64.wrap ((l:Int) - 1)=((l - 1:Nat):Int):=by rw[wrap64 o_ o_];omega
 repeat' with_reducible first
  |refine s_ ?_
  |simp -implicitDefEqProofs only[wZZ,seval,hz1]
  |refine t_ ?_
 refine qg ?nx1 (fun(i:Nat) s=>s.f 1=?v1_1∧s.f 3=?v1_3∧s.f 6=?v1_6∧s.f 8=?v1_8∧s.H 0=some (.own 4 [.agg [vi y,vi p,vi a,.sl 4 false (ks.map Nd.V)]] false)∧s.H 1=some (.own 4 [.agg [vi 0,vi 0,vi 0,.sl 4 true []]] false)∧s.f 2=vi ((zb d [] (l - 1) (ks.take i)).2:Nat)∧s.f 9=vi i∧(i≤ks.length)∧(16≤s.next)∧((∃kv,s.H 10=some (.own 4 [.agg [vi y,vi p,vi a,kv]] false)∧Gr s.H s.next 4 ((zb d [] (l - 1) (ks.take i)).1.map Nd.V) kv))) (fun i=>ks.length - i) (0) wj_ (by refine⟨?_,?_,?_,?_,?_,?_,?_,?_,wo_,wg_,(by(exact⟨_,hh_,by rw[List.take_zero,zb];exact Gr.nil⟩))⟩<;>first|(simp -implicitDefEqProofs only[wL,wM,wN,wX,seval,Option.some.injEq]<;>exact wt_)|rfl|exact⟨_,rfl⟩) ?_
 intro i s hnx ⟨g1,g3,g6,g8,o0,o1,g2,g9,k1_0,k1_1,k1_2⟩
 obtain ⟨kv,ok,hG⟩:=k1_2
 have hg10:gid kv≠some 10:=fun e=>by
  rcases hG with rfl|⟨id,fin,rfl,h1,_⟩
  · cases e
  · cases e;rw[ok]at h1;cases h1
 have hg1:gid kv≠some 1:=fun e=>by
  rcases hG with rfl|⟨id,fin,rfl,h1,_⟩
  · cases e
  · cases e;rw[o1]at h1;cases h1
 have hg0:gid kv≠some 0:=fun e=>by
  rcases hG with rfl|⟨id,fin,rfl,h1,_⟩
  · cases e
  · cases e;rw[o0]at h1;cases h1
 have hok:=(Gr.ok hG).2.2
 have hzi:=w1_ i
 have hall:zb d [] (l - 1) ks=zb d (zb d [] (l - 1) (ks.take i)).1 (zb d [] (l - 1) (ks.take i)).2 (ks.drop i):=by rw[← kQ,List.take_append_drop]
 have hsz:=yN (ks.take i) d [] (l - 1)
 rw[Nd.sizes]at hsz
 by_cases hc:i<ks.length∧0<d∧0<(zb d [] (l - 1) (ks.take i)).2
 · obtain ⟨hi,hd0,hl0⟩:=hc
   have hgi:ks[i]?=some ks[i]:=ge_ hi
   have htk:ks.take (i+1)=ks.take i++[ks[i]]:=by rw[List.take_add_one,hgi];rfl
   have hst:zb d [] (l - 1) (ks.take (i+1))=((zb d [] (l - 1) (ks.take i)).1++[(vI (d - 1) (zb d [] (l - 1) (ks.take i)).2 ks[i]).1],(vI (d - 1) (zb d [] (l - 1) (ks.take i)).2 ks[i]).2):=by rw[htk,kQ,zb,if_pos ⟨hd0,hl0⟩,zb]
   have hih:=ih _ (List.getElem_mem hi) (d - 1) (zb d [] (l - 1) (ks.take i)).2 o_ hl0 o_
   generalize zb d [] (l - 1) (ks.take i)=q at *
   generalize ks[i]=k at *
   obtain ⟨ac,l1⟩:=q
   dsimp only at *
   have hacl:=Nd.sizes_len ac
   obtain ⟨k',hk'⟩: ∃k',k'=vI (d - 1) l1 k:=⟨_,rfl⟩
   rw[← hk']at hih hst
   have hkV:k.V=.agg [vi k.sym,vi k.prod,vi k.at_,.sl 4 false (k.kids.map Nd.V)]:=by obtain ⟨e1,e2,e3,e4⟩:=k;rw[Nd.V_mk]
   have hkV':k'.1.V=.agg [vi k'.1.sym,vi k'.1.prod,vi k'.1.at_,.sl 4 false (k'.1.kids.map Nd.V)]:=by obtain ⟨⟨e1,e2,e3,e4⟩,_⟩:=k';rw[Nd.V_mk]
   have hG':=hG
   rw[hkV,hkV']at hih
   have hzd:IntKind.i64.wrap ((d:Int) - 1)=((d - 1:Nat):Int):=by rw[wrap64 o_ o_];omega
   have hal:(ac.map Nd.V).length=ac.length:=List.length_map _
   repeat' with_reducible first
    |refine s_ ?_
    |simp -implicitDefEqProofs only[wZZ,seval,g1,g3,g6,g8,g2,g9,o0,o1,hzi,hzd,hkV,ok,qb hg10,qb hg0,qb hg1]
    |(first|apply qa|apply qh|apply qi)<;>intro h h_<;>(try simp only[wD,reduceCtorEq]at h_)<;>(try exact wb_)<;>(try simp only[h])
    |refine t_ ?_
    |refine cq3 hih qc qc qc ?_
    |apply zh rfl (hG.mono (Nat.le_refl _) (fun id h1 h2=>by(try simp only[wM]);(repeat rw[if_neg o_])));(focus(first|exact qZ.sl|exact qZ.asl));(focus(simp only[wZ,hal];omega));(focus(unfold maxLen;simp only[wZ,hal];omega))
   refine⟨wg_,i+1,o_,?_⟩;(repeat refine⟨True.intro,?_⟩)
   rw[hst]
   refine⟨rfl,rfl,o_,wg_,_,rfl,?_⟩
   dsimp only
   rw[List.map_append,List.map_singleton,hkV',← hal]
   exact Gr.tok hh_ wg_
 · have hend:zb d [] (l - 1) ks=zb d [] (l - 1) (ks.take i):=by
    by_cases hi:i<ks.length
    · rw[hall,JY _ (fun h=>hc ⟨hi,h.1,h.2⟩)]
    · rw[List.take_of_length_le o_]
   rw[hend]
   generalize zb d [] (l - 1) (ks.take i)=q at *
   obtain ⟨ac,l1⟩:=q
   dsimp only at *
   repeat' with_reducible first
    |refine s_ ?_
    |simp -implicitDefEqProofs only[wZZ,seval,g1,g3,g6,g8,g2,g9,o0,o1,ok,qb hg10,qb hg0,qb hg1]
    |(first|apply qa|apply qh|apply qi)<;>intro h h_<;>(try simp only[wD,reduceCtorEq]at h_)<;>(try exact wb_)<;>(try simp only[h])
    |refine t_ ?_
   all_goals first|(exfalso;omega)|exact vJ (t:=6) (u:=7) (n:=4) (id:=1) (ro:=false) (ag:=true) rfl (Or.inr rfl) (by(simp -implicitDefEqProofs only[wL,seval,g6])) hh_ rfl (by(simp -implicitDefEqProofs only[wL,seval])) (qcW (ErL.agg (.cons (.int _ _) (.cons (.int _ _) (.cons (.int _ _) (.cons (Gr.er hG rfl) .nil))))) (.int _ _))
theorem Jaa: ∀(n:Nat) (t:Nd) (d l:Nat),t.size≤n→t.size≤1000000000000→d≤20→1≤l→l≤1000→Pure Try.prog 33 [t.V,vi d,vi l] (.tup [(vI d l t).1.V,vi ((vI d l t).2:Nat)])
 |0,t,_,_,h,_,_,_,_=>by have:=t.size_pos;omega
 |n+1,.mk s p a ks,d,l,h,hb,hd,h1,h2=>QXa (fun k hk d l hd h1 h2=>by have:=Nd.size_kid (s:=s) (p:=p) (a:=a) hk;exact Jaa n k d l o_ o_ hd h1 h2) hd h1 h2 (by have:=Nd.sizes_len ks;rw[Nd.size]at hb;omega)
end Go.Proofs
