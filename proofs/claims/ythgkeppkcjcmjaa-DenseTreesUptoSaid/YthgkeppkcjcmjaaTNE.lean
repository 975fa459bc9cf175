/- Part of a proof that a law of the given program answers true. -/
import Derived.Test.YthgkeppkcjcmjaaTNB
import Derived.Test.YthgkeppkcjcmjaaTCA
set_option linter.unusedSimpArgs false
set_option linter.unusedVariables false
set_option maxHeartbeats 4000000
namespace Go.Proofs
open Go.E
theorem Nd.sizes_take (l:List Nd) (i:Nat):Nd.sizes (l.take i)≤Nd.sizes l:=by
 have h1: ∀(l m:List Nd),Nd.sizes l≤Nd.sizes (l++m):=fun l m=>by
  induction l with
  |nil=>rw[Nd.sizes];exact Nat.zero_le _
  |cons a r ih=>rw[List.cons_append,Nd.sizes,Nd.sizes];omega
 have h2:=h1 (l.take i) (l.drop i)
 rwa [List.take_append_drop]at h2
mutual
theorem qEK {b:Bool} {H:Nat→Option MObj}: ∀t:Nd,Er b H t.V t.V
 | .mk s p a ks=>by
   rw[Nd.V]
   exact ErL.agg (.cons (.int _ _) (.cons (.int _ _) (.cons (.int _ _) (.cons (ErL.sl (qiA ks)) .nil))))
theorem qiA {b:Bool} {H:Nat→Option MObj}: ∀l:List Nd,ErL b H (Nd.Vs l) (Nd.Vs l)
 |[]=>.nil
 |k::r=>by rw[Nd.Vs];exact .cons (qEK k) (qiA r)
end
instance nd_cl (t:Nd):Cl t.V:=⟨fun b H=>qEK t⟩
theorem Nd.size_kid {s p a:Int} {ks:List Nd} {k:Nd} (h:k∈ks):k.size<(Nd.mk s p a ks).size:=by
 obtain ⟨i,hi⟩:=List.getElem?_of_mem h
 have:=Nd.sizes_get hi
 rw[Nd.size];omega
theorem VD {y p a:Int} {ks:List Nd} (ih: ∀k∈ks,Pure Try.prog 41 [k.V] (vi k.size)) (hb:(Nd.mk y p a ks).size≤1000000000000):Pure Try.prog 41 [(Nd.mk y p a ks).V] (vi (Nd.mk y p a ks).size):=by
 refine pure_intro Try.func41 nm_ qLq (by show 1≤19;decide) ?_
 show ewp _ qiw _ _
 have hsz:Nd.sizes ks≤1000000000000:=by rw[Nd.size]at hb;omega
 have hkl:=Nd.sizes_len ks
 rw[Nd.V_mk,Nd.size]
 repeat' with_reducible first
  |refine s_ ?_
  |simp only[wZZ,seval]
  |refine t_ ?_
 refine qb ?nx1 (fun(i:Nat) s=>s.f 7=?v1_7∧s.f 8=?v1_8∧s.f 3=vi (Nd.sizes (ks.take i)+1:Nat)∧s.f 9=vi i∧(i≤ks.length)) (fun i=>ks.length - i) (0) wj_ (by refine⟨?_,?_,?_,?_,wo_⟩<;>first|(simp only[wL,wM,wN,wX,seval,Option.some.injEq]<;>exact wt_)|rfl|exact⟨_,rfl⟩) ?_
 intro i s hnx ⟨g7,g8,g3,g9,k1_0⟩
 have hz:=w1_ i
 by_cases hi:i<ks.length
 · have hgi:ks[i]?=some ks[i]:=ge_ hi
   have htk:ks.take (i+1)=ks.take i++[ks[i]]:=by rw[List.take_add_one,hgi];rfl
   have hih:=ih _ (List.getElem_mem hi)
   have hle2:Nd.sizes (ks.take (i+1))≤Nd.sizes ks:=Nd.sizes_take ks (i+1)
   have hst:Nd.sizes (ks.take (i+1))=Nd.sizes (ks.take i)+ks[i].size:=by rw[htk,Nd.sizes_snoc]
   rw[hst]at hle2
   generalize ks[i]=k at *
   generalize Nd.sizes (ks.take i)=n at *
   have hz2:IntKind.i64.wrap (((n+1:Nat):Int)+(k.size:Int))=((n+k.size+1:Nat):Int):=by rw[wrap64 o_ o_];omega
   obtain ⟨ks',kp,ka,kk⟩:=k
   rw[Nd.V_mk]at hih
   repeat' with_reducible first
    |refine s_ ?_
    |simp only[wZZ,seval,g7,g8,g3,g9,hz,hz2,Nd.V_mk]
    |apply qa<;>intro h h_<;>(try simp only[wD,reduceCtorEq]at h_)<;>(try exact wb_)<;>(try simp only[h])
    |refine t_ ?_
    |refine cq1 hih qc ?_
   refine⟨wk_,i+1,o_,?_⟩
   refine⟨?_,?_,?_,?_,?_⟩
   iterate 4 (focus(first|(simp only[wL,wM,wN,wX,seval,Option.some.injEq,g7,g8,g3,g9,hst]<;>exact wt_)|rfl|exact⟨_,rfl⟩))
   all_goals try omega
 · have e:ks.take i=ks:=List.take_of_length_le o_
   rw[e]at g3
   repeat' with_reducible first
    |refine s_ ?_
    |simp only[wZZ,seval,g7,g8,g3,g9]
    |apply qa<;>intro h h_<;>(try simp only[wD,reduceCtorEq]at h_)<;>(try exact wb_)<;>(try simp only[h])
   all_goals refine qA rfl (Or.inr rfl) ?_
   all_goals(try simp only[wL,seval,g7,g8,g3,g9])
   all_goals refine er_ ?_
   all_goals(try(with_reducible rfl))
theorem KA: ∀(n:Nat) (t:Nd),t.size≤n→t.size≤1000000000000→Pure Try.prog 41 [t.V] (vi t.size)
 |0,t,h,_=>by have:=t.size_pos;omega
 |n+1,.mk s p a ks,h,hb=>VD (fun k hk=>by have:=Nd.size_kid (s:=s) (p:=p) (a:=a) hk;exact KA n k o_ o_) hb

theorem Nd.wholes_len {g:Grammar}: ∀{l:List Int} {ks:List Nd},Nd.wholes g l ks=true→ks.length=l.length
 |[],[],_=>rfl
 | s::l,k::r,h=>by
   rw[Nd.wholes,Bool.and_eq_true,Bool.and_eq_true]at h
   rw[List.length_cons,List.length_cons,Nd.wholes_len h.2.2]
 |[],_::_,h=>by rw[Nd.wholes]at h;cases h
 | _::_,[],h=>by rw[Nd.wholes]at h;cases h
theorem Nd.wholes_at {g:Grammar}: ∀{l:List Int} {ks:List Nd} {i:Nat} {s:Int} {k:Nd},Nd.wholes g l ks=true→l[i]?=some s→ks[i]?=some k→k.sym=s∧k.whole g=true
 |[],_,i,s,k,_,h,_=>by simp at h
 | _::_,[],i,s,k,_,_,h=>by simp at h
 | s'::l,k'::r,0,s,k,h,h1,h2=>by
   rw[Nd.wholes,Bool.and_eq_true,Bool.and_eq_true,decide_eq_true_eq]at h
   rw[List.getElem?_cons_zero,Option.some_inj]at h1 h2
   subst h1 h2;exact⟨h.1,h.2.1⟩
 | s'::l,k'::r,i+1,s,k,h,h1,h2=>by
   rw[Nd.wholes,Bool.and_eq_true,Bool.and_eq_true]at h
   rw[List.getElem?_cons_succ]at h1 h2
   exact Nd.wholes_at h.2.2 h1 h2
theorem Nd.wholes_all {g:Grammar}: ∀{l:List Int} {ks:List Nd},ks.length=l.length→(∀(i:Nat) (s:Int) (k:Nd),l[i]?=some s→ks[i]?=some k→k.sym=s∧k.whole g=true)→Nd.wholes g l ks=true
 |[],[],_,_=>by rw[Nd.wholes]
 | s::l,k::r,h,h1=>by
   obtain ⟨a,b⟩:=h1 0 s k rfl rfl
   rw[Nd.wholes,a,b,Nd.wholes_all (by simpa using h) fun i s k h2 h3=>h1 (i+1) s k h2 h3];simp
 |[],_::_,h,_=>by simp at h
 | _::_,[],h,_=>by simp at h
def Nd.jM (g:Grammar) (c:Nat) (t:Nd):Bool:=decide (t.size≤c) && t.whole g
def qF7 (g:Grammar) (H:Nat→Option MObj) (next id c:Nat) (t:Nd):V→(Nat→Option MObj)→Nat→Prop:=fun v H' n'=>next≤n'∧v=.bool (t.jM g c)∧(∃x,H' id=some (.own 1 [x] false))∧(t.jM g c=true→H' id=some (.own 1 [vi ((c - t.size:Nat):Int)] false))∧ ∀j,j<next→j≠id→H' j=H j
theorem Xx {g:Grammar} {H H':Nat→Option MObj} {next id c n':Nat} {t:Nd} {v x:V} (hn:next≤n') (hx:H' id=some (.own 1 [x] false)) (hv:v=.bool false) (hb:t.jM g c=false) (hj: ∀j,j<next→j≠id→H' j=H j):qF7 g H next id c t v H' n':=
 ⟨hn,by rw[hb];exact hv,⟨x,hx⟩,(fun h=>by rw[hb]at h;cases h),hj⟩
theorem qeE {g:Grammar} {H H':Nat→Option MObj} {next id c n':Nat} {t:Nd} {v:V} (hn:next≤n') (hx:H' id=some (.own 1 [vi ((c - t.size:Nat):Int)] false)) (hv:v=.bool true) (hb:t.jM g c=true) (hj: ∀j,j<next→j≠id→H' j=H j):qF7 g H next id c t v H' n':=
 ⟨hn,by rw[hb];exact hv,⟨_,hx⟩,fun _=>hx,hj⟩
def qE5 (g:Grammar) (l:List Int) (ks:List Nd) (i:Nat):Prop:= ∀(j:Nat) (x:Int) (k:Nd),j<i→l[j]?=some x→ks[j]?=some k→k.sym=x∧k.whole g=true
theorem qhP {H : Nat →Option MObj} {next id c:Nat} {g:Grammar} {y p a:Int} {ks:List Nd} (hg:GOk g) (ih: ∀k∈ks,∀(H:Nat→Option MObj) (next c:Nat),H id=some (.own 1 [vi c] false)→id<next→c≤1000000000000→qZ Try.prog 66 [g.V,k.V,.ptr id 0 0] H next (qF7 g H next id c k)) (hH:H id=some (.own 1 [vi c] false)) (hid:id<next) (hc:c≤1000000000000) (hks:(Nd.mk y p a ks).size≤1000000000000):qZ Try.prog 66 [g.V,(Nd.mk y p a ks).V,.ptr id 0 0] H next (qF7 g H next id c (.mk y p a ks)):=by
 refine qO Try.func66 nm_ qnz (by show 3≤108;decide) ?_
 show ewp _ qfc _ _
 have hkl:=Nd.sizes_len ks
 have hsz:(Nd.mk y p a ks).size=Nd.sizes ks+1:=by rw[Nd.size]
 have hz:IntKind.i64.wrap ((c:Int) - 1)=(c:Int) - 1:=wrap64 o_ o_
 rw[Nd.V_mk]
 by_cases hc0:c=0
 · have hb:(Nd.mk y p a ks).jM g c=false:=by unfold Nd.jM;rw[decide_eq_false o_];rfl
   repeat' with_reducible first
    |refine s_ ?_
    |simp only[wZZ,seval,hH,hz]
    |apply qa<;>intro h h_<;>(try simp only[wD,reduceCtorEq]at h_)<;>(try exact wb_)<;>(try simp only[h])
    |apply xq;exact wu_
    |apply jE;exact wu_;exact wu_;exact wu_
    |refine t_ ?_
    |simp(disch:=omega) only[w64,if_neg]
   exact kQ rfl (Or.inr rfl) (Xx (x:=vi ((c:Int) - 1)) wg_ hh_ (by first|((simp only[wL,seval]);done)|((simp only[wL,seval]);exact congrArg V.bool (decide_eq_false o_))) hb (fun j h1 h2=>hh_))
 · replace hz : IntKind.i64.wrap ((c:Int) - 1)=((c - 1:Nat):Int):=by rw[hz];omega
   by_cases hp:p= -1
   · subst hp
     by_cases hq:0≤y∧y<g.toks.length∧0≤a∧ks.length=0
     · obtain ⟨hq1,hq2,hq3,hq4⟩:=hq
       obtain rfl:=List.length_eq_zero_iff.1 hq4
       have hs1:(Nd.mk y (-1) a []).size=1:=by rw[Nd.size,Nd.sizes]
       have hb:(Nd.mk y (-1) a []).jM g c=true:=by unfold Nd.jM;rw[decide_eq_true o_,Nd.whole,if_pos rfl];exact decide_eq_true ⟨hq1,hq2,hq3,rfl⟩
       repeat' with_reducible first
        |refine s_ ?_
        |simp only[wZZ,seval,hH,hz]
        |(first|apply qa|apply qg|apply qh)<;>intro h h_<;>(try simp only[wD,reduceCtorEq]at h_)<;>(try exact wb_)<;>(try simp only[h])
        |refine t_ ?_
        |apply xq;exact wu_
        |apply jE;exact wu_;exact wu_;exact wu_
        |simp(disch:=omega) only[w64,if_neg]
       all_goals first|(exfalso;omega)|(exact kQ rfl (Or.inr rfl) (qeE wg_ (by rw[hs1];((try simp only[wM]);(repeat first|rw[if_pos trivial]|rw[if_pos rfl]|rw[if_neg o_]))) (by first|((simp only[wL,seval]);done)|((simp only[wL,seval]);exact congrArg V.bool (decide_eq_false o_))) hb (fun j h1 h2=>hh_)))
     · have hb:(Nd.mk y (-1) a ks).jM g c=false:=by unfold Nd.jM;rw[Nd.whole,if_pos rfl,decide_eq_false hq,Bool.and_false]
       repeat' with_reducible first
        |refine s_ ?_
        |simp only[wZZ,seval,hH,hz]
        |(first|apply qa|apply qg|apply qh)<;>intro h h_<;>(try simp only[wD,reduceCtorEq]at h_)<;>(try exact wb_)<;>(try simp only[h])
        |refine t_ ?_
        |apply xq;exact wu_
        |apply jE;exact wu_;exact wu_;exact wu_
        |simp(disch:=omega) only[w64,if_neg]
       all_goals first|(exfalso;omega)|(exact kQ rfl (Or.inr rfl) (Xx (x:=vi ((c - 1:Nat):Int)) wg_ hh_ (by first|((simp only[wL,seval]);done)|((simp only[wL,seval]);exact congrArg V.bool (decide_eq_false o_))) hb (fun j h1 h2=>hh_)))
   · by_cases hpa : ¬ (0≤p∧a= -1)
     · have hb:(Nd.mk y p a ks).jM g c=false:=by unfold Nd.jM;rw[Nd.whole,if_neg hp,decide_eq_false hpa];simp
       repeat' with_reducible first
        |refine s_ ?_
        |simp only[wZZ,seval,hH,hz]
        |(first|apply qa|apply qg|apply qh)<;>intro h h_<;>(try simp only[wD,reduceCtorEq]at h_)<;>(try exact wb_)<;>(try simp only[h])
        |refine t_ ?_
        |apply xq;exact wu_
        |apply jE;exact wu_;exact wu_;exact wu_
        |simp(disch:=omega) only[w64,if_neg]
       all_goals first|(exfalso;omega)|(exact kQ rfl (Or.inr rfl) (Xx (x:=vi ((c - 1:Nat):Int)) wg_ hh_ (by first|((simp only[wL,seval]);done)|((simp only[wL,seval]);exact congrArg V.bool (decide_eq_false o_))) hb (fun j h1 h2=>hh_)))
     · obtain ⟨hp0, rfl⟩:=Classical.not_not.1 hpa
       obtain ⟨m,rfl⟩: ∃m:Nat,p=m:=⟨p.toNat,o_⟩
       cases hpr:g.prods[m]? with
       | none=>
         have hml:=List.getElem?_eq_none_iff.1 hpr
         have hb:(Nd.mk y m (-1) ks).jM g c=false:=by unfold Nd.jM;rw[Nd.whole,if_neg hp,Int.toNat_natCast,hpr];simp
         repeat' with_reducible first
          |refine s_ ?_
          |simp only[wZZ,seval,hH,hz]
          |(first|apply qa|apply qg|apply qh)<;>intro h h_<;>(try simp only[wD,reduceCtorEq]at h_)<;>(try exact wb_)<;>(try simp only[h])
          |refine t_ ?_
          |apply xq;exact wu_
          |apply jE;exact wu_;exact wu_;exact wu_
          |simp(disch:=omega) only[w64,if_neg]
         all_goals first|(exfalso;omega)|(exact kQ rfl (Or.inr rfl) (Xx (x:=vi ((c - 1:Nat):Int)) wg_ hh_ (by first|((simp only[wL,seval]);done)|((simp only[wL,seval]);exact congrArg V.bool (decide_eq_false o_))) hb (fun j h1 h2=>hh_)))
       | some pr =>
         have hml:=(List.getElem?_eq_some_iff.1 hpr).1
         have hmem:=List.mem_of_getElem? hpr
         obtain ⟨lf,hlf,hln⟩:=hg.left pr hmem
         have hrl:=hg.rlen pr hmem
         have hnl:=hg.nn2
         obtain ⟨pl,prr,pc,pco,pa,pat⟩:=pr
         dsimp only at hlf hrl
         subst hlf
         have hzl:IntKind.i64.wrap (1000+(lf:Int))=1000+(lf:Int):=wrap64 o_ o_
         have hwh:(Nd.mk y m (-1) ks).whole g=(decide (y=1000+(lf:Int)) && Nd.wholes g prr ks):=by rw[Nd.whole,if_neg hp,Int.toNat_natCast,hpr,decide_eq_true (show 0≤(m:Int)∧(-1:Int)= -1 by omega)];rfl
         by_cases hys: ¬ (y=1000+(lf:Int)∧ks.length=prr.length)
         · have hb:(Nd.mk y m (-1) ks).jM g c=false:=by
            unfold Nd.jM
            rw[hwh,Bool.and_eq_false_iff,Bool.and_eq_false_iff]
            right
            by_cases e:y=1000+(lf:Int)
            · right
              cases hw:Nd.wholes g prr ks with
              |false=>rfl
              |true=>exact absurd ⟨e,Nd.wholes_len hw⟩ hys
            · left;exact decide_eq_false e
           repeat' with_reducible first
            |refine s_ ?_
            |simp only[wZZ,seval,hH,hz,hzl]
            |(first|apply qa|apply qg|apply qh)<;>intro h h_<;>(try simp only[wD,reduceCtorEq]at h_)<;>(try exact wb_)<;>(try simp only[h])
            |refine t_ ?_
            |apply xq;exact wu_
            |apply jE;exact wu_;exact wu_;exact wu_
            |simp(disch:=omega) only[w64,if_neg]
           all_goals first|(exfalso;omega)|(exact kQ rfl (Or.inr rfl) (Xx (x:=vi ((c - 1:Nat):Int)) wg_ hh_ (by first|((simp only[wL,seval]);done)|((simp only[wL,seval]);exact congrArg V.bool (decide_eq_false o_))) hb (fun j h1 h2=>hh_)))
         · obtain ⟨rfl,hlen⟩:=Classical.not_not.1 hys
           repeat' with_reducible first
            |refine s_ ?_
            |simp only[wZZ,seval,hH,hz,hzl]
            |(first|apply qa|apply qg|apply qh)<;>intro h h_<;>(try simp only[wD,reduceCtorEq]at h_)<;>(try exact wb_)<;>(try simp only[h])
            |refine t_ ?_
            |apply xq;exact wu_
            |apply jE;exact wu_;exact wu_;exact wu_
            |simp(disch:=omega) only[w64,if_neg]
           refine qb ?nx1 (fun(i:Nat) s=>s.f 2=?v1_2∧s.f 3=?v1_3∧s.f 7=?v1_7∧s.f 85=?v1_85∧s.f 86=?v1_86∧s.f 87=vi i∧(i≤ks.length)∧((Nd.sizes (ks.take i)+1≤c))∧(qE5 g prr ks i)∧((s.H id=some (.own 1 [vi ((c - 1 - Nd.sizes (ks.take i):Nat):Int)] false)))∧((s.H next=some (.own 5 [g.V] false)))∧((s.H (next+3+6+5+4+17+6)=some (.own 6 [(GPr.V ⟨(lf:Int),prr,pc,pco,pa,pat⟩)] false)))∧((∀j,j<next→j≠id→s.H j=H j))) (fun i=>ks.length - i) (0) wj_ (by refine⟨?_,?_,?_,?_,?_,?_,wo_,(by rw[List.take_zero,Nd.sizes];omega),(by intro j x k h;omega),(by(simp only[wM];(repeat first|rw[if_pos trivial]|rw[if_pos rfl]|rw[if_neg o_]));simp only[List.take_zero,Nd.sizes,Nat.sub_zero]),wc_,wc_,(by intro j h1 h2;(simp only[wM];(repeat first|rw[if_pos trivial]|rw[if_pos rfl]|rw[if_neg o_])))⟩<;>first|(simp only[wL,wM,wN,wX,seval,Option.some.injEq]<;>exact wt_)|rfl|exact⟨_,rfl⟩) ?_
           intro i s hnx ⟨g2,g3,g7,g85,g86,g87,k1_0,k1_1,k1_2,k1_3,k1_4,k1_5,k1_6⟩
           have hzi:=w1_ i
           by_cases hi:i<ks.length
           · have hgi:ks[i]?=some ks[i]:=ge_ hi
             have hri:prr[i]?=some prr[i]:=ge_ o_
             have htk:ks.take (i+1)=ks.take i++[ks[i]]:=by rw[List.take_add_one,hgi];rfl
             have hih:=ih _ (List.getElem_mem hi)
             have hle2:Nd.sizes (ks.take (i+1))≤Nd.sizes ks:=Nd.sizes_take ks (i+1)
             have hst:Nd.sizes (ks.take (i+1))=Nd.sizes (ks.take i)+ks[i].size:=by rw[htk,Nd.sizes_snoc]
             generalize ks[i]=k at *
             generalize prr[i]=x at *
             have hkV:k.V=.agg [vi k.sym,vi k.prod,vi k.at_,.sl 4 false (k.kids.map Nd.V)]:=by obtain ⟨e1,e2,e3,e4⟩:=k;rw[Nd.V_mk]
             have hwx:Nd.wholes g prr ks=true→k.sym=x∧k.whole g=true:=fun h=>Nd.wholes_at h hri hgi
             simp only[hkV]at hih
             by_cases hsx:k.sym=x
             · subst hsx
               cases hkb:k.jM g (c - 1 - Nd.sizes (ks.take i))with
               | false=>
                 have hb:(Nd.mk (1000+(lf:Int)) m (-1) ks).jM g c=false:=by
                  unfold Nd.jM at hkb ⊢
                  rw[hwh,Bool.and_eq_false_iff]
                  rcases Bool.and_eq_false_iff.1 hkb with h|h
                  · left;have:=of_decide_eq_false h;exact decide_eq_false o_
                  · right
                    cases hw:Nd.wholes g prr ks with
                    |false=>simp
                    |true=>rw[(hwx hw).2]at h;cases h
                 have IHk: ∀(H:Nat→Option MObj) (next:Nat),H id=some (.own 1 [vi ((c - 1 - Nd.sizes (ks.take i):Nat):Int)] false)→id<next→qZ Try.prog 66 [g.V,.agg [vi k.sym,vi k.prod,vi k.at_,.sl 4 false (k.kids.map Nd.V)],.ptr id 0 0] H next (fun v H' n'=>next≤n'∧v=.bool false∧(∃x,H' id=some (.own 1 [x] false))∧ ∀j,j<next→j≠id→H' j=H j):=fun H next h1 h2=>(hih H next _ h1 h2 o_).mono fun v H' n' ⟨a1,a2,a3,_,a5⟩=>⟨a1,by rw[a2,hkb],a3,a5⟩
                 repeat' with_reducible first
                  |refine s_ ?_
                  |simp only[wZZ,seval,g2,g3,g7,g85,g86,g87,hzi,hkV,k1_4,k1_5]
                  |apply qa<;>intro h h_<;>(try simp only[wD,reduceCtorEq]at h_)<;>(try exact wb_)<;>(try simp only[h])
                  |refine t_ ?_
                  |(refine zk rfl rfl rfl ((IHk _ _ (by((try simp only[wM]);(repeat first|rw[if_pos trivial]|rw[if_pos rfl]|rw[if_neg o_]));exact k1_3) wg_).mono ?_);rintro v1 H1 n1' ⟨q1,rfl,⟨xv,q2⟩,q3⟩;(try simp only[wN]at q1))
                  |simp(disch:=omega) only[w64,if_neg]
                 have q3': ∀j,j<s.next→j≠id→H1 j=s.H j:=fun j h1 h2=>(q3 j wg_ h2).trans (by first|rfl|((try simp only[wM]);(repeat first|rw[if_pos trivial]|rw[if_pos rfl]|rw[if_neg o_])))
                 skip
                 all_goals exact kQ rfl (Or.inr rfl) (Xx (x:=xv) wg_ (by((try simp only[wM]);(repeat first|rw[if_pos trivial]|rw[if_pos rfl]|rw[if_neg o_]));exact q2) (by first|((simp only[wL,seval]);done)|((simp only[wL,seval]);rfl)) hb (fun j h1 h2=>by((try simp only[wM]);(repeat first|rw[if_pos trivial]|rw[if_pos rfl]|rw[if_neg o_]));rw[q3' j o_ h2];exact k1_6 j h1 h2))
               | true=>
                 have IHk: ∀(H:Nat→Option MObj) (next:Nat),H id=some (.own 1 [vi ((c - 1 - Nd.sizes (ks.take i):Nat):Int)] false)→id<next→qZ Try.prog 66 [g.V,.agg [vi k.sym,vi k.prod,vi k.at_,.sl 4 false (k.kids.map Nd.V)],.ptr id 0 0] H next (fun v H' n'=>next≤n'∧v=.bool true∧H' id=some (.own 1 [vi ((c - 1 - Nd.sizes (ks.take i) - k.size:Nat):Int)] false)∧ ∀j,j<next→j≠id→H' j=H j):=fun H next h1 h2=>(hih H next _ h1 h2 o_).mono fun v H' n' ⟨a1,a2,_,a4,a5⟩=>⟨a1,by rw[a2,hkb],a4 hkb,a5⟩
                 repeat' with_reducible first
                  |refine s_ ?_
                  |simp only[wZZ,seval,g2,g3,g7,g85,g86,g87,hzi,hkV,k1_4,k1_5]
                  |apply qa<;>intro h h_<;>(try simp only[wD,reduceCtorEq]at h_)<;>(try exact wb_)<;>(try simp only[h])
                  |refine t_ ?_
                  |(refine zk rfl rfl rfl ((IHk _ _ (by((try simp only[wM]);(repeat first|rw[if_pos trivial]|rw[if_pos rfl]|rw[if_neg o_]));exact k1_3) wg_).mono ?_);rintro v1 H1 n1' ⟨q1,rfl,q2,q3⟩;(try simp only[wN]at q1))
                  |simp(disch:=omega) only[w64,if_neg]
                 have q3': ∀j,j<s.next→j≠id→H1 j=s.H j:=fun j h1 h2=>(q3 j wg_ h2).trans (by first|rfl|((try simp only[wM]);(repeat first|rw[if_pos trivial]|rw[if_pos rfl]|rw[if_neg o_])))
                 skip
                 refine⟨wg_,i+1,o_,?_⟩;(repeat refine⟨True.intro,?_⟩)
                 have hkb':=hkb
                 unfold Nd.jM at hkb'
                 rw[Bool.and_eq_true,decide_eq_true_eq]at hkb'
                 refine⟨rfl,o_,by rw[hst];omega,fun j x' k' h1 h2 h3=>?_,?_,(q3' next o_ o_).trans k1_4,(q3' _ o_ o_).trans k1_5,fun j h1 h2=>(q3' j o_ h2).trans (k1_6 j h1 h2)⟩
                 · by_cases e:j=i
                   · subst e
                     rw[hri]at h2
                     rw[hgi]at h3
                     cases h2
                     cases h3
                     exact⟨rfl,hkb'.2⟩
                   · exact k1_2 j x' k' o_ h2 h3
                 · rw[q2,hst,show c - 1 - (Nd.sizes (ks.take i)+k.size)=c - 1 - Nd.sizes (ks.take i) - k.size by omega]
             · have hb:(Nd.mk (1000+(lf:Int)) m (-1) ks).jM g c=false:=by
                unfold Nd.jM
                rw[hwh,Bool.and_eq_false_iff]
                right
                cases hw:Nd.wholes g prr ks with
                |false=>simp
                |true=>exact absurd (hwx hw).1 hsx
               repeat' with_reducible first
                |refine s_ ?_
                |simp only[wZZ,seval,g2,g3,g7,g85,g86,g87,hzi,hkV,k1_4,k1_5]
                |(first|apply qa|apply qg|apply qh)<;>intro h h_<;>(try simp only[wD,reduceCtorEq]at h_)<;>(try exact wb_)<;>(try simp only[h])
                |refine t_ ?_
                |simp(disch:=omega) only[w64,if_neg]
               all_goals first|(exfalso;omega)|exact kQ rfl (Or.inr rfl) (Xx (x:=vi ((c - 1 - Nd.sizes (ks.take i):Nat):Int)) wg_ (by((try simp only[wM]);(repeat first|rw[if_pos trivial]|rw[if_pos rfl]|rw[if_neg o_]));exact k1_3) (by first|((simp only[wL,seval]);done)|((simp only[wL,seval]);rfl)) hb (fun j h1 h2=>by((try simp only[wM]);(repeat first|rw[if_pos trivial]|rw[if_pos rfl]|rw[if_neg o_]));exact k1_6 j h1 h2))
           · have hb:(Nd.mk (1000+(lf:Int)) m (-1) ks).jM g c=true:=by
              have et:ks.take i=ks:=List.take_of_length_le o_
              rw[et]at k1_1
              unfold Nd.jM
              rw[hwh,decide_eq_true o_,Nd.wholes_all hlen fun j x k h1 h2=>k1_2 j x k (by have:=(List.getElem?_eq_some_iff.1 h2).1;omega) h1 h2];simp
             repeat' with_reducible first
              |refine s_ ?_
              |simp only[wZZ,seval,g2,g3,g7,g85,g86,g87]
              |apply qa<;>intro h h_<;>(try simp only[wD,reduceCtorEq]at h_)<;>(try exact wb_)<;>(try simp only[h])
             exact kQ rfl (Or.inr rfl) (qeE wg_ (by((try simp only[wM]);(repeat first|rw[if_pos trivial]|rw[if_pos rfl]|rw[if_neg o_]));rw[k1_3,show ks.take i=ks from List.take_of_length_le o_,hsz,show c - 1 - Nd.sizes ks=c - (Nd.sizes ks+1) by omega]) (by first|((simp only[wL,seval]);done)|((simp only[wL,seval]);rfl)) hb (fun j h1 h2=>by((try simp only[wM]);(repeat first|rw[if_pos trivial]|rw[if_pos rfl]|rw[if_neg o_]));exact k1_6 j h1 h2))
theorem qeh {g:Grammar} (hg:GOk g) (id:Nat): ∀(n:Nat) (t:Nd) (H:Nat→Option MObj) (next c:Nat),t.size≤n→t.size≤1000000000000→H id=some (.own 1 [vi c] false)→id<next→c≤1000000000000→qZ Try.prog 66 [g.V,t.V,.ptr id 0 0] H next (qF7 g H next id c t)
 |0,t,H,next,c,h,_,_,_,_=>by have:=t.size_pos;omega
 |n+1,.mk s p a ks,H,next,c,h,hb,h1,h2,h3=>qhP hg (fun k hk H next c h1 h2 h3=>by have:=Nd.size_kid (s:=s) (p:=p) (a:=a) hk;exact qeh hg id n k H next c o_ o_ h1 h2 h3) h1 h2 h3 hb
theorem qgY {g:Grammar} {t:Nd} (hg:GOk g) (hb:t.size≤1000000000000):Pure Try.prog 38 [g.V,t.V] (.bool (t.jM g 3000)):=by
 refine pure_intro Try.func38 nm_ qD6 (by show 2≤9;decide) ?_
 show ewp _ qKP _ _
 have hm:=fun id=>qeh hg id t.size t
 have hkV:t.V=.agg [vi t.sym,vi t.prod,vi t.at_,.sl 4 false (t.kids.map Nd.V)]:=by obtain ⟨e1,e2,e3,e4⟩:=t;rw[Nd.V_mk]
 simp only[hkV,Grammar.V]at hm
 rw[hkV]
 repeat' with_reducible first
  |refine zV ?_
  |simp only[wZZ,seval]
  |refine t_ ?_
  |apply jE;exact wu_;exact wu_;exact wu_
 refine zk rfl rfl rfl ((hm _ _ _ 3000 (Nat.le_refl _) hb (by((try simp only[wM]);(repeat first|rw[if_pos trivial]|rw[if_pos rfl]|rw[if_neg o_]));with_unfolding_all rfl) wg_ o_).mono ?_)
 rintro v1 H1 n1' ⟨q1,rfl,⟨xv,q2⟩,_,q3⟩
 repeat' with_reducible first
  |refine QF ?_
 all_goals refine qA rfl (Or.inr rfl) ?_
 all_goals(try simp only[wL,seval])
 all_goals refine er_ ?_
 all_goals(try(with_reducible rfl))
end Go.Proofs
