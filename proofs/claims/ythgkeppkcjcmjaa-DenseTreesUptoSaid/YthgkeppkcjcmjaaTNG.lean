/- Part of a proof that a law of the given program answers true. -/
import Derived.Test.YthgkeppkcjcmjaaTNE
import Derived.Test.YthgkeppkcjcmjaaTJA
set_option linter.unusedSimpArgs false
set_option linter.unusedVariables false
set_option maxHeartbeats 4000000
namespace Go.Proofs
open Go.E
theorem qLx {P:Program} [Glob P] {cls:Cls} {id:Nat} {s:St} {K:V→St→Prop} {n:Nat} {os:List Opd} {f:FuncId} {caps vs:List V} (h:s.f n=.fn f caps) (hc:cls=.any) (hv:os.map (ev s)=vs)
 (hE:qZ P f (vs++caps) s.H s.next fun v H' next'=>K v {s with H:=H',next:=next'}):qd P cls id s K (.call (.t n) os):=by
 subst hc hv
 show (match s.f n with|.fn fid caps=>_ | _=>False)
 rw[h]
 exact Or.inr ⟨rfl,hE.mono fun _ _ _ hk=>⟨trivial,hk⟩⟩
mutual
def Nd.walkF {σ:Type} (step:σ→Nd→σ) (x:σ):Nd→σ
 |.mk s p a ks=>step (if p= -1 then x else Nd.walkFs step x ks) (.mk s p a ks)
def Nd.walkFs {σ:Type} (step:σ→Nd→σ) (x:σ):List Nd→σ
 |[]=>x
 |k::r=>Nd.walkFs step (Nd.walkF step x k) r
end
theorem Nd.walkFs_snoc {σ:Type} (step:σ→Nd→σ): ∀(l:List Nd) (x:σ) (k:Nd),Nd.walkFs step x (l++[k])=Nd.walkF step (Nd.walkFs step x l) k
 |[],x,k=>by rw[List.nil_append,Nd.walkFs,Nd.walkFs,Nd.walkFs]
 |a::r,x,k=>by rw[List.cons_append,Nd.walkFs,Nd.walkFs,Nd.walkFs_snoc step r]
def KZ (H:Nat→Option MObj) (j:Nat):Prop:= ∃sz l ro,H j=some (.own sz l ro)
structure Over {σ:Type} (f:FuncId) (caps:List V) (lo:Nat) (I:σ→(Nat→Option MObj)→Nat→Prop) (step:σ→Nd→σ) (m:σ→Nat):Prop where
 call: ∀(x:σ) (t:Nd) (H:Nat→Option MObj) (next:Nat),I x H next→m x≤1000000000000→qZ Try.prog f ([t.V]++caps) H next (fun v H' n'=>next≤n'∧I (step x t) H' n'∧ ∀j,j<next→j≠lo→KZ H j→H' j=H j)
 mono: ∀(x:σ) (H H':Nat→Option MObj) (next next':Nat),I x H next→next≤next'→(∀j,j<next→H' j=H j)→I x H' next'
 m1: ∀x t,m (step x t)≤m x+1
 lo: ∀x H next,I x H next→lo<next
mutual
theorem Over.bd {σ:Type} {step:σ→Nd→σ} {m:σ→Nat} (h: ∀x t,m (step x t)≤m x+1): ∀(t:Nd) (x:σ),m (Nd.walkF step x t)≤m x+t.size
 | .mk s p a ks,x=>by
   have h1:=Over.bds h ks x
   rw[Nd.walkF,Nd.size]
   have h2:=h (if p= -1 then x else Nd.walkFs step x ks) (.mk s p a ks)
   split at h2<;>rename_i hp
   · rw[if_pos hp];omega
   · rw[if_neg hp];omega
theorem Over.bds {σ:Type} {step:σ→Nd→σ} {m:σ→Nat} (h: ∀x t,m (step x t)≤m x+1): ∀(l:List Nd) (x:σ),m (Nd.walkFs step x l)≤m x+Nd.sizes l
 |[],x=>by rw[Nd.walkFs,Nd.sizes];exact Nat.le_refl _
 | k::r,x=>by
   have h1:=Over.bd h k x
   have h2:=Over.bds h r (Nd.walkF step x k)
   rw[Nd.walkFs,Nd.sizes];omega
end
theorem qd5 {σ:Type} {f:FuncId} {caps:List V} {lo:Nat} {I:σ→(Nat→Option MObj)→Nat→Prop} {step:σ→Nd→σ} {m:σ→Nat} {H:Nat→Option MObj} {next:Nat} {y p a:Int} {ks:List Nd} {x:σ} (hO:Over f caps lo I step m) (ih: ∀k∈ks,∀x H next,I x H next→m x+k.size≤1000000000000→qZ Try.prog 67 [k.V,.fn f caps] H next (fun v H' n'=>next≤n'∧I (Nd.walkF step x k) H' n'∧ ∀j,j<next→j≠lo→KZ H j→H' j=H j)) (hI:I x H next) (hm:m x+(Nd.mk y p a ks).size≤1000000000000):qZ Try.prog 67 [(Nd.mk y p a ks).V,.fn f caps] H next (fun v H' n'=>next≤n'∧I (Nd.walkF step x (.mk y p a ks)) H' n'∧ ∀j,j<next→j≠lo→KZ H j→H' j=H j):=by
 refine qO Try.func67 nm_ qvM (by show 2≤23;decide) ?_
 show ewp _ qjV _ _
 have hsz:m x+Nd.sizes ks≤1000000000000:=by rw[Nd.size]at hm;omega
 have hkl:=Nd.sizes_len ks
 have hlo:=hO.lo _ _ _ hI
 rw[Nd.V_mk]
 by_cases hp:p= -1
 · subst hp
   have e:Nd.walkF step x (.mk y (-1) a ks)=step x (.mk y (-1) a ks):=by rw[Nd.walkF,if_pos rfl]
   rw[e]
   repeat' with_reducible first
    |refine s_ ?_
    |simp only[wZZ,seval]
    |(refine qLx (f:=f) (caps:=caps) (vs:=[(Nd.mk y (-1) a ks).V]) l_ rfl (by rw[Nd.V_mk];simp only[List.map_cons,List.map_nil,qO2];(simp only[wL,seval])) ((hO.call x _ _ _ (hO.mono _ _ _ _ _ hI wg_ (fun j hj=>hh_)) o_).mono ?_);rintro v1 H1 n1' ⟨q1,q2,q3⟩)
    |refine t_ ?_
   (try simp only[wN]at q1)
   refine Qt rfl (Or.inl rfl) ⟨wg_,q2,fun j hj hne hown=>?_⟩
   have:=q3 j wg_ hne (by obtain ⟨a1,a2,a3,a4⟩:=hown;exact⟨a1,a2,a3,by((try simp only[wM]);(repeat first|rw[if_pos trivial]|rw[if_pos rfl]|rw[if_neg o_]));exact a4⟩)
   ((try simp only[wM]);(repeat first|rw[if_pos trivial]|rw[if_pos rfl]|rw[if_neg o_]))
   rw[this]
   ((try simp only[wM]);(repeat first|rw[if_pos trivial]|rw[if_pos rfl]|rw[if_neg o_]))
 · have e:Nd.walkF step x (.mk y p a ks)=step (Nd.walkFs step x ks) (.mk y p a ks):=by rw[Nd.walkF,if_neg hp]
   have hmx:=Over.bds hO.m1 ks x
   rw[e]
   repeat' with_reducible first
    |refine s_ ?_
    |simp only[wZZ,seval]
    |apply qa<;>intro h h_<;>(try simp only[wD,reduceCtorEq]at h_)<;>(try exact wb_)<;>(try simp only[h])
    |refine t_ ?_
   refine qb ?nx1 (fun(i:Nat) s=>s.f 1=?v1_1∧s.f 2=?v1_2∧s.f 10=?v1_10∧s.f 11=?v1_11∧s.f 12=vi i∧(i≤ks.length)∧(I (Nd.walkFs step x (ks.take i)) s.H s.next)∧((s.H next=some (MObj.own 4 [.agg [vi y,vi p,vi a,.sl 4 false (ks.map Nd.V)]] false)))∧((∀j,j<next→j≠lo→KZ H j→s.H j=H j))) (fun i=>ks.length - i) (0) wj_ (by refine⟨?_,?_,?_,?_,?_,wo_,(by exact hO.mono _ _ _ _ _ (by rw[List.take_zero,Nd.walkFs];exact hI) wg_ (fun j hj=>hh_)),hh_,(by intro j h1 h2 h3;((try simp only[wM]);(repeat first|rw[if_pos trivial]|rw[if_pos rfl]|rw[if_neg o_])))⟩<;>first|(simp only[wL,wM,wN,wX,seval,Option.some.injEq]<;>exact wt_)|rfl|exact⟨_,rfl⟩) ?_
   intro i s hnx ⟨g1,g2,g10,g11,g12,k1_0,k1_1,k1_2,k1_3⟩
   have hz:=w1_ i
   by_cases hi:i<ks.length
   · have hgi:ks[i]?=some ks[i]:=ge_ hi
     have htk:ks.take (i+1)=ks.take i++[ks[i]]:=by rw[List.take_add_one,hgi];rfl
     have hih:=ih _ (List.getElem_mem hi)
     have hle2:Nd.sizes (ks.take (i+1))≤Nd.sizes ks:=Nd.sizes_take ks (i+1)
     have hb:=Over.bds hO.m1 (ks.take i) x
     rw[htk,Nd.sizes_snoc]at hle2
     have hst:=Nd.walkFs_snoc step (ks.take i) x ks[i]
     rw[← htk]at hst
     generalize ks[i]=k at *
     have hkV:k.V=.agg [vi k.sym,vi k.prod,vi k.at_,.sl 4 false (k.kids.map Nd.V)]:=by obtain ⟨k1,k2,k3,k4⟩:=k;rw[Nd.V_mk]
     simp only[hkV]at hih
     repeat' with_reducible first
      |refine s_ ?_
      |simp only[wZZ,seval,g1,g2,g10,g11,g12,hz,hkV,k1_2]
      |apply qa<;>intro h h_<;>(try simp only[wD,reduceCtorEq]at h_)<;>(try exact wb_)<;>(try simp only[h])
      |refine t_ ?_
      |(refine zk rfl rfl rfl ((hih _ _ _ (hO.mono _ _ _ _ _ k1_1 wg_ (fun j hj=>hh_)) o_).mono ?_);rintro v1 H1 n1' ⟨q1,q2,q3⟩;(try simp only[wN]at q1))
     have q3': ∀j,j<s.next→j≠lo→KZ s.H j→H1 j=s.H j:=fun j h1 h2 h3=>by
      rw[q3 j wg_ h2 (by obtain ⟨a1,a2,a3,a4⟩:=h3;exact⟨a1,a2,a3,by((try simp only[wM]);(repeat first|rw[if_pos trivial]|rw[if_pos rfl]|rw[if_neg o_]));exact a4⟩)]
      ((try simp only[wM]);(repeat first|rw[if_pos trivial]|rw[if_pos rfl]|rw[if_neg o_]))
     refine⟨wg_,i+1,o_,?_⟩;(repeat refine⟨True.intro,?_⟩);refine⟨rfl,o_,?_,?_,fun j h1 h2 h3=>?_⟩
     · rw[hst];exact hO.mono _ _ _ _ _ q2 wg_ (fun j hj=>hh_)
     · ((try simp only[wM]);(repeat first|rw[if_pos trivial]|rw[if_pos rfl]|rw[if_neg o_]));rw[q3' next o_ o_ ⟨_,_,_,k1_2⟩];exact k1_2
     · ((try simp only[wM]);(repeat first|rw[if_pos trivial]|rw[if_pos rfl]|rw[if_neg o_]))
       have:=k1_3 j h1 h2 h3
       rw[q3' j o_ h2 (by obtain ⟨a1,a2,a3,a4⟩:=h3;exact⟨a1,a2,a3,this.trans a4⟩)];exact this
   · have et:ks.take i=ks:=List.take_of_length_le o_
     rw[et]at k1_1
     repeat' with_reducible first
      |refine s_ ?_
      |simp only[wZZ,seval,g1,g2,g10,g11,g12,k1_2]
      |apply qa<;>intro h h_<;>(try simp only[wD,reduceCtorEq]at h_)<;>(try exact wb_)<;>(try simp only[h])
      |(refine qLx (f:=f) (caps:=caps) (vs:=[(Nd.mk y p a ks).V]) l_ rfl (by rw[Nd.V_mk];simp only[List.map_cons,List.map_nil,qO2];(simp only[wL,seval])) ((hO.call _ _ _ _ (hO.mono _ _ _ _ _ k1_1 wg_ (fun j hj=>hh_)) o_).mono ?_);rintro v1 H1 n1' ⟨q1,q2,q3⟩)
      |refine t_ ?_
     (try simp only[wN]at q1)
     refine Qt rfl (Or.inl rfl) ⟨wg_,q2,fun j h1 h2 h3=>?_⟩
     have h4:=k1_3 j h1 h2 h3
     have:=q3 j wg_ h2 (by obtain ⟨a1,a2,a3,a4⟩:=h3;exact⟨a1,a2,a3,by((try simp only[wM]);(repeat first|rw[if_pos trivial]|rw[if_pos rfl]|rw[if_neg o_]));exact h4.trans a4⟩)
     ((try simp only[wM]);(repeat first|rw[if_pos trivial]|rw[if_pos rfl]|rw[if_neg o_]))
     rw[this]
     ((try simp only[wM]);(repeat first|rw[if_pos trivial]|rw[if_pos rfl]|rw[if_neg o_]))
     exact h4
theorem XT {σ:Type} {f:FuncId} {caps:List V} {lo:Nat} {I:σ→(Nat→Option MObj)→Nat→Prop} {step:σ→Nd→σ} {m:σ→Nat} (hO:Over f caps lo I step m): ∀(n:Nat) (t:Nd) (x:σ) (H:Nat→Option MObj) (next:Nat),t.size≤n→I x H next→m x+t.size≤1000000000000→qZ Try.prog 67 [t.V,.fn f caps] H next (fun v H' n'=>next≤n'∧I (Nd.walkF step x t) H' n'∧ ∀j,j<next→j≠lo→KZ H j→H' j=H j)
 |0,t,_,_,_,h,_,_=>by have:=t.size_pos;omega
 |n+1,.mk s p a ks,x,H,next,h,hI,hm=>qd5 hO (fun k hk x H next hI hm=>XT hO n k x H next (by have:=Nd.size_kid (s:=s) (p:=p) (a:=a) hk;omega) hI hm) hI hm

def qql (lo:Nat) (l:List Int) (H:Nat→Option MObj) (next:Nat):Prop:= ∃v,H lo=some (.own 1 [v] false)∧lo<next∧Gr H next 1 (l.map (V.int .i64)) v
def qfF (l:List Int) (t:Nd):List Int:=if t.prod= -1 then l++[t.sym]else l
mutual
theorem qbW: ∀(t:Nd) (l:List Int),Nd.walkF qfF l t=l++t.yld
 | .mk s p a ks,l=>by
   rw[Nd.walkF,Nd.yld]
   by_cases h:p= -1
   · rw[if_pos h,if_pos h];unfold qfF;rw[if_pos h]
   · rw[if_neg h,if_neg h,qaR ks l];unfold qfF;rw[if_neg h]
theorem qaR: ∀(ks:List Nd) (l:List Int),Nd.walkFs qfF l ks=l++Nd.ylds ks
 |[],l=>by rw[Nd.walkFs,Nd.ylds,List.append_nil]
 |k::r,l=>by rw[Nd.walkFs,qbW k l,qaR r _,Nd.ylds,List.append_assoc]
end
theorem qi5 {lo next:Nat} {H:Nat→Option MObj} (h:H lo=some (.own 1 [.sl 1 true []] false)) (hl:lo<next):qql lo [] H next:=⟨_,h,hl,Gr.nil⟩
theorem qFY {H:Nat→Option MObj} {next lo:Nat} {l:List Int} {y p a:Int} {ks:List Nd} (hI:qql lo l H next) (hb:l.length≤1000000000000):qZ Try.prog 68 [(Nd.mk y p a ks).V,.ptr lo 0 0] H next (fun v H' n'=>next≤n'∧qql lo (qfF l (.mk y p a ks)) H' n'∧ ∀j,j<next→j≠lo→KZ H j→H' j=H j):=by
 refine qO Try.func68 nm_ qyg (by show 2≤11;decide) ?_
 show ewp _ qBQ _ _
 obtain ⟨v,ho,hlo,hG⟩:=hI
 have hg:gid v≠some lo:=fun e=>by
  rcases hG with rfl|⟨id,fin,rfl,h1,_⟩
  · cases e
  · cases e;rw[ho]at h1;cases h1
 have hok:=(Gr.ok hG).2.2
 rw[Nd.V_mk]
 by_cases hp:p= -1
 · have e:qfF l (.mk y p a ks)=l++[y]:=by unfold qfF;rw[if_pos hp]
   rw[e]
   subst hp
   repeat' with_reducible first
    |refine s_ ?_
    |simp only[wZZ,seval,ho,qi hg]
    |apply za rfl (hG.mono (Nat.le_refl _) (fun id h1 h2=>by(try simp only[wM]);(repeat rw[if_neg o_])));(focus(first|exact qU.sl|exact qU.asl));(focus(simp only[wZ]<;>omega));(focus(unfold maxLen;simp only[wZ]<;>omega))
    |apply xq;exact hok
    |apply jE;with_unfolding_all exact hok;exact wu_;exact wu_
    |refine t_ ?_
    |simp(disch:=omega) only[w64,if_neg]
   refine Qt rfl (Or.inl rfl) ⟨wg_,⟨_,hh_,wg_,Gr.tok (id:=next+1+3+4) (fin:=l.length+1) hh_ wg_⟩,fun j h1 h2 h3=>?_⟩
   have hj:gid v≠some j:=fun e=>by
    obtain ⟨a1,a2,a3,a4⟩:=h3
    rcases hG with rfl|⟨id,fin,rfl,h5,_⟩
    · cases e
    · cases e;rw[h5]at a4;cases a4
   ((try simp only[wM]);(repeat first|rw[if_pos trivial]|rw[if_pos rfl]|rw[if_neg o_]))
   rw[qi hj]
   ((try simp only[wM]);(repeat first|rw[if_pos trivial]|rw[if_pos rfl]|rw[if_neg o_]))
 · have e:qfF l (.mk y p a ks)=l:=by unfold qfF;rw[if_neg hp]
   rw[e]
   repeat' with_reducible first
    |refine s_ ?_
    |simp only[wZZ,seval,ho]
    |apply qa<;>intro h h_<;>(try simp only[wD,reduceCtorEq]at h_)<;>(try exact wb_)<;>(try simp only[h])
    |refine t_ ?_
   exact Qt rfl (Or.inl rfl) ⟨wg_,⟨v,by((try simp only[wM]);(repeat first|rw[if_pos trivial]|rw[if_pos rfl]|rw[if_neg o_]));exact ho,wg_,hG.mono wg_ (fun j h1 h2=>hh_)⟩,fun j h1 h2 h3=>hh_⟩
theorem qhd (lo:Nat):Over 68 [.ptr lo 0 0] lo (qql lo) qfF List.length where
 call:=fun l t H next hI hm=>by
  obtain ⟨y,p,a,ks⟩:=t
  exact qFY hI hm
 mono:=fun l H H' next next' ⟨v,h1,h2,h3⟩ hn hH=>⟨v,(hH lo h2).trans h1,o_,h3.mono hn fun id _ hid=>hH id hid⟩
 m1:=fun l t=>by unfold qfF;split<;>simp
 lo:=fun l H next ⟨_,_,h,_⟩=>h
theorem qc7 {t:Nd} (hb:t.size≤1000000000):Pure Try.prog 39 [t.V] (.sl 1 false (t.yld.map (V.int .i64))):=by
 refine pure_intro Try.func39 nm_ qzB (by show 1≤7;decide) ?_
 show ewp _ qF2 _ _
 obtain ⟨y,p,a,ks⟩:=t
 have hw:=XT (qhd 1) (Nd.mk y p a ks).size (.mk y p a ks) []
 rw[qbW,List.nil_append,Nd.V_mk]at hw
 rw[Nd.V_mk]
 repeat' with_reducible first
  |refine zV ?_
  |simp only[wZZ,seval]
  |(refine zk rfl rfl rfl ((hw _ _ (Nat.le_refl _) (qi5 hh_ wg_) (by simp;omega)).mono ?_);rintro v1 H1 n1' ⟨q1,q2,q5⟩)
  |refine t_ ?_
 obtain ⟨v,q2,q3,q4⟩:=q2
 have hok:=Gr.ok q4
 have hl:v.cells.length=1:=by rw[hok.1];rfl
 repeat' with_reducible first
  |refine QF ?_
  |simp only[wZZ,seval,q2]
  |apply xq;exact hok.2.2
  |apply jE;rfl;exact hl;exact hok.2.1
 exact qat (t:=2) (id:=1) (n:=1) (ro:=false) (ag:=false) (v:=v) rfl (Or.inr rfl) l_ hh_ hok.2.2 (Gr.er q4 rfl)
def qfR (l:List Int) (t:Nd):List Int:=if t.prod= -1 then l else l++[t.prod]
mutual
theorem qbJ: ∀(t:Nd) (l:List Int),Nd.walkF qfR l t=l++t.prs
 | .mk s p a ks,l=>by
   rw[Nd.walkF,Nd.prs]
   by_cases h:p= -1
   · rw[if_pos h,if_pos h];unfold qfR;rw[if_pos h,List.append_nil]
   · rw[if_neg h,if_neg h,qaF ks l];unfold qfR;rw[if_neg h,List.append_assoc]
theorem qaF: ∀(ks:List Nd) (l:List Int),Nd.walkFs qfR l ks=l++Nd.prss ks
 |[],l=>by rw[Nd.walkFs,Nd.prss,List.append_nil]
 |k::r,l=>by rw[Nd.walkFs,qbJ k l,qaF r _,Nd.prss,List.append_assoc]
end
theorem qEW {H:Nat→Option MObj} {next lo:Nat} {l:List Int} {y p a:Int} {ks:List Nd} (hI:qql lo l H next) (hb:l.length≤1000000000000):qZ Try.prog 69 [(Nd.mk y p a ks).V,.ptr lo 0 0] H next (fun v H' n'=>next≤n'∧qql lo (qfR l (.mk y p a ks)) H' n'∧ ∀j,j<next→j≠lo→KZ H j→H' j=H j):=by
 refine qO Try.func69 nm_ qwm (by show 2≤11;decide) ?_
 show ewp _ qFv _ _
 obtain ⟨v,ho,hlo,hG⟩:=hI
 have hg:gid v≠some lo:=fun e=>by
  rcases hG with rfl|⟨id,fin,rfl,h1,_⟩
  · cases e
  · cases e;rw[ho]at h1;cases h1
 have hok:=(Gr.ok hG).2.2
 rw[Nd.V_mk]
 by_cases hp:p≠ -1
 · have e:qfR l (.mk y p a ks)=l++[p]:=by unfold qfR;rw[if_neg hp]
   rw[e]
   repeat' with_reducible first
    |refine s_ ?_
    |simp only[wZZ,seval,ho,qi hg]
    |apply qa<;>intro h h_<;>(try simp only[wD,reduceCtorEq]at h_)<;>(try exact wb_)<;>(try simp only[h])
    |apply za rfl (hG.mono (Nat.le_refl _) (fun id h1 h2=>by(try simp only[wM]);(repeat rw[if_neg o_])));(focus(first|exact qU.sl|exact qU.asl));(focus(simp only[wZ]<;>omega));(focus(unfold maxLen;simp only[wZ]<;>omega))
    |apply xq;exact hok
    |apply jE;with_unfolding_all exact hok;exact wu_;exact wu_
    |refine t_ ?_
    |simp(disch:=omega) only[w64,if_neg]
   refine Qt rfl (Or.inl rfl) ⟨wg_,⟨_,hh_,wg_,Gr.tok (id:=next+1+3+4) (fin:=l.length+1) hh_ wg_⟩,fun j h1 h2 h3=>?_⟩
   have hj:gid v≠some j:=fun e=>by
    obtain ⟨a1,a2,a3,a4⟩:=h3
    rcases hG with rfl|⟨id,fin,rfl,h5,_⟩
    · cases e
    · cases e;rw[h5]at a4;cases a4
   ((try simp only[wM]);(repeat first|rw[if_pos trivial]|rw[if_pos rfl]|rw[if_neg o_]))
   rw[qi hj]
   ((try simp only[wM]);(repeat first|rw[if_pos trivial]|rw[if_pos rfl]|rw[if_neg o_]))
 · have e:qfR l (.mk y p a ks)=l:=by unfold qfR;rw[if_pos (Classical.not_not.1 hp)]
   rw[e]
   repeat' with_reducible first
    |refine s_ ?_
    |simp only[wZZ,seval,ho]
    |apply qa<;>intro h h_<;>(try simp only[wD,reduceCtorEq]at h_)<;>(try exact wb_)<;>(try simp only[h])
    |refine t_ ?_
   exact Qt rfl (Or.inl rfl) ⟨wg_,⟨v,by((try simp only[wM]);(repeat first|rw[if_pos trivial]|rw[if_pos rfl]|rw[if_neg o_]));exact ho,wg_,hG.mono wg_ (fun j h1 h2=>hh_)⟩,fun j h1 h2 h3=>hh_⟩
theorem qhl (lo:Nat):Over 69 [.ptr lo 0 0] lo (qql lo) qfR List.length where
 call:=fun l t H next hI hm=>by
  obtain ⟨y,p,a,ks⟩:=t
  exact qEW hI hm
 mono:=fun l H H' next next' ⟨v,h1,h2,h3⟩ hn hH=>⟨v,(hH lo h2).trans h1,o_,h3.mono hn fun id _ hid=>hH id hid⟩
 m1:=fun l t=>by unfold qfR;split<;>simp
 lo:=fun l H next ⟨_,_,h,_⟩=>h
theorem qcS {t:Nd} (hb:t.size≤1000000000):Pure Try.prog 40 [t.V] (.sl 1 false (t.prs.map (V.int .i64))):=by
 refine pure_intro Try.func40 nm_ qKq (by show 1≤7;decide) ?_
 show ewp _ qJa _ _
 obtain ⟨y,p,a,ks⟩:=t
 have hw:=XT (qhl 1) (Nd.mk y p a ks).size (.mk y p a ks) []
 rw[qbJ,List.nil_append,Nd.V_mk]at hw
 rw[Nd.V_mk]
 repeat' with_reducible first
  |refine zV ?_
  |simp only[wZZ,seval]
  |(refine zk rfl rfl rfl ((hw _ _ (Nat.le_refl _) (qi5 hh_ wg_) (by simp;omega)).mono ?_);rintro v1 H1 n1' ⟨q1,q2,q5⟩)
  |refine t_ ?_
 obtain ⟨v,q2,q3,q4⟩:=q2
 have hok:=Gr.ok q4
 have hl:v.cells.length=1:=by rw[hok.1];rfl
 repeat' with_reducible first
  |refine QF ?_
  |simp only[wZZ,seval,q2]
  |apply xq;exact hok.2.2
  |apply jE;rfl;exact hl;exact hok.2.1
 exact qat (t:=2) (id:=1) (n:=1) (ro:=false) (ag:=false) (v:=v) rfl (Or.inr rfl) l_ hh_ hok.2.2 (Gr.er q4 rfl)
end Go.Proofs
