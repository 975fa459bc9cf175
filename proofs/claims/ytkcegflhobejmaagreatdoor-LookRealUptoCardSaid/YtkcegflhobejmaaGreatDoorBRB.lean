import Derived.Test.YtkcegflhobejmaaGreatDoorBJB
set_option maxRecDepth 20000
set_option linter.all false
set_option maxHeartbeats 4000000
namespace Go.Proofs
open Go.E
structure Fg(s:St)(id n lo z:Nat)(mk:V->V)(v:V)(es want:List V):Prop where
 o:s.H id=some (.own n [mk v] false)
 g:Gr s.H s.next z es v
 l:∀j,gid v=some j->lo<=j
 e:Xf es want
theorem Fg.mono{s s':St}{id n lo z:Nat}{mk:V->V}{v:V}{es want:List V}(h:Fg s id n lo z mk v es want)(hn:s.next<=s'.next)(ho:s'.H id=s.H id)(hH:∀j,lo<=j->j<s.next->gid v=some j->s'.H j=s.H j):Fg s' id n lo z mk v es want:=
 ⟨by rw[ho];exact h.o,h.g.mono hn (λj h1 h2=>hH j (h.l j h1) h2 h1),h.l,h.e⟩



end Go.Proofs
