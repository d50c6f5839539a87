import Derived.Test.YtibcdikfbhmheaaB18
import Derived.Laws.Panics
set_option linter.unusedSimpArgs false
set_option linter.unusedVariables false
namespace Go.Proofs.Ytibcdikfbhmheaa
open Go Go.Conc Go.Proofs
open Go.ConcN (sumTo upd sumTo_upd upd_ne upd_same)
set_option linter.unusedVariables false
section
variable {P : Program} {L : List FuncId} {md : Region.Mode} {ops : Array Oper} {V : World} {j : Nat} {X : Nat → Array Bool → Act → Prop} {Q : Act → Prop}
end
section
variable {C : Cw} {E : Env} {V : World} {D : Th} {i : Nat} {T : Array Value} {kt : List Item} {Stop : Goroutine → World → Prop} {cs0 : List Frame} {c : Frame}
end
end Go.Proofs.Ytibcdikfbhmheaa

namespace Go.Proofs.Ytibcdikfbhmheaa
open Go Go.Conc Go.Proofs
open Go.ConcN (sumTo upd sumTo_upd upd_ne upd_same)
set_option linter.unusedVariables false
theorem TInv.st {D : Th} {s s' : TS} {own : Nat → Prop} {V : World} (I : TInv D s own V) (h1 : s'.log = s.log) (h2 : s'.at_ = s.at_) (h3 : ∀ j,s'.st j = 0 → s.st j = 0) : TInv D s' own V:=⟨I.sz,by rw [h1]; exact I.world,I.old,by rw [h1,h2]; exact I.cnt,by rw [h2]; exact I.le,fun j hj h=>by rw [h2]; exact I.z j hj (h3 j h)⟩
section
variable {D : Th} {C : Cw} {E : Env} {i : Nat} {own₀ own : Nat → Prop} {V₀ V : World} {s : TS}
end
end Go.Proofs.Ytibcdikfbhmheaa

namespace Go.Proofs.Ytibcdikfbhmheaa
open Go Go.Conc Go.Proofs
open Go.ConcN (sumTo upd sumTo_upd upd_ne upd_same)
set_option linter.unusedVariables false
section
variable {D : Th} {C : Cw} {E : Env} {i : Nat} {own : Nat → Prop} {V : World}
end
end Go.Proofs.Ytibcdikfbhmheaa
