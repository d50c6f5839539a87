import Derived.Test.YtibcdikfbhmheaaQF02
import Derived.Test.YtibcdikfbhmheaaB17
set_option linter.unusedSimpArgs false
set_option linter.unusedVariables false
namespace Go.Proofs.Ytibcdikfbhmheaa
open Go Go.Conc Go.Proofs
open Go.ConcN (sumTo upd sumTo_upd upd_ne upd_same)
set_option linter.unusedVariables false
section
variable {main : Bool} {Z : Cuts} {KK : Nat → Goroutine → World → Prop} {d : Nat} {V : World} {b₀ fr : Frame} {a₀ : Act} {ops₀ : Array Oper} {i₀ : Nat} {rest₀ : List Nat} {k₀ kt : List Item} {cs0 cs : List Frame} {ob cb : Nat}
end
end Go.Proofs.Ytibcdikfbhmheaa
