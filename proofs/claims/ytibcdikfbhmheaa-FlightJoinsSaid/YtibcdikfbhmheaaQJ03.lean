import Derived.Test.YtibcdikfbhmheaaQJ02
import Derived.Test.YtibcdikfbhmheaaB17
set_option linter.unusedSimpArgs false
set_option linter.unusedVariables false
namespace Go.Proofs.Ytibcdikfbhmheaa
open Go Go.Conc Go.Proofs
section
variable {main : Bool} {Z : Cuts} {KK : Nat -> Goroutine -> World -> Prop} {d : Nat} {V : World} {bQ fr : Frame} {aQ : Act} {opsQ : Array Oper} {iQ : Nat} {restQ : List Nat} {kQ kt : List Item} {cs0 cs : List Frame} {ob cb : Nat}
end
end Go.Proofs.Ytibcdikfbhmheaa
