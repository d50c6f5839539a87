import Derived.Test.YtibcdikfbhmheaaQJ01
set_option linter.unusedSimpArgs false
set_option linter.unusedVariables false
namespace Go.Proofs.Ytibcdikfbhmheaa
open Go Go.Conc Go.Proofs
@[go_sem] theorem neq1f (fid : FuncId) (g n) (w : World) : (binOp BinOp.neq 1 (.func (.func fid) g n) .nilFunc).run Try.prog w = .ok (.bool true) w:=by kernel_rfl
@[go_sem] theorem neq1n (w : World) : (binOp BinOp.neq 1 .nilFunc .nilFunc).run Try.prog w = .ok (.bool false) w:=by kernel_rfl
section
variable {main : Bool} {Z : Cuts} {KK : Nat -> Goroutine -> World -> Prop} {d : Nat} {V : World} {bQ fr : Frame} {aQ : Act} {opsQ : Array Oper} {iQ : Nat} {restQ : List Nat} {kQ kt : List Item} {cs0 cs : List Frame} {ob cb nb pb fb : Nat}
end
end Go.Proofs.Ytibcdikfbhmheaa
