/-
  No cell of these rows narrows 'for every input' (looked for: loops, veiled, ifaces, maps, wideKeys, modest, calm, conditions, laid).
  DERIVED. THE GIVEN ROWS OF THIS SEAT. 7 by the template 'for every input the law returns true; each argument reads behind the call as it read before'; 0 by the template 'total and deterministic' (their statements: YtikfeinhdfjjhaaTotals.lean).
  GIVEN WITH THE SEED: the statements are not yours to turn. If you find one false, say at which input.
  Laid BY PROGRAM, IN A SANDBOX (cutbox-rows.mjs): the forced cells as the released guide's own fill.sh prints them over the translation 6e63540eafbfddd4… (all of the seat's roots in one cut). By AI agents, Wed Nov 11 2026. No macro, syntax, notation, axiom, sorry.
-/
import Derived.Test.YtikfeinhdfjjhaaChecked
import GoSem.Claim
import GoSem.ClaimJoined
import GoSem.ClaimMapViews
import Derived.JoinedTies
import Derived.KernelRfl
namespace Go.Proofs.Ytikfeinhdfjjhaa
/- THE CELL 'sum', in the pinned program and in every row, IS THE sha256 OF THE DUMP (.gsa) THAT YtikfeinhdfjjhaaProg.lean LOADS. Nothing in Lean hashes anything: it is a label: what it is worth is what the hold of that sum in a sandbox is worth. -/
noncomputable def Try.pinned : Pinned := { name := "ytikfeinhdfjjhaa", sum := "6e63540eafbfddd4bf00da51a2462599ca6b197455d4f09c539cf07af8cdc241", checked := Try.checked }
namespace Rows
def none {H : Type} : Left H := { results := [], args := [] }

/-- 'dulcimerlaw03.FactTells': WHATEVER THE INPUT: true; the input reads as it did. -/
def factTellsSpec : ChangeSpec := { name := "factTells", fn := fun _ => fun
  | [d] => { results := [.lit (.bool true)], args := [d] }
  | _ => none }
def factTellsRow : OpenClaim := { program := "ytikfeinhdfjjhaa", sum := "6e63540eafbfddd4bf00da51a2462599ca6b197455d4f09c539cf07af8cdc241", func := "dulcimer/dulcimerlaw03.FactTells", spec := "factTells", apart := false }
def FactTellsSaid : Prop := factTellsRow.holds Try.pinned (OpenSpec.ofChange factTellsSpec)

/-- ITS FALSE NEIGHBOUR: 'it returns false'. Refute it at one input. -/
def factTellsWrong : ChangeSpec := { name := "factTells", fn := fun _ => fun
  | [d] => { results := [.lit (.bool false)], args := [d] }
  | _ => none }
def FactTellsWrongFalsely : Prop := factTellsRow.holds Try.pinned (OpenSpec.ofChange factTellsWrong)

/-- 'dulcimerlaw03.FactCommon': WHATEVER THE INPUT: true; the input reads as it did. -/
def factCommonSpec : ChangeSpec := { name := "factCommon", fn := fun _ => fun
  | [d1, d2] => { results := [.lit (.bool true)], args := [d1, d2] }
  | _ => none }
def factCommonRow : OpenClaim := { program := "ytikfeinhdfjjhaa", sum := "6e63540eafbfddd4bf00da51a2462599ca6b197455d4f09c539cf07af8cdc241", func := "dulcimer/dulcimerlaw03.FactCommon", spec := "factCommon", recurses := true, apart := false }
def FactCommonSaid : Prop := factCommonRow.holds Try.pinned (OpenSpec.ofChange factCommonSpec)

/-- ITS FALSE NEIGHBOUR: 'it returns false'. Refute it at one input. -/
def factCommonWrong : ChangeSpec := { name := "factCommon", fn := fun _ => fun
  | [d1, d2] => { results := [.lit (.bool false)], args := [d1, d2] }
  | _ => none }
def FactCommonWrongFalsely : Prop := factCommonRow.holds Try.pinned (OpenSpec.ofChange factCommonWrong)

/-- 'dulcimerlaw03.FactPhi': WHATEVER THE INPUT: true; the input reads as it did. -/
def factPhiSpec : ChangeSpec := { name := "factPhi", fn := fun _ => fun
  | [d] => { results := [.lit (.bool true)], args := [d] }
  | _ => none }
def factPhiRow : OpenClaim := { program := "ytikfeinhdfjjhaa", sum := "6e63540eafbfddd4bf00da51a2462599ca6b197455d4f09c539cf07af8cdc241", func := "dulcimer/dulcimerlaw03.FactPhi", spec := "factPhi", recurses := true, apart := false }
def FactPhiSaid : Prop := factPhiRow.holds Try.pinned (OpenSpec.ofChange factPhiSpec)

/-- ITS FALSE NEIGHBOUR: 'it returns false'. Refute it at one input. -/
def factPhiWrong : ChangeSpec := { name := "factPhi", fn := fun _ => fun
  | [d] => { results := [.lit (.bool false)], args := [d] }
  | _ => none }
def FactPhiWrongFalsely : Prop := factPhiRow.holds Try.pinned (OpenSpec.ofChange factPhiWrong)

/-- 'dulcimerlaw09.GenTells': WHATEVER THE INPUT: true; the input reads as it did. -/
def genTellsSpec : ChangeSpec := { name := "genTells", fn := fun _ => fun
  | [d] => { results := [.lit (.bool true)], args := [d] }
  | _ => none }
def genTellsRow : OpenClaim := { program := "ytikfeinhdfjjhaa", sum := "6e63540eafbfddd4bf00da51a2462599ca6b197455d4f09c539cf07af8cdc241", func := "dulcimer/dulcimerlaw09.GenTells", spec := "genTells", apart := false }
def GenTellsSaid : Prop := genTellsRow.holds Try.pinned (OpenSpec.ofChange genTellsSpec)

/-- ITS FALSE NEIGHBOUR: 'it returns false'. Refute it at one input. -/
def genTellsWrong : ChangeSpec := { name := "genTells", fn := fun _ => fun
  | [d] => { results := [.lit (.bool false)], args := [d] }
  | _ => none }
def GenTellsWrongFalsely : Prop := genTellsRow.holds Try.pinned (OpenSpec.ofChange genTellsWrong)

/-- 'dulcimerlaw09.GenLogs': WHATEVER THE INPUT: true; the input reads as it did. -/
def genLogsSpec : ChangeSpec := { name := "genLogs", fn := fun _ => fun
  | [d1, d2, d3] => { results := [.lit (.bool true)], args := [d1, d2, d3] }
  | _ => none }
def genLogsRow : OpenClaim := { program := "ytikfeinhdfjjhaa", sum := "6e63540eafbfddd4bf00da51a2462599ca6b197455d4f09c539cf07af8cdc241", func := "dulcimer/dulcimerlaw09.GenLogs", spec := "genLogs", apart := false }
def GenLogsSaid : Prop := genLogsRow.holds Try.pinned (OpenSpec.ofChange genLogsSpec)

/-- ITS FALSE NEIGHBOUR: 'it returns false'. Refute it at one input. -/
def genLogsWrong : ChangeSpec := { name := "genLogs", fn := fun _ => fun
  | [d1, d2, d3] => { results := [.lit (.bool false)], args := [d1, d2, d3] }
  | _ => none }
def GenLogsWrongFalsely : Prop := genLogsRow.holds Try.pinned (OpenSpec.ofChange genLogsWrong)

/-- 'dulcimerlaw09.GenOrders': WHATEVER THE INPUT: true; the input reads as it did. -/
def genOrdersSpec : ChangeSpec := { name := "genOrders", fn := fun _ => fun
  | [d1, d2] => { results := [.lit (.bool true)], args := [d1, d2] }
  | _ => none }
def genOrdersRow : OpenClaim := { program := "ytikfeinhdfjjhaa", sum := "6e63540eafbfddd4bf00da51a2462599ca6b197455d4f09c539cf07af8cdc241", func := "dulcimer/dulcimerlaw09.GenOrders", spec := "genOrders", apart := false }
def GenOrdersSaid : Prop := genOrdersRow.holds Try.pinned (OpenSpec.ofChange genOrdersSpec)

/-- ITS FALSE NEIGHBOUR: 'it returns false'. Refute it at one input. -/
def genOrdersWrong : ChangeSpec := { name := "genOrders", fn := fun _ => fun
  | [d1, d2] => { results := [.lit (.bool false)], args := [d1, d2] }
  | _ => none }
def GenOrdersWrongFalsely : Prop := genOrdersRow.holds Try.pinned (OpenSpec.ofChange genOrdersWrong)

/-- 'dulcimerlaw03.FactDivisors': WHATEVER THE INPUT: true; the input reads as it did. -/
def factDivisorsSpec : ChangeSpec := { name := "factDivisors", fn := fun _ => fun
  | [d] => { results := [.lit (.bool true)], args := [d] }
  | _ => none }
def factDivisorsRow : OpenClaim := { program := "ytikfeinhdfjjhaa", sum := "6e63540eafbfddd4bf00da51a2462599ca6b197455d4f09c539cf07af8cdc241", func := "dulcimer/dulcimerlaw03.FactDivisors", spec := "factDivisors", recurses := true, apart := false }
def FactDivisorsSaid : Prop := factDivisorsRow.holds Try.pinned (OpenSpec.ofChange factDivisorsSpec)

/-- ITS FALSE NEIGHBOUR: 'it returns false'. Refute it at one input. -/
def factDivisorsWrong : ChangeSpec := { name := "factDivisors", fn := fun _ => fun
  | [d] => { results := [.lit (.bool false)], args := [d] }
  | _ => none }
def FactDivisorsWrongFalsely : Prop := factDivisorsRow.holds Try.pinned (OpenSpec.ofChange factDivisorsWrong)

/- THE SECOND FORM. 'bulk': how many values and letters a reading holds, each counted each time it is reached (what is shared counts as often as it is met; a slice's spare places count too). A statement '..UptoSaid' is the law's where the arguments, and the package variables that the reading takes, are together of bulk at most 1048576: NARROWER than '..Said'. Prove '..Said' where nothing that the law and all that it calls make is longer than what came in: it says more and counts as full. Else prove '..UptoSaid'. A law counts once. -/
mutual
def uptoBulk {H : Type} : DataW H → Nat
  | .lit (.string bytes) => bytes.length + 1
  | .lit _ => 1
  | .nil => 1
  | .ptr d => uptoBulk d + 1
  | .slice elems spare => uptoBulkAll elems + uptoBulkAll spare + 1
  | .agg parts => uptoBulkAll parts + 1
  | .iface _ d => uptoBulk d + 1
  | .map entries => uptoBulkEntries entries + 1
  | .held _ => 1
def uptoBulkAll {H : Type} : List (DataW H) → Nat
  | [] => 0
  | d :: r => uptoBulk d + uptoBulkAll r
def uptoBulkEntries {H : Type} : List (Lit × DataW H) → Nat
  | [] => 0
  | x :: r => uptoBulkEntry x + uptoBulkEntries r
def uptoBulkEntry {H : Type} : Lit × DataW H → Nat
  | (.string bytes, d) => bytes.length + uptoBulk d + 1
  | (_, d) => uptoBulk d + 1
 end
def uptoSmall : (H : Type) → List (DataW H) → Bool := fun _ ds => decide (uptoBulkAll ds ≤ 1048576)
def OpenSpec.upto (s : _root_.Go.ChangeSpec) : _root_.Go.OpenSpec := { _root_.Go.OpenSpec.ofChange s with cond := some uptoSmall }

/-- 'dulcimerlaw03.FactTells', WHERE WHAT IT READS IS OF BULK AT MOST 1048576: true; the input reads as it did. -/
def factTellsUptoRow : OpenClaim := { program := "ytikfeinhdfjjhaa", sum := "6e63540eafbfddd4bf00da51a2462599ca6b197455d4f09c539cf07af8cdc241", func := "dulcimer/dulcimerlaw03.FactTells", spec := "factTells", apart := false, narrowed := true }
def FactTellsUptoSaid : Prop := factTellsUptoRow.holds Try.pinned (OpenSpec.upto factTellsSpec)

/-- 'dulcimerlaw03.FactCommon', WHERE WHAT IT READS IS OF BULK AT MOST 1048576: true; the input reads as it did. -/
def factCommonUptoRow : OpenClaim := { program := "ytikfeinhdfjjhaa", sum := "6e63540eafbfddd4bf00da51a2462599ca6b197455d4f09c539cf07af8cdc241", func := "dulcimer/dulcimerlaw03.FactCommon", spec := "factCommon", recurses := true, apart := false, narrowed := true }
def FactCommonUptoSaid : Prop := factCommonUptoRow.holds Try.pinned (OpenSpec.upto factCommonSpec)

/-- 'dulcimerlaw03.FactPhi', WHERE WHAT IT READS IS OF BULK AT MOST 1048576: true; the input reads as it did. -/
def factPhiUptoRow : OpenClaim := { program := "ytikfeinhdfjjhaa", sum := "6e63540eafbfddd4bf00da51a2462599ca6b197455d4f09c539cf07af8cdc241", func := "dulcimer/dulcimerlaw03.FactPhi", spec := "factPhi", recurses := true, apart := false, narrowed := true }
def FactPhiUptoSaid : Prop := factPhiUptoRow.holds Try.pinned (OpenSpec.upto factPhiSpec)

/-- 'dulcimerlaw09.GenTells', WHERE WHAT IT READS IS OF BULK AT MOST 1048576: true; the input reads as it did. -/
def genTellsUptoRow : OpenClaim := { program := "ytikfeinhdfjjhaa", sum := "6e63540eafbfddd4bf00da51a2462599ca6b197455d4f09c539cf07af8cdc241", func := "dulcimer/dulcimerlaw09.GenTells", spec := "genTells", apart := false, narrowed := true }
def GenTellsUptoSaid : Prop := genTellsUptoRow.holds Try.pinned (OpenSpec.upto genTellsSpec)

/-- 'dulcimerlaw09.GenLogs', WHERE WHAT IT READS IS OF BULK AT MOST 1048576: true; the input reads as it did. -/
def genLogsUptoRow : OpenClaim := { program := "ytikfeinhdfjjhaa", sum := "6e63540eafbfddd4bf00da51a2462599ca6b197455d4f09c539cf07af8cdc241", func := "dulcimer/dulcimerlaw09.GenLogs", spec := "genLogs", apart := false, narrowed := true }
def GenLogsUptoSaid : Prop := genLogsUptoRow.holds Try.pinned (OpenSpec.upto genLogsSpec)

/-- 'dulcimerlaw09.GenOrders', WHERE WHAT IT READS IS OF BULK AT MOST 1048576: true; the input reads as it did. -/
def genOrdersUptoRow : OpenClaim := { program := "ytikfeinhdfjjhaa", sum := "6e63540eafbfddd4bf00da51a2462599ca6b197455d4f09c539cf07af8cdc241", func := "dulcimer/dulcimerlaw09.GenOrders", spec := "genOrders", apart := false, narrowed := true }
def GenOrdersUptoSaid : Prop := genOrdersUptoRow.holds Try.pinned (OpenSpec.upto genOrdersSpec)

/-- 'dulcimerlaw03.FactDivisors', WHERE WHAT IT READS IS OF BULK AT MOST 1048576: true; the input reads as it did. -/
def factDivisorsUptoRow : OpenClaim := { program := "ytikfeinhdfjjhaa", sum := "6e63540eafbfddd4bf00da51a2462599ca6b197455d4f09c539cf07af8cdc241", func := "dulcimer/dulcimerlaw03.FactDivisors", spec := "factDivisors", recurses := true, apart := false, narrowed := true }
def FactDivisorsUptoSaid : Prop := factDivisorsUptoRow.holds Try.pinned (OpenSpec.upto factDivisorsSpec)

end Rows
end Go.Proofs.Ytikfeinhdfjjhaa
