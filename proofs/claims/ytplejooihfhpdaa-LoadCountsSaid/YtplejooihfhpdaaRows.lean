/-
  NARROWER THAN 'FOR EVERY INPUT', by the rows' own cells (each row's printed sentence says how): LoadErrors: loops · LoadCounts: loops.
  DERIVED. THE GIVEN ROWS OF THIS SEAT. 3 by the template 'for every input the law returns true; each argument reads behind the call as it read before'; 0 by the template 'total and deterministic' (their statements: YtplejooihfhpdaaTotals.lean).
  GIVEN WITH THE SEED: the statements are not yours to turn. If you find one false, say at which input.
  Laid BY PROGRAM, IN A SANDBOX (cutbox-rows.mjs): the forced cells as the released guide's own fill.sh prints them over the translation 55b53050ef5cb666… (all of the seat's roots in one cut). By AI agents, Wed Nov 11 2026. No macro, syntax, notation, axiom, sorry.
-/
import Derived.Test.YtplejooihfhpdaaChecked
import GoSem.Claim
import GoSem.ClaimJoined
import GoSem.ClaimMapViews
import Derived.JoinedTies
import Derived.KernelRfl
namespace Go.Proofs.Ytplejooihfhpdaa
/- THE CELL 'sum', in the pinned program and in every row, IS THE sha256 OF THE DUMP (.gsa) THAT YtplejooihfhpdaaProg.lean LOADS. Nothing in Lean hashes anything: it is a label: what it is worth is what the hold of that sum in a sandbox is worth. -/
noncomputable def Try.pinned : Pinned := { name := "ytplejooihfhpdaa", sum := "55b53050ef5cb66697b4b4526fb23332c021ca9f4df6f3e22d29e412f7e7e86d", checked := Try.checked }
namespace Rows
def none {H : Type} : Left H := { results := [], args := [] }

/-- 'dulcimerlaw45.LoadSums': WHATEVER THE INPUT: true; the input reads as it did. -/
def loadSumsSpec : ChangeSpec := { name := "loadSums", fn := fun _ => fun
  | [d] => { results := [.lit (.bool true)], args := [d] }
  | _ => none }
def loadSumsRow : OpenClaim := { program := "ytplejooihfhpdaa", sum := "55b53050ef5cb66697b4b4526fb23332c021ca9f4df6f3e22d29e412f7e7e86d", func := "dulcimer/dulcimerlaw45.LoadSums", spec := "loadSums", unfollowed := true, recurses := true, apart := false }
def LoadSumsSaid : Prop := loadSumsRow.holds Try.pinned (OpenSpec.ofChange loadSumsSpec)

/-- ITS FALSE NEIGHBOUR: 'it returns false'. Refute it at one input. -/
def loadSumsWrong : ChangeSpec := { name := "loadSums", fn := fun _ => fun
  | [d] => { results := [.lit (.bool false)], args := [d] }
  | _ => none }
def LoadSumsWrongFalsely : Prop := loadSumsRow.holds Try.pinned (OpenSpec.ofChange loadSumsWrong)

/-- 'dulcimerlaw45.LoadErrors': WHATEVER THE INPUT: true; the input reads as it did. -/
def loadErrorsSpec : ChangeSpec := { name := "loadErrors", fn := fun _ => fun
  | [d1, d2] => { results := [.lit (.bool true)], args := [d1, d2] }
  | _ => none }
def loadErrorsRow : OpenClaim := { program := "ytplejooihfhpdaa", sum := "55b53050ef5cb66697b4b4526fb23332c021ca9f4df6f3e22d29e412f7e7e86d", func := "dulcimer/dulcimerlaw45.LoadErrors", spec := "loadErrors", unfollowed := true, recurses := true, loops := true, apart := false }
def LoadErrorsSaid : Prop := loadErrorsRow.holds Try.pinned (OpenSpec.ofChange loadErrorsSpec)

/-- ITS FALSE NEIGHBOUR: 'it returns false'. Refute it at one input. -/
def loadErrorsWrong : ChangeSpec := { name := "loadErrors", fn := fun _ => fun
  | [d1, d2] => { results := [.lit (.bool false)], args := [d1, d2] }
  | _ => none }
def LoadErrorsWrongFalsely : Prop := loadErrorsRow.holds Try.pinned (OpenSpec.ofChange loadErrorsWrong)

/-- 'dulcimerlaw45.LoadCounts': WHATEVER THE INPUT: true; the input reads as it did. -/
def loadCountsSpec : ChangeSpec := { name := "loadCounts", fn := fun _ => fun
  | [d] => { results := [.lit (.bool true)], args := [d] }
  | _ => none }
def loadCountsRow : OpenClaim := { program := "ytplejooihfhpdaa", sum := "55b53050ef5cb66697b4b4526fb23332c021ca9f4df6f3e22d29e412f7e7e86d", func := "dulcimer/dulcimerlaw45.LoadCounts", spec := "loadCounts", unfollowed := true, recurses := true, loops := true, apart := false }
def LoadCountsSaid : Prop := loadCountsRow.holds Try.pinned (OpenSpec.ofChange loadCountsSpec)

/-- ITS FALSE NEIGHBOUR: 'it returns false'. Refute it at one input. -/
def loadCountsWrong : ChangeSpec := { name := "loadCounts", fn := fun _ => fun
  | [d] => { results := [.lit (.bool false)], args := [d] }
  | _ => none }
def LoadCountsWrongFalsely : Prop := loadCountsRow.holds Try.pinned (OpenSpec.ofChange loadCountsWrong)

/- THE SECOND FORM. 'bulk': how many values and letters a reading holds, each counted each time it is reached (what is shared counts as often as it is met; a slice's spare places count too). A statement '..UptoSaid' is the law's where the arguments, and the package variables that the reading takes, are together of bulk at most 1048576: NARROWER than '..Said'. Prove '..Said' where nothing that the law and all that it calls make is longer than what came in: it says more and counts as full. Else prove '..UptoSaid'. A law counts once. -/
mutual
def uptoBulk {H : Type} : DataW H → Nat
  | .lit (.string bytes) => bytes.length + 1
  | .lit _ => 1
  | .nil => 1
  | .ptr d => uptoBulk d + 1
  | .slice elems spare => uptoBulkAll elems + uptoBulkAll spare + 1
  | .agg parts => uptoBulkAll parts + 1
  | .iface _ d => uptoBulk d + 1
  | .map entries => uptoBulkEntries entries + 1
  | .held _ => 1
def uptoBulkAll {H : Type} : List (DataW H) → Nat
  | [] => 0
  | d :: r => uptoBulk d + uptoBulkAll r
def uptoBulkEntries {H : Type} : List (Lit × DataW H) → Nat
  | [] => 0
  | x :: r => uptoBulkEntry x + uptoBulkEntries r
def uptoBulkEntry {H : Type} : Lit × DataW H → Nat
  | (.string bytes, d) => bytes.length + uptoBulk d + 1
  | (_, d) => uptoBulk d + 1
 end
def uptoSmall : (H : Type) → List (DataW H) → Bool := fun _ ds => decide (uptoBulkAll ds ≤ 1048576)
def OpenSpec.upto (s : _root_.Go.ChangeSpec) : _root_.Go.OpenSpec := { _root_.Go.OpenSpec.ofChange s with cond := some uptoSmall }

/-- 'dulcimerlaw45.LoadSums', WHERE WHAT IT READS IS OF BULK AT MOST 1048576: true; the input reads as it did. -/
def loadSumsUptoRow : OpenClaim := { program := "ytplejooihfhpdaa", sum := "55b53050ef5cb66697b4b4526fb23332c021ca9f4df6f3e22d29e412f7e7e86d", func := "dulcimer/dulcimerlaw45.LoadSums", spec := "loadSums", unfollowed := true, recurses := true, apart := false, narrowed := true }
def LoadSumsUptoSaid : Prop := loadSumsUptoRow.holds Try.pinned (OpenSpec.upto loadSumsSpec)

/-- 'dulcimerlaw45.LoadErrors', WHERE WHAT IT READS IS OF BULK AT MOST 1048576: true; the input reads as it did. -/
def loadErrorsUptoRow : OpenClaim := { program := "ytplejooihfhpdaa", sum := "55b53050ef5cb66697b4b4526fb23332c021ca9f4df6f3e22d29e412f7e7e86d", func := "dulcimer/dulcimerlaw45.LoadErrors", spec := "loadErrors", unfollowed := true, recurses := true, loops := true, apart := false, narrowed := true }
def LoadErrorsUptoSaid : Prop := loadErrorsUptoRow.holds Try.pinned (OpenSpec.upto loadErrorsSpec)

/-- 'dulcimerlaw45.LoadCounts', WHERE WHAT IT READS IS OF BULK AT MOST 1048576: true; the input reads as it did. -/
def loadCountsUptoRow : OpenClaim := { program := "ytplejooihfhpdaa", sum := "55b53050ef5cb66697b4b4526fb23332c021ca9f4df6f3e22d29e412f7e7e86d", func := "dulcimer/dulcimerlaw45.LoadCounts", spec := "loadCounts", unfollowed := true, recurses := true, loops := true, apart := false, narrowed := true }
def LoadCountsUptoSaid : Prop := loadCountsUptoRow.holds Try.pinned (OpenSpec.upto loadCountsSpec)

end Rows
end Go.Proofs.Ytplejooihfhpdaa
