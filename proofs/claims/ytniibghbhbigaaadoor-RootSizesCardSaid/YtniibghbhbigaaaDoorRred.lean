/- Contract: of the reference Red. -/
import Derived.Test.YtniibghbhbigaaaDoorGold
namespace Go.Proofs.YtniibghbhbigaaaDoor
open Go.RowKit
set_option linter.unusedVariables false

theorem refred_any (a : Nat) (w : World) (ha : a < 18446744073709551616) :
    Calls Tryd.prog 6 #[.int .u64 a] w fun e w' => e = .returned (.int .u64 (redP a)) ∧ w = w' := by
  obtain ⟨r, hr⟩ : ∃ r : Nat, r = redP a := ⟨_, rfl⟩
  rw [← hr]
  have e : (a : Int) % 18446744069414584321 = (r : Int) := by rw [hr]; unfold redP PP; omega
  clear hr ha
  go_enter Tryd.func6, Tryd.ntmps6
  have E := Lib.hid e
  clear e
  go_wp2
  go_ret
  refine ⟨?_, rfl⟩
  show Ending.returned (.int .u64 ((a : Int) % 18446744069414584321)) = _
  rw [E.out]

end Go.Proofs.YtniibghbhbigaaaDoor
