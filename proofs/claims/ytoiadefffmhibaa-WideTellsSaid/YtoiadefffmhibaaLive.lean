/- live of the wide statements. -/
import Derived.Test.YtoiadefffmhibaaLeft
namespace Go.Proofs.Ytoiadefffmhibaa
open Go.RowKit
set_option linter.unusedVariables false

theorem live_any (w : World) : Calls Try.prog 11 #[] w fun e w' => e = .returned (.bool true) ∧ New w w' := by
  have HM := Lib.hid (fun w => wmul_any 1099511627776 1099511627776 (by decide) (by decide) w)
  have HL := Lib.hid (fun w => wlen_any 65536 0 (by decide) (by decide) w)
  rw [show (1099511627776 * 1099511627776 / 18446744073709551616 : Nat) = 65536 by decide, show (1099511627776 * 1099511627776 % 18446744073709551616 : Nat) = 0 by decide] at HM
  rw [if_pos (by decide), show Lib.bitLen 65536 = 17 by decide] at HL
  go_enter Try.func11, Try.ntmps11
  go_wp2_with fail
  refine (HM.out _).mono ?_
  rintro e w1 ⟨rfl, n1⟩
  go_wp2_with fail
  refine (HL.out _).mono ?_
  rintro e w2 ⟨rfl, n2⟩
  have N2 : New w w2 := (n1.alloc _).trans n2
  go_wp2_with fail
  exact bodyPost_ret (v := .bool true) (by simp [results, Try.results11, go_sem]) rfl ⟨rfl, N2⟩
end Go.Proofs.Ytoiadefffmhibaa
