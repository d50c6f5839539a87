import Derived.Test.YtikfeinhdfjjhaaProg
import Derived.WalkKit
import Derived.WalkSpells
import Derived.WalkLawsBesides
import Derived.BigQuiet
import Derived.Deep.QuietTactic
import Derived.Lib.Hide
namespace Go.Proofs.Ytikfeinhdfjjhaa
set_option linter.unusedVariables false
open Go.RowKit

/-- what both Gcds answer -/
def gcdZ (a b : Int) : Int := if a < 0 ∨ b < 0 then 0 else (Nat.gcd a.toNat b.toNat : Nat)

theorem gcdZ_neg {a b : Int} (h : a < 0 ∨ b < 0) : gcdZ a b = 0 := by unfold gcdZ; rw [if_pos h]
theorem gcdZ_nn {a b : Nat} : gcdZ a b = (Nat.gcd a b : Nat) := by unfold gcdZ; rw [if_neg (by omega)]; simp
theorem gcdZ_comm (a b : Int) : gcdZ a b = gcdZ b a := by unfold gcdZ; simp only [Nat.gcd_comm, Or.comm]

set_option maxHeartbeats 400000 in
theorem gcd_any (a b : Int) (w : World) (ha9 : a ≤ 9223372036854775807) (hb9 : b ≤ 9223372036854775807) :
    Calls Try.prog 17 #[.int .i64 a, .int .i64 b] w fun e w' => e = .returned (.int .i64 (gcdZ a b)) ∧ ∃ n, w' = w.drewN n := by
  by_cases ha : a < 0
  · have H := Lib.hid (gcdZ_neg (a := a) (b := b) (.inl ha))
    go_enter Try.func17, Try.ntmps17
    go_wp2
    go_ret
    exact ⟨by rw [H.out]; rfl, 0, rfl⟩
  by_cases hb : b < 0
  · have H := Lib.hid (gcdZ_neg (a := a) (b := b) (.inr hb))
    go_enter Try.func17, Try.ntmps17
    go_wp2
    go_ret
    exact ⟨by rw [H.out]; rfl, 0, rfl⟩
  obtain ⟨x, rfl⟩ := Int.eq_ofNat_of_zero_le (show 0 ≤ a by omega)
  obtain ⟨y, rfl⟩ := Int.eq_ofNat_of_zero_le (show 0 ≤ b by omega)
  have H := Lib.hid (gcdZ_nn (a := x) (b := y))
  go_enter Try.func17, Try.ntmps17
  go_wp2
  go_loopw [0, 1] (fun a b wr => ∃ i j : Nat, a = .int .i64 i ∧ b = .int .i64 j ∧ i ≤ 9223372036854775807 ∧ j ≤ 9223372036854775807 ∧ Hid (Nat.gcd i j = Nat.gcd x y) ∧ ∃ n, wr = w.drewN n) (fun _ b _ => (intOf b).toNat)
  case atStart => exact ⟨x, y, rfl, rfl, by omega, by omega, rfl, 0, rfl⟩
  case round =>
    obtain ⟨i, j, rfl, rfl, hi, hj, hg, n, rfl⟩ := hrel
    by_cases hj0 : j = 0
    · subst hj0
      have H2 : Hid (i = Nat.gcd x y) := by have := hg.out; simpa [Hid] using this
      clear hg
      go_wp2
      go_ret
      exact ⟨by rw [H.out, ← H2.out]; rfl, n, rfl⟩
    · have hb : ((j : Int) == 0) = false := by simpa using hj0
      have hb' : ((j : Int) != 0) = true := by simpa using hj0
      have hm : i % j ≤ 9223372036854775807 := by have := Nat.mod_lt i (show 0 < j by omega); omega
      have hlt : i % j < j := Nat.mod_lt i (by omega)
      have H2 : Hid (Nat.gcd j (i % j) = Nat.gcd x y) := by
        have := hg.out; show _ = _; rw [← this, Nat.gcd_comm j, ← Nat.gcd_rec, Nat.gcd_comm]
      clear hg
      go_wp2
      go_quiet (fail)
      go_wp2
      go_roundw
      case rel => exact ⟨j, i % j, rfl, by simp, hj, hm, H2, _, World.drewN_drewN _ _ _⟩
      case measure => simp [intOf]; omega
end Go.Proofs.Ytikfeinhdfjjhaa
