/- The page's example (live of dulcimerlaw03): it answers true. And the contracts of the reference's Is and Gcd. -/
import Derived.Test.YtikfeinhdfjjhaaFac
import Derived.Test.YtikfeinhdfjjhaaGcd
namespace Go.Proofs.Ytikfeinhdfjjhaa
open Go.RowKit
set_option linter.unusedVariables false

set_option maxHeartbeats 400000 in
theorem live_any (w : World) : Calls Try.prog 14 #[] w fun e w' => e = .returned (.bool true) ∧ New w w' := by
  have h12 := facs12
  have H := factors_yes 12 w (by omega) (by omega)
  rw [facs12] at H
  have H' := Lib.hid H
  clear H h12
  go_enter Try.func14, Try.ntmps14
  go_wp2_with fail
  refine H'.out.mono ?_
  rintro e w1 ⟨v, rfl, hown, hnew⟩
  obtain ⟨ad, cap, rfl, hcap, hrow⟩ := own_slice hown
  obtain ⟨g, rfl, hg1, hg2, hcell⟩ := hrow (by simp)
  have c0 : w1.cell? ⟨g, 0, none⟩ = some (.int .i64 2) := hcell 0 (by simp)
  have c1 : w1.cell? ⟨g, 1, none⟩ = some (.int .i64 2) := hcell 1 (by simp)
  have c2 : w1.cell? ⟨g, 2, none⟩ = some (.int .i64 3) := hcell 2 (by simp)
  have c3 : w1.cell? ⟨g, 3, none⟩ = some (.int .i64 1) := hcell 3 (by simp)
  clear hcell hrow hown H'
  go_wp2
  go_ret
  exact ⟨rfl, hnew⟩

set_option maxHeartbeats 400000 in
theorem is_any (n : Int) (w : World) :
    Calls Try.prog 13 #[.int .i64 n] w fun e w' => e = .returned (.bool (decide (1 ≤ n ∧ n ≤ 16777216))) ∧ w = w' := by
  by_cases h1 : 1 ≤ n
  · by_cases h2 : n ≤ 16777216
    · go_enter Try.func13, Try.ntmps13
      go_wp2
      go_ret
      exact ⟨by simp [h1, h2], rfl⟩
    · go_enter Try.func13, Try.ntmps13
      go_wp2
      go_ret
      exact ⟨by simp [h2], rfl⟩
  · go_enter Try.func13, Try.ntmps13
    go_wp2
    go_ret
    exact ⟨by simp; omega, rfl⟩

theorem gcdZ_zero_left (b : Int) (h : 0 ≤ b) : gcdZ 0 b = b := by
  unfold gcdZ; rw [if_neg (by omega)]; simp; omega
theorem gcdZ_zero_right (a : Int) (h : 0 ≤ a) : gcdZ a 0 = a := by rw [gcdZ_comm]; exact gcdZ_zero_left a h
theorem gcdZ_step (a b : Int) (ha : 0 ≤ a) (hb : 0 ≤ b) : gcdZ (a % b) b = gcdZ a b := by
  obtain ⟨x, rfl⟩ := Int.eq_ofNat_of_zero_le ha
  obtain ⟨y, rfl⟩ := Int.eq_ofNat_of_zero_le hb
  rw [show ((x : Int) % (y : Int)) = ((x % y : Nat) : Int) by simp, gcdZ_nn, gcdZ_nn, ← Nat.gcd_rec, Nat.gcd_comm]

/-- the reference's Gcd -/
theorem refgcd_any (k : Nat) : ∀ (a b : Int) (w : World), a ≤ 9223372036854775807 → b ≤ 9223372036854775807 → a.toNat + b.toNat ≤ k →
    Calls Try.prog 18 #[.int .i64 a, .int .i64 b] w fun e w' => e = .returned (.int .i64 (gcdZ a b)) ∧ w = w' := by
  induction k with
  | zero =>
    intro a b w ha hb hk
    by_cases h1 : a < 0
    · have H := Lib.hid (gcdZ_neg (a := a) (b := b) (.inl h1))
      go_enter Try.func18, Try.ntmps18
      go_wp2_with fail
      go_ret
      exact ⟨by rw [H.out]; rfl, rfl⟩
    · by_cases h2 : b < 0
      · have H := Lib.hid (gcdZ_neg (a := a) (b := b) (.inr h2))
        go_enter Try.func18, Try.ntmps18
        go_wp2_with fail
        go_ret
        exact ⟨by rw [H.out]; rfl, rfl⟩
      · obtain rfl : a = 0 := by omega
        obtain rfl : b = 0 := by omega
        go_enter Try.func18, Try.ntmps18
        go_wp2_with fail
        go_ret
        exact ⟨rfl, rfl⟩
  | succ k ih =>
    intro a b w ha hb hk
    have IH := Lib.hid ih
    clear ih
    by_cases h1 : a < 0
    · have H := Lib.hid (gcdZ_neg (a := a) (b := b) (.inl h1))
      go_enter Try.func18, Try.ntmps18
      go_wp2_with fail
      go_ret
      exact ⟨by rw [H.out]; rfl, rfl⟩
    by_cases h2 : b < 0
    · have H := Lib.hid (gcdZ_neg (a := a) (b := b) (.inr h2))
      go_enter Try.func18, Try.ntmps18
      go_wp2_with fail
      go_ret
      exact ⟨by rw [H.out]; rfl, rfl⟩
    by_cases h3 : a = 0
    · subst h3
      have H := Lib.hid (gcdZ_zero_left b (by omega))
      go_enter Try.func18, Try.ntmps18
      go_wp2_with fail
      go_ret
      exact ⟨by rw [H.out]; rfl, rfl⟩
    by_cases h4 : b = 0
    · subst h4
      have H := Lib.hid (gcdZ_zero_right a (by omega))
      go_enter Try.func18, Try.ntmps18
      go_wp2_with fail
      go_ret
      exact ⟨by rw [H.out]; rfl, rfl⟩
    have h3' : (a == 0) = false := by simpa using h3
    have h4' : (b == 0) = false := by simpa using h4
    by_cases h5 : a < b
    · have H := Lib.hid ((gcdZ_step b a (by omega) (by omega)).trans (gcdZ_comm b a))
      have m1 := Int.emod_lt_of_pos b (show 0 < a by omega)
      have m2 := Int.emod_nonneg b (show a ≠ 0 by omega)
      go_enter Try.func18, Try.ntmps18
      go_wp2_with fail
      refine (IH.out _ _ _ (by omega) (by omega) (by omega)).mono ?_
      rintro e w' ⟨rfl, rfl⟩
      rw [H.out]
      go_wp2
      go_ret
      exact ⟨rfl, rfl⟩
    · have H := Lib.hid (gcdZ_step a b (by omega) (by omega))
      have m1 := Int.emod_lt_of_pos a (show 0 < b by omega)
      have m2 := Int.emod_nonneg a (show b ≠ 0 by omega)
      go_enter Try.func18, Try.ntmps18
      go_wp2_with fail
      refine (IH.out _ _ _ (by omega) (by omega) (by omega)).mono ?_
      rintro e w' ⟨rfl, rfl⟩
      rw [H.out]
      go_wp2
      go_ret
      exact ⟨rfl, rfl⟩
end Go.Proofs.Ytikfeinhdfjjhaa
