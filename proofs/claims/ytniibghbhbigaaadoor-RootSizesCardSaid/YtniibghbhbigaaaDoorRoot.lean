/- Contracts of the layer root: Has, Root, Back, and of its reference; the page's example. -/
import Derived.Test.YtniibghbhbigaaaDoorRootn
namespace Go.Proofs.YtniibghbhbigaaaDoor
open Go.RowKit
set_option linter.unusedVariables false

theorem mod_test (n : Nat) : (((18446744069414584320 : Int) % (n : Int)) == 0) = (PM % n == 0) := by
  have e : (18446744069414584320 : Int) % (n : Int) = ((PM % n : Nat) : Int) := by rw [Int.natCast_emod]; rfl
  rw [e, Bool.eq_iff_iff]; simp; omega

set_option maxHeartbeats 400000 in
theorem has_any (n : Int) (w : World) : Calls Tryd.prog 15 #[.int .i64 n] w fun e w' => e = .returned (.bool (hasB n)) ∧ w = w' := by
  by_cases h1 : 1 ≤ n
  · by_cases h2 : n ≤ 16777216
    · obtain ⟨k, rfl⟩ := Int.eq_ofNat_of_zero_le (show 0 ≤ n by omega)
      rw [hasB_in (by omega) (by omega), ← mod_test]
      go_enter Tryd.func15, Tryd.ntmps15
      go_wp2
      go_ret
      exact ⟨rfl, rfl⟩
    · rw [hasB_out (by omega)]
      have h2' : decide (n ≤ 16777216) = false := by simpa using h2
      go_enter Tryd.func15, Tryd.ntmps15
      go_wp2
      go_ret
      exact ⟨rfl, rfl⟩
  · rw [hasB_out (by omega)]
    have h1' : decide (1 ≤ n) = false := by simpa using h1
    go_enter Tryd.func15, Tryd.ntmps15
    go_wp2
    go_ret
    exact ⟨rfl, rfl⟩
set_option maxHeartbeats 400000 in
theorem refhas_any (n : Int) (w : World) : Calls Tryd.prog 10 #[.int .i64 n] w fun e w' => e = .returned (.bool (hasB n)) ∧ w = w' := by
  by_cases h1 : 1 ≤ n
  · by_cases h2 : n ≤ 16777216
    · obtain ⟨k, rfl⟩ := Int.eq_ofNat_of_zero_le (show 0 ≤ n by omega)
      rw [hasB_in (by omega) (by omega), ← mod_test]
      go_enter Tryd.func10, Tryd.ntmps10
      go_wp2
      go_ret
      exact ⟨rfl, rfl⟩
    · rw [hasB_out (by omega)]
      have h2' : decide (n ≤ 16777216) = false := by simpa using h2
      go_enter Tryd.func10, Tryd.ntmps10
      go_wp2
      go_ret
      exact ⟨rfl, rfl⟩
  · rw [hasB_out (by omega)]
    have h1' : decide (1 ≤ n) = false := by simpa using h1
    go_enter Tryd.func10, Tryd.ntmps10
    go_wp2
    go_ret
    exact ⟨rfl, rfl⟩

theorem quo_fact (n : Nat) : (18446744069414584320 : Int) / (n : Int) = ((PM / n : Nat) : Int) := by rw [Int.natCast_ediv]; rfl

set_option maxHeartbeats 400000 in
theorem root_yes (n : Nat) (w : World) (h1 : 1 ≤ n) (h2 : n ≤ 16777216) (h3 : PM % n = 0) :
    Calls Tryd.prog 14 #[.int .i64 n] w fun e w' => e = .returned (.tuple #[.int .u64 (rootP n), .int .i64 0]) ∧ w = w' := by
  have HB : Hid (∀ W, Calls Tryd.prog 15 #[.int .i64 n] W fun e w' => e = .returned (.bool true) ∧ W = w') := fun W => by
    have := has_any n W
    rwa [hasB_in h1 h2, h3] at this
  have HP : Hid (∀ W, Calls Tryd.prog 13 #[.int .u64 7, .int .u64 ((18446744069414584320 : Int) / (n : Int))] W fun e w' => e = .returned (.int .u64 (rootP n)) ∧ W = w') := fun W => by
    rw [quo_fact]
    refine pow_any 7 (PM / n) W (by omega) ?_
    have := Nat.div_le_self PM n
    unfold PM at this ⊢
    omega
  generalize rootP n = r at *
  clear h3
  go_enter Tryd.func14, Tryd.ntmps14
  go_wp2_with fail
  refine (HB.out _).mono ?_
  rintro e w1 ⟨rfl, rfl⟩
  go_wp2_with fail
  refine (HP.out _).mono ?_
  rintro e w1 ⟨rfl, rfl⟩
  go_wp2
  go_ret2
  exact ⟨rfl, rfl⟩

set_option maxHeartbeats 400000 in
theorem root_no (n : Int) (w : World) (h : hasB n = false) :
    Calls Tryd.prog 14 #[.int .i64 n] w fun e w' => e = .returned (.tuple #[.int .u64 0, .int .i64 4]) ∧ w = w' := by
  have HB : Hid (∀ W, Calls Tryd.prog 15 #[.int .i64 n] W fun e w' => e = .returned (.bool false) ∧ W = w') := fun W => by
    have := has_any n W
    rwa [h] at this
  clear h
  go_enter Tryd.func14, Tryd.ntmps14
  go_wp2_with fail
  refine (HB.out _).mono ?_
  rintro e w1 ⟨rfl, rfl⟩
  go_wp2
  go_ret2
  exact ⟨rfl, rfl⟩

theorem live_any (w : World) : Calls Tryd.prog 7 #[] w fun e w' => e = .returned (.bool true) ∧ w = w' := by
  have R2 : Hid (∀ W, Calls Tryd.prog 14 #[.int .i64 2] W fun e w' => e = .returned (.tuple #[.int .u64 18446744069414584320, .int .i64 0]) ∧ W = w') := fun W => by
    have := root_yes 2 W (by decide) (by decide) (by decide)
    rwa [show rootP 2 = 18446744069414584320 from seven_2] at this
  have R4 : Hid (∀ W, Calls Tryd.prog 14 #[.int .i64 4] W fun e w' => e = .returned (.tuple #[.int .u64 281474976710656, .int .i64 0]) ∧ W = w') := fun W => by
    have := root_yes 4 W (by decide) (by decide) (by decide)
    rwa [show rootP 4 = 281474976710656 from seven_4] at this
  have H12 : Hid (∀ W, Calls Tryd.prog 15 #[.int .i64 12] W fun e w' => e = .returned (.bool true) ∧ W = w') := fun W => by
    have := has_any 12 W
    rwa [show hasB 12 = true by decide] at this
  go_enter Tryd.func7, Tryd.ntmps7
  go_wp2_with fail
  refine (R2.out _).mono ?_
  rintro e w1 ⟨rfl, rfl⟩
  go_wp2_with fail
  refine (R4.out _).mono ?_
  rintro e w1 ⟨rfl, rfl⟩
  go_wp2_with fail
  refine (H12.out _).mono ?_
  rintro e w1 ⟨rfl, rfl⟩
  go_wp2
  go_ret
  exact ⟨rfl, rfl⟩

end Go.Proofs.YtniibghbhbigaaaDoor
