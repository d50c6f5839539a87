/- FactCommon, the walk: for all a and b the law answers true. -/
import Derived.Test.YtikfeinhdfjjhaaLive
import Derived.OpenShut
namespace Go.Proofs.Ytikfeinhdfjjhaa
open Go.RowKit
set_option linter.unusedVariables false

theorem gcdZ_bound (a b : Int) (ha : a ≤ 9223372036854775807) (hb : b ≤ 9223372036854775807) : 0 ≤ gcdZ a b ∧ gcdZ a b ≤ 9223372036854775807 := by
  unfold gcdZ
  split
  · omega
  · rename_i h
    obtain ⟨x, rfl⟩ := Int.eq_ofNat_of_zero_le (show 0 ≤ a by omega)
    obtain ⟨y, rfl⟩ := Int.eq_ofNat_of_zero_le (show 0 ≤ b by omega)
    simp only [Int.toNat_natCast]
    refine ⟨by omega, ?_⟩
    rcases Nat.eq_zero_or_pos x with h0 | h0
    · subst h0; simp; omega
    · have := Nat.gcd_le_left y h0; omega
theorem gcdZ_divides (a b : Int) (h : 0 < gcdZ a b) : 0 ≤ a ∧ 0 ≤ b ∧ a % gcdZ a b = 0 ∧ b % gcdZ a b = 0 := by
  have hn : ¬ (a < 0 ∨ b < 0) := by
    intro hn; rw [gcdZ_neg hn] at h; omega
  obtain ⟨x, rfl⟩ := Int.eq_ofNat_of_zero_le (show 0 ≤ a by omega)
  obtain ⟨y, rfl⟩ := Int.eq_ofNat_of_zero_le (show 0 ≤ b by omega)
  rw [gcdZ_nn]
  refine ⟨by omega, by omega, ?_, ?_⟩
  · have := Nat.mod_eq_zero_of_dvd (Nat.gcd_dvd_left x y)
    omega
  · have := Nat.mod_eq_zero_of_dvd (Nat.gcd_dvd_right x y)
    omega

set_option maxHeartbeats 400000 in
theorem common_any (a b : Int) (w : World) (ha : a ≤ 9223372036854775807) (hb : b ≤ 9223372036854775807) :
    Calls Try.prog 4 #[.int .i64 a, .int .i64 b] w fun e w' => e = .returned (.bool true) ∧ New w w' := by
  have G1 := Lib.hid fun W => gcd_any a b W ha hb
  have G2 := Lib.hid fun W => gcdZ_comm b a ▸ gcd_any b a W hb ha
  have G3 := Lib.hid fun W => refgcd_any (a.toNat + b.toNat) a b W ha hb (Nat.le_refl _)
  have hbd := gcdZ_bound a b ha hb
  have hdv := gcdZ_divides a b
  generalize gcdZ a b = g at *
  by_cases hg : 0 < g
  · obtain ⟨d1, d2, d3, d4⟩ := hdv hg
    have e3 : (a % g == 0) = true := by simp [d3]
    have e4 : (b % g == 0) = true := by simp [d4]
    clear hdv d3 d4
    go_enter Try.func4, Try.ntmps4
    go_wp2_with fail
    refine (G1.out _).mono ?_
    rintro e w1 ⟨rfl, n1, rfl⟩
    go_wp2_with fail
    refine (G3.out _).mono ?_
    rintro e w2 ⟨rfl, rfl⟩
    go_wp2_with fail
    refine (G2.out _).mono ?_
    rintro e w2 ⟨rfl, n2, rfl⟩
    go_wp2_with fail
    refine (live_any _).mono ?_
    rintro e w3 ⟨rfl, hn⟩
    go_wp2
    go_ret
    exact ⟨rfl, New.trans ((New.refl w).draws (n1 + n2)) hn⟩
  · clear hdv
    go_enter Try.func4, Try.ntmps4
    go_wp2_with fail
    refine (G1.out _).mono ?_
    rintro e w1 ⟨rfl, n1, rfl⟩
    go_wp2_with fail
    refine (G3.out _).mono ?_
    rintro e w2 ⟨rfl, rfl⟩
    go_wp2_with fail
    refine (G2.out _).mono ?_
    rintro e w2 ⟨rfl, n2, rfl⟩
    go_wp2_with fail
    refine (live_any _).mono ?_
    rintro e w3 ⟨rfl, hn⟩
    go_wp2
    go_ret
    exact ⟨rfl, New.trans ((New.refl w).draws (n1 + n2)) hn⟩

theorem common_walk (a b : Int) (wa : (Lit.int .i64 a).wf = true) (wb : (Lit.int .i64 b).wf = true) (w : World) :
    Calls Try.prog 4 #[.int .i64 a, .int .i64 b] w fun e w' => e = .returned (.bool true) ∧ New w w' := by
  exact common_any a b w (bounds_i64 wa).2 (bounds_i64 wb).2
end Go.Proofs.Ytikfeinhdfjjhaa
