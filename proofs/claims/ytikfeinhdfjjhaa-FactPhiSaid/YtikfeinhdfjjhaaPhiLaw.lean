/- FactPhi, the walk: for all n the law answers true. -/
import Derived.Test.YtikfeinhdfjjhaaLive
import Derived.Test.YtikfeinhdfjjhaaPhi
import Derived.OpenShut
namespace Go.Proofs.Ytikfeinhdfjjhaa
open Go.RowKit
set_option linter.unusedVariables false

set_option maxHeartbeats 400000 in
theorem philaw_no (n : Int) (w : World) (h : ¬ (1 ≤ n ∧ n ≤ 16777216)) :
    Calls Try.prog 5 #[.int .i64 n] w fun e w' => e = .returned (.bool true) ∧ New w w' := by
  have HF := Lib.hid fun W => phi_no n W h
  have HP := Lib.hid fun W => above_no n W h
  have HI : Hid (∀ W, Calls Try.prog 13 #[.int .i64 n] W fun e w' => e = .returned (.bool false) ∧ W = w') := fun W => by
    have := is_any n W
    rwa [decide_eq_false h] at this
  clear h
  go_enter Try.func5, Try.ntmps5
  go_wp2_with fail
  refine (HF.out _).mono ?_
  rintro e w1 ⟨rfl, rfl⟩
  go_wp2_with fail
  refine (HP.out _).mono ?_
  rintro e w1 ⟨rfl, rfl⟩
  go_wp2_with fail
  refine (HI.out _).mono ?_
  rintro e w2 ⟨rfl, rfl⟩
  go_wp2_with fail
  refine (live_any _).mono ?_
  rintro e w3 ⟨rfl, hn⟩
  go_wp2
  go_ret
  exact ⟨rfl, hn⟩

set_option maxHeartbeats 1000000 in
theorem philaw_yes (n : Nat) (w : World) (h1 : 1 ≤ n) (h2 : n ≤ 16777216) :
    Calls Try.prog 5 #[.int .i64 n] w fun e w' => e = .returned (.bool true) ∧ New w w' := by
  have HF := Lib.hid fun W => phi_yes n W h1 h2
  have HP := Lib.hid fun W => above_yes n W h1 h2
  have HQ := Lib.hid fun W => refabove_any n W h1 h2
  have HI : Hid (∀ W, Calls Try.prog 13 #[.int .i64 n] W fun e w' => e = .returned (.bool true) ∧ W = w') := fun W => by
    have := is_any n W
    rwa [decide_eq_true (by omega)] at this
  have HG : Hid (∀ (i : Nat) W, i ≤ n → Calls Try.prog 18 #[.int .i64 i, .int .i64 n] W fun e w' => e = .returned (.int .i64 (Nat.gcd i n : Nat)) ∧ W = w') := fun i W hi => by
    have := refgcd_any (i + n) i n W (by omega) (by omega) (by omega)
    rwa [gcdZ_nn] at this
  have HC := Lib.hid (phi_cnt (facs_spec h1 h2) h1 h2)
  have HB := Lib.hid fun (h : 2 ≤ n) => phi_pos (facs_spec h1 h2) h h2
  have hvle : Hid (abv n ≤ 16777216) := (abv_small h1 h2).2
  generalize phi (facs n) n = k at *
  generalize abv n = v at *
  by_cases h5 : 5000 < n
  · obtain ⟨b1, b2⟩ := HB.out (by omega)
    clear HB HC HG
    go_enter Try.func5, Try.ntmps5
    go_wp2_with fail
    refine (HF.out _).mono ?_
    rintro e w1 ⟨rfl, hn1⟩
    go_wp2_with fail
    refine (HP.out _).mono ?_
    rintro e w2 ⟨rfl, rfl⟩
    go_wp2_with fail
    refine (HI.out _).mono ?_
    rintro e w2 ⟨rfl, rfl⟩
    go_wp2_with fail
    refine (HQ.out _).mono ?_
    rintro e w2 ⟨rfl, rfl⟩
    go_wp2_with fail
    refine (live_any _).mono ?_
    rintro e w3 ⟨rfl, hn⟩
    go_wp2
    go_ret
    exact ⟨rfl, hn1.trans hn⟩
  · clear HB
    go_enter Try.func5, Try.ntmps5
    go_wp2_with fail
    refine (HF.out _).mono ?_
    rintro e w1 ⟨rfl, hn1⟩
    go_wp2_with fail
    refine (HP.out _).mono ?_
    rintro e w2 ⟨rfl, rfl⟩
    go_wp2_with fail
    refine (HI.out _).mono ?_
    rintro e w2 ⟨rfl, rfl⟩
    go_wp2_with fail
    refine (HQ.out _).mono ?_
    rintro e w2 ⟨rfl, rfl⟩
    go_wp2_with fail
    go_loopg [7, 8] n (fun g m i wr => ∃ j c : Nat, i = .int .i64 ((j : Int) + 1) ∧ m = .int .i64 c ∧ j ≤ n ∧ n ≤ g + j ∧ c ≤ j ∧ Hid (c = cnt (fun i => Nat.gcd i n == 1) j) ∧ w1 = wr)
    case atStart => exact ⟨0, 0, rfl, rfl, by omega, by omega, by omega, rfl, rfl⟩
    case round =>
      obtain ⟨j, c, rfl, rfl, hj, hg, hc, HJ, rfl⟩ := hrel
      by_cases hjn : j < n
      · have hjn' : (j : Int) + 1 ≤ (n : Int) := by omega
        have HG1 := HG.out (j + 1)
        have HG2 : Hid (∀ W, Calls Try.prog 18 #[.int .i64 ((j : Int) + 1), .int .i64 n] W fun e w' => e = .returned (.int .i64 (Nat.gcd (j + 1) n : Nat)) ∧ W = w') := fun W => HG.out (j + 1) W (by omega)
        clear HG1
        have HJ2 : Hid (c + (Nat.gcd (j + 1) n == 1).toNat = cnt (fun i => Nat.gcd i n == 1) (j + 1)) := by
          show _ = _
          rw [HJ.out]; rfl
        generalize Nat.gcd (j + 1) n = q at *
        clear HJ
        by_cases hq : q = 1
        · subst hq
          go_wp2_with fail
          refine (HG2.out _).mono ?_
          rintro e w4 ⟨rfl, rfl⟩
          go_wp2
          go_roundg (gk - 1)
          case rel => exact ⟨j + 1, c + 1, by simp, by simp, by omega, by omega, by omega, HJ2, rfl⟩
          case measure => omega
        · have hq' : ((q : Int) == 1) = false := by simp; omega
          have HJ3 : Hid (c = cnt (fun i => Nat.gcd i n == 1) (j + 1)) := by
            have := HJ2.out
            rw [show (q == 1) = false by simpa using hq] at this
            show _ = _
            simpa using this
          go_wp2_with fail
          refine (HG2.out _).mono ?_
          rintro e w4 ⟨rfl, rfl⟩
          go_wp2
          go_roundg (gk - 1)
          case rel => exact ⟨j + 1, c, by simp, rfl, by omega, by omega, by omega, HJ3, rfl⟩
          case measure => omega
      · have hje : j = n := by omega
        have HE : Hid (c = k) := by rw [HJ.out, hje, ← HC.out]; rfl
        clear hje
        rw [HE.out]
        go_wp2_with fail
        refine (live_any _).mono ?_
        rintro e w3 ⟨rfl, hn⟩
        go_wp2
        go_ret
        exact ⟨rfl, hn1.trans hn⟩

theorem phi_walk (a : Int) (wa : (Lit.int .i64 a).wf = true) (w : World) :
    Calls Try.prog 5 #[.int .i64 a] w fun e w' => e = .returned (.bool true) ∧ New w w' := by
  by_cases h : 1 ≤ a ∧ a ≤ 16777216
  · obtain ⟨n, rfl⟩ := Int.eq_ofNat_of_zero_le (show 0 ≤ a by omega)
    exact philaw_yes n w (by omega) (by omega)
  · exact philaw_no a w h
end Go.Proofs.Ytikfeinhdfjjhaa
