/- RootParts, the walk: for all n and d the law answers true. -/
import Derived.Test.YtniibghbhbigaaaRoot
import Derived.OpenShut
namespace Go.Proofs.Ytniibghbhbigaaa
open Go.RowKit
set_option linter.unusedVariables false

set_option maxHeartbeats 400000 in
theorem parts_any (n d : Int) (w : World) (hd9 : d ≤ 9223372036854775807) (hd8 : -9223372036854775808 ≤ d) :
    Calls Try.prog 3 #[.int .i64 n, .int .i64 d] w fun e w' => e = .returned (.bool true) ∧ New w w' := by
  have HB := Lib.hid fun W => refhas_any n W
  have LV := Lib.hid fun W => live_any W
  by_cases hh : hasB n = true
  · have hin : 1 ≤ n ∧ n ≤ 16777216 := by
      apply Classical.byContradiction; intro h; rw [hasB_out h] at hh; cases hh
    obtain ⟨k, rfl⟩ := Int.eq_ofNat_of_zero_le (show 0 ≤ n by omega)
    have hpm : PM % k = 0 := by rw [hasB_in (by omega) (by omega)] at hh; simpa using hh
    rw [hh] at HB
    by_cases h1 : d < 1
    · clear hh hpm
      go_enter Try.func3, Try.ntmps3
      go_wp2_with fail
      refine (HB.out _).mono ?_
      rintro e w1 ⟨rfl, rfl⟩
      go_wp2_with fail
      refine (LV.out _).mono ?_
      rintro e w1 ⟨rfl, rfl⟩
      go_wp2
      go_ret
      exact ⟨rfl, New.refl _⟩
    · obtain ⟨j, rfl⟩ := Int.eq_ofNat_of_zero_le (show 0 ≤ d by omega)
      by_cases h2 : k % j = 0
      · have hjk : j ≤ k := Nat.le_of_dvd (by omega) (Nat.dvd_of_mod_eq_zero h2)
        have hpj : PM % j = 0 := Nat.mod_eq_zero_of_dvd (Nat.dvd_trans (Nat.dvd_of_mod_eq_zero h2) (Nat.dvd_of_mod_eq_zero hpm))
        have e2 : ((k : Int) % (j : Int) != 0) = false := by simp; omega
        have RN := Lib.hid fun W => root_yes k W (by omega) (by omega) hpm
        have RD := Lib.hid fun W => root_yes j W (by omega) (by omega) hpj
        have HP : Hid (∀ W, Calls Try.prog 9 #[.int .u64 (rootP k), .int .u64 ((k : Int) / (j : Int))] W fun e w' => e = .returned (.int .u64 (rootP j)) ∧ W = w') := fun W => by
          rw [← Int.natCast_ediv, ← rootP_part (n := k) (d := j) (by omega) (by omega) hpm h2]
          refine refpow_any (rootP k) (k / j) W (rootP_lt k) ?_
          have := Nat.div_le_self k j
          omega
        have hq : (0 : Int) ≤ (k : Int) / (j : Int) ∧ (k : Int) / (j : Int) ≤ 16777216 := by
          have := Nat.div_le_self k j
          rw [← Int.natCast_ediv]
          generalize k / j = x at this
          omega
        obtain ⟨hq1, hq2⟩ := hq
        clear hh hpm hpj h2
        generalize rootP k = u at *
        generalize rootP j = v at *
        go_enter Try.func3, Try.ntmps3
        go_wp2_with fail
        refine (HB.out _).mono ?_
        rintro e w1 ⟨rfl, rfl⟩
        go_wp2_with fail
        refine (RN.out _).mono ?_
        rintro e w1 ⟨rfl, rfl⟩
        go_wp2_with fail
        refine (RD.out _).mono ?_
        rintro e w1 ⟨rfl, rfl⟩
        go_wp2_with fail
        refine (HP.out _).mono ?_
        rintro e w1 ⟨rfl, rfl⟩
        go_wp2_with fail
        refine (LV.out _).mono ?_
        rintro e w1 ⟨rfl, rfl⟩
        go_wp2
        go_ret
        exact ⟨rfl, New.refl _⟩
      · have e2 : ((k : Int) % (j : Int) != 0) = true := by simp; omega
        clear hh hpm h2
        go_enter Try.func3, Try.ntmps3
        go_wp2_with fail
        refine (HB.out _).mono ?_
        rintro e w1 ⟨rfl, rfl⟩
        go_wp2_with fail
        refine (LV.out _).mono ?_
        rintro e w1 ⟨rfl, rfl⟩
        go_wp2
        go_ret
        exact ⟨rfl, New.refl _⟩
  · have hh' : hasB n = false := by simpa using hh
    rw [hh'] at HB
    clear hh hh'
    go_enter Try.func3, Try.ntmps3
    go_wp2_with fail
    refine (HB.out _).mono ?_
    rintro e w1 ⟨rfl, rfl⟩
    go_wp2_with fail
    refine (LV.out _).mono ?_
    rintro e w1 ⟨rfl, rfl⟩
    go_wp2
    go_ret
    exact ⟨rfl, New.refl _⟩

theorem parts_walk (a b : Int) (wa : (Lit.int .i64 a).wf = true) (wb : (Lit.int .i64 b).wf = true) (w : World) :
    Calls Try.prog 3 #[.int .i64 a, .int .i64 b] w fun e w' => e = .returned (.bool true) ∧ New w w' :=
  parts_any a b w (bounds_i64 wb).2 (bounds_i64 wb).1
end Go.Proofs.Ytniibghbhbigaaa
