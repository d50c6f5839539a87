/- GenOrders, the walk: for all q and a the law answers true. -/
import Derived.Test.YtikfeinhdfjjhaaGeno
import Derived.Test.YtikfeinhdfjjhaaGenp
import Derived.OpenShut
namespace Go.Proofs.Ytikfeinhdfjjhaa
open Go.RowKit
set_option linter.unusedVariables false

set_option maxHeartbeats 400000 in
theorem gorders_no (q a : Int) (w : World) (h : isB q = false) : Calls Try.prog 8 #[.int .i64 q, .int .i64 a] w fun e w' => e = .returned (.bool true) ∧ New w w' := by
  have HO := Lib.hid fun W => gorder_no q a W h
  have HI := Lib.hid fun W => refis_any q W
  rw [h] at HI
  clear h
  go_enter Try.func8, Try.ntmps8
  go_wp2_with fail
  refine (HO.out _).mono ?_
  rintro e w1 ⟨rfl, hn1⟩
  go_wp2_with fail
  refine (HI.out _).mono ?_
  rintro e w2 ⟨rfl, rfl⟩
  go_wp2_with fail
  refine (live9_any _).mono ?_
  rintro e w3 ⟨rfl, hn3⟩
  go_wp2
  go_ret
  exact ⟨rfl, hn1.trans hn3⟩

set_option maxHeartbeats 400000 in
theorem gorders_out (q : Nat) (a : Int) (w : World) (hq : Pr q) (hq2 : q ≤ 131072) (h : a < 1 ∨ (q : Int) ≤ a) : Calls Try.prog 8 #[.int .i64 q, .int .i64 a] w fun e w' => e = .returned (.bool true) ∧ New w w' := by
  have HO := Lib.hid fun W => gorder_out q a W hq hq2 h
  have HI := Lib.hid fun W => refis_any q W
  rw [isB_of hq hq2] at HI
  clear hq
  by_cases h1 : a < 1
  · clear h
    go_enter Try.func8, Try.ntmps8
    go_wp2_with fail
    refine (HO.out _).mono ?_
    rintro e w1 ⟨rfl, hn1⟩
    go_wp2_with fail
    refine (HI.out _).mono ?_
    rintro e w2 ⟨rfl, rfl⟩
    go_wp2_with fail
    refine (live9_any _).mono ?_
    rintro e w3 ⟨rfl, hn3⟩
    go_wp2
    go_ret
    exact ⟨rfl, hn1.trans hn3⟩
  · have h2 : (q : Int) ≤ a := by omega
    clear h
    go_enter Try.func8, Try.ntmps8
    go_wp2_with fail
    refine (HO.out _).mono ?_
    rintro e w1 ⟨rfl, hn1⟩
    go_wp2_with fail
    refine (HI.out _).mono ?_
    rintro e w2 ⟨rfl, rfl⟩
    go_wp2_with fail
    refine (live9_any _).mono ?_
    rintro e w3 ⟨rfl, hn3⟩
    go_wp2
    go_ret
    exact ⟨rfl, hn1.trans hn3⟩

set_option maxHeartbeats 400000 in
theorem gorders_yes (q a : Nat) (w : World) (hq : Pr q) (hq2 : q ≤ 131072) (h1 : 1 ≤ a) (h2 : a < q) : Calls Try.prog 8 #[.int .i64 q, .int .i64 a] w fun e w' => e = .returned (.bool true) ∧ New w w' := by
  have hq1 := hq.1
  have HO := Lib.hid fun W => gorder_yes q a W hq hq2 h1 h2
  have HR := Lib.hid fun W => reforder_any q a W hq hq2 h1 h2
  have HI := Lib.hid fun W => refis_any q W
  rw [isB_of hq hq2] at HI
  have HD : Hid (∀ k, IsOrd q a k → k ∣ q - 1) := fun k hk => hk.dvd hq1 (fermat hq (not_dvd_small h1 h2))
  clear hq
  go_enter Try.func8, Try.ntmps8
  go_wp2_with fail
  refine (HO.out _).mono ?_
  rintro e w1 ⟨⟨k, rfl, hk⟩, hn1⟩
  have hdv := HD.out k hk
  have hk1 := hk.pos
  have hkq := Nat.le_of_dvd (by omega) hdv
  have hmod : (((q : Int) - 1) % (k : Int) == 0) = true := by
    rw [← cast_pred (Nat.le_of_lt hq1), ← Int.natCast_emod, Nat.mod_eq_zero_of_dvd hdv]; rfl
  have HK := Lib.hid hk
  clear hk hdv HD
  go_wp2_with fail
  refine (HI.out _).mono ?_
  rintro e w2 ⟨rfl, rfl⟩
  go_wp2_with fail
  refine (HR.out _).mono ?_
  rintro e w2 ⟨⟨m, rfl, hm⟩, rfl⟩
  obtain rfl : m = k := hm.uniq HK.out
  clear hm
  go_wp2_with fail
  refine (live9_any _).mono ?_
  rintro e w3 ⟨rfl, hn3⟩
  go_wp2
  go_ret
  exact ⟨rfl, hn1.trans hn3⟩

theorem gorders_walk (q a : Int) (wq : (Lit.int .i64 q).wf = true) (wa : (Lit.int .i64 a).wf = true) (w : World) :
    Calls Try.prog 8 #[.int .i64 q, .int .i64 a] w fun e w' => e = .returned (.bool true) ∧ New w w' := by
  by_cases h : isB q = true
  · obtain ⟨n, rfl, hq, hq2⟩ := isB_yes h
    by_cases h2 : a < 1 ∨ (n : Int) ≤ a
    · exact gorders_out n a w hq hq2 h2
    · obtain ⟨k, rfl⟩ := Int.eq_ofNat_of_zero_le (show 0 ≤ a by omega)
      exact gorders_yes n k w hq hq2 (by omega) (by omega)
  · exact gorders_no q a w (by simpa using h)
end Go.Proofs.Ytikfeinhdfjjhaa
