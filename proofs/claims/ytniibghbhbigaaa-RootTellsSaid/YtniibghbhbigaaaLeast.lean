/- Contracts: gold.Inv, root.Back, and of the reference Root and Least. RootTells, the walk. -/
import Derived.Test.YtniibghbhbigaaaRoot
import Derived.OpenShut
namespace Go.Proofs.Ytniibghbhbigaaa
open Go.RowKit
set_option linter.unusedVariables false

set_option maxHeartbeats 400000 in
theorem inv_any (a : Nat) (w : World) (ha : a < 18446744073709551616) :
    Calls Try.prog 20 #[.int .u64 a] w fun e w' => e = .returned (.int .u64 (powP a 18446744069414584319)) ∧ w = w' := by
  have HP := Lib.hid fun W => pow_any a 18446744069414584319 W ha (by decide)
  generalize powP a 18446744069414584319 = v at *
  go_enter Try.func20, Try.ntmps20
  go_wp2_with fail
  refine (HP.out _).mono ?_
  rintro e w1 ⟨rfl, rfl⟩
  go_wp2
  go_ret
  exact ⟨rfl, rfl⟩

set_option maxHeartbeats 400000 in
theorem back_yes (n : Nat) (w : World) (h1 : 1 ≤ n) (h2 : n ≤ 16777216) (h3 : PM % n = 0) :
    Calls Try.prog 10 #[.int .i64 n] w fun e w' => e = .returned (.tuple #[.int .u64 (powP (rootP n) 18446744069414584319), .int .i64 0]) ∧ w = w' := by
  have RN := Lib.hid fun W => root_yes n W h1 h2 h3
  have IV := Lib.hid fun W => inv_any (rootP n) W (by have := rootP_lt n; omega)
  generalize powP (rootP n) 18446744069414584319 = v at *
  generalize rootP n = r at *
  clear h3
  go_enter Try.func10, Try.ntmps10
  go_wp2_with fail
  refine (RN.out _).mono ?_
  rintro e w1 ⟨rfl, rfl⟩
  go_wp2_with fail
  refine (IV.out _).mono ?_
  rintro e w1 ⟨rfl, rfl⟩
  go_wp2
  go_ret2
  exact ⟨rfl, rfl⟩

theorem powP_zero {n : Nat} (h : n ≠ 0) : powP 0 n = 0 := by
  unfold powP; rw [Nat.zero_pow (by omega)]; exact Nat.zero_mod _

set_option maxHeartbeats 400000 in
theorem back_no (n : Int) (w : World) (h : hasB n = false) :
    Calls Try.prog 10 #[.int .i64 n] w fun e w' => e = .returned (.tuple #[.int .u64 0, .int .i64 4]) ∧ w = w' := by
  have RN := Lib.hid fun W => root_no n W h
  have IV : Hid (∀ W, Calls Try.prog 20 #[.int .u64 0] W fun e w' => e = .returned (.int .u64 0) ∧ W = w') := fun W => by
    have := inv_any 0 W (by decide)
    rwa [powP_zero (n := 18446744069414584319) (by decide)] at this
  clear h
  go_enter Try.func10, Try.ntmps10
  go_wp2_with fail
  refine (RN.out _).mono ?_
  rintro e w1 ⟨rfl, rfl⟩
  go_wp2_with fail
  refine (IV.out _).mono ?_
  rintro e w1 ⟨rfl, rfl⟩
  go_wp2
  go_ret2
  exact ⟨rfl, rfl⟩

set_option maxHeartbeats 400000 in
theorem refroot_any (n : Nat) (w : World) (h1 : 1 ≤ n) (h2 : n ≤ 16777216) :
    Calls Try.prog 12 #[.int .i64 n] w fun e w' => e = .returned (.int .u64 (rootP n)) ∧ w = w' := by
  have HP : Hid (∀ W, Calls Try.prog 9 #[.int .u64 7, .int .u64 ((18446744069414584320 : Int) / (n : Int))] W fun e w' => e = .returned (.int .u64 (rootP n)) ∧ W = w') := fun W => by
    rw [quo_fact]
    refine refpow_any 7 (PM / n) W (by omega) ?_
    have := Nat.div_le_self PM n
    unfold PM at this ⊢
    omega
  generalize rootP n = r at *
  go_enter Try.func12, Try.ntmps12
  go_wp2_with fail
  refine (HP.out _).mono ?_
  rintro e w1 ⟨rfl, rfl⟩
  go_wp2
  go_ret
  exact ⟨rfl, rfl⟩

set_option maxRecDepth 100000 in
set_option maxHeartbeats 1000000 in
/-- the reference's Least answers true where it is so -/
theorem least_yes (a k : Nat) (w : World) (ha : a < 18446744069414584321) (hk1 : 1 ≤ k) (hk : k < 18446744073709551616) (hpm : PM % k = 0) (h1 : powP a k = 1) (hq : ∀ q, q ∈ qs → k % q = 0 → powP a (k / q) ≠ 1) :
    Calls Try.prog 14 #[.int .u64 a, .int .u64 k] w fun e w' => e = .returned (.bool true) ∧ New w w' := by
  have HP : Hid (∀ (m : Nat) W, m < 18446744073709551616 → Calls Try.prog 9 #[.int .u64 a, .int .u64 m] W fun e w' => e = .returned (.int .u64 (powP a m)) ∧ W = w') := fun m W hm => refpow_any a m W ha hm
  have HK : Hid (∀ W, Calls Try.prog 9 #[.int .u64 a, .int .u64 k] W fun e w' => e = .returned (.int .u64 1) ∧ W = w') := fun W => by
    have := HP.out k W hk
    rwa [h1] at this
  have HT : Hid ((((18446744069414584320 : Int) % (k : Int)) == 0) = true) := by
    show _ = _
    rw [mod_test, hpm]; rfl
  have HQ := Lib.hid hq
  have HKL := Lib.hid hk
  clear hpm h1 hq hk ha
  go_enter Try.func14, Try.ntmps14
  go_wp2_with fail
  go_loopg [6] 6 (fun g i wr => ∃ j : Nat, i = .int .i64 j ∧ j + g = 6 ∧ Box wr w.heap.size 24 #[.int .u64 2, .int .u64 3, .int .u64 5, .int .u64 17, .int .u64 257, .int .u64 65537] ∧ New w wr)
  case atStart => exact ⟨0, rfl, rfl, Box.made _ _ _, (New.refl _).alloc _⟩
  case round =>
    obtain ⟨j, rfl, hjg, hbox, hnew⟩ := hrel
    by_cases hj : j < 6
    · obtain ⟨q, hq0, hqm, hq2, hq9⟩ : ∃ q : Nat, qs[j]? = some q ∧ q ∈ qs ∧ 2 ≤ q ∧ q ≤ 65537 := by
        have h6 : ∀ j, j < 6 → ∃ q : Nat, qs[j]? = some q ∧ q ∈ qs ∧ 2 ≤ q ∧ q ≤ 65537 := by
          intro j hj
          match j, hj with
          | 0, _ => exact ⟨2, rfl, by decide, by decide, by decide⟩
          | 1, _ => exact ⟨3, rfl, by decide, by decide, by decide⟩
          | 2, _ => exact ⟨5, rfl, by decide, by decide, by decide⟩
          | 3, _ => exact ⟨17, rfl, by decide, by decide, by decide⟩
          | 4, _ => exact ⟨257, rfl, by decide, by decide, by decide⟩
          | 5, _ => exact ⟨65537, rfl, by decide, by decide, by decide⟩
        exact h6 j hj
      have hc : wr.cell? ⟨w.heap.size, j, none⟩ = some (.int .u64 q) := by
        rw [hbox.cell j]
        match j, hj, hq0 with
        | 0, _, h => simp [qs] at h; subst h; rfl
        | 1, _, h => simp [qs] at h; subst h; rfl
        | 2, _, h => simp [qs] at h; subst h; rfl
        | 3, _, h => simp [qs] at h; subst h; rfl
        | 4, _, h => simp [qs] at h; subst h; rfl
        | 5, _, h => simp [qs] at h; subst h; rfl
      have HJ := Lib.hid hjg
      clear hq0 hjg
      by_cases hm : k % q = 0
      · have e1 : ((k : Int) % (q : Int) == 0) = true := by simp; omega
        have HP1 : Hid (∀ W, Calls Try.prog 9 #[.int .u64 a, .int .u64 ((k : Int) / (q : Int))] W fun e w' => e = .returned (.int .u64 (powP a (k / q))) ∧ W = w') := fun W => by
          rw [← Int.natCast_ediv]
          refine HP.out (k / q) W ?_
          have := Nat.div_le_self k q
          have := HKL.out
          generalize k / q = x at *
          omega
        have hne := HQ.out q hqm hm
        generalize powP a (k / q) = v at *
        have e2 : ((v : Int) == 1) = false := by simp; omega
        have hqq : (0 : Int) ≤ (k : Int) / (q : Int) ∧ (k : Int) / (q : Int) ≤ 18446744073709551615 := by
          rw [← Int.natCast_ediv]
          have := Nat.div_le_self k q
          have := HKL.out
          generalize k / q = x at *
          omega
        obtain ⟨hqa, hqb⟩ := hqq
        have hj' : (j : Int) < 6 := by omega
        clear hne hm
        go_wp2_with fail
        refine (HP1.out _).mono ?_
        rintro e w1 ⟨rfl, rfl⟩
        go_wp2
        go_roundg (gk - 1)
        case rel => exact ⟨j + 1, by simp, by have := HJ.out; omega, hbox, hnew⟩
        case measure => have := HJ.out; omega
      · have e1 : ((k : Int) % (q : Int) == 0) = false := by simp; omega
        have hj' : (j : Int) < 6 := by omega
        clear hm
        go_wp2
        go_roundg (gk - 1)
        case rel => exact ⟨j + 1, by simp, by have := HJ.out; omega, hbox, hnew⟩
        case measure => have := HJ.out; omega
    · have hje : j = 6 := by omega
      subst hje
      have HT' := HT.out
      clear hjg
      go_wp2_with fail
      refine (HK.out _).mono ?_
      rintro e w1 ⟨rfl, rfl⟩
      go_wp2
      go_ret
      exact ⟨rfl, hnew⟩

set_option maxHeartbeats 400000 in
theorem tells_no (n : Int) (w : World) (h : hasB n = false) :
    Calls Try.prog 4 #[.int .i64 n] w fun e w' => e = .returned (.bool true) ∧ New w w' := by
  have RN := Lib.hid fun W => root_no n W h
  have BN := Lib.hid fun W => back_no n W h
  have HB := Lib.hid fun W => refhas_any n W
  have HA := Lib.hid fun W => has_any n W
  rw [h] at HB HA
  have LV := Lib.hid fun W => live_any W
  clear h
  go_enter Try.func4, Try.ntmps4
  go_wp2_with fail
  refine (RN.out _).mono ?_
  rintro e w1 ⟨rfl, rfl⟩
  go_wp2_with fail
  refine (BN.out _).mono ?_
  rintro e w1 ⟨rfl, rfl⟩
  go_wp2_with fail
  refine (HA.out _).mono ?_
  rintro e w1 ⟨rfl, rfl⟩
  go_wp2_with fail
  refine (HB.out _).mono ?_
  rintro e w1 ⟨rfl, rfl⟩
  go_wp2_with fail
  refine (HB.out _).mono ?_
  rintro e w1 ⟨rfl, rfl⟩
  go_wp2_with fail
  refine (LV.out _).mono ?_
  rintro e w1 ⟨rfl, rfl⟩
  go_wp2
  go_ret
  exact ⟨rfl, New.refl _⟩

set_option maxHeartbeats 1000000 in
theorem tells_yes (n : Nat) (w : World) (h1 : 1 ≤ n) (h2 : n ≤ 16777216) (h3 : PM % n = 0) :
    Calls Try.prog 4 #[.int .i64 n] w fun e w' => e = .returned (.bool true) ∧ New w w' := by
  have RN := Lib.hid fun W => root_yes n W h1 h2 h3
  have BN := Lib.hid fun W => back_yes n W h1 h2 h3
  have RR := Lib.hid fun W => refroot_any n W h1 h2
  have HB := Lib.hid fun W => refhas_any n W
  have HA := Lib.hid fun W => has_any n W
  rw [show hasB n = true by rw [hasB_in h1 h2, h3]; rfl] at HB HA
  have LV := Lib.hid fun W => live_any W
  have l1 := rootP_lt n
  have l2 : powP (rootP n) 18446744069414584319 < 18446744069414584321 := powP_lt _ _
  have ML : Hid (∀ W, Calls Try.prog 13 #[.int .u64 (rootP n), .int .u64 (powP (rootP n) 18446744069414584319)] W fun e w' => e = .returned (.int .u64 1) ∧ W = w') := fun W => by
    have := refmul_any (rootP n) (powP (rootP n) 18446744069414584319) W (by omega) l2
    rwa [rootP_inv h1 h3] at this
  have LE := Lib.hid fun W => least_yes (rootP n) n W l1 h1 (by omega) h3 (rootP_one h1 h3) (fun q hq hm => rootP_least h1 h3 hq hm)
  generalize powP (rootP n) 18446744069414584319 = v at *
  generalize rootP n = r at *
  have l2' : (v : Int) < 18446744069414584321 := by omega
  clear h3 l2
  go_enter Try.func4, Try.ntmps4
  go_wp2_with fail
  refine (RN.out _).mono ?_
  rintro e w1 ⟨rfl, rfl⟩
  go_wp2_with fail
  refine (BN.out _).mono ?_
  rintro e w1 ⟨rfl, rfl⟩
  go_wp2_with fail
  refine (HA.out _).mono ?_
  rintro e w1 ⟨rfl, rfl⟩
  go_wp2_with fail
  refine (HB.out _).mono ?_
  rintro e w1 ⟨rfl, rfl⟩
  go_wp2_with fail
  refine (HB.out _).mono ?_
  rintro e w1 ⟨rfl, rfl⟩
  go_wp2_with fail
  refine (RR.out _).mono ?_
  rintro e w1 ⟨rfl, rfl⟩
  go_wp2_with fail
  refine (ML.out _).mono ?_
  rintro e w1 ⟨rfl, rfl⟩
  go_wp2_with fail
  refine (LE.out _).mono ?_
  rintro e w1 ⟨rfl, hn⟩
  go_wp2_with fail
  refine (LV.out _).mono ?_
  rintro e w2 ⟨rfl, rfl⟩
  go_wp2
  go_ret
  exact ⟨rfl, hn⟩

theorem tells_walk (a : Int) (wa : (Lit.int .i64 a).wf = true) (w : World) :
    Calls Try.prog 4 #[.int .i64 a] w fun e w' => e = .returned (.bool true) ∧ New w w' := by
  by_cases hh : hasB a = true
  · have hin : 1 ≤ a ∧ a ≤ 16777216 := by
      apply Classical.byContradiction; intro h; rw [hasB_out h] at hh; cases hh
    obtain ⟨k, rfl⟩ := Int.eq_ofNat_of_zero_le (show 0 ≤ a by omega)
    exact tells_yes k w (by omega) (by omega) (by rw [hasB_in (by omega) (by omega)] at hh; simpa using hh)
  · exact tells_no a w (by simpa using hh)
end Go.Proofs.Ytniibghbhbigaaa
