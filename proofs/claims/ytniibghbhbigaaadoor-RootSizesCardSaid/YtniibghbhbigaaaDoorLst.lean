/- Contract: of the reference Least. -/
import Derived.Test.YtniibghbhbigaaaDoorRoot
import Derived.OpenShut
namespace Go.Proofs.YtniibghbhbigaaaDoor
open Go.RowKit
set_option linter.unusedVariables false

set_option maxRecDepth 100000 in
set_option maxHeartbeats 1000000 in
/-- the reference's Least answers true where it is so -/
theorem least_yes (a k : Nat) (w : World) (ha : a < 18446744069414584321) (hk1 : 1 ≤ k) (hk : k < 18446744073709551616) (hpm : PM % k = 0) (h1 : powP a k = 1) (hq : ∀ q, q ∈ qs → k % q = 0 → powP a (k / q) ≠ 1) :
    Calls Tryd.prog 8 #[.int .u64 a, .int .u64 k] w fun e w' => e = .returned (.bool true) ∧ New w w' := by
  have HP : Hid (∀ (m : Nat) W, m < 18446744073709551616 → Calls Tryd.prog 16 #[.int .u64 a, .int .u64 m] W fun e w' => e = .returned (.int .u64 (powP a m)) ∧ W = w') := fun m W hm => refpow_any a m W ha hm
  have HK : Hid (∀ W, Calls Tryd.prog 16 #[.int .u64 a, .int .u64 k] W fun e w' => e = .returned (.int .u64 1) ∧ W = w') := fun W => by
    have := HP.out k W hk
    rwa [h1] at this
  have HT : Hid ((((18446744069414584320 : Int) % (k : Int)) == 0) = true) := by
    show _ = _
    rw [mod_test, hpm]; rfl
  have HQ := Lib.hid hq
  have HKL := Lib.hid hk
  clear hpm h1 hq hk ha
  go_enter Tryd.func8, Tryd.ntmps8
  go_wp2_with fail
  go_loopg [6] 6 (fun g i wr => ∃ j : Nat, i = .int .i64 j ∧ j + g = 6 ∧ Box wr w.heap.size 22 #[.int .u64 2, .int .u64 3, .int .u64 5, .int .u64 17, .int .u64 257, .int .u64 65537] ∧ New w wr)
  case atStart => exact ⟨0, rfl, rfl, Box.made _ _ _, (New.refl _).alloc _⟩
  case round =>
    obtain ⟨j, rfl, hjg, hbox, hnew⟩ := hrel
    by_cases hj : j < 6
    · obtain ⟨q, hq0, hqm, hq2, hq9⟩ : ∃ q : Nat, qs[j]? = some q ∧ q ∈ qs ∧ 2 ≤ q ∧ q ≤ 65537 := by
        have h6 : ∀ j, j < 6 → ∃ q : Nat, qs[j]? = some q ∧ q ∈ qs ∧ 2 ≤ q ∧ q ≤ 65537 := by
          intro j hj
          match j, hj with
          | 0, _ => exact ⟨2, rfl, by decide, by decide, by decide⟩
          | 1, _ => exact ⟨3, rfl, by decide, by decide, by decide⟩
          | 2, _ => exact ⟨5, rfl, by decide, by decide, by decide⟩
          | 3, _ => exact ⟨17, rfl, by decide, by decide, by decide⟩
          | 4, _ => exact ⟨257, rfl, by decide, by decide, by decide⟩
          | 5, _ => exact ⟨65537, rfl, by decide, by decide, by decide⟩
        exact h6 j hj
      have hc : wr.cell? ⟨w.heap.size, j, none⟩ = some (.int .u64 q) := by
        rw [hbox.cell j]
        match j, hj, hq0 with
        | 0, _, h => simp [qs] at h; subst h; rfl
        | 1, _, h => simp [qs] at h; subst h; rfl
        | 2, _, h => simp [qs] at h; subst h; rfl
        | 3, _, h => simp [qs] at h; subst h; rfl
        | 4, _, h => simp [qs] at h; subst h; rfl
        | 5, _, h => simp [qs] at h; subst h; rfl
      have HJ := Lib.hid hjg
      clear hq0 hjg
      by_cases hm : k % q = 0
      · have e1 : ((k : Int) % (q : Int) == 0) = true := by simp; omega
        have HP1 : Hid (∀ W, Calls Tryd.prog 16 #[.int .u64 a, .int .u64 ((k : Int) / (q : Int))] W fun e w' => e = .returned (.int .u64 (powP a (k / q))) ∧ W = w') := fun W => by
          rw [← Int.natCast_ediv]
          refine HP.out (k / q) W ?_
          have := Nat.div_le_self k q
          have := HKL.out
          generalize k / q = x at *
          omega
        have hne := HQ.out q hqm hm
        generalize powP a (k / q) = v at *
        have e2 : ((v : Int) == 1) = false := by simp; omega
        have hqq : (0 : Int) ≤ (k : Int) / (q : Int) ∧ (k : Int) / (q : Int) ≤ 18446744073709551615 := by
          rw [← Int.natCast_ediv]
          have := Nat.div_le_self k q
          have := HKL.out
          generalize k / q = x at *
          omega
        obtain ⟨hqa, hqb⟩ := hqq
        have hj' : (j : Int) < 6 := by omega
        clear hne hm
        go_wp2_with fail
        refine (HP1.out _).mono ?_
        rintro e w1 ⟨rfl, rfl⟩
        go_wp2
        go_roundg (gk - 1)
        case rel => exact ⟨j + 1, by simp, by have := HJ.out; omega, hbox, hnew⟩
        case measure => have := HJ.out; omega
      · have e1 : ((k : Int) % (q : Int) == 0) = false := by simp; omega
        have hj' : (j : Int) < 6 := by omega
        clear hm
        go_wp2
        go_roundg (gk - 1)
        case rel => exact ⟨j + 1, by simp, by have := HJ.out; omega, hbox, hnew⟩
        case measure => have := HJ.out; omega
    · have hje : j = 6 := by omega
      subst hje
      have HT' := HT.out
      clear hjg
      go_wp2_with fail
      refine (HK.out _).mono ?_
      rintro e w1 ⟨rfl, rfl⟩
      go_wp2
      go_ret
      exact ⟨rfl, hnew⟩

end Go.Proofs.YtniibghbhbigaaaDoor
