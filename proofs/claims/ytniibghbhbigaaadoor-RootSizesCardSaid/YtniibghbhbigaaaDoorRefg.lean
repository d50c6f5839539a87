/- Contracts of the reference of layer gold: Red, Add, Mul, Pow. -/
import Derived.Test.YtniibghbhbigaaaDoorGold
namespace Go.Proofs.YtniibghbhbigaaaDoor
open Go.RowKit
set_option linter.unusedVariables false

def addP (a b : Nat) : Nat := (a + b) % PP
theorem addP_lt (a b : Nat) : addP a b < 18446744069414584321 := Nat.mod_lt _ (by decide)

set_option maxHeartbeats 400000 in
theorem refadd_any (a b : Nat) (w : World) (ha : a < 18446744069414584321) (hb : b < 18446744069414584321) :
    Calls Tryd.prog 26 #[.int .u64 a, .int .u64 b] w fun e w' => e = .returned (.int .u64 (addP a b)) ∧ w = w' := by
  have b1 : (a : Int) < 18446744069414584321 := by omega
  have b2 : (b : Int) < 18446744069414584321 := by omega
  by_cases h : 18446744069414584321 ≤ a + b
  · obtain ⟨r, hr⟩ : ∃ r : Nat, (r : Int) = (a : Int) - (18446744069414584321 - (b : Int)) := ⟨a + b - 18446744069414584321, by omega⟩
    have e : addP a b = r := by unfold addP PP; omega
    have h' : (18446744069414584321 : Int) - (b : Int) ≤ (a : Int) := by omega
    have HR := Lib.hid hr
    rw [e]
    clear e hr h ha hb
    go_enter Tryd.func26, Tryd.ntmps26
    go_wp2
    go_ret
    exact ⟨by rw [HR.out]; rfl, rfl⟩
  · obtain ⟨r, hr⟩ : ∃ r : Nat, r = a + b := ⟨_, rfl⟩
    have e : addP a b = r := by unfold addP PP; omega
    have h' : ¬ (18446744069414584321 : Int) - (b : Int) ≤ (a : Int) := by omega
    have h'' : (a : Int) + (b : Int) ≤ 18446744073709551615 := by omega
    have HR := Lib.hid hr
    rw [e]
    clear e hr h ha hb
    go_enter Tryd.func26, Tryd.ntmps26
    go_wp2
    go_ret
    exact ⟨by rw [HR.out]; simp, rfl⟩

theorem bit_step (a j : Nat) : a / 2 ^ j = 2 * (a / 2 ^ (j + 1)) + a / 2 ^ j % 2 := by
  rw [Nat.pow_succ, ← Nat.div_div_eq_div_mul]; omega

/-- the test of a bit, as the walk spells it -/
theorem bit_test (a j : Nat) : (((a : Int) / 2 ^ j).tmod 2 == 1) = (a / 2 ^ j % 2 == 1) := by
  have e : (a : Int) / 2 ^ j = ((a / 2 ^ j : Nat) : Int) := by rw [Int.natCast_ediv, Int.natCast_pow]; rfl
  rw [e]
  generalize a / 2 ^ j = x
  rw [Int.tmod_eq_emod_of_nonneg (by omega), Bool.eq_iff_iff]
  simp
  omega

theorem mul_dbl (s A b : Nat) (h : s = A * b % PP) : addP s s = (2 * A) * b % PP := by
  rw [h]; unfold addP
  rw [← Nat.add_mod, ← Nat.two_mul, Nat.mul_assoc]
theorem mul_dbl1 (s A b : Nat) (h : s = A * b % PP) (hb : b < 18446744069414584321) : addP (addP s s) b = (2 * A + 1) * b % PP := by
  rw [mul_dbl s A b h]; unfold addP
  rw [Nat.add_mul, Nat.one_mul, Nat.add_mod, Nat.mod_mod, ← Nat.add_mod]

set_option maxHeartbeats 400000 in
theorem refmul_any (a b : Nat) (w : World) (ha : a < 18446744073709551616) (hb : b < 18446744069414584321) :
    Calls Tryd.prog 20 #[.int .u64 a, .int .u64 b] w fun e w' => e = .returned (.int .u64 (mulP a b)) ∧ w = w' := by
  have ADD := Lib.hid fun (a b : Nat) W (ha : a < 18446744069414584321) (hb : b < 18446744069414584321) => refadd_any a b W ha hb
  have HLT := Lib.hid addP_lt
  have HA := Lib.hid ha
  have HV : Hid (∀ s : Nat, s = a / 2 ^ 0 * b % PP → s = mulP a b) := by
    intro s h; rw [h]; simp [mulP]
  generalize mulP a b = v at *
  go_enter Tryd.func20, Tryd.ntmps20
  go_wp2_with fail
  go_loopg [5, 6] 64 (fun g s k wr => ∃ q : Nat, s = .int .u64 q ∧ k = .int .i64 ((g : Int) - 1) ∧ g ≤ 64 ∧ q < 18446744069414584321 ∧ Hid (q = a / 2 ^ g * b % PP) ∧ w = wr)
  case atStart => exact ⟨0, rfl, rfl, Nat.le_refl _, by omega, by show _ = _; rw [Nat.div_eq_of_lt (by have := HA.out; omega)]; simp, rfl⟩
  case round =>
    obtain ⟨q, rfl, rfl, hg, hq, HQ, rfl⟩ := hrel
    cases gk with
    | zero =>
      have HE : Hid (q = v) := HV.out q HQ.out
      rw [HE.out]
      go_wp2
      go_ret
      exact ⟨rfl, rfl⟩
    | succ j =>
      have e0 : (((j + 1 : Nat) : Int) - 1) = (j : Int) := by omega
      rw [e0]
      clear e0
      have A1 := Lib.hid fun W => ADD.out q q W hq hq
      have l1 := HLT.out q q
      have hj : j < 64 := by omega
      have HS := bit_step a j
      have HT := bit_test a j
      by_cases hbit : a / 2 ^ j % 2 = 1
      · rw [hbit] at HS HT
        have D1 := Lib.hid (mul_dbl1 q _ b HQ.out hb)
        rw [← HS] at D1
        have A2 := Lib.hid fun W => ADD.out (addP q q) b W l1 hb
        have l2 := HLT.out (addP q q) b
        generalize addP q q = q2 at *
        generalize addP q2 b = q3 at *
        simp only [beq_self_eq_true] at HT
        clear hbit HS ADD HLT HQ
        go_wp2_with fail
        refine (A1.out _).mono ?_
        rintro e w1 ⟨rfl, rfl⟩
        go_wp2_with fail
        refine (A2.out _).mono ?_
        rintro e w1 ⟨rfl, rfl⟩
        go_wp2_with fail
        go_roundg j
        case rel => exact ⟨q3, rfl, rfl, by omega, l2, D1, rfl⟩
        case measure => omega
      · have hb0 : a / 2 ^ j % 2 = 0 := by omega
        rw [hb0] at HS HT
        have D1 := Lib.hid (mul_dbl q _ b HQ.out)
        rw [Nat.add_zero] at HS
        rw [← HS] at D1
        generalize addP q q = q2 at *
        have HT' : (((a : Int) / 2 ^ j).tmod 2 == 1) = false := HT.trans rfl
        clear hbit HS ADD HLT HQ HT hb0
        go_wp2_with fail
        refine (A1.out _).mono ?_
        rintro e w1 ⟨rfl, rfl⟩
        go_wp2_with fail
        go_roundg j
        case rel => exact ⟨q2, rfl, rfl, by omega, l1, D1, rfl⟩
        case measure => omega

theorem pow_dbl (s a A : Nat) (h : s = a ^ A % PP) : mulP s s = a ^ (2 * A) % PP := by
  rw [h]; unfold mulP
  rw [← Nat.mul_mod, ← Nat.pow_add, Nat.two_mul]
theorem pow_dbl1 (s a A : Nat) (h : s = a ^ A % PP) : mulP (mulP s s) a = a ^ (2 * A + 1) % PP := by
  rw [pow_dbl s a A h]; unfold mulP
  rw [Nat.pow_succ, Nat.mul_mod, Nat.mod_mod, ← Nat.mul_mod]

set_option maxHeartbeats 400000 in
theorem refpow_any (a n : Nat) (w : World) (ha : a < 18446744069414584321) (hn : n < 18446744073709551616) :
    Calls Tryd.prog 16 #[.int .u64 a, .int .u64 n] w fun e w' => e = .returned (.int .u64 (powP a n)) ∧ w = w' := by
  have MUL := Lib.hid fun (a b : Nat) W (ha : a < 18446744073709551616) (hb : b < 18446744069414584321) => refmul_any a b W ha hb
  have HLT := Lib.hid mulP_lt
  have HA := Lib.hid hn
  have HV : Hid (∀ s : Nat, s = a ^ (n / 2 ^ 0) % PP → s = powP a n) := by
    intro s h; rw [h]; simp [powP]
  have H1 : Hid (1 = a ^ (n / 2 ^ 64) % PP) := by
    show _ = _; rw [Nat.div_eq_of_lt (by omega), Nat.pow_zero]; rfl
  generalize powP a n = v at *
  go_enter Tryd.func16, Tryd.ntmps16
  go_wp2_with fail
  go_loopg [5, 6] 64 (fun g s k wr => ∃ q : Nat, s = .int .u64 q ∧ k = .int .i64 ((g : Int) - 1) ∧ g ≤ 64 ∧ q < 18446744069414584321 ∧ Hid (q = a ^ (n / 2 ^ g) % PP) ∧ w = wr)
  case atStart => exact ⟨1, rfl, rfl, Nat.le_refl _, by omega, H1, rfl⟩
  case round =>
    obtain ⟨q, rfl, rfl, hg, hq, HQ, rfl⟩ := hrel
    cases gk with
    | zero =>
      have HE : Hid (q = v) := HV.out q HQ.out
      rw [HE.out]
      go_wp2
      go_ret
      exact ⟨rfl, rfl⟩
    | succ j =>
      have e0 : (((j + 1 : Nat) : Int) - 1) = (j : Int) := by omega
      rw [e0]
      clear e0
      have A1 := Lib.hid fun W => MUL.out q q W (by omega) hq
      have l1 := HLT.out q q
      have hj : j < 64 := by omega
      have HS := bit_step n j
      have HT := bit_test n j
      by_cases hbit : n / 2 ^ j % 2 = 1
      · rw [hbit] at HS HT
        have D1 := Lib.hid (pow_dbl1 q a _ HQ.out)
        rw [← HS] at D1
        have A2 := Lib.hid fun W => MUL.out (mulP q q) a W (by omega) ha
        have l2 := HLT.out (mulP q q) a
        generalize mulP q q = q2 at *
        generalize mulP q2 a = q3 at *
        simp only [beq_self_eq_true] at HT
        clear hbit HS MUL HLT HQ
        go_wp2_with fail
        refine (A1.out _).mono ?_
        rintro e w1 ⟨rfl, rfl⟩
        go_wp2_with fail
        refine (A2.out _).mono ?_
        rintro e w1 ⟨rfl, rfl⟩
        go_wp2_with fail
        go_roundg j
        case rel => exact ⟨q3, rfl, rfl, by omega, l2, D1, rfl⟩
        case measure => omega
      · have hb0 : n / 2 ^ j % 2 = 0 := by omega
        rw [hb0] at HS HT
        have D1 := Lib.hid (pow_dbl q a _ HQ.out)
        rw [Nat.add_zero] at HS
        rw [← HS] at D1
        generalize mulP q q = q2 at *
        have HT' : (((n : Int) / 2 ^ j).tmod 2 == 1) = false := HT.trans rfl
        clear hbit HS MUL HLT HQ HT hb0
        go_wp2_with fail
        refine (A1.out _).mono ?_
        rintro e w1 ⟨rfl, rfl⟩
        go_wp2_with fail
        go_roundg j
        case rel => exact ⟨q2, rfl, rfl, by omega, l1, D1, rfl⟩
        case measure => omega

end Go.Proofs.YtniibghbhbigaaaDoor
