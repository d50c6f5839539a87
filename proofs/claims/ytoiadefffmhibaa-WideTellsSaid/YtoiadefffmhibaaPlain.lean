/- Plain: halves of numbers of 128 bits. No program is named here. -/
import Derived.Test.YtoiadefffmhibaaDigs
import Derived.Lib.BitFns
import Derived.Laws.BitsAllLaws
namespace Go.Proofs.Ytoiadefffmhibaa
set_option linter.unusedVariables false

theorem blen_half (x : Nat) (h : x ≠ 0) : blen x = 1 + blen (x / 2) := by
  unfold blen
  rw [if_neg h, Nat.log2_def]
  by_cases h2 : 2 ≤ x
  · rw [if_pos h2, if_neg (by omega)]; omega
  · rw [if_neg h2, if_pos (by omega)]
theorem aux_blen : ∀ (f x : Nat), x < 2 ^ f → Lib.bitLenAux f x = blen x
  | 0, x, h => by
    have : x = 0 := by simpa using h
    subst this; rfl
  | f + 1, x, h => by
    simp only [Lib.bitLenAux]
    split
    · rename_i hz; subst hz; rfl
    · rename_i hz
      rw [aux_blen f (x / 2) (by rw [Nat.pow_succ] at h; omega), ← blen_half x hz]
theorem bitlen_blen (x : Nat) (h : x < 18446744073709551616) : Lib.bitLen x = blen x := aux_blen 64 x h
theorem blen_two (hi lo : Nat) (h : lo < 18446744073709551616) : blen (hi * 18446744073709551616 + lo) = if hi ≠ 0 then 64 + blen hi else blen lo := by
  by_cases hz : hi = 0
  · subst hz; simp
  · rw [if_pos hz]
    have h1 := Nat.log2_self_le hz
    have h2 := @Nat.lt_log2_self hi
    have e : blen hi = Nat.log2 hi + 1 := by unfold blen; rw [if_neg hz]
    rw [e]
    generalize Nat.log2 hi = k at *
    rw [show 64 + (k + 1) = (k + 64) + 1 by omega]
    apply blen_eq
    · rw [Nat.pow_add]; exact Nat.le_trans (Nat.mul_le_mul_right _ h1) (Nat.le_add_right _ _)
    · rw [show k + 64 + 1 = (k + 1) + 64 by omega, Nat.pow_add]
      have : (hi + 1) * 2 ^ 64 ≤ 2 ^ (k + 1) * 2 ^ 64 := Nat.mul_le_mul_right _ h2
      rw [Nat.add_mul] at this
      omega

theorem or_low (x y n : Nat) (h : y < 2 ^ n) : x * 2 ^ n ||| y = x * 2 ^ n + y := by
  rw [← Nat.shiftLeft_eq, Nat.shiftLeft_add_eq_or_of_lt h]
theorem mod_up (x n : Nat) (hn : n ≤ 64) : x * 2 ^ n % 18446744073709551616 = x % 2 ^ (64 - n) * 2 ^ n := by
  have e : (18446744073709551616 : Nat) = 2 ^ (64 - n) * 2 ^ n := by rw [← Nat.pow_add, show 64 - n + n = 64 by omega]
  rw [e, Nat.mul_mod_mul_right]
/-- to the left by less than 64 -/
theorem up_lo (hi lo n : Nat) (h2 : lo < 18446744073709551616) (hn : n < 64) :
    (hi * 18446744073709551616 + lo) * 2 ^ n % WW / 18446744073709551616 = (hi * 2 ^ n % 18446744073709551616 ||| lo / 2 ^ (64 - n)) ∧
    (hi * 18446744073709551616 + lo) * 2 ^ n % WW % 18446744073709551616 = lo * 2 ^ n % 18446744073709551616 := by
  have hp : 0 < 2 ^ (64 - n) := Nat.pow_pos (by decide)
  have e : (18446744073709551616 : Nat) = 2 ^ (64 - n) * 2 ^ n := by rw [← Nat.pow_add, show 64 - n + n = 64 by omega]
  have hlt : lo / 2 ^ (64 - n) < 2 ^ n := Nat.div_lt_of_lt_mul (by rw [← e]; exact h2)
  have eW : WW = 18446744073709551616 * 18446744073709551616 := rfl
  constructor
  · rw [mod_up hi n (by omega), or_low _ _ _ hlt, ← mod_up hi n (by omega), eW, Nat.mod_mul_right_div_self, Nat.add_mul]
    have e2 : hi * 18446744073709551616 * 2 ^ n = 18446744073709551616 * (hi * 2 ^ n) := by rw [Nat.mul_comm hi, Nat.mul_assoc]
    have e3 : lo * 2 ^ n / 18446744073709551616 = lo / 2 ^ (64 - n) := by
      rw [e, Nat.mul_div_mul_right _ _ (Nat.pow_pos (by decide))]
    rw [e2, Nat.mul_add_div (by decide), e3, mod_up hi n (by omega)]
    have hm : hi * 2 ^ n = hi / 2 ^ (64 - n) * 18446744073709551616 + hi % 2 ^ (64 - n) * 2 ^ n := by
      conv => lhs; rw [← Nat.div_add_mod hi (2 ^ (64 - n)), Nat.add_mul]
      rw [e]; congr 1
      rw [Nat.mul_comm (2 ^ (64 - n)), Nat.mul_assoc]
    have hb : hi % 2 ^ (64 - n) * 2 ^ n + lo / 2 ^ (64 - n) < 18446744073709551616 := by
      have : hi % 2 ^ (64 - n) + 1 ≤ 2 ^ (64 - n) := Nat.mod_lt _ hp
      have := Nat.mul_le_mul_right (2 ^ n) this
      rw [← e, Nat.add_mul] at this
      omega
    rw [hm, Nat.add_assoc, Nat.add_comm, Nat.add_mul_mod_self_right, Nat.mod_eq_of_lt hb]
  · rw [eW, Nat.mod_mul_right_mod, Nat.add_mul, show hi * 18446744073709551616 * 2 ^ n = 18446744073709551616 * (hi * 2 ^ n) by rw [Nat.mul_comm hi, Nat.mul_assoc], Nat.mul_add_mod]
/-- to the left by 64 and more -/
theorem up_hi (hi lo n : Nat) (hn : 64 ≤ n) :
    (hi * 18446744073709551616 + lo) * 2 ^ n % WW / 18446744073709551616 = lo * 2 ^ (n - 64) % 18446744073709551616 ∧
    (hi * 18446744073709551616 + lo) * 2 ^ n % WW % 18446744073709551616 = 0 := by
  have eW : WW = 18446744073709551616 * 18446744073709551616 := rfl
  have e : (2 : Nat) ^ n = 18446744073709551616 * 2 ^ (n - 64) := by
    rw [show (18446744073709551616 : Nat) = 2 ^ 64 by rfl, ← Nat.pow_add, show 64 + (n - 64) = n by omega]
  have e2 : (hi * 18446744073709551616 + lo) * 2 ^ n = 18446744073709551616 * (18446744073709551616 * (hi * 2 ^ (n - 64)) + lo * 2 ^ (n - 64)) := by
    rw [e]
    generalize 2 ^ (n - 64) = p
    rw [Nat.add_mul, Nat.mul_add]
    congr 1
    · rw [Nat.mul_comm hi, Nat.mul_assoc]; congr 1; rw [← Nat.mul_assoc, Nat.mul_comm hi, Nat.mul_assoc]
    · rw [← Nat.mul_assoc, Nat.mul_comm lo, Nat.mul_assoc]
  constructor
  · rw [eW, Nat.mod_mul_right_div_self, e2, Nat.mul_div_cancel_left _ (by decide), Nat.mul_add_mod]
  · rw [eW, Nat.mod_mul_right_mod, e2, Nat.mul_mod_right]
/-- to the right by less than 64 -/
theorem down_lo (hi lo n : Nat) (h1 : hi < 18446744073709551616) (h2 : lo < 18446744073709551616) (hn : n < 64) :
    (hi * 18446744073709551616 + lo) / 2 ^ n / 18446744073709551616 = hi / 2 ^ n ∧
    (hi * 18446744073709551616 + lo) / 2 ^ n % 18446744073709551616 = (lo / 2 ^ n ||| hi * 2 ^ (64 - n) % 18446744073709551616) := by
  have hp : 0 < 2 ^ n := Nat.pow_pos (by decide)
  have e : (18446744073709551616 : Nat) = 2 ^ n * 2 ^ (64 - n) := by rw [← Nat.pow_add, show n + (64 - n) = 64 by omega]
  have hlt : lo / 2 ^ n < 2 ^ (64 - n) := Nat.div_lt_of_lt_mul (by rw [← e]; exact h2)
  have e1 : (hi * 18446744073709551616 + lo) / 2 ^ n = hi * 2 ^ (64 - n) + lo / 2 ^ n := by
    conv => lhs; rw [e, Nat.mul_comm hi, Nat.mul_assoc, Nat.mul_add_div hp, Nat.mul_comm _ hi]
  constructor
  · rw [Nat.div_div_eq_div_mul, Nat.mul_comm (2 ^ n), ← Nat.div_div_eq_div_mul, Nat.mul_comm hi, Nat.mul_add_div (by decide), Nat.div_eq_of_lt h2, Nat.add_zero]
  · rw [e1, Nat.or_comm, mod_up hi (64 - n) (by omega), or_low _ _ _ hlt, ← mod_up hi (64 - n) (by omega)]
    rw [mod_up hi (64 - n) (by omega), show 64 - (64 - n) = n by omega]
    have hm : hi * 2 ^ (64 - n) = hi / 2 ^ n * 18446744073709551616 + hi % 2 ^ n * 2 ^ (64 - n) := by
      conv => lhs; rw [← Nat.div_add_mod hi (2 ^ n), Nat.add_mul]
      rw [e]; congr 1
      rw [Nat.mul_comm (2 ^ n), Nat.mul_assoc]
    have hb : hi % 2 ^ n * 2 ^ (64 - n) + lo / 2 ^ n < 18446744073709551616 := by
      have : hi % 2 ^ n + 1 ≤ 2 ^ n := Nat.mod_lt _ hp
      have := Nat.mul_le_mul_right (2 ^ (64 - n)) this
      rw [← e, Nat.add_mul] at this
      omega
    rw [hm, Nat.add_assoc, Nat.add_comm, Nat.add_mul_mod_self_right, Nat.mod_eq_of_lt hb]
/-- to the right by 64 and more -/
theorem down_hi (hi lo n : Nat) (h1 : hi < 18446744073709551616) (h2 : lo < 18446744073709551616) (hn : 64 ≤ n) :
    (hi * 18446744073709551616 + lo) / 2 ^ n / 18446744073709551616 = 0 ∧
    (hi * 18446744073709551616 + lo) / 2 ^ n % 18446744073709551616 = hi / 2 ^ (n - 64) := by
  have e : (2 : Nat) ^ n = 18446744073709551616 * 2 ^ (n - 64) := by
    rw [show (18446744073709551616 : Nat) = 2 ^ 64 by rfl, ← Nat.pow_add, show 64 + (n - 64) = n by omega]
  have e1 : (hi * 18446744073709551616 + lo) / 2 ^ n = hi / 2 ^ (n - 64) := by
    rw [e, ← Nat.div_div_eq_div_mul, Nat.mul_comm hi, Nat.mul_add_div (by decide), Nat.div_eq_of_lt h2, Nat.add_zero]
  have : hi / 2 ^ (n - 64) ≤ hi := Nat.div_le_self _ _
  rw [e1]
  exact ⟨Nat.div_eq_of_lt (by omega), Nat.mod_eq_of_lt (by omega)⟩
end Go.Proofs.Ytoiadefffmhibaa
