/- Plain: a quotient digit by digit (to the base 2 to the 32), as math/bits.Div64 finds it. No program is named here. -/
import Derived.Test.YtoiadefffmhibaaPlain
import Derived.Lib.Bits
namespace Go.Proofs.Ytoiadefffmhibaa
set_option linter.unusedVariables false

/-- what holds of a guess q and its rest r: never too small, and they make the upper part -/
def Guess (U a D1 D0 q r : Nat) : Prop := q * D1 + r = U ∧ (U * 4294967296 + a) / (D1 * 4294967296 + D0) ≤ q

theorem guess_first (U a D1 D0 : Nat) (ha : a < 4294967296) (h1 : 0 < D1) : Guess U a D1 D0 (U / D1) (U % D1) := by
  refine ⟨Nat.div_add_mod' U D1, ?_⟩
  rw [Nat.le_div_iff_mul_le h1]
  have h := Nat.div_mul_le_self (U * 4294967296 + a) (D1 * 4294967296 + D0)
  generalize (U * 4294967296 + a) / (D1 * 4294967296 + D0) = T at *
  have h2 : T * D1 * 4294967296 ≤ U * 4294967296 + a := by
    refine Nat.le_trans ?_ h
    rw [Nat.mul_add, Nat.mul_assoc]
    exact Nat.le_add_right _ _
  generalize T * D1 = m at *
  omega
theorem guess_exit {U a D1 D0 q r : Nat} (h1 : 0 < D1) (h : Guess U a D1 D0 q r) (ht : q * D0 ≤ r * 4294967296 + a) : q = (U * 4294967296 + a) / (D1 * 4294967296 + D0) := by
  obtain ⟨hm, hb⟩ := h
  refine Nat.le_antisymm ?_ hb
  rw [Nat.le_div_iff_mul_le (by omega), Nat.mul_add, ← Nat.mul_assoc]
  subst hm
  generalize q * D1 = m at *
  generalize q * D0 = k at *
  omega
theorem step_lt {U a m r k B : Nat} (hm : m + r = U) (h : r * B + a < k) : U * B + a < m * B + k := by
  subst hm
  rw [Nat.add_mul]
  omega
theorem guess_step {U a D1 D0 q r : Nat} (h1 : 0 < D1) (hU : U < D1 * 4294967296 + D0) (ha : a < 4294967296) (h : Guess U a D1 D0 q r) (ht : 4294967296 ≤ q ∨ r * 4294967296 + a < q * D0) : 1 ≤ q ∧ Guess U a D1 D0 (q - 1) (r + D1) := by
  obtain ⟨hm, hb⟩ := h
  have hq : 1 ≤ q := by
    rcases ht with h | h
    · omega
    · rcases Nat.eq_zero_or_pos q with rfl | h0
      · simp at h
      · exact h0
  refine ⟨hq, ?_, ?_⟩
  · obtain ⟨k, rfl⟩ : ∃ k, q = k + 1 := ⟨q - 1, by omega⟩
    rw [Nat.add_mul] at hm
    simp only [Nat.add_sub_cancel]
    omega
  · apply Nat.le_of_lt_succ
    rw [show (q - 1).succ = q by omega]
    rcases ht with h | h
    · refine Nat.lt_of_lt_of_le ?_ h
      apply Nat.div_lt_of_lt_mul
      have : (U + 1) * 4294967296 ≤ (D1 * 4294967296 + D0) * 4294967296 := Nat.mul_le_mul_right _ hU
      omega
    · apply Nat.div_lt_of_lt_mul
      have e : (D1 * 4294967296 + D0) * q = q * D1 * 4294967296 + q * D0 := by
        rw [Nat.add_mul, Nat.mul_comm D0 q, Nat.mul_right_comm, Nat.mul_comm D1 q]
      rw [e]
      clear e
      clear hb hU hq
      obtain ⟨m, em⟩ : ∃ m : Nat, m = q * D1 := ⟨_, rfl⟩
      obtain ⟨k, ek⟩ : ∃ k : Nat, k = q * D0 := ⟨_, rfl⟩
      rw [← em] at hm ⊢
      rw [← ek] at h ⊢
      clear em ek
      exact step_lt hm h
/-- behind a break the guess is right -/
theorem guess_break {U a D1 D0 q r : Nat} (h1 : 0 < D1) (hD : D0 < 4294967296) (hU : U < D1 * 4294967296 + D0) (h : Guess U a D1 D0 q r) (hr : 4294967296 ≤ r) : q * D0 ≤ r * 4294967296 + a := by
  obtain ⟨hm, hb⟩ := h
  have hq : q < 4294967296 := by
    apply Nat.lt_of_mul_lt_mul_right (a := D1)
    rw [Nat.mul_comm 4294967296]
    omega
  have h2 : q * D0 ≤ 4294967296 * 4294967296 := Nat.mul_le_mul (by omega) (by omega)
  have h3 : 4294967296 * 4294967296 ≤ r * 4294967296 := Nat.mul_le_mul_right _ hr
  omega
/-- two digits make the quotient -/
theorem two_digits (U V D : Nat) (hD : 0 < D) :
    (U * 18446744073709551616 + V) / D = (U * 4294967296 + V / 4294967296) / D * 4294967296 + ((U * 4294967296 + V / 4294967296) % D * 4294967296 + V % 4294967296) / D ∧
    (U * 18446744073709551616 + V) % D = ((U * 4294967296 + V / 4294967296) % D * 4294967296 + V % 4294967296) % D := by
  have e : U * 18446744073709551616 + V = (U * 4294967296 + V / 4294967296) * 4294967296 + V % 4294967296 := by omega
  rw [e]
  clear e
  obtain ⟨N, eN⟩ : ∃ N : Nat, N = U * 4294967296 + V / 4294967296 := ⟨_, rfl⟩
  obtain ⟨a, ea⟩ : ∃ a : Nat, a = V % 4294967296 := ⟨_, rfl⟩
  rw [← eN, ← ea]
  clear eN ea
  have hN := Nat.div_add_mod N D
  have e2 : N * 4294967296 + a = (N % D * 4294967296 + a) + D * (N / D * 4294967296) := by
    conv => lhs; rw [← hN]
    rw [Nat.add_mul, Nat.mul_assoc]; omega
  rw [e2, Nat.add_mul_div_left _ _ hD, Nat.add_mul_mod_self_left]
  exact ⟨Nat.add_comm _ _, rfl⟩
/-- what is moved to the left comes back -/
theorem shifted (X y s : Nat) : (X * 2 ^ s) / (y * 2 ^ s) = X / y ∧ (X * 2 ^ s) % (y * 2 ^ s) / 2 ^ s = X % y := by
  have hp : 0 < 2 ^ s := Nat.pow_pos (by decide)
  constructor
  · exact Nat.mul_div_mul_right _ _ hp
  · rw [Nat.mul_mod_mul_right, Nat.mul_div_cancel _ hp]
/-- by how many places to the left a number has its highest bit set -/
theorem norm_of (y : Nat) (h0 : 0 < y) (h1 : y < 18446744073709551616) : ∃ s : Nat, s < 64 ∧ (64 - (Lib.bitLen y : Int)) = (s : Int) ∧ 9223372036854775808 ≤ y * 2 ^ s ∧ y * 2 ^ s < 18446744073709551616 := by
  have a := Nat.log2_self_le (n := y) (by omega)
  have b := Nat.lt_log2_self (n := y)
  have e := blen_eq a b
  have hk : Nat.log2 y < 64 := (Nat.log2_lt (by omega)).2 h1
  rw [bitlen_blen y h1, e]
  generalize Nat.log2 y = k at *
  have p : 2 ^ k * 2 ^ (63 - k) = 9223372036854775808 := by rw [← Nat.pow_add, show k + (63 - k) = 63 by omega]
  have q : 2 ^ (k + 1) * 2 ^ (63 - k) = 18446744073709551616 := by rw [← Nat.pow_add, show k + 1 + (63 - k) = 64 by omega]
  refine ⟨63 - k, by omega, by omega, ?_, ?_⟩
  · rw [← p]; exact Nat.mul_le_mul_right _ a
  · rw [← q]; exact Nat.mul_lt_mul_of_pos_right b (Nat.pow_pos (by decide))
end Go.Proofs.Ytoiadefffmhibaa
