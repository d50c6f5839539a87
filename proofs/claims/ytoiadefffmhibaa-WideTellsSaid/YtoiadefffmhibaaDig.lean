/- Plain: numbers of 128 bits by their digits to the base 65536. No program is named here. -/
import Derived.Test.YtoiadefffmhibaaRow
namespace Go.Proofs.Ytoiadefffmhibaa
set_option linter.unusedVariables false

/-- the digit at a place -/
def dig (n i : Nat) : Nat := n / 65536 ^ i % 65536
theorem dig_lt (n i : Nat) : dig n i < 65536 := Nat.mod_lt _ (by decide)
/-- 2 to the 128 -/
def WW : Nat := 340282366920938463463374607431768211456

theorem dig_mod (n i : Nat) (hi : i < 8) : dig (n % WW) i = dig n i := by
  unfold dig
  have e : WW = 65536 ^ i * (65536 ^ (8 - i)) := by
    rw [← Nat.pow_add, show i + (8 - i) = 8 by omega]; rfl
  have e2 : (65536 : Nat) ^ (8 - i) = 65536 * 65536 ^ (7 - i) := by
    rw [← Nat.pow_succ']; congr 1; omega
  rw [e, Nat.mod_mul_right_div_self, e2, Nat.mod_mul_right_mod]

/-- the low digits, and what goes over, of a sum -/
def carryAt (a b i : Nat) : Nat := (a % 65536 ^ i + b % 65536 ^ i) / 65536 ^ i
theorem carry_zero (a b : Nat) : carryAt a b 0 = 0 := by simp [carryAt, Nat.mod_one]
theorem low_succ (a i : Nat) : a % 65536 ^ (i + 1) = a % 65536 ^ i + 65536 ^ i * dig a i := by
  unfold dig
  rw [Nat.pow_succ, Nat.mod_mul]
theorem carry_le (a b i : Nat) : carryAt a b i ≤ 1 := by
  unfold carryAt
  have h1 := Nat.mod_lt a (show 0 < 65536 ^ i from Nat.pow_pos (by decide))
  have h2 := Nat.mod_lt b (show 0 < 65536 ^ i from Nat.pow_pos (by decide))
  apply Nat.le_of_lt_succ
  apply Nat.div_lt_of_lt_mul
  omega
theorem add_step (a b i : Nat) : (dig a i + dig b i + carryAt a b i) % 65536 = dig (a + b) i ∧ (dig a i + dig b i + carryAt a b i) / 65536 = carryAt a b (i + 1) := by
  have hp : 0 < 65536 ^ i := Nat.pow_pos (by decide)
  constructor
  · unfold carryAt dig
    have ea : (a + b) / 65536 ^ i = a / 65536 ^ i + b / 65536 ^ i + if 65536 ^ i ≤ a % 65536 ^ i + b % 65536 ^ i then 1 else 0 := Nat.add_div hp
    have e : (a % 65536 ^ i + b % 65536 ^ i) / 65536 ^ i = if 65536 ^ i ≤ a % 65536 ^ i + b % 65536 ^ i then 1 else 0 := by
      have h1 := Nat.mod_lt a hp
      have h2 := Nat.mod_lt b hp
      split
      · rename_i h
        apply Nat.div_eq_of_lt_le <;> omega
      · exact Nat.div_eq_of_lt (by omega)
    rw [e, ea]
    generalize a / 65536 ^ i = x
    generalize b / 65536 ^ i = y
    split <;> omega
  · unfold carryAt
    rw [low_succ, low_succ]
    have e : a % 65536 ^ i + 65536 ^ i * dig a i + (b % 65536 ^ i + 65536 ^ i * dig b i) = (a % 65536 ^ i + b % 65536 ^ i) + 65536 ^ i * (dig a i + dig b i) := by
      rw [Nat.mul_add]; omega
    rw [e, Nat.pow_succ, ← Nat.div_div_eq_div_mul, Nat.add_mul_div_left _ _ hp, Nat.add_comm]

end Go.Proofs.Ytoiadefffmhibaa
