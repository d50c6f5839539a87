/- Plain: differences, order, bits, quotients of numbers of 128 bits by their digits. No program is named here. -/
import Derived.Test.YtoiadefffmhibaaDig
namespace Go.Proofs.Ytoiadefffmhibaa
set_option linter.unusedVariables false

theorem dig_ww (n i : Nat) (hi : i < 8) : dig (n + WW) i = dig n i := by
  rw [← dig_mod (n + WW) i hi, Nat.add_mod_right, dig_mod n i hi]

/-- what is to be paid back at a place -/
def borrowAt (a b i : Nat) : Nat := if a % 65536 ^ i < b % 65536 ^ i then 1 else 0
theorem borrow_zero (a b : Nat) : borrowAt a b 0 = 0 := by simp [borrowAt, Nat.mod_one]
theorem borrow_le (a b i : Nat) : borrowAt a b i ≤ 1 := by unfold borrowAt; split <;> omega
theorem borrow_succ (a b i : Nat) : borrowAt a b (i + 1) = if dig a i < dig b i + borrowAt a b i then 1 else 0 := by
  unfold borrowAt
  rw [low_succ, low_succ]
  have hp : 0 < 65536 ^ i := Nat.pow_pos (by decide)
  have h1 := Nat.mod_lt a hp
  have h2 := Nat.mod_lt b hp
  generalize a % 65536 ^ i = x at *
  generalize b % 65536 ^ i = y at *
  generalize 65536 ^ i = p at *
  generalize dig a i = u
  generalize dig b i = v
  rcases Nat.lt_trichotomy u v with h | h | h
  · have : p * (u + 1) ≤ p * v := Nat.mul_le_mul_left _ h
    rw [Nat.mul_add, Nat.mul_one] at this
    rw [if_pos (by omega), if_pos (by split <;> omega)]
  · subst h
    by_cases hc : x < y
    · rw [if_pos (by omega), if_pos (by rw [if_pos hc]; omega)]
    · rw [if_neg (by omega), if_neg (by rw [if_neg hc]; omega)]
  · have : p * (v + 1) ≤ p * u := Nat.mul_le_mul_left _ h
    rw [Nat.mul_add, Nat.mul_one] at this
    rw [if_neg (by omega), if_neg (by split <;> omega)]
theorem sub_step (a b i : Nat) (hb : b < WW) (hi : i < 8) : dig (a + WW - b) i = if dig a i < dig b i + borrowAt a b i then dig a i + 65536 - dig b i - borrowAt a b i else dig a i - dig b i - borrowAt a b i := by
  have hp : 0 < 65536 ^ i := Nat.pow_pos (by decide)
  have e : WW = 65536 ^ i * (65536 ^ (8 - i)) := by
    rw [← Nat.pow_add, show i + (8 - i) = 8 by omega]; rfl
  have e2 : (65536 : Nat) ^ (8 - i) = 65536 * 65536 ^ (7 - i) := by
    rw [← Nat.pow_succ']; congr 1; omega
  have hl := dig_lt a i
  have hl2 := dig_lt b i
  have hle := borrow_le a b i
  have key : (a + WW - b) / 65536 ^ i = a / 65536 ^ i + 65536 * 65536 ^ (7 - i) - b / 65536 ^ i - borrowAt a b i := by
    unfold borrowAt
    have h1 := Nat.mod_lt a hp
    have h2 := Nat.mod_lt b hp
    have ha := Nat.div_add_mod a (65536 ^ i)
    have hbb := Nat.div_add_mod b (65536 ^ i)
    have hB : b / 65536 ^ i < 65536 * 65536 ^ (7 - i) := by
      rw [← e2]; exact Nat.div_lt_of_lt_mul (by rw [← e]; exact hb)
    rw [e2] at e
    rw [e] at hb ⊢
    clear hl hl2 hle e e2
    generalize 65536 * 65536 ^ (7 - i) = m at *
    generalize 65536 ^ i = p at *
    generalize a / p = A at *
    generalize b / p = B at *
    generalize a % p = x at *
    generalize b % p = y at *
    subst ha hbb
    obtain ⟨k, hk⟩ : ∃ k, A + m = B + 1 + k := ⟨A + m - B - 1, by omega⟩
    have hm : p * A + p * m = p * B + p + p * k := by rw [← Nat.mul_add, hk, Nat.mul_add, Nat.mul_add, Nat.mul_one]
    split
    · have : p * A + x + p * m - (p * B + y) = p * k + (p + x - y) := by omega
      rw [this, Nat.mul_add_div hp, Nat.div_eq_of_lt (by omega)]; omega
    · have : p * A + x + p * m - (p * B + y) = p * (k + 1) + (x - y) := by rw [Nat.mul_add]; omega
      rw [this, Nat.mul_add_div hp, Nat.div_eq_of_lt (by omega)]; omega
  have hB : b / 65536 ^ i < 65536 * 65536 ^ (7 - i) := by
    rw [← e2]; exact Nat.div_lt_of_lt_mul (by rw [← e]; exact hb)
  have : dig (a + WW - b) i = (a / 65536 ^ i + 65536 * 65536 ^ (7 - i) - b / 65536 ^ i - borrowAt a b i) % 65536 := by
    rw [← key]; rfl
  rw [this]
  unfold dig at *
  generalize borrowAt a b i = c at *
  generalize a / 65536 ^ i = A at *
  generalize b / 65536 ^ i = B at *
  generalize 65536 ^ (7 - i) = M at *
  split <;> omega

/-- the order of two numbers, from the first place that tells -/
def cmpv (a b : Nat) : Int := if a < b then -1 else if b < a then 1 else 0
theorem dig_eq (a i : Nat) : a / 65536 ^ i = 65536 * (a / 65536 ^ (i + 1)) + dig a i := by
  unfold dig
  rw [Nat.pow_succ, ← Nat.div_div_eq_div_mul, Nat.div_add_mod]
theorem lt_of_div {a b p : Nat} (h : a / p < b / p) : a < b := by
  apply Nat.lt_of_not_le
  intro hh
  have := Nat.div_le_div_right (c := p) hh
  omega
theorem cmp_lt {a b i : Nat} (h : a / 65536 ^ (i + 1) = b / 65536 ^ (i + 1)) (hd : dig a i < dig b i) : cmpv a b = -1 := by
  have : a < b := lt_of_div (p := 65536 ^ i) (by rw [dig_eq a, dig_eq b, h]; omega)
  simp [cmpv, this]
theorem cmp_gt {a b i : Nat} (h : a / 65536 ^ (i + 1) = b / 65536 ^ (i + 1)) (hd : dig b i < dig a i) : cmpv a b = 1 := by
  have : b < a := lt_of_div (p := 65536 ^ i) (by rw [dig_eq a, dig_eq b, h]; omega)
  have h2 : ¬ a < b := by omega
  simp [cmpv, this, h2]
theorem cmp_down {a b i : Nat} (h : a / 65536 ^ (i + 1) = b / 65536 ^ (i + 1)) (hd : dig a i = dig b i) : a / 65536 ^ i = b / 65536 ^ i := by
  rw [dig_eq a, dig_eq b, h, hd]

/-- a bit of a digit is a bit of the number -/
theorem bit_dig (a k : Nat) : dig a (k / 16) / 2 ^ (k % 16) % 2 = a / 2 ^ k % 2 := by
  have e : (65536 : Nat) ^ (k / 16) = 2 ^ (16 * (k / 16)) := by rw [Nat.pow_mul]
  unfold dig
  rw [e]
  have e2 : (65536 : Nat) = 2 ^ (k % 16) * (2 * 2 ^ (15 - k % 16)) := by
    rw [← Nat.pow_succ', ← Nat.pow_add, show k % 16 + (15 - k % 16).succ = 16 by omega]
  conv => lhs; rw [e2]
  rw [Nat.mod_mul_right_div_self, Nat.mod_mul_right_mod, Nat.div_div_eq_div_mul, ← Nat.pow_add, Nat.div_add_mod]

theorem half (a k : Nat) : a / 2 ^ k = 2 * (a / 2 ^ (k + 1)) + a / 2 ^ k % 2 := by
  rw [Nat.pow_succ, ← Nat.div_div_eq_div_mul, Nat.div_add_mod]

theorem mul_step (a b k : Nat) : a / 2 ^ (k + 1) * b + a / 2 ^ (k + 1) * b + (if a / 2 ^ k % 2 = 1 then b else 0) = a / 2 ^ k * b := by
  conv => rhs; rw [half a k, Nat.add_mul, Nat.mul_assoc]
  have : a / 2 ^ k % 2 = 0 ∨ a / 2 ^ k % 2 = 1 := by omega
  rcases this with h | h <;> simp [h] <;> omega

theorem div_step (A B b s : Nat) (hb : 0 < b) (h : A = 2 * B + s) (hs : s ≤ 1) :
    A / b = B / b + B / b + (if b ≤ B % b + B % b + s then 1 else 0) ∧
    A % b = (if b ≤ B % b + B % b + s then B % b + B % b + s - b else B % b + B % b + s) := by
  have h1 := Nat.div_add_mod B b
  have h2 := Nat.mod_lt B hb
  generalize B / b = q at *
  generalize B % b = r at *
  subst h h1
  split
  · have e : 2 * (b * q + r) + s = b * (q + q + 1) + (r + r + s - b) := by
      simp only [Nat.mul_add, Nat.mul_one]; omega
    rw [e, Nat.mul_add_div hb, Nat.mul_add_mod, Nat.div_eq_of_lt (by omega), Nat.mod_eq_of_lt (by omega)]
    exact ⟨rfl, rfl⟩
  · have e : 2 * (b * q + r) + s = b * (q + q) + (r + r + s) := by
      simp only [Nat.mul_add]; omega
    rw [e, Nat.mul_add_div hb, Nat.mul_add_mod, Nat.div_eq_of_lt (by omega), Nat.mod_eq_of_lt (by omega)]
    exact ⟨rfl, rfl⟩

/-- how many bits -/
def blen (a : Nat) : Nat := if a = 0 then 0 else Nat.log2 a + 1
theorem blen_le {a k : Nat} (h : a < 2 ^ k) : blen a ≤ k := by
  unfold blen
  split
  · omega
  · rename_i hz
    have := (Nat.log2_lt hz).2 h
    omega
theorem blen_eq {a k : Nat} (h : 2 ^ k ≤ a) (h2 : a < 2 ^ (k + 1)) : blen a = k + 1 := by
  have hp : 0 < 2 ^ k := Nat.pow_pos (by decide)
  have hz : a ≠ 0 := by omega
  have h3 := (Nat.log2_lt hz).2 h2
  have h4 : k ≤ Nat.log2 a := (Nat.le_log2 hz).2 h
  unfold blen
  rw [if_neg hz]; omega
theorem len_step (a k : Nat) : blen (a % 2 ^ (k + 1)) = if a / 2 ^ k % 2 = 1 then k + 1 else blen (a % 2 ^ k) := by
  have hp : 0 < 2 ^ k := Nat.pow_pos (by decide)
  have h1 := Nat.mod_lt a hp
  have e : a % 2 ^ (k + 1) = a % 2 ^ k + 2 ^ k * (a / 2 ^ k % 2) := by rw [Nat.pow_succ, Nat.mod_mul]
  have h2 := Nat.mod_lt a (show 0 < 2 ^ (k + 1) from Nat.pow_pos (by decide))
  split
  · rename_i h
    rw [h] at e
    exact blen_eq (by omega) h2
  · rename_i h
    have : a / 2 ^ k % 2 = 0 := by omega
    rw [this] at e
    rw [e]; congr 1
end Go.Proofs.Ytoiadefffmhibaa
