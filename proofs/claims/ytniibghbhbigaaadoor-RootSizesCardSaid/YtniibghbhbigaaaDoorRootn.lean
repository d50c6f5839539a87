/- Plain: roots of unity modulo P, their orders. No program is named here. -/
import Derived.Test.YtniibghbhbigaaaDoorRefg
namespace Go.Proofs.YtniibghbhbigaaaDoor
set_option linter.unusedVariables false

/-- P less 1 -/
def PM : Nat := 18446744069414584320

/-- powers by squares, to be reckoned -/
def powF : Nat → Nat → Nat → Nat → Nat
  | 0, p, _, _ => p
  | f + 1, p, a, n => powF f (if n % 2 = 1 then p * a % PP else p) (a * a % PP) (n / 2)

theorem powF_spec : ∀ f p a n, n < 2 ^ f → powF f p a n % PP = p * a ^ n % PP := by
  intro f
  induction f with
  | zero => intro p a n h; simp at h; subst h; simp [powF]
  | succ f ih =>
    intro p a n h
    rw [powF, ih _ _ _ (by rw [Nat.pow_succ] at h; omega)]
    by_cases hn : n % 2 = 1
    · rw [if_pos hn]
      have := pow_odd p a n 0 0
      have h1 := pow_odd p a n (p * a ^ n) 1 (by simp) hn
      simp only [Nat.pow_one] at h1
      unfold mulP at h1
      exact h1
    · rw [if_neg hn]
      have h1 := pow_even p a n (p * a ^ n) 1 (by simp) (by omega)
      simp only [Nat.pow_one] at h1
      unfold mulP at h1
      exact h1

theorem powP_eq {a n r : Nat} (hn : n < 2 ^ 64) (h : powF 64 1 a n % PP = r) : powP a n = r := by
  rw [← h, powF_spec 64 1 a n hn]; unfold powP; rw [Nat.one_mul]

theorem seven_all : powP 7 PM = 1 := powP_eq (by decide) (by decide +kernel)
theorem seven_2 : powP 7 (PM / 2) = 18446744069414584320 := powP_eq (by decide) (by decide +kernel)
theorem seven_4 : powP 7 (PM / 4) = 281474976710656 := powP_eq (by decide) (by decide +kernel)
theorem seven_q2 : powP 7 (PM / 2) ≠ 1 := by rw [seven_2]; decide
theorem seven_q3 : powP 7 (PM / 3) ≠ 1 := by
  rw [powP_eq (r := powF 64 1 7 (PM / 3) % PP) (by decide) rfl]; decide +kernel
theorem seven_q5 : powP 7 (PM / 5) ≠ 1 := by
  rw [powP_eq (r := powF 64 1 7 (PM / 5) % PP) (by decide) rfl]; decide +kernel
theorem seven_q17 : powP 7 (PM / 17) ≠ 1 := by
  rw [powP_eq (r := powF 64 1 7 (PM / 17) % PP) (by decide) rfl]; decide +kernel
theorem seven_q257 : powP 7 (PM / 257) ≠ 1 := by
  rw [powP_eq (r := powF 64 1 7 (PM / 257) % PP) (by decide) rfl]; decide +kernel
theorem seven_q65537 : powP 7 (PM / 65537) ≠ 1 := by
  rw [powP_eq (r := powF 64 1 7 (PM / 65537) % PP) (by decide) rfl]; decide +kernel

/-- the primes that divide P less 1 -/
def qs : List Nat := [2, 3, 5, 17, 257, 65537]

theorem seven_q {q : Nat} (h : q ∈ qs) : powP 7 (PM / q) ≠ 1 := by
  simp only [qs, List.mem_cons, List.not_mem_nil, or_false] at h
  rcases h with rfl | rfl | rfl | rfl | rfl | rfl
  · exact seven_q2
  · exact seven_q3
  · exact seven_q5
  · exact seven_q17
  · exact seven_q257
  · exact seven_q65537

theorem powP_pow (a m n : Nat) : powP (powP a m) n = powP a (m * n) := by
  unfold powP; rw [← Nat.pow_mod, ← Nat.pow_mul]
theorem powP_one {a m n : Nat} (h : powP a m = 1) : powP a (m * n) = 1 := by
  rw [← powP_pow, h]; unfold powP; rw [Nat.one_pow]; decide

/-- the root of a size -/
def rootP (n : Nat) : Nat := powP 7 (PM / n)
theorem rootP_lt (n : Nat) : rootP n < 18446744069414584321 := powP_lt _ _

theorem div_mul_div {N n q : Nat} (hn : 1 ≤ n) (hq : 1 ≤ q) (h1 : N % n = 0) (h2 : n % q = 0) : N / n * (n / q) = N / q := by
  obtain ⟨c, rfl⟩ := Nat.dvd_of_mod_eq_zero h1
  obtain ⟨d, rfl⟩ := Nat.dvd_of_mod_eq_zero h2
  rw [Nat.mul_div_cancel_left _ hq, Nat.mul_div_cancel_left _ hn, Nat.mul_assoc, Nat.mul_div_cancel_left _ hq, Nat.mul_comm]

theorem rootP_part {n d : Nat} (hn : 1 ≤ n) (hd : 1 ≤ d) (h1 : PM % n = 0) (h2 : n % d = 0) : powP (rootP n) (n / d) = rootP d := by
  unfold rootP
  rw [powP_pow, div_mul_div hn hd h1 h2]
theorem rootP_one {n : Nat} (hn : 1 ≤ n) (h1 : PM % n = 0) : powP (rootP n) n = 1 := by
  unfold rootP
  rw [powP_pow, Nat.div_mul_cancel (Nat.dvd_of_mod_eq_zero h1)]; exact seven_all
theorem rootP_least {n q : Nat} (hn : 1 ≤ n) (h1 : PM % n = 0) (hq : q ∈ qs) (h2 : n % q = 0) : powP (rootP n) (n / q) ≠ 1 := by
  have hq1 : 1 ≤ q := by
    simp only [qs, List.mem_cons, List.not_mem_nil, or_false] at hq
    omega
  rw [rootP_part hn hq1 h1 h2]
  exact seven_q hq
theorem mul_powP (a n : Nat) : mulP a (powP a n) = powP a (n + 1) := by
  unfold mulP powP
  rw [Nat.mul_mod, Nat.mod_mod, ← Nat.mul_mod, Nat.pow_succ, Nat.mul_comm]
theorem rootP_inv {n : Nat} (hn : 1 ≤ n) (h1 : PM % n = 0) : mulP (rootP n) (powP (rootP n) 18446744069414584319) = 1 := by
  rw [mul_powP]
  show powP (rootP n) PM = 1
  unfold rootP
  rw [powP_pow, Nat.mul_comm]
  exact powP_one seven_all

/-- is it a size? -/
def hasB (n : Int) : Bool := decide (1 ≤ n ∧ n ≤ 16777216) && (PM % n.toNat == 0)
theorem hasB_in {n : Nat} (h1 : 1 ≤ n) (h2 : n ≤ 16777216) : hasB n = (PM % n == 0) := by
  unfold hasB; rw [decide_eq_true (by omega)]; simp
theorem hasB_out {n : Int} (h : ¬ (1 ≤ n ∧ n ≤ 16777216)) : hasB n = false := by unfold hasB; rw [decide_eq_false h]; rfl

end Go.Proofs.YtniibghbhbigaaaDoor
