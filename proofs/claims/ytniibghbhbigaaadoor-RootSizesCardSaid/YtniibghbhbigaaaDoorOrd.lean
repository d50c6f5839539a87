/- Plain: P is a prime, so every number of the field but 0 has the power P less 1 that is 1; what is left when too much is taken off. No program is named here. -/
import Derived.Test.YtniibghbhbigaaaDoorRootn
import Derived.Test.YtniibghbhbigaaaDoorFerm
namespace Go.Proofs.YtniibghbhbigaaaDoor
set_option linter.unusedVariables false

theorem PM_split : PM = 2 ^ 32 * 3 * 5 * 17 * 257 * 65537 := by decide

theorem prime_small {p q : Nat} (hp : Pr p) (hq : q ≤ 257) (h2 : 2 ≤ q) (hd : p ∣ q) (hall : ∀ d, d < 258 → 2 ≤ d → d < q → q % d ≠ 0) : p = q :=
  hp.eq_of_dvd ⟨h2, fun d h1 h3 => hall d (by omega) h1 h3⟩ hd

theorem pr_65537 : Pr 65537 := by
  apply Low.prime (d := 257)
  · intro k h1 h2 h3
    have h : ∀ k, k < 257 → 2 ≤ k → 65537 % k ≠ 0 := by decide +kernel
    exact h k h2 h1 h3
  · decide
  · decide

theorem prime_of_PM {p : Nat} (hp : Pr p) (h : p ∣ PM) : p ∈ qs := by
  rw [PM_split] at h
  rcases hp.dvd_mul h with h | h
  · rcases hp.dvd_mul h with h | h
    · rcases hp.dvd_mul h with h | h
      · rcases hp.dvd_mul h with h | h
        · rcases hp.dvd_mul h with h | h
          · have := hp.eq_of_dvd ⟨by decide, fun d h1 h2 => by omega⟩ (hp.dvd_pow _ h); subst this; decide
          · have := prime_small hp (by decide) (by decide) h (by decide +kernel); subst this; decide
        · have := prime_small hp (by decide) (by decide) h (by decide +kernel); subst this; decide
      · have := prime_small hp (by decide) (by decide) h (by decide +kernel); subst this; decide
    · have := prime_small hp (by decide) (by decide) h (by decide +kernel); subst this; decide
  · have := hp.eq_of_dvd pr_65537 h; subst this; decide

/-- no prime of P divides what the power of 7 is more than 1 -/
theorem seven_gcd : ∀ q, q ∈ qs → Nat.gcd (powP 7 (PM / q) - 1) PP = 1 := by
  intro q hq
  have e : powP 7 (PM / q) = powF 64 1 7 (PM / q) % PP := by
    refine powP_eq ?_ rfl
    have := Nat.div_le_self PM q
    unfold PM at this ⊢
    omega
  rw [e]
  simp only [qs, List.mem_cons, List.not_mem_nil, or_false] at hq
  rcases hq with rfl | rfl | rfl | rfl | rfl | rfl <;> decide +kernel

theorem mod_of_dvd {r a v : Nat} (hr : r ∣ PP) (h : a % PP = v) : a % r = v % r := by
  rw [← h, Nat.mod_mod_of_dvd _ hr]

theorem powP_def (a n : Nat) : a ^ n % PP = powP a n := rfl

theorem prime_PP : Pr PP := by
  obtain ⟨r, _, hr, hmin⟩ := first_of (fun d => 2 ≤ d ∧ d ∣ PP) PP ⟨by decide, Nat.dvd_refl _⟩
  have hpr : Pr r := ⟨hr.1, fun d hd hlt h0 => hmin d hlt ⟨hd, Nat.dvd_trans (Nat.dvd_of_mod_eq_zero h0) hr.2⟩⟩
  have h1 : 7 ^ PM % r = 1 := by
    rw [mod_of_dvd hr.2 ((powP_def 7 PM).trans seven_all)]; exact Nat.mod_eq_of_lt hr.1
  have ho : IsOrd r 7 PM := by
    refine ord_of_primes hr.1 (by decide) h1 fun p hp hd h2 => ?_
    have hq := prime_of_PM hp hd
    have h3 : powP 7 (PM / p) % r = 1 := by
      rw [← h2]; exact (mod_of_dvd hr.2 (powP_def 7 (PM / p))).symm
    have hne := seven_q hq
    have hpos : 1 ≤ powP 7 (PM / p) := by
      apply Nat.one_le_iff_ne_zero.2
      intro h0
      rw [h0] at h3
      simp at h3
    have h4 : r ∣ powP 7 (PM / p) - 1 := by
      refine (mod_iff_sub hpos).1 ?_
      rw [h3]; exact Nat.mod_eq_of_lt hr.1
    have h5 := Nat.dvd_gcd h4 hr.2
    rw [seven_gcd p hq] at h5
    have := Nat.le_of_dvd (by decide) h5
    have := hr.1
    omega
  have h7 : ¬ r ∣ 7 := by
    intro hd
    have : (7 : Nat) ^ PM % r = 0 := by
      rw [Nat.pow_mod, Nat.mod_eq_zero_of_dvd hd, Nat.zero_pow (by decide)]; exact Nat.zero_mod _
    omega
  have h6 := Nat.le_of_dvd (by have := hr.1; omega) (ho.dvd hr.1 (fermat hpr h7))
  have h8 := Nat.le_of_dvd (by decide) hr.2
  have h9 : r = PP := by
    have e : PP = PM + 1 := by decide
    have := hr.1
    omega
  rw [← h9]; exact hpr

theorem powP_all {a : Nat} (h : redP a ≠ 0) : powP a PM = 1 :=
  fermat prime_PP fun hd => h (Nat.mod_eq_zero_of_dvd hd)

theorem powP_red (a n : Nat) : powP (redP a) n = powP a n := by unfold powP redP; rw [← Nat.pow_mod]

/-- taking one more prime off keeps what was so for the earlier ones -/
theorem take_keeps {a k q q' : Nat} (hk : 1 ≤ k) (hq' : 1 ≤ q') (hq : 1 ≤ q) (h1 : k % q' = 0) (h : k % q = 0 → powP a (k / q) ≠ 1) : (k / q') % q = 0 → powP a (k / q' / q) ≠ 1 := by
  intro h2 h3
  obtain ⟨c, rfl⟩ := Nat.dvd_of_mod_eq_zero h1
  rw [Nat.mul_div_cancel_left _ hq'] at h2 h3
  obtain ⟨d, rfl⟩ := Nat.dvd_of_mod_eq_zero h2
  rw [Nat.mul_div_cancel_left _ hq] at h3
  have e : q' * (q * d) / q = d * q' := by rw [Nat.mul_left_comm, Nat.mul_div_cancel_left _ hq, Nat.mul_comm]
  refine h (Nat.mod_eq_zero_of_dvd (Nat.dvd_mul_left_of_dvd (Nat.dvd_mul_right _ _) _)) ?_
  rw [e]
  exact powP_one h3
end Go.Proofs.YtniibghbhbigaaaDoor
