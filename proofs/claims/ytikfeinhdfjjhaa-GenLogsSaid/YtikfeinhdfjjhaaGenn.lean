/- Plain: the least generator modulo a prime, its powers, logs. No program is named here. -/
import Derived.Test.YtikfeinhdfjjhaaFerm
namespace Go.Proofs.Ytikfeinhdfjjhaa
set_option linter.unusedVariables false

/-- g is the least number whose powers are all -/
structure IsGen (q g : Nat) : Prop where
  pos : 1 ≤ g
  lt : g < q
  ord : IsOrd q g (q - 1)
  least : ∀ h, 1 ≤ h → h < g → ¬ IsOrd q h (q - 1)

theorem IsGen.uniq {q g h : Nat} (a : IsGen q g) (b : IsGen q h) : g = h := by
  rcases Nat.lt_trichotomy g h with hl | he | hl
  · exact absurd a.ord (b.least g a.pos hl)
  · exact he
  · exact absurd b.ord (a.least h b.pos hl)

theorem isGen7 : IsGen 7 3 := by
  refine ⟨by decide, by decide, ⟨by decide, by decide, fun m h1 h2 => ?_⟩, fun h h1 h2 ho => ?_⟩
  · have : m = 1 ∨ m = 2 ∨ m = 3 ∨ m = 4 ∨ m = 5 := by omega
    rcases this with rfl | rfl | rfl | rfl | rfl <;> decide
  · have : h = 1 ∨ h = 2 := by omega
    rcases this with rfl | rfl
    · exact ho.least 1 (by decide) (by decide) (by decide)
    · exact ho.least 3 (by decide) (by decide) (by decide)

/-- the primes of q - 1 tell whether a number is a generator -/
theorem ord_iff {q g : Nat} (hq : Pr q) (h1 : 1 ≤ g) (h2 : g < q) {l : List (Nat × Nat)} (hl : IsFac (q - 1) l) :
    (∀ x, x ∈ l → g ^ ((q - 1) / x.1) % q ≠ 1) → IsOrd q g (q - 1) := by
  intro h
  have hq2 := hq.1
  refine ord_of_primes hq2 (by omega) (fermat hq (not_dvd_small h1 h2)) fun p hp hd => ?_
  rw [← hl.prod] at hd
  -- the prime is one of the list
  have : ∀ l : List (Nat × Nat), (∀ x, x ∈ l → Pr x.1) → p ∣ prodF l → ∃ x, x ∈ l ∧ x.1 = p := by
    intro l
    induction l with
    | nil => intro _ h; have h2 := Nat.le_of_dvd (by simp [prodF]) h; have := hp.1; simp only [prodF] at h2; omega
    | cons x l ih =>
      intro h hd
      rcases hp.dvd_mul hd with hd | hd
      · exact ⟨x, by simp, (hp.eq_of_dvd (h x (by simp)) (hp.dvd_pow _ hd)).symm⟩
      · obtain ⟨z, hz, e⟩ := ih (fun z hz => h z (by simp [hz])) hd
        exact ⟨z, by simp [hz], e⟩
  obtain ⟨x, hx, e⟩ := this l hl.prime hd
  rw [← e]; exact h x hx
theorem ord_not {q g : Nat} {p : Nat} (h1 : p ∣ q - 1) (hp : 2 ≤ p) (hq : 2 ≤ q) (h : g ^ ((q - 1) / p) % q = 1) : ¬ IsOrd q g (q - 1) := by
  intro ho
  have hlt : (q - 1) / p < q - 1 := Nat.div_lt_self (by omega) (by omega)
  have hpos : 1 ≤ (q - 1) / p := by
    rcases Nat.eq_zero_or_pos ((q - 1) / p) with e | e
    · have := Nat.div_mul_cancel h1
      rw [e] at this; omega
    · exact e
  exact ho.least _ hpos hlt h

/-- powers below the order are distinct -/
theorem IsOrd.inj {q g k i j : Nat} (hq : Pr q) (hg : ¬ q ∣ g) (h : IsOrd q g k) (hi : i < k) (hj : j < k) (e : g ^ i % q = g ^ j % q) : i = j := by
  have key : ∀ i j, i ≤ j → j < k → g ^ i % q = g ^ j % q → i = j := by
    intro i j hij hj e
    have e2 : g ^ i * 1 % q = g ^ i * g ^ (j - i) % q := by
      rw [Nat.mul_one, ← Nat.pow_add, show i + (j - i) = j by omega]; exact e
    have h3 := hq.cancel (fun hd => hg (hq.dvd_pow _ hd)) e2
    rw [Nat.mod_eq_of_lt (show 1 < q from hq.1)] at h3
    apply Classical.byContradiction
    intro hne
    exact h.least (j - i) (by omega) (by omega) h3.symm
  rcases Nat.le_total i j with hl | hl
  · exact key i j hl hj e
  · exact (key j i hl hi e.symm).symm

theorem pow_range {q g i : Nat} (hq : Pr q) (hg : ¬ q ∣ g) : 1 ≤ g ^ i % q ∧ g ^ i % q < q := by
  refine ⟨?_, Nat.mod_lt _ (by have := hq.1; omega)⟩
  apply Nat.one_le_iff_ne_zero.2
  intro h0
  exact hg (hq.dvd_pow _ (Nat.dvd_of_mod_eq_zero h0))

/-- all numbers below the prime are powers -/
theorem IsGen.all {q g a : Nat} (hq : Pr q) (h : IsGen q g) (h1 : 1 ≤ a) (h2 : a < q) : ∃ s, s < q - 1 ∧ g ^ s % q = a := by
  have hg := not_dvd_small h.pos h.lt
  have hp : ((List.range (q - 1)).map fun s => g ^ s % q).Perm (upto (q - 1)) := by
    apply perm_of_sub
    · apply nodup_map_on List.nodup_range
      intro x hx y hy e
      rw [List.mem_range] at hx hy
      exact h.ord.inj hq hg hx hy e
    · intro x hx
      obtain ⟨s, hs, rfl⟩ := List.mem_map.1 hx
      rw [mem_upto]
      have := pow_range (i := s) hq hg
      omega
    · simp [len_upto]
  have hm : a ∈ upto (q - 1) := mem_upto.2 ⟨h1, by omega⟩
  obtain ⟨s, hs, e⟩ := List.mem_map.1 (hp.mem_iff.2 hm)
  rw [List.mem_range] at hs
  exact ⟨s, hs, e⟩

/-- the log of a product -/
theorem log_prod {q g s t u : Nat} (hq : Pr q) (h : IsGen q g) (e : g ^ s % q * (g ^ t % q) % q = g ^ u % q) : ((s : Int) + t - u).tmod ((q : Int) - 1) = 0 := by
  have hq2 := hq.1
  have hg := not_dvd_small h.pos h.lt
  have e1 : g ^ (s + t) % q = g ^ u % q := by rw [Nat.pow_add, Nat.mul_mod]; exact e
  have key : ∀ x y, x ≤ y → g ^ x % q = g ^ y % q → (q - 1) ∣ y - x := by
    intro x y hxy e
    have e2 : g ^ x * 1 % q = g ^ x * g ^ (y - x) % q := by
      rw [Nat.mul_one, ← Nat.pow_add, show x + (y - x) = y by omega]; exact e
    have h3 := hq.cancel (fun hd => hg (hq.dvd_pow _ hd)) e2
    rw [Nat.mod_eq_of_lt hq2] at h3
    exact h.ord.dvd hq2 h3.symm
  apply Int.tmod_eq_zero_of_dvd
  have eq1 : ((q : Int) - 1) = ((q - 1 : Nat) : Int) := by omega
  rw [eq1]
  rcases Nat.le_total (s + t) u with hl | hl
  · have hd := key _ _ hl e1
    have e3 : (s : Int) + t - u = -((u - (s + t) : Nat) : Int) := by omega
    rw [e3, Int.dvd_neg]
    exact Int.natCast_dvd_natCast.2 hd
  · have hd := key _ _ hl e1.symm
    have e3 : (s : Int) + t - u = ((s + t - u : Nat) : Int) := by omega
    rw [e3]
    exact Int.natCast_dvd_natCast.2 hd

/-- is it a prime up to 2^17? -/
def isB (q : Int) : Bool := decide (q ≤ 131072) && prB q
theorem isB_yes {q : Int} (h : isB q = true) : ∃ n : Nat, q = n ∧ Pr n ∧ n ≤ 131072 := by
  simp only [isB, Bool.and_eq_true, decide_eq_true_eq] at h
  have h1 : 1 ≤ q ∧ q ≤ 16777216 := by
    apply Classical.byContradiction; intro hn; rw [prB_out hn] at h; simp at h
  obtain ⟨n, rfl⟩ := Int.eq_ofNat_of_zero_le (show 0 ≤ q by omega)
  exact ⟨n, rfl, (prB_iff (by omega) (by omega)).1 h.2, by omega⟩
theorem isB_of {n : Nat} (h : Pr n) (h2 : n ≤ 131072) : isB n = true := by
  unfold isB; rw [prB_yes h (by omega), decide_eq_true (by omega)]; rfl
theorem isB_big {q : Int} (h : 131072 < q) : isB q = false := by unfold isB; rw [decide_eq_false (by omega)]; rfl
theorem isB_small {q : Int} (h : q ≤ 131072) : isB q = prB q := by unfold isB; rw [decide_eq_true h]; rfl
theorem pr7 : Pr 7 := ⟨by decide, fun d h1 h2 => by
  have : d = 2 ∨ d = 3 ∨ d = 4 ∨ d = 5 ∨ d = 6 := by omega
  rcases this with rfl | rfl | rfl | rfl | rfl <;> decide⟩

/-- one step of the powers by squares, modulo q -/
theorem mpow_even {q : Nat} (p a n A N : Nat) (h : p * a ^ n % q = A ^ N % q) (h2 : n % 2 = 0) : p * (a * a % q) ^ (n / 2) % q = A ^ N % q := by
  have e : n = 2 * (n / 2) := by omega
  rw [← h]
  conv => rhs; rw [e, Nat.pow_mul, Nat.mul_mod, Nat.pow_mod, Nat.pow_two]
  rw [Nat.mul_mod p, Nat.pow_mod (a * a % q), Nat.mod_mod]
theorem mpow_odd {q : Nat} (p a n A N : Nat) (h : p * a ^ n % q = A ^ N % q) (h2 : n % 2 = 1) : (p * a % q) * (a * a % q) ^ (n / 2) % q = A ^ N % q := by
  have e : n = 2 * (n / 2) + 1 := by omega
  have h3 : p * a * a ^ (n - 1) % q = A ^ N % q := by
    rw [← h]; congr 1
    have : n = (n - 1) + 1 := by omega
    conv => rhs; rw [this, Nat.pow_succ, Nat.mul_comm (a ^ (n - 1)), ← Nat.mul_assoc]
  have h4 := mpow_even (p * a) a (n - 1) A N h3 (by omega)
  rw [show (n - 1) / 2 = n / 2 by omega] at h4
  rw [← h4, Nat.mod_mul_mod]

/-- taking one more prime off keeps what was so for the earlier ones -/
theorem take_keeps {q a k p p' : Nat} (hq : 2 ≤ q) (hp' : 1 ≤ p') (hp : 1 ≤ p) (h1 : k % p' = 0) (h : k % p = 0 → a ^ (k / p) % q ≠ 1) : (k / p') % p = 0 → a ^ (k / p' / p) % q ≠ 1 := by
  intro h2 h3
  obtain ⟨c, rfl⟩ := Nat.dvd_of_mod_eq_zero h1
  rw [Nat.mul_div_cancel_left _ hp'] at h2 h3
  obtain ⟨d, rfl⟩ := Nat.dvd_of_mod_eq_zero h2
  rw [Nat.mul_div_cancel_left _ hp] at h3
  have e : p' * (p * d) / p = d * p' := by rw [Nat.mul_left_comm, Nat.mul_div_cancel_left _ hp, Nat.mul_comm]
  refine h (Nat.mod_eq_zero_of_dvd (Nat.dvd_mul_left_of_dvd (Nat.dvd_mul_right _ _) _)) ?_
  rw [e]
  exact pow_mod_mul h3 hq
end Go.Proofs.Ytikfeinhdfjjhaa
