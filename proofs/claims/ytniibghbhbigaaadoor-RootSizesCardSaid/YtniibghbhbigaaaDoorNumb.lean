/- More plain number theory for the layer fact: primes divide products as they should; the exponent of a prime; which numbers are primes. -/
import Derived.Test.YtniibghbhbigaaaDoorNum
namespace Go.Proofs.YtniibghbhbigaaaDoor
set_option linter.unusedVariables false

theorem Pr.of_dvd {p g : Nat} (hp : Pr p) (h : g ∣ p) : g = 1 ∨ g = p := by
  have hp1 := hp.1
  have hle := Nat.le_of_dvd (by omega) h
  have h0 : g ≠ 0 := by rintro rfl; rw [Nat.zero_dvd] at h; omega
  by_cases h1 : g = 1
  · exact .inl h1
  · by_cases h2 : g = p
    · exact .inr h2
    · exact absurd (Nat.mod_eq_zero_of_dvd h) (hp.2 g (by omega) (by omega))

theorem Pr.dvd_mul {p a b : Nat} (hp : Pr p) (h : p ∣ a * b) : p ∣ a ∨ p ∣ b := by
  rcases hp.of_dvd (Nat.gcd_dvd_left p a) with e | e
  · exact .inr (Nat.Coprime.dvd_of_dvd_mul_left e h)
  · left
    have := Nat.gcd_dvd_right p a
    rwa [e] at this

theorem Pr.dvd_pow {p a : Nat} (hp : Pr p) : ∀ e, p ∣ a ^ e → p ∣ a := by
  intro e
  induction e with
  | zero => intro h; rw [Nat.pow_zero] at h; have h2 := Nat.le_of_dvd (by omega) h; have := hp.1; omega
  | succ e ih =>
    intro h
    rw [Nat.pow_succ] at h
    rcases hp.dvd_mul h with h | h
    · exact ih h
    · exact h

theorem Pr.eq_of_dvd {p q : Nat} (hp : Pr p) (hq : Pr q) (h : p ∣ q) : p = q := by
  rcases hq.of_dvd h with e | e
  · have := hp.1; omega
  · exact e

theorem not_dvd_prodF {p : Nat} (hp : Pr p) : ∀ l : List (Nat × Nat), (∀ y, y ∈ l → Pr y.1 ∧ y.1 ≠ p) → ¬ p ∣ prodF l := by
  intro l
  induction l with
  | nil => intro _ h; have h2 := Nat.le_of_dvd (by simp [prodF]) h; have := hp.1; simp only [prodF] at h2; omega
  | cons y l ih =>
    intro hl h
    rcases hp.dvd_mul h with h | h
    · exact (hl y (by simp)).2 (hp.eq_of_dvd (hl y (by simp)).1 (hp.dvd_pow _ h)).symm
    · exact ih (fun z hz => hl z (by simp [hz])) h

theorem prodF_pos : ∀ l : List (Nat × Nat), (∀ y, y ∈ l → Pr y.1) → 1 ≤ prodF l := by
  intro l
  induction l with
  | nil => intro _; simp [prodF]
  | cons y l ih =>
    intro h
    have h1 := (h y (by simp)).1
    exact Nat.mul_pos (Nat.pow_pos (by omega)) (ih fun z hz => h z (by simp [hz]))

theorem IsFac.split {n : Nat} {l a b : List (Nat × Nat)} {x : Nat × Nat} (h : IsFac n l) (e : l = a ++ x :: b) :
    n = prodF a * prodF b * x.1 ^ x.2 ∧ (prodF a * prodF b) % x.1 ≠ 0 := by
  have hx : Pr x.1 := h.prime x (by rw [e]; simp)
  have hr := h.rise
  rw [e, List.pairwise_append] at hr
  obtain ⟨r1, r2, r3⟩ := hr
  rw [List.pairwise_cons] at r2
  refine ⟨?_, fun hm => ?_⟩
  · rw [← h.prod, e, prodF_append]
    show prodF a * (x.1 ^ x.2 * prodF b) = _
    rw [Nat.mul_assoc, Nat.mul_comm (prodF b)]
  · rcases hx.dvd_mul (Nat.dvd_of_mod_eq_zero hm) with hd | hd
    · refine not_dvd_prodF hx a (fun y hy => ⟨h.prime y (by rw [e]; simp [hy]), ?_⟩) hd
      have := r3 y hy x (by simp)
      omega
    · refine not_dvd_prodF hx b (fun y hy => ⟨h.prime y (by rw [e]; simp [hy]), ?_⟩) hd
      have := r2.1 y hy
      omega

theorem IsFac.times {n : Nat} {l a b : List (Nat × Nat)} {x : Nat × Nat} (h : IsFac n l) (e : l = a ++ x :: b) : YtniibghbhbigaaaDoor.times x.1 n = x.2 := by
  obtain ⟨h1, h2⟩ := h.split e
  exact (rest_of (h.prime x (by rw [e]; simp)).1 h1 h2).2

/-- the entry at place i, and the products up to it -/
theorem IsFac.at_ {n : Nat} {l : List (Nat × Nat)} (h : IsFac n l) {i : Nat} {x : Nat × Nat} (hx : l[i]? = some x) :
    YtniibghbhbigaaaDoor.times x.1 n = x.2 ∧ 2 ≤ x.1 ∧ 1 ≤ x.2 ∧ prodF (l.take i) * x.1 ^ x.2 ≤ n ∧ prodF (l.take (i + 1)) = prodF (l.take i) * x.1 ^ x.2 ∧ 1 ≤ prodF (l.take i) ∧ x.1 ≤ n ∧ x.2 ≤ n := by
  have hi : i < l.length := (List.getElem?_eq_some_iff.1 hx).1
  have hxe : l[i] = x := (List.getElem?_eq_some_iff.1 hx).2
  have e : l = l.take i ++ x :: l.drop (i + 1) := by
    rw [← hxe, ← List.drop_eq_getElem_cons hi, List.take_append_drop]
  have hm : x ∈ l := List.mem_of_getElem? hx
  obtain ⟨h1, h2⟩ := h.split e
  have hb : 1 ≤ prodF (l.drop (i + 1)) := prodF_pos _ fun y hy => h.prime y (List.mem_of_mem_drop hy)
  have ha : 1 ≤ prodF (l.take i) := prodF_pos _ fun y hy => h.prime y (List.mem_of_mem_take hy)
  have hle : prodF (l.take i) * x.1 ^ x.2 ≤ n := by
    rw [h1, Nat.mul_assoc, Nat.mul_comm (prodF (l.drop (i + 1))), ← Nat.mul_assoc]
    exact Nat.le_mul_of_pos_right _ hb
  have h3 := (h.prime x hm).1
  have h4 := h.pos x hm
  have hpow : x.1 ^ x.2 ≤ n := Nat.le_trans (Nat.le_mul_of_pos_left _ ha) hle
  refine ⟨h.times e, h3, h4, hle, ?_, ha, ?_, ?_⟩
  · rw [List.take_add_one, hx, prodF_append]; simp [prodF]
  · exact Nat.le_trans (Nat.le_self_pow (by omega) _) hpow
  · exact Nat.le_trans (Nat.le_of_lt (Nat.lt_pow_self (by omega))) hpow

/-- one prime, once -/
def isOne : List (Nat × Nat) → Bool
  | [x] => x.2 == 1
  | _ => false

theorem isOne_iff {n : Nat} {l : List (Nat × Nat)} (h : IsFac n l) (hn : 1 ≤ n) : isOne l = true ↔ Pr n := by
  constructor
  · intro h1
    match l, h, h1 with
    | [x], h, h1 =>
      have e : x.2 = 1 := by simpa [isOne] using h1
      have := h.prod
      simp [prodF, e] at this
      rw [← this]; exact h.prime x (by simp)
  · intro hp
    match l, h with
    | [], h => have h1 := h.prod; have := hp.1; simp [prodF] at h1; omega
    | x :: l, h =>
      have hx := h.prime x (by simp)
      have hprod : x.1 ^ x.2 * prodF l = n := h.prod
      have hpos := h.pos x (by simp)
      have hd : x.1 ∣ n := by
        rw [← hprod]
        obtain ⟨s, hs⟩ : ∃ s, x.2 = s + 1 := ⟨x.2 - 1, by omega⟩
        rw [hs, Nat.pow_succ, Nat.mul_assoc, Nat.mul_comm, Nat.mul_assoc]
        exact Nat.dvd_mul_right _ _
      have hxn := hx.eq_of_dvd hp hd
      have hl1 : 1 ≤ prodF l := prodF_pos l fun y hy => h.prime y (by simp [hy])
      have hx2 := hx.1
      -- the exponent is 1 and nothing else is there
      have he : x.2 = 1 := by
        by_cases he : x.2 = 1
        · exact he
        · exfalso
          have h2 : x.1 ^ 2 ≤ x.1 ^ x.2 := Nat.pow_le_pow_right (by omega) (by omega)
          have h3 : x.1 ^ x.2 ≤ n := by rw [← hprod]; exact Nat.le_mul_of_pos_right _ hl1
          have h4 : x.1 * 2 ≤ x.1 * x.1 := Nat.mul_le_mul_left _ hx2
          have h5 : x.1 ^ 2 = x.1 * x.1 := by rw [Nat.pow_two]
          omega
      have hpl : prodF l = 1 := by
        rw [he, hxn] at hprod
        simp at hprod
        have : n * prodF l = n * 1 := by omega
        exact Nat.eq_of_mul_eq_mul_left (by omega) this
      have hl : l = [] := by
        match l, hpl, h with
        | [], _, _ => rfl
        | y :: l, hpl, h =>
          exfalso
          have hy := (h.prime y (by simp)).1
          have hyp := h.pos y (by simp)
          have h6 : 1 ≤ prodF l := prodF_pos l fun z hz => h.prime z (by simp [hz])
          have h7 : y.1 ^ 1 ≤ y.1 ^ y.2 := Nat.pow_le_pow_right (by omega) hyp
          have h8 : y.1 ^ y.2 ≤ y.1 ^ y.2 * prodF l := Nat.le_mul_of_pos_right _ h6
          have h9 : y.1 ^ y.2 * prodF l = 1 := hpl
          simp at h7
          omega
      subst hl
      simp [isOne, he]

/-- what both Primes answer -/
def prB (n : Int) : Bool := decide (1 ≤ n ∧ n ≤ 16777216) && isOne (facs n.toNat)

theorem prB_out {n : Int} (h : ¬ (1 ≤ n ∧ n ≤ 16777216)) : prB n = false := by unfold prB; rw [decide_eq_false h]; rfl
theorem prB_in {n : Nat} (h1 : 1 ≤ n) (h2 : n ≤ 16777216) : prB n = isOne (facs n) := by
  unfold prB; rw [decide_eq_true (by omega)]; simp
theorem prB_iff {n : Nat} (h1 : 1 ≤ n) (h2 : n ≤ 16777216) : prB n = true ↔ Pr n := by
  rw [prB_in h1 h2]; exact isOne_iff (facs_spec h1 h2) h1
theorem prB_yes {n : Nat} (h : Pr n) (h2 : n ≤ 16777216) : prB n = true := (prB_iff (by have := h.1; omega) h2).2 h
theorem prB_no {n : Nat} (h : ¬ Pr n) : prB n = false := by
  by_cases h1 : 1 ≤ n ∧ n ≤ 16777216
  · rw [← Bool.not_eq_true]; exact fun e => h ((prB_iff h1.1 h1.2).1 e)
  · exact prB_out (by omega)

end Go.Proofs.YtniibghbhbigaaaDoor
