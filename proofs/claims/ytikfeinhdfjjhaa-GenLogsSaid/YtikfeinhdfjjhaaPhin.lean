/- Plain: how many numbers are coprime to n, by its primes. No program is named here. -/
import Derived.Test.YtikfeinhdfjjhaaNumb
namespace Go.Proofs.Ytikfeinhdfjjhaa
set_option linter.unusedVariables false

/-- how many of the numbers from 1 to x have f -/
def cnt (f : Nat → Bool) : Nat → Nat
  | 0 => 0
  | x + 1 => cnt f x + (f (x + 1)).toNat

theorem cnt_le (f : Nat → Bool) (x : Nat) : cnt f x ≤ x := by
  induction x with
  | zero => exact Nat.le_refl _
  | succ x ih => simp only [cnt]; have := Bool.toNat_le (f (x + 1)); omega

theorem cnt_congr {f g : Nat → Bool} {x : Nat} (h : ∀ i, 1 ≤ i → i ≤ x → f i = g i) : cnt f x = cnt g x := by
  induction x with
  | zero => rfl
  | succ x ih => simp only [cnt]; rw [ih fun i h1 h2 => h i h1 (by omega), h (x + 1) (by omega) (by omega)]

theorem cnt_add (f : Nat → Bool) (a b : Nat) : cnt f (a + b) = cnt f a + cnt (fun i => f (a + i)) b := by
  induction b with
  | zero => simp [cnt]
  | succ b ih => rw [← Nat.add_assoc]; simp only [cnt]; rw [ih, Nat.add_assoc a b 1]; omega

theorem cnt_split (f g : Nat → Bool) (x : Nat) : cnt (fun i => !g i && f i) x + cnt (fun i => g i && f i) x = cnt f x := by
  induction x with
  | zero => rfl
  | succ x ih =>
    simp only [cnt]
    cases g (x + 1) <;> cases f (x + 1) <;> simp only [Bool.not_false, Bool.not_true, Bool.and_true, Bool.and_false, Bool.toNat_true, Bool.toNat_false] <;> omega

theorem cnt_none {f : Nat → Bool} {x : Nat} (h : ∀ i, 1 ≤ i → i ≤ x → f i = false) : cnt f x = 0 := by
  induction x with
  | zero => rfl
  | succ x ih => simp only [cnt]; rw [ih fun i h1 h2 => h i h1 (by omega), h (x + 1) (by omega) (by omega)]; rfl

/-- the multiples of p among the first p * y numbers -/
theorem cnt_mul (f : Nat → Bool) (p : Nat) (hp : 1 ≤ p) (y : Nat) : cnt (fun i => decide (i % p = 0) && f i) (p * y) = cnt (fun j => f (p * j)) y := by
  induction y with
  | zero => rfl
  | succ y ih =>
    rw [Nat.mul_succ, cnt_add, ih]
    simp only [cnt]
    congr 1
    obtain ⟨q, rfl⟩ : ∃ q, p = q + 1 := ⟨p - 1, by omega⟩
    simp only [cnt]
    rw [cnt_none]
    · have e1 : ((q + 1) * y + (q + 1)) % (q + 1) = 0 := by rw [← Nat.mul_succ]; exact Nat.mul_mod_right _ _
      rw [e1, Nat.mul_succ]; simp
    · intro i h1 h2
      have e1 : ((q + 1) * y + i) % (q + 1) = i := by rw [Nat.mul_add_mod, Nat.mod_eq_of_lt (by omega)]
      rw [e1]
      have : decide (i = 0) = false := by simp; omega
      rw [this]; rfl

/-- no number of the list divides i -/
def free (S : List Nat) (i : Nat) : Bool := S.all fun p => decide (i % p ≠ 0)
def prodL : List Nat → Nat
  | [] => 1
  | p :: S => p * prodL S
def prodM : List Nat → Nat
  | [] => 1
  | p :: S => (p - 1) * prodM S

theorem cnt_free : ∀ (S : List Nat), (∀ p, p ∈ S → Pr p) → S.Pairwise (fun a b => a < b) → ∀ y, cnt (free S) (y * prodL S) = y * prodM S := by
  intro S
  induction S with
  | nil =>
    intro _ _ y
    have : ∀ x, cnt (free []) x = x := by
      intro x
      induction x with
      | zero => rfl
      | succ x ih => simp only [cnt]; rw [ih]; rfl
    simp only [prodL, prodM, Nat.mul_one]
    exact this y
  | cons p S ih =>
    intro hS hr y
    have hp := hS p (by simp)
    have hS' : ∀ q, q ∈ S → Pr q := fun q hq => hS q (by simp [hq])
    rw [List.pairwise_cons] at hr
    have IH := ih hS' hr.2
    have hx : y * prodL (p :: S) = p * (y * prodL S) := by
      simp only [prodL]; rw [Nat.mul_left_comm]
    have s := cnt_split (free S) (fun i => decide (i % p = 0)) (y * prodL (p :: S))
    have e1 : cnt (fun i => !decide (i % p = 0) && free S i) (y * prodL (p :: S)) = cnt (free (p :: S)) (y * prodL (p :: S)) :=
      cnt_congr fun i _ _ => by simp [free]
    have e2 : cnt (fun i => decide (i % p = 0) && free S i) (y * prodL (p :: S)) = y * prodM S := by
      rw [hx, cnt_mul _ _ (by have := hp.1; omega), ← IH y]
      refine cnt_congr fun i _ _ => ?_
      unfold free
      rw [Bool.eq_iff_iff, List.all_eq_true, List.all_eq_true]
      constructor
      · intro h q hq
        have h1 := h q hq
        simp only [decide_eq_true_eq] at h1 ⊢
        intro h0
        exact h1 (Nat.mod_eq_zero_of_dvd (Nat.dvd_mul_left_of_dvd (Nat.dvd_of_mod_eq_zero h0) p))
      · intro h q hq
        have h1 := h q hq
        simp only [decide_eq_true_eq] at h1 ⊢
        intro h0
        rcases (hS' q hq).dvd_mul (Nat.dvd_of_mod_eq_zero h0) with hd | hd
        · have := (hS' q hq).eq_of_dvd hp hd
          have := hr.1 q hq
          omega
        · exact h1 (Nat.mod_eq_zero_of_dvd hd)
    have e3 : cnt (free S) (y * prodL (p :: S)) = y * p * prodM S := by
      rw [← IH (y * p)]
      simp only [prodL]; rw [Nat.mul_assoc]
    rw [e1, e2, e3] at s
    simp only [prodM]
    have hp1 := hp.1
    obtain ⟨q, rfl⟩ : ∃ q, p = q + 1 := ⟨p - 1, by omega⟩
    have : y * (q + 1) * prodM S = y * (q * prodM S) + y * prodM S := by
      rw [Nat.mul_add, Nat.add_mul, Nat.mul_one, Nat.mul_assoc]
    rw [this] at s
    simp only [Nat.add_sub_cancel]
    omega

theorem prodF_split : ∀ l : List (Nat × Nat), (∀ x, x ∈ l → 1 ≤ x.2) → ∃ y, prodF l = y * prodL (l.map (·.1)) := by
  intro l
  induction l with
  | nil => intro _; exact ⟨1, rfl⟩
  | cons x l ih =>
    intro h
    obtain ⟨y, hy⟩ := ih fun z hz => h z (by simp [hz])
    have h1 := h x (by simp)
    obtain ⟨s, hs⟩ : ∃ s, x.2 = s + 1 := ⟨x.2 - 1, by omega⟩
    refine ⟨x.1 ^ s * y, ?_⟩
    simp only [prodF, List.map_cons, prodL]
    rw [hy, hs, Nat.pow_succ, Nat.mul_assoc, Nat.mul_assoc, Nat.mul_left_comm x.1 y]

/-- what Phi's loop computes -/
def phi (l : List (Nat × Nat)) (n : Nat) : Nat := l.foldl (fun m x => m / x.1 * (x.1 - 1)) n

theorem phi_prod : ∀ (l : List (Nat × Nat)), (∀ x, x ∈ l → 1 ≤ x.1) → ∀ y, phi l (y * prodL (l.map (·.1))) = y * prodM (l.map (·.1)) := by
  intro l
  induction l with
  | nil => intro _ y; rfl
  | cons x l ih =>
    intro h y
    have h1 := h x (by simp)
    have e : y * prodL ((x :: l).map (·.1)) / x.1 * (x.1 - 1) = (y * (x.1 - 1)) * prodL (l.map (·.1)) := by
      simp only [List.map_cons, prodL]
      rw [Nat.mul_left_comm, Nat.mul_div_cancel_left _ (by omega)]
      rw [Nat.mul_assoc, Nat.mul_comm (prodL _), ← Nat.mul_assoc]
    show phi l (y * prodL ((x :: l).map (·.1)) / x.1 * (x.1 - 1)) = _
    rw [e, ih (fun z hz => h z (by simp [hz]))]
    simp only [List.map_cons, prodM]
    rw [Nat.mul_assoc]

theorem Pr.dvd_prodF {q : Nat} (hq : Pr q) : ∀ l : List (Nat × Nat), (∀ x, x ∈ l → Pr x.1) → q ∣ prodF l → ∃ x, x ∈ l ∧ x.1 = q := by
  intro l
  induction l with
  | nil => intro _ h; have h2 := Nat.le_of_dvd (by simp [prodF]) h; have := hq.1; simp only [prodF] at h2; omega
  | cons x l ih =>
    intro h hd
    rcases hq.dvd_mul hd with hd | hd
    · exact ⟨x, by simp, (hq.eq_of_dvd (h x (by simp)) (hq.dvd_pow _ hd)).symm⟩
    · obtain ⟨z, hz, e⟩ := ih (fun z hz => h z (by simp [hz])) hd
      exact ⟨z, by simp [hz], e⟩

theorem dvd_prodF_of_mem : ∀ (l : List (Nat × Nat)) (x : Nat × Nat), x ∈ l → 1 ≤ x.2 → x.1 ∣ prodF l := by
  intro l
  induction l with
  | nil => intro x h; simp at h
  | cons y l ih =>
    intro x h h1
    rcases List.mem_cons.1 h with e | e
    · subst e
      obtain ⟨s, hs⟩ : ∃ s, x.2 = s + 1 := ⟨x.2 - 1, by omega⟩
      simp only [prodF]
      rw [hs, Nat.pow_succ, Nat.mul_assoc, Nat.mul_left_comm]
      exact Nat.dvd_mul_right _ _
    · simp only [prodF]
      exact Nat.dvd_mul_left_of_dvd (ih x e h1) _

theorem free_gcd {n : Nat} {l : List (Nat × Nat)} (h : IsFac n l) (h1 : 1 ≤ n) (h2 : n ≤ 16777216) (i : Nat) (hi : 1 ≤ i) :
    free (l.map (·.1)) i = (Nat.gcd i n == 1) := by
  rw [Bool.eq_iff_iff, beq_iff_eq]
  unfold free
  rw [List.all_eq_true]
  constructor
  · intro hf
    have hg1 : 1 ≤ Nat.gcd i n := Nat.gcd_pos_of_pos_right _ h1
    have hgn : Nat.gcd i n ≤ n := Nat.gcd_le_right _ h1
    have hF := facs_spec hg1 (Nat.le_trans hgn h2)
    match hl : facs (Nat.gcd i n), hF with
    | [], hF => exact hF.prod.symm
    | x :: t, hF =>
      exfalso
      have hx := hF.prime x (by simp)
      have hd : x.1 ∣ Nat.gcd i n := by
        have := dvd_prodF_of_mem (x :: t) x (by simp) (hF.pos x (by simp))
        rwa [hF.prod] at this
      obtain ⟨z, hz, e⟩ := hx.dvd_prodF l h.prime (by rw [h.prod]; exact Nat.dvd_trans hd (Nat.gcd_dvd_right i n))
      have := hf z.1 (List.mem_map.2 ⟨z, hz, rfl⟩)
      simp only [decide_eq_true_eq] at this
      apply this
      rw [e]
      exact Nat.mod_eq_zero_of_dvd (Nat.dvd_trans hd (Nat.gcd_dvd_left i n))
  · intro hg p hp
    obtain ⟨x, hx, rfl⟩ := List.mem_map.1 hp
    simp only [decide_eq_true_eq]
    intro h0
    have hd : x.1 ∣ Nat.gcd i n := by
      apply Nat.dvd_gcd (Nat.dvd_of_mod_eq_zero h0)
      have := dvd_prodF_of_mem l x hx (h.pos x hx)
      rwa [h.prod] at this
    rw [hg] at hd
    have := Nat.le_of_dvd (by omega) hd
    have := (h.prime x hx).1
    omega

/-- the number of coprime numbers is what Phi's loop computes -/
theorem phi_cnt {n : Nat} {l : List (Nat × Nat)} (h : IsFac n l) (h1 : 1 ≤ n) (h2 : n ≤ 16777216) : phi l n = cnt (fun i => (Nat.gcd i n == 1)) n := by
  obtain ⟨y, hy⟩ := prodF_split l h.pos
  have e : n = y * prodL (l.map (·.1)) := by rw [← hy, h.prod]
  have hr : (l.map (·.1)).Pairwise (fun a b => a < b) := by
    rw [List.pairwise_map]; exact h.rise
  have hc := cnt_free (l.map (·.1)) (fun p hp => by obtain ⟨x, hx, rfl⟩ := List.mem_map.1 hp; exact h.prime x hx) hr y
  have hphi := phi_prod l (fun x hx => by have := (h.prime x hx).1; omega) y
  rw [← e] at hc hphi
  rw [hphi, ← hc]
  exact cnt_congr fun i hi _ => free_gcd h h1 h2 i hi

theorem phi_pos {n : Nat} {l : List (Nat × Nat)} (h : IsFac n l) (h1 : 2 ≤ n) (h2 : n ≤ 16777216) : 1 ≤ phi l n ∧ phi l n < n := by
  rw [phi_cnt h (by omega) h2]
  obtain ⟨m, rfl⟩ : ∃ m, n = m + 1 := ⟨n - 1, by omega⟩
  have hlast : (Nat.gcd (m + 1) (m + 1) == 1) = false := by rw [Nat.gcd_self]; simp; omega
  have hfirst : 1 ≤ cnt (fun i => (Nat.gcd i (m + 1) == 1)) m := by
    have e : m = 1 + (m - 1) := by omega
    generalize m + 1 = k
    rw [e, cnt_add]
    simp only [cnt]
    simp
  have hle := cnt_le (fun i => (Nat.gcd i (m + 1) == 1)) m
  simp only [cnt]
  rw [hlast]
  simp only [Bool.toNat_false, Nat.add_zero]
  omega

end Go.Proofs.Ytikfeinhdfjjhaa
