/- Plain: all divisors of a number, out of its prime powers; and divisor by divisor. No program is named here. -/
import Derived.Test.YtikfeinhdfjjhaaFerm
namespace Go.Proofs.Ytikfeinhdfjjhaa
set_option linter.unusedVariables false

/-- every number of a list by every power of p up to the e-th -/
def dvStep (L : List Nat) (x : Nat × Nat) : List Nat := (List.range (x.2 + 1)).flatMap fun j => L.map (· * x.1 ^ j)
def dvs (l : List (Nat × Nat)) : List Nat := l.foldl dvStep [1]

/-- L holds just the divisors of m, each once -/
def IsDvs (m : Nat) (L : List Nat) : Prop := L.Nodup ∧ ∀ d, d ∈ L ↔ d ∣ m

theorem isDvs_one : IsDvs 1 [1] := ⟨by simp, fun d => by simp⟩

theorem pow_le_of_dvd {p a b : Nat} (hp : 2 ≤ p) (h : p ^ a ∣ p ^ b) : a ≤ b := by
  apply Nat.le_of_not_lt
  intro hlt
  have h1 := Nat.le_of_dvd (Nat.pow_pos (by omega)) h
  have h2 := Nat.pow_lt_pow_right (a := p) (by omega) hlt
  omega

theorem isDvs_step {m p e : Nat} {L : List Nat} (hm : 1 ≤ m) (hp : Pr p) (hn : ¬ p ∣ m) (h : IsDvs m L) : IsDvs (m * p ^ e) (dvStep L (p, e)) := by
  have hp2 : 2 ≤ p := hp.1
  have nd : ∀ d, d ∈ L → d % p ≠ 0 := fun d hd h0 => hn (Nat.dvd_trans (Nat.dvd_of_mod_eq_zero h0) ((h.2 d).1 hd))
  constructor
  · unfold dvStep
    rw [List.Nodup, List.pairwise_flatMap]
    constructor
    · intro j _
      refine nodup_map_on h.1 fun x _ y _ hxy => ?_
      exact Nat.eq_of_mul_eq_mul_right (Nat.pow_pos (by omega)) hxy
    · refine List.Pairwise.imp_of_mem ?_ (List.nodup_range (n := e + 1))
      intro a b _ _ hab x hx y hy hxy
      obtain ⟨d, hd, rfl⟩ := List.mem_map.1 hx
      obtain ⟨d', hd', rfl⟩ := List.mem_map.1 hy
      have h1 := times_mul_pow p hp2 d (nd d hd) a
      have h2 := times_mul_pow p hp2 d' (nd d' hd') b
      rw [hxy, h2] at h1
      exact hab h1.symm
  · intro d
    simp only [dvStep, List.mem_flatMap, List.mem_range, List.mem_map]
    constructor
    · rintro ⟨j, hj, d', hd', rfl⟩
      exact Nat.mul_dvd_mul ((h.2 d').1 hd') (Nat.pow_dvd_pow p (by omega))
    · intro hd
      have hpos : 1 ≤ m * p ^ e := Nat.mul_pos hm (Nat.pow_pos (by omega))
      have hd1 : 1 ≤ d := Nat.pos_of_dvd_of_pos hd hpos
      obtain ⟨e1, e2, e3⟩ := rest_spec hp2 hd1
      have c1 : Nat.Coprime (rest p d) (p ^ e) := by
        apply Nat.Coprime.pow_right
        have := hp.of_dvd (Nat.gcd_dvd_right (rest p d) p)
        rcases this with h | h
        · exact h
        · have g := Nat.gcd_dvd_left (rest p d) p
          rw [h] at g
          exact absurd (Nat.mod_eq_zero_of_dvd g) e2
      have c2 : Nat.Coprime (p ^ times p d) m := by
        apply Nat.Coprime.pow_left
        have := hp.of_dvd (Nat.gcd_dvd_left p m)
        rcases this with h | h
        · exact h
        · have g := Nat.gcd_dvd_right p m
          rw [h] at g
          exact absurd g hn
      have r1 : rest p d ∣ m := by
        refine c1.dvd_of_dvd_mul_right (Nat.dvd_trans ?_ hd)
        exact ⟨p ^ times p d, e1⟩
      have r2 : p ^ times p d ∣ p ^ e := by
        refine c2.dvd_of_dvd_mul_left (Nat.dvd_trans ?_ hd)
        exact ⟨rest p d, by rw [Nat.mul_comm]; exact e1⟩
      exact ⟨times p d, by have := pow_le_of_dvd hp2 r2; omega, rest p d, (h.2 _).2 r1, e1.symm⟩

theorem isDvs_fold : ∀ (l : List (Nat × Nat)) (m : Nat) (L : List Nat), 1 ≤ m → (∀ x, x ∈ l → Pr x.1 ∧ ¬ x.1 ∣ m) → l.Pairwise (fun a b => a.1 < b.1) → IsDvs m L → IsDvs (m * prodF l) (l.foldl dvStep L)
  | [], m, L, _, _, _, h => by simpa [prodF] using h
  | x :: l, m, L, hm, hl, hs, h => by
    rw [List.pairwise_cons] at hs
    have hx := hl x (by simp)
    have := isDvs_fold l (m * x.1 ^ x.2) (dvStep L x) (Nat.mul_pos hm (Nat.pow_pos (by have := hx.1.1; omega))) (fun y hy => ⟨(hl y (by simp [hy])).1, fun hd => ?_⟩) hs.2 (isDvs_step hm hx.1 hx.2 h)
    · rw [List.foldl_cons, show m * prodF (x :: l) = m * x.1 ^ x.2 * prodF l by simp [prodF, Nat.mul_assoc]]
      exact this
    · have hy' := hl y (by simp [hy])
      rcases hy'.1.dvd_mul hd with h1 | h1
      · exact hy'.2 h1
      · have := hy'.1.eq_of_dvd hx.1 (hy'.1.dvd_pow _ h1)
        have := hs.1 y hy
        omega
theorem isDvs_facs {n : Nat} (h1 : 1 ≤ n) (h2 : n ≤ 16777216) : IsDvs n (dvs (facs n)) := by
  have hf := facs_spec h1 h2
  have := isDvs_fold (facs n) 1 [1] (by omega) (fun x hx => ⟨hf.prime x hx, fun hd => by have := (hf.prime x hx).1; have := Nat.le_of_dvd (by omega) hd; omega⟩) hf.rise isDvs_one
  rw [Nat.one_mul, hf.prod] at this
  exact this
theorem dvStep_len (L : List Nat) (x : Nat × Nat) : (dvStep L x).length = (x.2 + 1) * L.length := by
  unfold dvStep
  rw [List.length_flatMap]
  simp only [List.length_map]
  have : ∀ n, ((List.range n).map fun _ => L.length).sum = n * L.length := by
    intro n
    induction n with
    | zero => simp
    | succ n ih => rw [List.range_succ, List.map_append, List.sum_append_nat, ih, Nat.succ_mul]; simp
  exact this _
/-- how many there are -/
def manyF (l : List (Nat × Nat)) : Nat := l.foldl (fun m x => m * (x.2 + 1)) 1
theorem dvs_len (l : List (Nat × Nat)) : (dvs l).length = manyF l := by
  unfold dvs manyF
  have : ∀ (l : List (Nat × Nat)) (L : List Nat) (m : Nat), L.length = m → (l.foldl dvStep L).length = l.foldl (fun m x => m * (x.2 + 1)) m := by
    intro l
    induction l with
    | nil => intro L m h; exact h
    | cons x l ih =>
      intro L m h
      rw [List.foldl_cons, List.foldl_cons]
      apply ih
      rw [dvStep_len, h, Nat.mul_comm]
  exact this l [1] 1 rfl

/-- two rising lists of the same numbers are one -/
theorem rising_eq : ∀ (a b : List Nat), a.Pairwise (· < ·) → b.Pairwise (· < ·) → (∀ x, x ∈ a ↔ x ∈ b) → a = b
  | [], [], _, _, _ => rfl
  | [], y :: b, _, _, h => absurd ((h y).2 (by simp)) (by simp)
  | x :: a, [], _, _, h => absurd ((h x).1 (by simp)) (by simp)
  | x :: a, y :: b, ha, hb, h => by
    rw [List.pairwise_cons] at ha hb
    have hxy : x = y := by
      have h1 : x ∈ y :: b := (h x).1 (by simp)
      have h2 : y ∈ x :: a := (h y).2 (by simp)
      rcases List.mem_cons.1 h1 with e | e
      · exact e
      · rcases List.mem_cons.1 h2 with f | f
        · exact f.symm
        · have := hb.1 x e
          have := ha.1 y f
          omega
    subst hxy
    congr 1
    apply rising_eq a b ha.2 hb.2
    intro z
    constructor
    · intro hz
      rcases List.mem_cons.1 ((h z).1 (by simp [hz])) with e | e
      · have := ha.1 z hz; omega
      · exact e
    · intro hz
      rcases List.mem_cons.1 ((h z).2 (by simp [hz])) with e | e
      · have := hb.1 z hz; omega
      · exact e

/-- divisor by divisor: the low ones up to k, and what they leave, from the greatest one on -/
def lowF (n k : Nat) : List Nat := (upto k).filter fun d => n % d == 0
def highF (n k : Nat) : List Nat := (((upto k).filter fun d => n % d == 0 && d * d != n).map (n / ·)).reverse
theorem upto_succ (k : Nat) : upto (k + 1) = upto k ++ [k + 1] := by simp [upto, List.range_succ]
theorem lowF_yes {n k : Nat} (h : n % (k + 1) = 0) : lowF n (k + 1) = lowF n k ++ [k + 1] := by
  simp [lowF, upto_succ, List.filter_append, h]
theorem lowF_no {n k : Nat} (h : n % (k + 1) ≠ 0) : lowF n (k + 1) = lowF n k := by
  simp [lowF, upto_succ, List.filter_append, h]
theorem highF_yes {n k : Nat} (h : n % (k + 1) = 0) (h2 : (k + 1) * (k + 1) ≠ n) : highF n (k + 1) = n / (k + 1) :: highF n k := by
  simp [highF, upto_succ, List.filter_append, h, h2]
theorem highF_no {n k : Nat} (h : n % (k + 1) ≠ 0 ∨ (k + 1) * (k + 1) = n) : highF n (k + 1) = highF n k := by
  rcases h with h | h
  · simp [highF, upto_succ, List.filter_append, h]
  · simp [highF, upto_succ, List.filter_append, h]
theorem rise_upto (k : Nat) : (upto k).Pairwise (· < ·) := by
  unfold upto
  rw [List.pairwise_map]
  exact List.Pairwise.imp (fun h => by omega) List.pairwise_lt_range
theorem low_rise (n k : Nat) : (lowF n k).Pairwise (· < ·) := (rise_upto k).filter _
theorem mem_low {n k x : Nat} : x ∈ lowF n k ↔ 1 ≤ x ∧ x ≤ k ∧ x ∣ n := by
  simp only [lowF, List.mem_filter, mem_upto, beq_iff_eq]
  rw [Nat.dvd_iff_mod_eq_zero]
  constructor
  · rintro ⟨⟨a, b⟩, c⟩; exact ⟨a, b, c⟩
  · rintro ⟨a, b, c⟩; exact ⟨⟨a, b⟩, c⟩
theorem mem_high {n k x : Nat} : x ∈ highF n k ↔ ∃ d, 1 ≤ d ∧ d ≤ k ∧ d ∣ n ∧ d * d ≠ n ∧ n / d = x := by
  simp only [highF, List.mem_reverse, List.mem_map, List.mem_filter, mem_upto, Bool.and_eq_true, beq_iff_eq, bne_iff_ne]
  constructor
  · rintro ⟨d, ⟨⟨a, b⟩, c, e⟩, f⟩; exact ⟨d, a, b, Nat.dvd_of_mod_eq_zero c, e, f⟩
  · rintro ⟨d, a, b, c, e, f⟩; exact ⟨d, ⟨⟨a, b⟩, Nat.mod_eq_zero_of_dvd c, e⟩, f⟩
theorem div_rise {n a b : Nat} (hn : 1 ≤ n) (ha : a ∣ n) (hb : b ∣ n) (hab : a < b) : n / b < n / a := by
  obtain ⟨x, rfl⟩ := ha
  obtain ⟨y, hy⟩ := hb
  have ha0 : 0 < a := Nat.pos_of_ne_zero fun e => by subst e; simp at hn
  have hb0 : 0 < b := by omega
  rw [Nat.mul_div_cancel_left _ ha0, hy, Nat.mul_div_cancel_left _ hb0]
  apply Nat.lt_of_not_le
  intro hle
  have hx0 : 0 < x := Nat.pos_of_ne_zero fun e => by subst e; simp at hn
  have h1 : a * x < b * x := Nat.mul_lt_mul_of_pos_right hab hx0
  have h2 : b * x ≤ b * y := Nat.mul_le_mul_left _ hle
  omega
theorem high_rise {n : Nat} (hn : 1 ≤ n) (k : Nat) : (highF n k).Pairwise (· < ·) := by
  unfold highF
  rw [List.pairwise_reverse, List.pairwise_map]
  refine List.Pairwise.imp_of_mem ?_ ((rise_upto k).filter _)
  intro a b ha hb hab
  simp only [List.mem_filter, Bool.and_eq_true, beq_iff_eq] at ha hb
  exact div_rise hn (Nat.dvd_of_mod_eq_zero ha.2.1) (Nat.dvd_of_mod_eq_zero hb.2.1) hab
theorem high_big {n k x : Nat} (hn : 1 ≤ n) (hK : ∀ x, x * x ≤ n ↔ x ≤ k) (h : x ∈ highF n k) : k < x := by
  obtain ⟨d, h1, h2, h3, h4, rfl⟩ := mem_high.1 h
  apply Nat.lt_of_not_le
  intro hle
  have hdd := (hK d).2 h2
  have hq := (hK (n / d)).2 hle
  obtain ⟨y, rfl⟩ := h3
  rw [Nat.mul_div_cancel_left _ (by omega)] at *
  have hy0 : 0 < y := Nat.pos_of_ne_zero fun e => by subst e; simp at hn
  have a1 : d ≤ y := Nat.le_of_mul_le_mul_left hdd (by omega)
  have a2 : y ≤ d := Nat.le_of_mul_le_mul_right hq hy0
  have : d = y := by omega
  subst this
  exact h4 rfl
theorem both_dvs {n k : Nat} (hn : 1 ≤ n) (hK : ∀ x, x * x ≤ n ↔ x ≤ k) : (lowF n k ++ highF n k).Pairwise (· < ·) ∧ ∀ d, d ∈ lowF n k ++ highF n k ↔ d ∣ n := by
  constructor
  · rw [List.pairwise_append]
    refine ⟨low_rise n k, high_rise hn k, fun a ha b hb => ?_⟩
    have := (mem_low.1 ha).2.1
    have := high_big hn hK hb
    omega
  · intro d
    rw [List.mem_append]
    constructor
    · rintro (h | h)
      · exact (mem_low.1 h).2.2
      · obtain ⟨e, _, _, he, _, rfl⟩ := mem_high.1 h
        exact Nat.div_dvd_of_dvd he
    · intro hd
      have hd1 : 1 ≤ d := Nat.pos_of_dvd_of_pos hd hn
      by_cases hdk : d ≤ k
      · exact .inl (mem_low.2 ⟨hd1, hdk, hd⟩)
      · right
        have hbig : n < d * d := Nat.lt_of_not_le fun h => hdk ((hK d).1 h)
        obtain ⟨y, rfl⟩ := hd
        have hy : y < d := Nat.lt_of_mul_lt_mul_left hbig
        have hy0 : 0 < y := Nat.pos_of_ne_zero fun e => by subst e; simp at hn
        have hyy : y * y < d * y := Nat.mul_lt_mul_of_pos_right hy hy0
        exact mem_high.2 ⟨y, hy0, (hK y).1 (by omega), ⟨d, Nat.mul_comm _ _⟩, by omega, Nat.mul_div_cancel _ hy0⟩
/-- sorted, what the prime powers make is what is found one by one -/
theorem dvs_sorted {n k : Nat} {S : List Nat} (h1 : 1 ≤ n) (h2 : n ≤ 16777216) (hK : ∀ x, x * x ≤ n ↔ x ≤ k) (hp : S.Perm (dvs (facs n))) (hs : S.Pairwise (· ≤ ·)) : S = lowF n k ++ highF n k := by
  have hd := isDvs_facs h1 h2
  have hb := both_dvs h1 hK
  apply rising_eq _ _ _ hb.1
  · intro x
    rw [hb.2 x, hp.mem_iff, hd.2 x]
  · have hn : S.Nodup := hp.nodup_iff.2 hd.1
    exact List.Pairwise.imp (fun h => by omega) (List.Pairwise.and hs hn)
end Go.Proofs.Ytikfeinhdfjjhaa
