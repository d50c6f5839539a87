/- Plain number theory for the layer fact: how often a number divides another one, the list of prime powers, and what follows. No program is named here. -/
namespace Go.Proofs.YtniibghbhbigaaaDoor
set_option linter.unusedVariables false

/-- how often d divides n (for d from 2 on, n from 1 on) -/
def times (d n : Nat) : Nat :=
  if _h : 2 ≤ d ∧ 1 ≤ n ∧ n % d = 0 then times d (n / d) + 1 else 0
termination_by n
decreasing_by exact Nat.div_lt_self (by omega) (by omega)

theorem times_yes {d n : Nat} (hd : 2 ≤ d) (hn : 1 ≤ n) (h : n % d = 0) : times d n = times d (n / d) + 1 := by
  rw [times, dif_pos ⟨hd, hn, h⟩]
theorem times_no {d n : Nat} (h : n % d ≠ 0) : times d n = 0 := by
  rw [times, dif_neg (by omega)]

theorem div_pos_of_mod {d n : Nat} (hd : 2 ≤ d) (hn : 1 ≤ n) (h : n % d = 0) : 1 ≤ n / d := by
  have := Nat.div_add_mod n d
  rcases Nat.eq_zero_or_pos (n / d) with h0 | h0
  · rw [h0] at this; simp at this; omega
  · exact h0

theorem times_split (d : Nat) (hd : 2 ≤ d) : ∀ n, 1 ≤ n → ∃ r, n = r * d ^ times d n ∧ r % d ≠ 0 ∧ 1 ≤ r := by
  intro n
  induction n using Nat.strongRecOn with
  | _ n ih =>
    intro hn
    by_cases h : n % d = 0
    · have hq := div_pos_of_mod hd hn h
      obtain ⟨r, hr, h2, h3⟩ := ih (n / d) (Nat.div_lt_self (by omega) (by omega)) hq
      refine ⟨r, ?_, h2, h3⟩
      rw [times_yes hd hn h, Nat.pow_succ, ← Nat.mul_assoc, ← hr]
      exact (Nat.div_mul_cancel (Nat.dvd_of_mod_eq_zero h)).symm
    · exact ⟨n, by rw [times_no h]; simp, h, hn⟩

theorem times_mul_pow (d : Nat) (hd : 2 ≤ d) (r : Nat) (hr : r % d ≠ 0) : ∀ k, times d (r * d ^ k) = k := by
  intro k
  have hr1 : 1 ≤ r := by rcases Nat.eq_zero_or_pos r with h | h; · subst h; simp at hr
                         · exact h
  induction k with
  | zero => simpa using times_no hr
  | succ k ih =>
    have e : r * d ^ (k + 1) = (r * d ^ k) * d := by rw [Nat.pow_succ, Nat.mul_assoc]
    have hp : 1 ≤ r * d ^ (k + 1) := Nat.mul_pos hr1 (Nat.pow_pos (by omega))
    rw [times_yes hd hp (by rw [e]; exact Nat.mul_mod_left _ _), e, Nat.mul_div_cancel _ (by omega), ih]

/-- what is left when all d are taken off -/
def rest (d n : Nat) : Nat := n / d ^ times d n

theorem rest_spec {d n : Nat} (hd : 2 ≤ d) (hn : 1 ≤ n) : n = rest d n * d ^ times d n ∧ rest d n % d ≠ 0 ∧ 1 ≤ rest d n := by
  obtain ⟨r, h1, h2, h3⟩ := times_split d hd n hn
  have e : rest d n = r := by
    unfold rest
    have hp : 0 < d ^ times d n := Nat.pow_pos (by omega)
    exact Nat.div_eq_of_eq_mul_left hp h1
  rw [e]; exact ⟨h1, h2, h3⟩

theorem rest_of {d n r k : Nat} (hd : 2 ≤ d) (h : n = r * d ^ k) (hr : r % d ≠ 0) : rest d n = r ∧ times d n = k := by
  have ht : times d n = k := by rw [h]; exact times_mul_pow d hd r hr k
  refine ⟨?_, ht⟩
  unfold rest
  rw [ht]
  exact Nat.div_eq_of_eq_mul_left (Nat.pow_pos (by omega)) h

theorem rest_le {d n : Nat} (hd : 2 ≤ d) (hn : 1 ≤ n) : rest d n ≤ n := by
  unfold rest; exact Nat.div_le_self _ _

/-- the prime powers of n, from d on; f: fuel -/
def facF : Nat → Nat → Nat → List (Nat × Nat)
  | 0, _, _ => []
  | f + 1, d, n => if d * d ≤ n then (if n % d = 0 then (d, times d n) :: facF f (d + 1) (rest d n) else facF f (d + 1) n) else if 1 < n then [(n, 1)] else []

def facs (n : Nat) : List (Nat × Nat) := facF 4200 2 n

theorem facF_hit {f d n : Nat} (h : d * d ≤ n) (h0 : n % d = 0) : facF (f + 1) d n = (d, times d n) :: facF f (d + 1) (rest d n) := by
  rw [facF, if_pos h, if_pos h0]
theorem facF_miss {f d n : Nat} (h : d * d ≤ n) (h0 : n % d ≠ 0) : facF (f + 1) d n = facF f (d + 1) n := by
  rw [facF, if_pos h, if_neg h0]
theorem facF_last {f d n : Nat} (h : n < d * d) (h0 : 1 < n) : facF (f + 1) d n = [(n, 1)] := by
  rw [facF, if_neg (by omega), if_pos h0]
theorem facF_end {f d n : Nat} (h : n < d * d) (h0 : n ≤ 1) : facF (f + 1) d n = [] := by
  rw [facF, if_neg (by omega), if_neg (by omega)]

/-- a prime -/
def Pr (p : Nat) : Prop := 2 ≤ p ∧ ∀ d, 2 ≤ d → d < p → p % d ≠ 0

/-- no number from 2 on and below d divides n -/
def Low (d n : Nat) : Prop := ∀ k, 2 ≤ k → k < d → n % k ≠ 0

theorem mod_zero_trans {a b c : Nat} (h1 : b % a = 0) (h2 : c % b = 0) : c % a = 0 :=
  Nat.mod_eq_zero_of_dvd (Nat.dvd_trans (Nat.dvd_of_mod_eq_zero h1) (Nat.dvd_of_mod_eq_zero h2))

theorem Low.step {d n : Nat} (h : Low d n) (hn : n % d ≠ 0) : Low (d + 1) n := by
  intro k h2 hk
  by_cases e : k = d
  · subst e; exact hn
  · exact h k h2 (by omega)

theorem Low.prime_div {d n : Nat} (h : Low d n) (hd : 2 ≤ d) (h0 : n % d = 0) : Pr d :=
  ⟨hd, fun k h2 hk hm => h k h2 hk (mod_zero_trans hm h0)⟩

theorem Low.rest {d n : Nat} (h : Low d n) (hd : 2 ≤ d) (hn : 1 ≤ n) : Low (d + 1) (rest d n) := by
  obtain ⟨h1, h2, h3⟩ := rest_spec hd hn
  refine Low.step ?_ h2
  intro k hk1 hk2 hk3
  refine h k hk1 hk2 ?_
  rw [h1]
  exact Nat.mod_eq_zero_of_dvd (Nat.dvd_mul_right_of_dvd (Nat.dvd_of_mod_eq_zero hk3) _)

theorem Low.prime {d n : Nat} (h : Low d n) (hn : 2 ≤ n) (hlt : n < d * d) : Pr n := by
  refine ⟨hn, fun k h2 hk hm => ?_⟩
  have hk' : d ≤ k := by
    rcases Nat.lt_or_ge k d with hl | hl
    · exact absurd hm (h k h2 hl)
    · exact hl
  have hq1 : n / k * k = n := Nat.div_mul_cancel (Nat.dvd_of_mod_eq_zero hm)
  have hq : d ≤ n / k := by
    rcases Nat.lt_or_ge (n / k) d with hl | hl
    · have h2' : 2 ≤ n / k := by
        rcases Nat.lt_or_ge (n / k) 2 with hs | hs
        · have : n / k = 0 ∨ n / k = 1 := by revert hs; generalize n / k = q; omega
          rcases this with e | e
          · rw [e] at hq1; omega
          · rw [e] at hq1; omega
        · exact hs
      refine absurd ?_ (h (n / k) h2' hl)
      exact Nat.mod_eq_zero_of_dvd ⟨k, hq1.symm⟩
    · exact hl
  have := Nat.mul_le_mul hq hk'
  omega

/-- all prime powers, multiplied -/
def prodF : List (Nat × Nat) → Nat
  | [] => 1
  | x :: l => x.1 ^ x.2 * prodF l

theorem prodF_append (a b : List (Nat × Nat)) : prodF (a ++ b) = prodF a * prodF b := by
  induction a with
  | nil => simp [prodF]
  | cons x a ih => simp [prodF, ih, Nat.mul_assoc]

structure IsFac (n : Nat) (l : List (Nat × Nat)) : Prop where
  prime : ∀ x, x ∈ l → Pr x.1
  pos : ∀ x, x ∈ l → 1 ≤ x.2
  rise : l.Pairwise (fun a b => a.1 < b.1)
  prod : prodF l = n

theorem facF_tail {f d n : Nat} (hd : 2 ≤ d) (hn : 1 ≤ n) (hl : Low d n) (h : n < d * d) : IsFac n (facF (f + 1) d n) ∧ ∀ x, x ∈ facF (f + 1) d n → d ≤ x.1 := by
  by_cases h1 : 1 < n
  · rw [facF_last h h1]
    have hp := hl.prime h1 h
    have hge : d ≤ n := by
      rcases Nat.lt_or_ge n d with hlt | hge
      · exact absurd (Nat.mod_self n) (hl n (by omega) hlt)
      · exact hge
    refine ⟨⟨?_, ?_, ?_, ?_⟩, ?_⟩
    · intro x hx; rw [List.mem_singleton] at hx; rw [hx]; exact hp
    · intro x hx; rw [List.mem_singleton] at hx; rw [hx]; exact Nat.le_refl _
    · exact List.pairwise_singleton _ _
    · simp [prodF]
    · intro x hx; rw [List.mem_singleton] at hx; rw [hx]; exact hge
  · rw [facF_end h (by omega)]
    refine ⟨⟨by simp, by simp, List.Pairwise.nil, ?_⟩, by simp⟩
    show 1 = n; omega

theorem facF_spec : ∀ f d n, 2 ≤ d → 1 ≤ n → Low d n → n < (f + d) * (f + d) → IsFac n (facF (f + 1) d n) ∧ ∀ x, x ∈ facF (f + 1) d n → d ≤ x.1 := by
  intro f
  induction f with
  | zero =>
    intro d n hd hn hl h
    exact facF_tail hd hn hl (by simpa using h)
  | succ f ih =>
    intro d n hd hn hl hb
    by_cases h : d * d ≤ n
    · have hsh : f + 1 + d = f + (d + 1) := by omega
      rw [hsh] at hb
      by_cases h0 : n % d = 0
      · rw [facF_hit h h0]
        obtain ⟨r1, r2, r3⟩ := rest_spec hd hn
        have hle := rest_le hd hn
        obtain ⟨k, kd⟩ := ih (d + 1) (rest d n) (by omega) r3 (hl.rest hd hn) (Nat.lt_of_le_of_lt hle hb)
        refine ⟨⟨?_, ?_, ?_, ?_⟩, ?_⟩
        · intro x hx
          rcases List.mem_cons.1 hx with e | e
          · rw [e]; exact hl.prime_div hd h0
          · exact k.prime x e
        · intro x hx
          rcases List.mem_cons.1 hx with e | e
          · rw [e]; show 1 ≤ times d n; rw [times_yes hd hn h0]; omega
          · exact k.pos x e
        · refine List.pairwise_cons.2 ⟨fun x hx => ?_, k.rise⟩
          have := kd x hx
          show d < x.1
          omega
        · show d ^ times d n * prodF _ = n
          rw [k.prod, Nat.mul_comm]; exact r1.symm
        · intro x hx
          rcases List.mem_cons.1 hx with e | e
          · rw [e]; exact Nat.le_refl _
          · have := kd x e; omega
      · rw [facF_miss h h0]
        obtain ⟨k, kd⟩ := ih (d + 1) n (by omega) hn (hl.step h0) hb
        exact ⟨k, fun x hx => by have := kd x hx; omega⟩
    · exact facF_tail hd hn hl (by omega)

theorem facs_spec {n : Nat} (h1 : 1 ≤ n) (h2 : n ≤ 16777216) : IsFac n (facs n) :=
  (facF_spec 4199 2 n (by omega) h1 (fun k h3 h4 => by omega) (by omega)).1

theorem facs12 : facs 12 = [(2, 2), (3, 1)] := by
  unfold facs
  rw [facF_hit (by omega) (by omega)]
  obtain ⟨r, t⟩ := rest_of (d := 2) (n := 12) (r := 3) (k := 2) (by omega) (by omega) (by omega)
  rw [r, t, facF_last (by omega) (by omega)]

/-- one step of the search, as the loop does it: k, taken off m, leaves r, and divided it t times -/
theorem facF_round {k m r t : Nat} (hk2 : 2 ≤ k) (hk : k ≤ 4100) (hkm : k * k ≤ m) (h : m = r * k ^ t) (hr : r % k ≠ 0) :
    facF (4202 - k) k m = (if t = 0 then [] else [(k, t)]) ++ facF (4202 - (k + 1)) (k + 1) r := by
  obtain ⟨e1, e2⟩ := rest_of hk2 h hr
  have hs : 4202 - k = (4202 - (k + 1)) + 1 := by omega
  rw [hs]
  by_cases ht : t = 0
  · subst ht
    have e3 : m = r := by rw [h]; simp
    subst e3
    rw [facF_miss hkm hr]; simp
  · have h0 : m % k = 0 := by
      apply Nat.mod_eq_zero_of_dvd
      rw [h]
      obtain ⟨s, rfl⟩ : ∃ s, t = s + 1 := ⟨t - 1, by omega⟩
      rw [Nat.pow_succ, ← Nat.mul_assoc]
      exact Nat.dvd_mul_left k _
    rw [facF_hit hkm h0, e1, e2, if_neg ht]; rfl

end Go.Proofs.YtniibghbhbigaaaDoor
