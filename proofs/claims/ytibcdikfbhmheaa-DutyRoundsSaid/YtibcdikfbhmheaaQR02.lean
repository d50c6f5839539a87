/- Threads that only yield: the plain law. -/
import Derived.Test.YtibcdikfbhmheaaQR01
set_option linter.unusedSimpArgs false
set_option linter.unusedVariables false
namespace Go.Proofs.Ytibcdikfbhmheaa
open Go Go.Conc Go.Proofs
open Go.ConcN (sumTo upd sumTo_upd upd_ne upd_same)
set_option linter.unusedVariables false
/-- Thread i behind r rounds. -/
structure Yr (ys : Nat → Nat) (i r : Nat) (x : TS × List Nat) : Prop where
  at_ : x.1.at_ i = min r (ys i)
  st : (r ≤ ys i ∧ (x.1.st i = 0 ∨ x.1.st i = 1)) ∨ (ys i < r ∧ x.1.st i = 3)
  cnt : x.2.count i = min r (ys i + 1)
theorem tstp_len (n : Nat) (acts : Nat → List (Int × Int)) (x : TS × List Nat) (i : Nat) : x.2.length ≤ (tstp n acts x i).2.length ∧ (tstp n acts x i).2.length ≤ x.2.length + 1 := by
  unfold tstp
  split
  · simp
  · exact ⟨Nat.le_refl _, Nat.le_succ _⟩
theorem tfold_len (n : Nat) (acts : Nat → List (Int × Int)) : ∀ (l : List Nat) (x : TS × List Nat), x.2.length ≤ (l.foldl (tstp n acts) x).2.length ∧ (l.foldl (tstp n acts) x).2.length ≤ x.2.length + l.length := by
  intro l
  induction l with
  | nil => intro x; exact ⟨Nat.le_refl _, Nat.le_refl _⟩
  | cons k l ih =>
    intro x
    have h1 := ih (tstp n acts x k)
    have h2 := tstp_len n acts x k
    rw [List.foldl_cons, List.length_cons]
    omega
theorem trnd_len (n : Nat) (acts : Nat → List (Int × Int)) (x : TS × List Nat) : (trnd n acts x).2.length ≤ x.2.length + n := by
  have := (tfold_len n acts (List.range n) x).2
  rw [List.length_range] at this
  exact this
theorem trnds_len (n : Nat) (acts : Nat → List (Int × Int)) (R : Nat) : ∀ x : TS × List Nat, (trnds n acts R x).2.length ≤ x.2.length + R * n := by
  induction R with
  | zero => intro x; show x.2.length ≤ _; omega
  | succ R ih =>
    intro x
    have h := trnd_len n acts x
    have e : (R + 1) * n = R * n + n := Nat.succ_mul R n
    unfold trnds
    split
    · omega
    · have := ih (trnd n acts x)
      omega
theorem tfold_same (n : Nat) (acts : Nat → List (Int × Int)) : ∀ (l : List Nat) (x : TS × List Nat), (l.foldl (tstp n acts) x).2.length = x.2.length → ∀ k ∈ l, ¬ (cl (x.1.st k) = 0 ∨ cl (x.1.st k) = 1) := by
  intro l
  induction l with
  | nil => intro x _ k hk; cases hk
  | cons a l ih =>
    intro x h k hk
    rw [List.foldl_cons] at h
    have h1 := (tfold_len n acts l (tstp n acts x a)).1
    have h2 := (tstp_len n acts x a).1
    have ha : ¬ (cl (x.1.st a) = 0 ∨ cl (x.1.st a) = 1) := fun hc => by
      have e : (tstp n acts x a).2.length = x.2.length + 1 := by unfold tstp; rw [if_pos hc]; simp
      omega
    have e : tstp n acts x a = x := by unfold tstp; rw [if_neg ha]
    rw [e] at h
    rcases List.mem_cons.1 hk with rfl | hk
    · exact ha
    · exact ih x h k hk
theorem tgo_yield (n i : Nat) (m p : Nat) (s : TS) : tgo n i (List.replicate (m + 1) (0, 0)) p s = (s.note i p).set i 1 := by
  rw [List.replicate_succ, tgo, if_pos rfl]
theorem turn_self (n : Nat) (ys : Nat → Nat) {i r : Nat} {x : TS × List Nat} (h : Yr ys i r x) : Yr ys i (r + 1) (tstp n (yac ys) x i) := by
  obtain ⟨h1, h2, h3⟩ := h
  rcases h2 with ⟨hle, hst⟩ | ⟨hlt, hst⟩
  · have hc : cl (x.1.st i) = 0 ∨ cl (x.1.st i) = 1 := hst.elim (fun h => .inl ((cl_zero _).2 h)) (fun h => .inr ((cl_one _).2 h))
    have hat : x.1.at_ i = r := by omega
    unfold tstp
    rw [if_pos hc, hat]
    have hd : (yac ys i).drop r = List.replicate (ys i - r) (0, 0) := by simp [yac]
    rw [hd]
    have hcnt : (x.2 ++ [i]).count i = min (r + 1) (ys i + 1) := by
      rw [List.count_append, h3]
      simp
      omega
    by_cases e : r = ys i
    · rw [show ys i - r = 0 by omega]
      refine ⟨?_, .inr ⟨by omega, upd_same _ _ _⟩, hcnt⟩
      show x.1.at_ i = _
      omega
    · obtain ⟨m, hm⟩ : ∃ m, ys i - r = m + 1 := ⟨ys i - r - 1, by omega⟩
      rw [hm, tgo_yield]
      refine ⟨?_, .inl ⟨by omega, .inr (upd_same _ _ _)⟩, hcnt⟩
      show upd x.1.at_ i (r + 1) i = _
      rw [upd_same]
      omega
  · have hc : ¬ (cl (x.1.st i) = 0 ∨ cl (x.1.st i) = 1) := by rw [hst]; decide
    unfold tstp
    rw [if_neg hc]
    exact ⟨by omega, .inr ⟨by omega, hst⟩, by omega⟩
theorem tgo_yac_st (n i j : Nat) (hj : j ≠ i) (m p : Nat) (s : TS) : (tgo n i (List.replicate m (0, 0)) p s).st j = s.st j := by
  cases m with
  | zero => exact upd_ne _ _ hj
  | succ m => rw [tgo_yield]; exact upd_ne _ _ hj
theorem turn_other (n : Nat) (ys : Nat → Nat) {i j r : Nat} {x : TS × List Nat} (hj : j ≠ i) (h : Yr ys j r x) : Yr ys j r (tstp n (yac ys) x i) := by
  unfold tstp
  split
  · have hd : (yac ys i).drop (x.1.at_ i) = List.replicate (ys i - x.1.at_ i) (0, 0) := by simp [yac]
    have e1 : (tgo n i ((yac ys i).drop (x.1.at_ i)) (x.1.at_ i) x.1).st j = x.1.st j := by rw [hd]; exact tgo_yac_st n i j hj _ _ _
    have e2 := tgo_at n i j hj ((yac ys i).drop (x.1.at_ i)) (x.1.at_ i) x.1
    refine ⟨e2.trans h.at_, ?_, ?_⟩
    · show (r ≤ ys j ∧ (_ = _ ∨ _ = _)) ∨ (_ ∧ _ = _)
      rw [e1]
      exact h.st
    · show (x.2 ++ [i]).count j = _
      rw [List.count_append, h.cnt]
      have : [i].count j = 0 := by simp [List.count_cons, Ne.symm hj]
      omega
  · exact h
theorem tfold_turns (n : Nat) (ys : Nat → Nat) (r : Nat) : ∀ (m : Nat) (x : TS × List Nat), m ≤ n → (∀ i, i < n → Yr ys i r x) → (∀ i, i < n → Yr ys i (if i < m then r + 1 else r) ((List.range m).foldl (tstp n (yac ys)) x)) := by
  intro m
  induction m with
  | zero => intro x _ h i hi; simpa using h i hi
  | succ m ih =>
    intro x hm h i hi
    have h1 := ih x (by omega) h
    rw [List.range_succ, List.foldl_append]
    show Yr ys i _ (tstp n (yac ys) _ m)
    by_cases e : i = m
    · subst e
      have := h1 i hi
      rw [if_neg (by omega)] at this
      rw [if_pos (by omega)]
      exact turn_self n ys this
    · have := turn_other n ys (i := m) e (h1 i hi)
      have e2 : (if i < m + 1 then r + 1 else r) = if i < m then r + 1 else r := by
        by_cases h : i < m
        · rw [if_pos h, if_pos (by omega)]
        · rw [if_neg h, if_neg (by omega)]
      rw [e2]
      exact this
theorem rounds_all (n : Nat) (ys : Nat → Nat) : ∀ (m r : Nat) (x : TS × List Nat), (∀ i, i < n → Yr ys i r x) → (∀ i, i < n → ys i + 1 ≤ r + m) → ∀ i, i < n → (trnds n (yac ys) m x).2.count i = ys i + 1 ∧ cl ((trnds n (yac ys) m x).1.st i) = 3 := by
  intro m
  induction m with
  | zero =>
    intro r x h hR i hi
    obtain ⟨h1, h2, h3⟩ := h i hi
    have := hR i hi
    refine ⟨by show x.2.count i = _; omega, ?_⟩
    show cl (x.1.st i) = 3
    rcases h2 with ⟨h, _⟩ | ⟨_, h⟩
    · omega
    · rw [h]; rfl
  | succ m ih =>
    intro r x h hR i hi
    have h1 : ∀ i, i < n → Yr ys i (r + 1) (trnd n (yac ys) x) := fun i hi => by
      have := tfold_turns n ys r n x (Nat.le_refl _) h i hi
      rw [if_pos hi] at this
      exact this
    unfold trnds
    split
    · rename_i hl
      have hs := tfold_same n (yac ys) (List.range n) x hl i (List.mem_range.2 hi)
      obtain ⟨a1, a2, a3⟩ := h1 i hi
      have hlt : ys i < r := by
        rcases (h i hi).st with ⟨_, h | h⟩ | ⟨h, _⟩
        · exact absurd (.inl ((cl_zero _).2 h)) hs
        · exact absurd (.inr ((cl_one _).2 h)) hs
        · exact h
      refine ⟨by omega, ?_⟩
      rcases a2 with ⟨h, _⟩ | ⟨_, h⟩
      · omega
      · rw [h]; rfl
    · exact ih (r + 1) _ h1 (fun i hi => by have := hR i hi; omega) i hi
theorem rounds_law (n : Nat) (ys : Nat → Nat) (R : Nat) (h : ∀ i, i < n → ys i + 1 ≤ R) : ∀ i, i < n → (trun n (yac ys) R []).2.count i = ys i + 1 ∧ cl ((trun n (yac ys) R []).1.st i) = 3 :=
  rounds_all n ys R 0 (tzero, []) (fun i _ => ⟨by simp [tzero], .inl ⟨Nat.zero_le _, .inl rfl⟩, by simp⟩) (fun i hi => by have := h i hi; omega)
theorem rounds_len (n : Nat) (ys : Nat → Nat) (R : Nat) : (trun n (yac ys) R []).2.length ≤ R * n := by
  have h := trnds_len n (yac ys) R (tzero, [])
  have e : (trun n (yac ys) R []).2.length ≤ ([] : List Nat).length + R * n := h
  rw [List.length_nil] at e
  omega
end Go.Proofs.Ytibcdikfbhmheaa
