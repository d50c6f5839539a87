/- Cut: what is left of a history is one; no more are under way at one time; no more are pending. No walk. -/
import Derived.Test.YtplaicdbcfnjbaaV21
import Derived.Test.YtplaicdbcfnjbaaV22
import Derived.Test.YtplaicdbcfnjbaaV07
import Derived.Test.YtplaicdbcfnjbaaV13
set_option linter.unusedSimpArgs false
set_option linter.unusedVariables false
namespace Go.Proofs.Ytplaicdbcfnjbaa
open Go.Sort
set_option linter.unusedVariables false
theorem anyB_congr {n : Nat} {p q : Nat → Bool} (h : ∀ i, i < n → p i = q i) : anyB n p = anyB n q := by
  cases hp : anyB n p
  · exact (anyB_no fun i hi => by rw [← h i hi]; exact anyB_get hp i hi).symm
  · obtain ⟨i, hi, hq⟩ := anyB_ex hp
    exact (anyB_yes i hi (by rw [← h i hi]; exact hq)).symm
/-- the two agree in what tells of order -/
def Agr (p q : OD) : Prop := p.r0 = q.r0 ∧ p.r1 = q.r1 ∧ p.s = q.s ∧ p.e = q.e
theorem Cpy.agr {o p : OD} (h : Cpy o p) : Agr o p := by
  obtain ⟨X, cx, A, ca, Y, cy, rfl⟩ := h
  exact ⟨rfl, rfl, rfl, rfl⟩
theorem chkR_congr {n : Nat} {p q : Nat → OD} (h : ∀ i, i < n → Agr (p i) (q i)) : chkR n p = chkR n q := by
  have e1 : chk1 n p = chk1 n q := anyB_congr fun i hi => by
    obtain ⟨a1, a2, a3, a4⟩ := h i hi
    unfold badR; rw [a3, a4]
  have e2 : chk2 n p = chk2 n q := anyB_congr fun i hi => anyB_congr fun k hk => by
    obtain ⟨a1, a2, a3, a4⟩ := h i hi
    obtain ⟨b1, b2, b3, b4⟩ := h k (by omega)
    unfold refR; rw [a1, a2, b1, b2]
  have e3 : chk3 n p = chk3 n q := anyB_congr fun i hi => anyB_congr fun k hk => by
    obtain ⟨a1, a2, a3, a4⟩ := h i hi
    obtain ⟨b1, b2, b3, b4⟩ := h k (by omega)
    unfold clsR; rw [a3, a4, b3, b4]
  have e4 : chk4 n p = chk4 n q := anyB_congr fun i hi => anyB_congr fun k hk => by
    obtain ⟨a1, a2, a3, a4⟩ := h i hi
    obtain ⟨b1, b2, b3, b4⟩ := h k hk
    unfold ordR; rw [a1, a2, a4, b1, b2, b3]
  unfold chkR
  rw [e1, e2, e3, e4]
theorem cntU_congr {p q : Nat → OD} (a : Int) : ∀ {n : Nat}, (∀ i, i < n → Agr (p i) (q i)) → cntU p a n = cntU q a n
  | 0, _ => rfl
  | n + 1, h => by
    have ih := cntU_congr a (p := p) (q := q) (n := n) fun i hi => h i (by omega)
    obtain ⟨a1, a2, a3, a4⟩ := h n (Nat.lt_succ_self n)
    unfold cntU
    rw [ih, a3, a4]
theorem mostU_congr {p q : Nat → OD} {m : Nat} (h : ∀ i, i < m → Agr (p i) (q i)) : ∀ {n : Nat}, n ≤ m → mostU p m n = mostU q m n
  | 0, _ => rfl
  | n + 1, hn => by
    have ih := mostU_congr h (n := n) (by omega)
    obtain ⟨a1, a2, a3, a4⟩ := h n (by omega)
    unfold mostU
    rw [ih, a3, a4, cntU_congr _ h]
theorem mostU_up {o : Nat → OD} {n B : Nat} : ∀ {k}, (∀ i, i < k → ((o i).e == -1 || decide ((o i).s < (o i).e)) = true → cntU o (o i).s n ≤ B) → mostU o n k ≤ B
  | 0, _ => Nat.zero_le _
  | k + 1, h => by
    have ih := mostU_up (o := o) (n := n) (B := B) (k := k) fun i hi => h i (by omega)
    unfold mostU
    split
    · rename_i hs
      exact Nat.max_le.2 ⟨ih, h k (Nat.lt_succ_self k) hs⟩
    · exact ih
theorem mostU_lo {o : Nat → OD} {n : Nat} : ∀ {k} (i : Nat), i < k → ((o i).e == -1 || decide ((o i).s < (o i).e)) = true → cntU o (o i).s n ≤ mostU o n k
  | 0, i, h, _ => absurd h (by omega)
  | k + 1, i, h, hs => by
    unfold mostU
    rcases Nat.lt_or_ge i k with h' | h'
    · have ih := mostU_lo (o := o) (n := n) i h' hs
      split
      · exact Nat.le_trans ih (Nat.le_max_left _ _)
      · exact ih
    · obtain rfl : i = k := by omega
      rw [if_pos hs]
      exact Nat.le_max_right _ _
theorem chk_zero {n : Nat} {o : Nat → OD} (h : chkR n o = 0) : (∀ i, i < n → badR (o i) = false) ∧ (∀ i, i < n → ∀ k, k < i → refR (o i) (o k) = false) ∧ (∀ i, i < n → ∀ k, k < i → clsR (o i) (o k) = false) ∧ ∀ i, i < n → ∀ k, k < n → ordR (o i) (o k) = false := by
  unfold chkR at h
  split at h
  · cases h
  · rename_i g1
    split at h
    · cases h
    · rename_i g2
      split at h
      · cases h
      · rename_i g3
        split at h
        · cases h
        · rename_i g4
          rw [Bool.not_eq_true] at g1 g2 g3 g4
          exact ⟨fun i hi => anyB_get g1 i hi, fun i hi k hk => anyB_get (anyB_get g2 i hi) k hk, fun i hi k hk => anyB_get (anyB_get g3 i hi) k hk, fun i hi k hk => anyB_get (anyB_get g4 i hi) k hk⟩
theorem cutO_f (t : Int) (o : OD) : (cutO t o).r0 = o.r0 ∧ (cutO t o).r1 = o.r1 ∧ (cutO t o).s = o.s ∧ ((o.e ≠ -1 ∧ t ≤ o.e ∧ (cutO t o).e = -1) ∨ ((o.e = -1 ∨ o.e < t) ∧ (cutO t o).e = o.e)) := by
  unfold cutO
  cases h : cutE t o
  · rw [if_neg (by decide)]
    refine ⟨rfl, rfl, rfl, .inr ⟨?_, rfl⟩⟩
    unfold cutE at h
    simp at h
    by_cases he : o.e = -1
    · exact .inl he
    · exact .inr (by have := h he; omega)
  · rw [if_pos rfl]
    refine ⟨rfl, rfl, rfl, .inl ?_⟩
    unfold cutE at h
    simp at h
    exact ⟨h.1, h.2, rfl⟩
theorem mem_cutL {t : Int} {o : Nat → OD} {x : OD} : ∀ {n}, x ∈ cutL t o n → ∃ j, j < n ∧ x = cutO t (o j) ∧ (o j).s < t
  | 0, h => absurd h List.not_mem_nil
  | n + 1, h => by
    have h' : x ∈ (if t ≤ (o n).s then cutL t o n else cutL t o n ++ [cutO t (o n)]) := h
    by_cases hs : t ≤ (o n).s
    · rw [if_pos hs] at h'
      obtain ⟨j, h1, h2⟩ := mem_cutL h'
      exact ⟨j, by omega, h2⟩
    · rw [if_neg hs] at h'
      rcases List.mem_append.1 h' with h' | h'
      · obtain ⟨j, h1, h2⟩ := mem_cutL h'
        exact ⟨j, by omega, h2⟩
      · rw [List.mem_singleton] at h'
        exact ⟨n, by omega, h', by omega⟩
/-- what holds of two of which one came ahead -/
theorem cutL_two {t : Int} {o : Nat → OD} {Rl : OD → OD → Prop} : ∀ {n}, (∀ i, i < n → ∀ k, k < i → (o i).s < t → (o k).s < t → Rl (cutO t (o i)) (cutO t (o k))) → ∀ i, i < (cutL t o n).length → ∀ k, k < i → Rl (lk (cutL t o n) i) (lk (cutL t o n) k)
  | 0, _, i, h, _, _ => absurd h (Nat.not_lt_zero _)
  | n + 1, H, i, h, k, hk => by
    have ih := cutL_two (t := t) (o := o) (Rl := Rl) (n := n) fun i hi k hk => H i (by omega) k hk
    have e : cutL t o (n + 1) = if t ≤ (o n).s then cutL t o n else cutL t o n ++ [cutO t (o n)] := rfl
    by_cases hs : t ≤ (o n).s
    · rw [if_pos hs] at e
      rw [e] at h ⊢
      exact ih i h k hk
    · rw [if_neg hs] at e
      rw [e, List.length_append, List.length_singleton] at h
      rw [e]
      rcases Nat.lt_or_ge i (cutL t o n).length with h' | h'
      · rw [lk_snoc_lt _ _ _ h', lk_snoc_lt _ _ _ (by omega)]
        exact ih i h' k hk
      · have e2 : i = (cutL t o n).length := by omega
        rw [lk_snoc_lt _ _ k (by omega)]
        rw [e2, lk_snoc_eq]
        obtain ⟨j, h1, h2, h3⟩ := mem_cutL (lk_mem (cutL t o n) k (by omega))
        rw [h2]
        exact H n (Nat.lt_succ_self n) j h1 (by omega) h3
theorem chk_cut {n : Nat} {o : Nat → OD} (t : Int) (h : chkR n o = 0) : chkR (cutL t o n).length (lk (cutL t o n)) = 0 := by
  obtain ⟨h1, h2, h3, h4⟩ := chk_zero h
  refine chk_e (fun i hi => ?_) (cutL_two (Rl := fun a b => refR a b = false) fun i hi k hk _ _ => ?_) (cutL_two (Rl := fun a b => clsR a b = false) fun i hi k hk hs hs' => ?_) (fun i hi k hk => ?_)
  · obtain ⟨j, hj, e, hs⟩ := mem_cutL (lk_mem (cutL t o n) i hi)
    rw [e]
    obtain ⟨a1, a2, a3, a4⟩ := cutO_f t (o j)
    have := bad_iff.1 (h1 j hj)
    rw [bad_iff, a3]
    omega
  · obtain ⟨a1, a2, a3, a4⟩ := cutO_f t (o i)
    obtain ⟨b1, b2, b3, b4⟩ := cutO_f t (o k)
    have := h2 i hi k hk
    unfold refR at this ⊢
    rw [a1, a2, b1, b2]
    exact this
  · obtain ⟨a1, a2, a3, a4⟩ := cutO_f t (o i)
    obtain ⟨b1, b2, b3, b4⟩ := cutO_f t (o k)
    have q := h3 i hi k hk
    have r1 := bad_iff.1 (h1 i hi)
    have r2 := bad_iff.1 (h1 k (by omega))
    rw [← Bool.not_eq_true, cls_iff] at q ⊢
    rw [a3, b3]
    omega
  · obtain ⟨j, hj, e, hs⟩ := mem_cutL (lk_mem (cutL t o n) i hi)
    obtain ⟨l, hl, e', hs'⟩ := mem_cutL (lk_mem (cutL t o n) k hk)
    rw [e, e']
    obtain ⟨a1, a2, a3, a4⟩ := cutO_f t (o j)
    obtain ⟨b1, b2, b3, b4⟩ := cutO_f t (o l)
    have q := h4 j hj l hl
    cases hb : ordR (cutO t (o j)) (cutO t (o l))
    · rfl
    · exfalso
      unfold ordR at hb q
      rw [a1, a2, b1, b2, b3] at hb
      simp at hb q
      have q' := q hb.1.1 hb.1.2
      have q2 := ahead_iff.1 q'
      have hb2 := hb.2
      rw [← Bool.not_eq_true, ahead_iff] at hb2
      omega
theorem und_iff {s e a : Int} : undB s e a = true ↔ s ≤ a ∧ (e = -1 ∨ a < e) := by unfold undB; simp
theorem cnt_cut {t a : Int} (ha : a < t) {o : Nat → OD} : ∀ {n}, cntU (lk (cutL t o n)) a (cutL t o n).length ≤ cntU o a n
  | 0 => Nat.le_refl _
  | n + 1 => by
    have ih := cnt_cut ha (o := o) (n := n)
    have e : cutL t o (n + 1) = if t ≤ (o n).s then cutL t o n else cutL t o n ++ [cutO t (o n)] := rfl
    have e2 : cntU o a (n + 1) = cntU o a n + if undB (o n).s (o n).e a = true then 1 else 0 := rfl
    by_cases hs : t ≤ (o n).s
    · rw [if_pos hs] at e
      rw [e, e2]
      omega
    · rw [if_neg hs] at e
      rw [e, e2, List.length_append, List.length_singleton]
      have e3 : cntU (lk (cutL t o n ++ [cutO t (o n)])) a ((cutL t o n).length + 1) = cntU (lk (cutL t o n ++ [cutO t (o n)])) a (cutL t o n).length + if undB (cutO t (o n)).s (cutO t (o n)).e a = true then 1 else 0 := by
        show _ + _ = _
        rw [lk_snoc_eq]
      have e4 : cntU (lk (cutL t o n ++ [cutO t (o n)])) a (cutL t o n).length = cntU (lk (cutL t o n)) a (cutL t o n).length := cntU_congr a fun i hi => by
        rw [lk_snoc_lt _ _ _ hi]
        exact ⟨rfl, rfl, rfl, rfl⟩
      rw [e3, e4]
      have : undB (cutO t (o n)).s (cutO t (o n)).e a = true → undB (o n).s (o n).e a = true := fun h => by
        obtain ⟨a1, a2, a3, a4⟩ := cutO_f t (o n)
        rw [und_iff, a3] at h
        rw [und_iff]
        omega
      by_cases hu : undB (cutO t (o n)).s (cutO t (o n)).e a = true
      · rw [if_pos hu, if_pos (this hu)]; omega
      · rw [if_neg hu]; omega
theorem most_cut (t : Int) (o : Nat → OD) (n : Nat) : mostU (lk (cutL t o n)) (cutL t o n).length (cutL t o n).length ≤ mostU o n n := by
  refine mostU_up fun i hi hself => ?_
  obtain ⟨j, hj, e, hs⟩ := mem_cutL (lk_mem (cutL t o n) i hi)
  obtain ⟨a1, a2, a3, a4⟩ := cutO_f t (o j)
  rw [e, a3] at hself ⊢
  refine Nat.le_trans (cnt_cut hs) (mostU_lo j hj ?_)
  simp at hself ⊢
  omega
theorem pend_cnt (q : Nat → OD) : ∀ n, (pendL q n).length = (List.range n).countP (fun i => decide ((q i).e = -1))
  | 0 => rfl
  | n + 1 => by
    rw [List.range_succ, List.countP_append, ← pend_cnt q n]
    show (if (q n).e = -1 then pendL q n ++ [((q n).r0, (q n).r1)] else pendL q n).length = _
    by_cases h : (q n).e = -1 <;> simp [h]
theorem perm_list {n : Nat} {d' : Array Nat} (h : PermIn 0 n (Array.range n) d') : ((List.range n).map fun k => d'[k]!).Perm (List.range n) := by
  obtain ⟨h1, _, h3⟩ := h
  have hs : d'.size = n := by simpa using h1
  rw [ext_self hs, ext_self (by simp), Array.toList_range] at h3
  have : ((List.range n).map fun k => d'[k]!) = d'.toList := by
    apply List.ext_getElem
    · simp [hs]
    · intro i h1 h2
      have hi : i < d'.size := by simpa using h2
      simp [getElem!_pos d' i hi]
  rw [this]
  exact h3
theorem pend_perm {n : Nat} {o : Nat → OD} {d' : Array Nat} (h : PermIn 0 n (Array.range n) d') : (pendL (fun k => o d'[k]!) n).length = (pendL o n).length := by
  rw [pend_cnt, pend_cnt]
  have := (perm_list h).countP_eq (fun i => decide ((o i).e = -1))
  rw [List.countP_map] at this
  exact this
theorem pend_top {o : Nat → OD} : ∀ {n}, (∀ i, i < n → (o i).e ≠ -1) ∨ ∃ j, j < n ∧ (o j).e = -1 ∧ ∀ i, i < n → (o i).e = -1 → (o i).s ≤ (o j).s
  | 0 => .inl fun i hi => absurd hi (by omega)
  | n + 1 => by
    by_cases he : (o n).e = -1
    · right
      rcases pend_top (o := o) (n := n) with h | ⟨j, hj, h1, h2⟩
      · refine ⟨n, by omega, he, fun i hi hie => ?_⟩
        rcases Nat.lt_or_ge i n with h' | h'
        · exact absurd hie (h i h')
        · obtain rfl : i = n := by omega
          exact Int.le_refl _
      · by_cases hl : (o j).s ≤ (o n).s
        · refine ⟨n, by omega, he, fun i hi hie => ?_⟩
          rcases Nat.lt_or_ge i n with h' | h'
          · exact Int.le_trans (h2 i h' hie) hl
          · obtain rfl : i = n := by omega
            exact Int.le_refl _
        · refine ⟨j, by omega, h1, fun i hi hie => ?_⟩
          rcases Nat.lt_or_ge i n with h' | h'
          · exact h2 i h' hie
          · obtain rfl : i = n := by omega
            omega
    · rcases pend_top (o := o) (n := n) with h | ⟨j, hj, h1, h2⟩
      · left
        intro i hi
        rcases Nat.lt_or_ge i n with h' | h'
        · exact h i h'
        · obtain rfl : i = n := by omega
          exact he
      · right
        refine ⟨j, by omega, h1, fun i hi hie => ?_⟩
        rcases Nat.lt_or_ge i n with h' | h'
        · exact h2 i h' hie
        · obtain rfl : i = n := by omega
          exact absurd hie he
theorem pend_und {o : Nat → OD} {a : Int} : ∀ {n}, (∀ i, i < n → (o i).e = -1 → (o i).s ≤ a) → (pendL o n).length ≤ cntU o a n
  | 0, _ => Nat.le_refl _
  | n + 1, h => by
    have ih := pend_und (o := o) (a := a) (n := n) fun i hi => h i (by omega)
    show (if (o n).e = -1 then pendL o n ++ [((o n).r0, (o n).r1)] else pendL o n).length ≤ cntU o a n + _
    by_cases he : (o n).e = -1
    · rw [if_pos he, if_pos (und_iff.2 ⟨h n (Nat.lt_succ_self n) he, .inl he⟩), List.length_append, List.length_singleton]
      omega
    · rw [if_neg he]
      omega
theorem pend_most (o : Nat → OD) (n : Nat) : (pendL o n).length ≤ mostU o n n := by
  rcases pend_top (o := o) (n := n) with h | ⟨j, hj, h1, h2⟩
  · have : (pendL o n).length ≤ 0 := by
      rw [pend_cnt, Nat.le_zero, List.countP_eq_zero]
      intro i hi
      have := h i (List.mem_range.1 hi)
      simpa using this
    omega
  · exact Nat.le_trans (pend_und h2) (mostU_lo j hj (by simp [h1]))
end Go.Proofs.Ytplaicdbcfnjbaa
/- Equality of two rows of calls: the reference's. -/
namespace Go.Proofs.Ytplaicdbcfnjbaa
open Go.RowKit
set_option linter.unusedVariables false
attribute [local irreducible] Go.wpList
set_option maxRecDepth 100000 in
set_option maxHeartbeats 4000000 in
theorem rsames_any (f n m : Nat) (o p : Nat → OD) (A : Option Addr) (ca : Nat) (B : Option Addr) (cb : Nat) (w : World) (hA : RowO w f A n o) (hB : RowO w f B m p) :
    Calls Try.prog 16 #[.slice A n ca, .slice B m cb] w fun x w' => x = .returned (.bool (sameO f n m o p)) ∧ New w w' := by
  have h1 := hA.1
  have h2 := hB.1
  have HA := Lib.hid hA
  have HB := Lib.hid hB
  clear hA hB
  by_cases hnm : n = m
  · subst hnm
    have HN := Lib.hid (fun j (hj : j < n) h => sameO_no (f := f) (o := o) (p := p) j hj h)
    have HY := Lib.hid (fun h => sameO_yes (f := f) (n := n) (o := o) (p := p) h)
    generalize sameO f n n o p = R at *
    go_enter Try.func16, Try.ntmps16
    go_wp2_with fail
    go_loopg [5] n (fun q i wr => ∃ k : Nat, k + q = n ∧ i = .int .i64 k ∧ (∀ j, j < k → oneO f (o j) (p j) = true) ∧ New w wr)
    case atStart => exact ⟨0, by omega, rfl, fun j hj => absurd hj (by omega), New.refl w⟩
    case round =>
      obtain ⟨k, hk, rfl, he, nw⟩ := hrel
      by_cases hkn : k < n
      · obtain ⟨a1, rfl, ca1⟩ := HA.out.2.2 (by omega)
        obtain ⟨a2, rfl, ca2⟩ := HB.out.2.2 (by omega)
        have L1 := Lib.hid (fun w' (x : New w w') => (ca1 k hkn).new x)
        have L2 := Lib.hid (fun w' (x : New w w') => (ca2 k hkn).new x)
        have HC := Lib.hid (fun w' (x : New w w') => one_any f (o k) (p k) w' ((HA.out.2.1 k hkn).new x) ((HB.out.2.1 k hkn).new x))
        have hkn' : (k : Int) < n := by omega
        have hkk : (k : Int) ≤ 7000000000000 := by omega
        have HE := Lib.hid he
        have HK := Lib.hid (fun (h : oneO f (o k) (p k) = true) j (hj : j < k + 1) => show oneO f (o j) (p j) = true from by
          rcases Nat.lt_or_ge j k with h' | h'
          · exact HE.out j h'
          · obtain rfl : j = k := by omega
            exact h)
        have HM := Lib.hid (fun h => HN.out k hkn h)
        clear ca1 ca2 he HE HN HY HA HB
        generalize ocs (o k) = ra at *
        generalize ocs (p k) = rb at *
        generalize oneO f (o k) (p k) = T at *
        go_wp2_with fail
        refine wp_region_held_drew (S := fun w' => New w w') (by kernel_rfl) nw.drew (fun hH => ?_)
        clear nw
        refine wpAnyH_take (i := 0) (oi := { dst := some 17, op := Go.Op.move (Go.Operand.tmp 0), type := 38, pos := "ref.go:119", after := #[], guard := none }) (v := .slice (some a1) n ca) rfl (by kernel_rfl) (by kernel_rfl) (by kernel_rfl) (fun _ _ _ h => h) (Or.inl ⟨by rfl, ?_⟩) hH ?_
        (intro w5 hS5; go_simp; try rfl)
        try simp only [Act.put, List.setIfInBounds_toArray, List.set_cons_zero, List.set_cons_succ]
        refine wpAnyH_take (i := 1) (oi := { dst := some 18, op := Go.Op.move (Go.Operand.tmp 5), type := 3, pos := "ref.go:119", after := #[], guard := none }) (v := .int .i64 (k : Nat)) rfl (by kernel_rfl) (by kernel_rfl) (by kernel_rfl) (fun _ _ _ h => h) (Or.inl ⟨by rfl, ?_⟩) hH ?_
        (intro w5 hS5; go_simp; try rfl)
        try simp only [Act.put, List.setIfInBounds_toArray, List.set_cons_zero, List.set_cons_succ]
        refine wpAnyH_take (i := 2) (oi := { dst := some 19, op := Go.Op.indexAddr 38 (Go.Operand.tmp 17) (Go.Operand.tmp 18), type := 0, pos := "ref.go:119", after := #[{ on := 0, ground := Go.Ground.data }, { on := 1, ground := Go.Ground.data }], guard := none }) (v := .pointer (some (a1.add (k * 19)))) rfl (by kernel_rfl) (by kernel_rfl) (by kernel_rfl) (fun _ _ _ h => h) (Or.inl ⟨by rfl, ?_⟩) hH ?_
        (intro w5 hS5; go_simp; try rfl)
        try simp only [Act.put, List.setIfInBounds_toArray, List.set_cons_zero, List.set_cons_succ]
        refine wpAnyH_take (i := 3) (oi := { dst := some 20, op := Go.Op.load 36 (Go.Operand.tmp 19), type := 36, pos := "ref.go:119", after := #[{ on := 2, ground := Go.Ground.data }], guard := none }) (v := .agg ra) rfl (by kernel_rfl) (by kernel_rfl) (by kernel_rfl) (fun _ _ _ h => h) (Or.inl ⟨by rfl, ?_⟩) hH ?_
        (intro w5 hS5; refine yl_ld rfl rfl (lda_at _ _ _ (L1.out _ hS5)))
        try simp only [Act.put, List.setIfInBounds_toArray, List.set_cons_zero, List.set_cons_succ]
        refine wpAnyH_take (i := 4) (oi := { dst := some 21, op := Go.Op.move (Go.Operand.tmp 1), type := 38, pos := "ref.go:119", after := #[], guard := none }) (v := .slice (some a2) n cb) rfl (by kernel_rfl) (by kernel_rfl) (by kernel_rfl) (fun _ _ _ h => h) (Or.inl ⟨by rfl, ?_⟩) hH ?_
        (intro w5 hS5; go_simp; try rfl)
        try simp only [Act.put, List.setIfInBounds_toArray, List.set_cons_zero, List.set_cons_succ]
        refine wpAnyH_take (i := 5) (oi := { dst := some 22, op := Go.Op.move (Go.Operand.tmp 5), type := 3, pos := "ref.go:119", after := #[], guard := none }) (v := .int .i64 (k : Nat)) rfl (by kernel_rfl) (by kernel_rfl) (by kernel_rfl) (fun _ _ _ h => h) (Or.inl ⟨by rfl, ?_⟩) hH ?_
        (intro w5 hS5; go_simp; try rfl)
        try simp only [Act.put, List.setIfInBounds_toArray, List.set_cons_zero, List.set_cons_succ]
        refine wpAnyH_take (i := 6) (oi := { dst := some 23, op := Go.Op.indexAddr 38 (Go.Operand.tmp 21) (Go.Operand.tmp 22), type := 0, pos := "ref.go:119", after := #[{ on := 4, ground := Go.Ground.data }, { on := 5, ground := Go.Ground.data }], guard := none }) (v := .pointer (some (a2.add (k * 19)))) rfl (by kernel_rfl) (by kernel_rfl) (by kernel_rfl) (fun _ _ _ h => h) (Or.inl ⟨by rfl, ?_⟩) hH ?_
        (intro w5 hS5; go_simp; try rfl)
        try simp only [Act.put, List.setIfInBounds_toArray, List.set_cons_zero, List.set_cons_succ]
        refine wpAnyH_take (i := 7) (oi := { dst := some 24, op := Go.Op.load 36 (Go.Operand.tmp 23), type := 36, pos := "ref.go:119", after := #[{ on := 6, ground := Go.Ground.data }], guard := none }) (v := .agg rb) rfl (by kernel_rfl) (by kernel_rfl) (by kernel_rfl) (fun _ _ _ h => h) (Or.inl ⟨by rfl, ?_⟩) hH ?_
        (intro w5 hS5; refine yl_ld rfl rfl (lda_at _ _ _ (L2.out _ hS5)))
        try simp only [Act.put, List.setIfInBounds_toArray, List.set_cons_zero, List.set_cons_succ]
        refine wpAnyH_ready (rs := [8]) (by kernel_rfl) (by simp) ?_
        refine AllReadyH.cons (o := { dst := some 25, op := Go.Op.call { callee := Go.Callee.value (Go.Operand.func 11), args := #[Go.Operand.tmp 20, Go.Operand.tmp 24], argTypes := #[36, 36] }, type := 4, pos := "ref.go:119", after := #[{ on := 3, ground := Go.Ground.data }, { on := 7, ground := Go.Ground.data }], guard := none }) rfl (fun K5 hK5 => ?_) AllReadyH.nil
        go_simp
        refine (HC.out _ hH).mono ?_; rintro e w9 ⟨rfl, n9⟩
        refine hK5.out _ _ (New.trans hH n9) (fun hH9 => ?_)
        clear hK5 K5
        try simp only [Act.put, List.setIfInBounds_toArray, List.set_cons_zero, List.set_cons_succ]
        refine wpAnyH_take (i := 9) (oi := { dst := some 26, op := Go.Op.unOp Go.UnOp.not 4 (Go.Operand.tmp 25), type := 4, pos := "ref.go:119", after := #[{ on := 8, ground := Go.Ground.data }], guard := none }) (v := .bool !T) rfl (by kernel_rfl) (by kernel_rfl) (by kernel_rfl) (fun _ _ _ h => h) (Or.inl ⟨by rfl, ?_⟩) hH9 ?_
        (intro w5 hS5; go_simp; try rfl)
        try simp only [Act.put, List.setIfInBounds_toArray, List.set_cons_zero, List.set_cons_succ]
        refine wpAnyH_done (by kernel_rfl) ?_ _
        have HZ := Lib.hid hH9
        clear hH hH9 n9
        cases T
        · have hr := HM.out (by trivial)
          subst hr
          go_wp2_with fail
          exact bodyPost_ret (by simp [results, Try.results16, go_sem]) rfl ⟨rfl, HZ.out⟩
        · go_wp2_with fail
          go_roundg (gk - 1)
          case rel => exact ⟨k + 1, by omega, by go_num, HK.out (by trivial), HZ.out⟩
          case measure => omega
      · obtain rfl : k = n := by omega
        have hr := HY.out he
        subst hr
        clear he
        go_wp2
        go_ret
        exact ⟨rfl, nw⟩
  · have hr := sameO_len (f := f) (o := o) (p := p) hnm
    rw [hr]
    have t : ((n : Int) != (m : Int)) = true := by
      simp only [bne_iff_ne, ne_eq]; omega
    clear hnm hr
    go_enter Try.func16, Try.ntmps16
    go_wp2
    go_ret
    exact ⟨rfl, New.refl w⟩
end Go.Proofs.Ytplaicdbcfnjbaa
