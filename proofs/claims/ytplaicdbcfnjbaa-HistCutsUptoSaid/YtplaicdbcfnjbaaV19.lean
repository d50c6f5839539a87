/- Check: what the program tells of a row of calls is what the reference tells. No walk. -/
import Derived.Test.YtplaicdbcfnjbaaV08
import Derived.Test.YtplaicdbcfnjbaaV18
set_option linter.unusedSimpArgs false
set_option linter.unusedVariables false
namespace Go.Proofs.Ytplaicdbcfnjbaa
open Go.Sort
set_option linter.unusedVariables false
theorem nodup_snoc {α : Type} {l : List α} {x : α} : (l ++ [x]).Nodup ↔ l.Nodup ∧ x ∉ l := by
  rw [List.nodup_append]
  constructor
  · rintro ⟨h1, _, h3⟩
    exact ⟨h1, fun hx => h3 x hx x (by simp) rfl⟩
  · rintro ⟨h1, h2⟩
    exact ⟨h1, by simp, fun a ha b hb e => by rw [List.mem_singleton] at hb; subst hb; subst e; exact h2 ha⟩
def rf (a : OD) : Int × Int := (a.r0, a.r1)
def refL (o : Nat → OD) : Nat → List (Int × Int)
  | 0 => []
  | k + 1 => refL o k ++ [rf (o k)]
def timL (o : Nat → OD) : Nat → List Int
  | 0 => []
  | k + 1 => if (o k).e = -1 then timL o k ++ [(o k).s] else (timL o k ++ [(o k).s]) ++ [(o k).e]
theorem refL_len (o : Nat → OD) : ∀ k, (refL o k).length = k
  | 0 => rfl
  | k + 1 => by unfold refL; rw [List.length_append, refL_len o k]; rfl
theorem timL_len (o : Nat → OD) : ∀ k, (timL o k).length ≤ 2 * k
  | 0 => Nat.le_refl _
  | k + 1 => by
    have := timL_len o k
    unfold timL
    split <;> simp <;> omega
theorem mem_refL {o : Nat → OD} {x : Int × Int} : ∀ {k}, x ∈ refL o k ↔ ∃ j, j < k ∧ x = rf (o j)
  | 0 => by simp [refL]
  | k + 1 => by
    unfold refL
    rw [List.mem_append, mem_refL, List.mem_singleton]
    constructor
    · rintro (⟨j, h1, h2⟩ | h)
      · exact ⟨j, by omega, h2⟩
      · exact ⟨k, by omega, h⟩
    · rintro ⟨j, h1, h2⟩
      rcases Nat.lt_or_ge j k with h | h
      · exact .inl ⟨j, h, h2⟩
      · obtain rfl : j = k := by omega
        exact .inr h2
theorem mem_timL {o : Nat → OD} {x : Int} : ∀ {k}, x ∈ timL o k ↔ ∃ j, j < k ∧ (x = (o j).s ∨ ((o j).e ≠ -1 ∧ x = (o j).e))
  | 0 => by simp [timL]
  | k + 1 => by
    have key : x ∈ timL o (k + 1) ↔ x ∈ timL o k ∨ (x = (o k).s ∨ ((o k).e ≠ -1 ∧ x = (o k).e)) := by
      show (x ∈ if (o k).e = -1 then timL o k ++ [(o k).s] else (timL o k ++ [(o k).s]) ++ [(o k).e]) ↔ _
      by_cases he : (o k).e = -1
      · rw [if_pos he]; simp [he]
      · rw [if_neg he]; simp [he]
    rw [key, mem_timL]
    constructor
    · rintro (⟨j, h1, h2⟩ | h)
      · exact ⟨j, by omega, h2⟩
      · exact ⟨k, by omega, h⟩
    · rintro ⟨j, h1, h2⟩
      rcases Nat.lt_or_ge j k with h | h
      · exact .inl ⟨j, h, h2⟩
      · obtain rfl : j = k := by omega
        exact .inr h2
theorem refR_iff {a b : OD} : refR a b = true ↔ rf a = rf b := by
  unfold refR eq2 rf
  simp [Prod.ext_iff]
theorem refL_nodup {o : Nat → OD} : ∀ {n}, (refL o n).Nodup ↔ ∀ i, i < n → ∀ k, k < i → refR (o i) (o k) = false
  | 0 => by simp [refL]
  | n + 1 => by
    show (refL o n ++ [rf (o n)]).Nodup ↔ _
    rw [nodup_snoc, refL_nodup]
    constructor
    · rintro ⟨h1, h2⟩ i hi k hk
      rcases Nat.lt_or_ge i n with h | h
      · exact h1 i h k hk
      · obtain rfl : i = n := by omega
        rw [← Bool.not_eq_true, refR_iff]
        exact fun e => h2 (mem_refL.2 ⟨k, hk, e⟩)
    · intro h
      refine ⟨fun i hi k hk => h i (by omega) k hk, fun hm => ?_⟩
      obtain ⟨k, hk, e⟩ := mem_refL.1 hm
      have := h n (Nat.lt_succ_self n) k hk
      rw [← Bool.not_eq_true, refR_iff] at this
      exact this e
theorem bad_iff {a : OD} : badR a = false ↔ 0 ≤ a.s ∧ (a.e = -1 ∨ a.s < a.e) := by
  rw [← Bool.not_eq_true]
  unfold badR
  simp
  omega
theorem rng_bad (a : OD) : rngB a.s a.e = !badR a := by
  rw [Bool.eq_iff_iff, Bool.not_eq_true', bad_iff]
  unfold rngB
  simp
theorem cls_iff {a b : OD} : clsR a b = true ↔ a.s = b.s ∨ a.e = b.s ∨ a.s = b.e ∨ (a.e = b.e ∧ a.e ≠ -1) := by
  unfold clsR clashB
  simp [or_assoc]
theorem timL_nodup {o : Nat → OD} : ∀ {n}, (∀ i, i < n → badR (o i) = false) → ((timL o n).Nodup ↔ ∀ i, i < n → ∀ k, k < i → clsR (o i) (o k) = false)
  | 0, _ => by simp [timL]
  | n + 1, hb => by
    have ih := timL_nodup (o := o) (n := n) fun i hi => hb i (by omega)
    have bn := bad_iff.1 (hb n (Nat.lt_succ_self n))
    have key : (timL o (n + 1)).Nodup ↔ (timL o n).Nodup ∧ (o n).s ∉ timL o n ∧ ((o n).e ≠ -1 → (o n).e ∉ timL o n) := by
      show (if (o n).e = -1 then timL o n ++ [(o n).s] else (timL o n ++ [(o n).s]) ++ [(o n).e]).Nodup ↔ _
      by_cases he : (o n).e = -1
      · rw [if_pos he, nodup_snoc]; simp [he]
      · rw [if_neg he, nodup_snoc, nodup_snoc, List.mem_append, List.mem_singleton]
        have : (o n).e ≠ (o n).s := by omega
        simp [he, this, and_assoc]
    have step : ((o n).s ∉ timL o n ∧ ((o n).e ≠ -1 → (o n).e ∉ timL o n)) ↔ ∀ k, k < n → clsR (o n) (o k) = false := by
      constructor
      · rintro ⟨h1, h2⟩ k hk
        have bk := bad_iff.1 (hb k (by omega))
        rw [← Bool.not_eq_true, cls_iff]
        rintro (e | e | e | ⟨e, e2⟩)
        · exact h1 (mem_timL.2 ⟨k, hk, .inl e⟩)
        · exact h2 (by omega) (mem_timL.2 ⟨k, hk, .inl e⟩)
        · exact h1 (mem_timL.2 ⟨k, hk, .inr ⟨by omega, e⟩⟩)
        · exact h2 e2 (mem_timL.2 ⟨k, hk, .inr ⟨by omega, e⟩⟩)
      · intro h
        refine ⟨fun hm => ?_, fun he hm => ?_⟩
        · obtain ⟨k, hk, e⟩ := mem_timL.1 hm
          have := h k hk
          rw [← Bool.not_eq_true, cls_iff] at this
          rcases e with e | ⟨_, e⟩
          · exact this (.inl e)
          · exact this (.inr (.inr (.inl e)))
        · obtain ⟨k, hk, e⟩ := mem_timL.1 hm
          have := h k hk
          rw [← Bool.not_eq_true, cls_iff] at this
          rcases e with e | ⟨_, e⟩
          · exact this (.inr (.inl e))
          · exact this (.inr (.inr (.inr ⟨e, he⟩)))
    rw [key, ih, step]
    constructor
    · rintro ⟨h1, h2⟩ i hi k hk
      rcases Nat.lt_or_ge i n with h | h
      · exact h1 i h k hk
      · obtain rfl : i = n := by omega
        exact h2 k hk
    · intro h
      exact ⟨fun i hi k hk => h i (by omega) k hk, fun k hk => h n (Nat.lt_succ_self n) k hk⟩
section
variable {n : Nat} {o : Nat → OD} (h1 : ∀ i, i < n → badR (o i) = false)
include h1
theorem chp_b (h2 : ¬ (refL o n).Nodup) : chkR n o = 2 := by
  rw [refL_nodup] at h2
  apply Classical.byContradiction
  intro hc
  refine h2 fun i hi k hk => ?_
  cases h : refR (o i) (o k)
  · rfl
  · exact absurd (chk_b h1 i k hi hk h) hc
theorem chp_c (h2 : (refL o n).Nodup) (h3 : ¬ (timL o n).Nodup) : chkR n o = 11 := by
  rw [refL_nodup] at h2
  rw [timL_nodup h1] at h3
  apply Classical.byContradiction
  intro hc
  refine h3 fun i hi k hk => ?_
  cases h : clsR (o i) (o k)
  · rfl
  · exact absurd (chk_c h1 h2 i k hi hk h) hc
theorem chp_d (h2 : (refL o n).Nodup) (h3 : (timL o n).Nodup) (h4 : chk4 n o = true) : chkR n o = 13 := by
  rw [refL_nodup] at h2
  rw [timL_nodup h1] at h3
  obtain ⟨i, hi, h⟩ := anyB_ex h4
  obtain ⟨k, hk, h⟩ := anyB_ex h
  exact chk_d h1 h2 h3 i k hi hk h
theorem chp_e (h2 : (refL o n).Nodup) (h3 : (timL o n).Nodup) (h4 : chk4 n o = false) : chkR n o = 0 := by
  rw [refL_nodup] at h2
  rw [timL_nodup h1] at h3
  exact chk_e h1 h2 h3 fun i hi k hk => anyB_get (anyB_get h4 i hi) k hk
end
/-- the calls of one client -/
def clL (o : Nat → OD) (who : Int) : Nat → List OD
  | 0 => []
  | k + 1 => if (o k).r0 = who then clL o who k ++ [o k] else clL o who k
theorem clL_len (o : Nat → OD) (who : Int) : ∀ k, (clL o who k).length ≤ k
  | 0 => Nat.le_refl _
  | k + 1 => by
    have := clL_len o who k
    unfold clL
    split <;> simp <;> omega
theorem mem_clL {o : Nat → OD} {who : Int} {x : OD} : ∀ {k}, x ∈ clL o who k ↔ ∃ j, j < k ∧ x = o j ∧ (o j).r0 = who
  | 0 => by simp [clL]
  | k + 1 => by
    have key : x ∈ clL o who (k + 1) ↔ x ∈ clL o who k ∨ (x = o k ∧ (o k).r0 = who) := by
      show (x ∈ if (o k).r0 = who then clL o who k ++ [o k] else clL o who k) ↔ _
      by_cases he : (o k).r0 = who
      · rw [if_pos he]; simp [he]
      · rw [if_neg he]; simp [he]
    rw [key, mem_clL]
    constructor
    · rintro (⟨j, h1, h2⟩ | h)
      · exact ⟨j, by omega, h2⟩
      · exact ⟨k, by omega, h⟩
    · rintro ⟨j, h1, h2⟩
      rcases Nat.lt_or_ge j k with h | h
      · exact .inl ⟨j, h, h2⟩
      · obtain rfl : j = k := by omega
        exact .inr h2
theorem clL_nodup {o : Nat → OD} {who : Int} : ∀ {k}, (refL o k).Nodup → ((clL o who k).map rf).Nodup
  | 0, _ => by simp [clL]
  | k + 1, h => by
    have h' : (refL o k ++ [rf (o k)]).Nodup := h
    rw [nodup_snoc] at h'
    have ih := clL_nodup (who := who) h'.1
    unfold clL
    split
    · rw [List.map_append, List.map_singleton, nodup_snoc]
      refine ⟨ih, fun hm => h'.2 ?_⟩
      obtain ⟨x, hx, e⟩ := List.mem_map.1 hm
      obtain ⟨j, hj, rfl, _⟩ := mem_clL.1 hx
      exact mem_refL.2 ⟨j, hj, e.symm⟩
    · exact ih
/-- is it one behind the other for this client? -/
def okC (o : Nat → OD) (n : Nat) (who : Int) : Prop := ∀ a ∈ clL o who n, ∀ b ∈ clL o who n, a.r1 < b.r1 → aheadB a.e b.s = true
theorem chk4_no {n : Nat} {o : Nat → OD} (h : ∀ i, i < n → okC o n (o i).r0) : chk4 n o = false := by
  refine anyB_no fun i hi => anyB_no fun k hk => ?_
  cases hb : ordR (o i) (o k)
  · rfl
  · exfalso
    unfold ordR at hb
    simp at hb
    obtain ⟨⟨e, hl⟩, hn⟩ := hb
    have := h i hi (o i) (mem_clL.2 ⟨i, hi, rfl, rfl⟩) (o k) (mem_clL.2 ⟨k, hk, rfl, e.symm⟩) hl
    rw [this] at hn
    cases hn
theorem chk4_yes {n : Nat} {o : Nat → OD} {who : Int} {a b : OD} (ha : a ∈ clL o who n) (hb : b ∈ clL o who n) (hl : a.r1 < b.r1) (hn : aheadB a.e b.s = false) : chk4 n o = true := by
  obtain ⟨i, hi, rfl, e1⟩ := mem_clL.1 ha
  obtain ⟨k, hk, rfl, e2⟩ := mem_clL.1 hb
  refine anyB_yes i hi (anyB_yes k hk ?_)
  unfold ordR
  simp [e1, e2, hl, hn]
theorem ahead_iff {e s : Int} : aheadB e s = true ↔ e ≠ -1 ∧ e < s := by unfold aheadB; simp
theorem ext_self {n : Nat} {d : Array Nat} (h : d.size = n) : d.extract 0 n = d := by subst h; exact Array.extract_size
theorem perm_get {n : Nat} {d' : Array Nat} (h : PermIn 0 n (Array.range n) d') (i : Nat) (hi : i < n) : ∃ k, k < n ∧ d'[k]! = i := by
  obtain ⟨h1, _, h3⟩ := h
  have hs : d'.size = n := by simpa using h1
  have hm : i ∈ d'.toList := by
    have : i ∈ (Array.range n).toList := by simp [hi]
    rw [ext_self hs, ext_self (by simp)] at h3
    exact (h3.mem_iff).2 (by simpa using hi)
  obtain ⟨k, hk, e⟩ := List.getElem_of_mem hm
  have hk' : k < d'.size := by simpa using hk
  exact ⟨k, by omega, by rw [getElem!_pos d' k hk']; simpa using e⟩
theorem perm_inj {n : Nat} {d' : Array Nat} (h : PermIn 0 n (Array.range n) d') (i k : Nat) (hi : i < n) (hk : k < n) (e : d'[i]! = d'[k]!) : i = k := by
  obtain ⟨h1, _, h3⟩ := h
  have hs : d'.size = n := by simpa using h1
  have hnd : d'.toList.Nodup := by
    rw [ext_self hs, ext_self (by simp)] at h3
    exact h3.nodup_iff.2 (by rw [Array.toList_range]; exact List.nodup_range)
  rw [getElem!_pos d' i (by omega), getElem!_pos d' k (by omega)] at e
  exact (List.getElem_inj (h₀ := by simpa [hs] using hi) (h₁ := by simpa [hs] using hk) hnd).1 (by simpa using e)
/-- the sorted chain: neighbours suffice -/
theorem chain_all {l : List OD} {d' : Array Nat} (hb : ∀ x ∈ l, badR x = false) (hp : PermIn 0 l.length (Array.range l.length) d') (hs : SortedIn (ls fun i => (lk l i).r1) 0 l.length d')
    (h : ∀ i, i + 1 < l.length → aheadB (lk l d'[i]!).e (lk l d'[i + 1]!).s = true) : ∀ a ∈ l, ∀ b ∈ l, a.r1 < b.r1 → aheadB a.e b.s = true := by
  have hm : ∀ a ∈ l, ∃ i, i < l.length ∧ lk l d'[i]! = a := fun a ha => by
    obtain ⟨j, hj, e⟩ := List.getElem_of_mem ha
    obtain ⟨k, hk, e2⟩ := perm_get hp j hj
    refine ⟨k, hk, ?_⟩
    rw [e2, ← e]
    unfold lk
    rw [List.getD_eq_getElem?_getD, List.getElem?_eq_getElem hj]
    rfl
  have far : ∀ t i, i + t + 1 < l.length → aheadB (lk l d'[i]!).e (lk l d'[i + t + 1]!).s = true := by
    intro t
    induction t with
    | zero => exact fun i hi => h i hi
    | succ t ih =>
      intro i hi
      have a1 := ahead_iff.1 (ih i (by omega))
      have a2 := ahead_iff.1 (h (i + t + 1) (by omega))
      have hd := perm_lt hp (i + t + 1) (by omega)
      have b2 := bad_iff.1 (hb _ (lk_mem l _ hd))
      rw [ahead_iff]
      rw [show i + (t + 1) + 1 = i + t + 1 + 1 by omega]
      omega
  intro a ha b hb' hl
  obtain ⟨i, hi, rfl⟩ := hm a ha
  obtain ⟨k, hk, rfl⟩ := hm b hb'
  have hik : i < k := by
    rcases Nat.lt_trichotomy i k with h' | h' | h'
    · exact h'
    · subst h'; omega
    · have := hs k i (Nat.zero_le _) h' hi
      rw [← Bool.not_eq_true, ls_iff] at this
      omega
  obtain ⟨t, rfl⟩ : ∃ t, k = i + t + 1 := ⟨k - i - 1, by omega⟩
  exact far t i hk
/-- neighbours differ -/
theorem chain_lt {l : List OD} {d' : Array Nat} {who : Int} (hw : ∀ x ∈ l, x.r0 = who) (hn : (l.map rf).Nodup) (hp : PermIn 0 l.length (Array.range l.length) d') (hs : SortedIn (ls fun i => (lk l i).r1) 0 l.length d')
    (i : Nat) (hi : i + 1 < l.length) : (lk l d'[i]!).r1 < (lk l d'[i + 1]!).r1 := by
  have h1 := hs i (i + 1) (Nat.zero_le _) (Nat.lt_succ_self i) hi
  rw [← Bool.not_eq_true, ls_iff] at h1
  have p1 := perm_lt hp i (by omega)
  have p2 := perm_lt hp (i + 1) hi
  have q1 := lk_mem l _ p1
  have q2 := lk_mem l _ p2
  have hne : d'[i]! ≠ d'[i + 1]! := fun e => by have := perm_inj hp i (i + 1) (by omega) hi e; omega
  apply Classical.byContradiction
  intro hge
  apply hne
  have e : rf (lk l d'[i]!) = rf (lk l d'[i + 1]!) := by
    unfold rf
    rw [hw _ q1, hw _ q2]
    have : (lk l d'[i]!).r1 = (lk l d'[i + 1]!).r1 := by omega
    rw [this]
  have g : ∀ j, j < l.length → (l.map rf)[j]? = some (rf (lk l j)) := fun j hj => by
    rw [List.getElem?_map, List.getElem?_eq_getElem hj]
    unfold lk
    rw [List.getD_eq_getElem?_getD, List.getElem?_eq_getElem hj]
    rfl
  have e3 : (l.map rf)[d'[i]!]? = (l.map rf)[d'[i + 1]!]? := by rw [g _ p1, g _ p2, e]
  exact (List.getElem?_inj (by rw [List.length_map]; exact p1) hn).1 e3
end Go.Proofs.Ytplaicdbcfnjbaa
/- Sort: the program's own. -/
namespace Go.Proofs.Ytplaicdbcfnjbaa
open Go.RowKit
set_option linter.unusedVariables false
theorem info36n : ∃ i0, Try.prog.info? 36 = some i0 ∧ i0.zero = some (.agg z36) ∧ i0.size = 19 ∧ i0.bytes = 216 := info_parts info36
theorem wpl_mk {ops : Array Oper} {rest : List Oper} {o : Oper} {a : Act} {w : World} {Q : Exit → Act → World → Prop} (hgd : o.guard = none) (x y : Operand) (n : Nat)
    (ho : o.op = .makeSlice 38 x y) (hx : a.eval x = .int .i64 0) (hy : a.eval y = .int .i64 n) (hn : n ≤ 40)
    (h : ∀ w', OwnO w' w.heap.size (.slice (some ⟨w.heap.size, 0, none⟩) 0 n) [] → New w w' → wpList Try.prog ops Q rest (a.put o.dst (.slice (some ⟨w.heap.size, 0, none⟩) 0 n)) w') : wpList Try.prog ops Q (o :: rest) a w := by
  obtain ⟨i0, hi, hz0, hz1, hz2⟩ := info36n
  exact wpList_make_own w hgd x y 38 ho w.heap.size 36 i0 _ 19 Try.underlying38 hi hz0 hz1 .i64 .i64 n n hx hy rfl (by rw [hz2]; omega) (by unfold maxLen; omega) (Nat.le_refl _) fun w' h1 h2 => h w' h1 ⟨h2.os, h2.tape, h2.output, h2.size, fun b hb => h2.block b hb (by simp)⟩
theorem put_ne {w : World} {base : Nat} {v : Value} {l : List OD} {q : OD} (h : OwnO w base v (l ++ [q])) : v ≠ .slice none 0 0 := by
  intro e
  rcases h.2 with ⟨_, e2⟩ | ⟨g, cap, cur, e2, _⟩
  · rw [List.length_append] at e2; simp at e2
  · rw [e] at e2; cases e2
attribute [local irreducible] Go.wpList
set_option maxRecDepth 100000 in
set_option maxHeartbeats 1000000 in
theorem sort_any (f n : Nat) (o : Nat → OD) (A : Option Addr) (cap : Nat) (w : World) (hA : RowO w f A n o) (hn : n ≤ 40) (hb : ∀ k, k < n → (o k).nx ≤ 4000000 ∧ (o k).td.ny ≤ 4000000 ∧ nodes f (o k).td.d ≤ 4000000) :
    Calls Try.prog 17 #[.slice A n cap] w (SortDone f n o w) := by
  have HA := Lib.hid hA
  have HB := Lib.hid hb
  clear hA hb
  go_enter Try.func17, Try.ntmps17
  go_wp2_with (first | (refine wpl_mk rfl (.const (.int .i64 0)) (.tmp 7) n rfl rfl rfl hn ?_; intro w0 own0 nw0; replace own0 := Lib.hid own0; replace nw0 := Lib.hid nw0))
  go_loopg [11, 3] n (fun q i v wr => ∃ (k : Nat) (xs : List OD), k + q = n ∧ i = .int .i64 k ∧ Hid (OwnO wr w.heap.size v xs) ∧ Hid (v ≠ .slice none 0 0) ∧ xs.length = k ∧ Hid (∀ i, i < k → Cpy (o i) (lk xs i)) ∧ Hid (Apart wr f v xs) ∧ Hid (New w wr))
  case atStart => exact ⟨0, [], by omega, rfl, own0, Lib.hid (by simp), rfl, Lib.hid (fun i hi => absurd hi (by omega)), Lib.hid (fun x hx => absurd hx List.not_mem_nil), nw0⟩
  case round =>
    obtain ⟨k, l, hk, rfl, OW, NE, hl, CP, AP, NW⟩ := hrel
    by_cases hkn : k < n
    · obtain ⟨ad, rfl, ca⟩ := HA.out.2.2 (by omega)
      have L1 := Lib.hid ((ca k hkn).new NW.out)
      have C1 := Lib.hid (fun w' (m : New w w') => hclone_any f (o k) w' ((HA.out.2.1 k hkn).new m) (HB.out k hkn).1 (HB.out k hkn).2.1 (HB.out k hkn).2.2)
      have hkn' : (k : Int) < n := by omega
      have I1 := Lib.hid (ocs_op (o k))
      have hle : l.length ≤ 4000000 := by omega
      have B1 := Lib.hid (Box.made wr 36 (ocs (o k)))
      have N1 := Lib.hid ((New.refl wr).alloc (.cells (ocs (o k)) 36))
      have S1 := Lib.hid (show (wr.alloc (.cells (ocs (o k)) 36)).heap.size = wr.heap.size + 1 by simp)
      have L2 := Lib.hid (opat_box B1.out I1.out)
      have HQ := Lib.hid (fun X cx A2 ca Y cy => (⟨_, _, _, _, _, _, rfl⟩ : Cpy (o k) ((o k).at X cx A2 ca Y cy)))
      generalize hr : ocs (o k) = r at *
      clear ca
      go_wp2_with (first | (refine wpl_load rfl rfl L1.out rfl ?_; clear L1) | (have tk_ := I1; refine wpl_store rfl rfl rfl rfl I1.out rfl ?_; clear I1 tk_) | (refine wpl_load (x := .tmp 5) (p := ⟨wr.heap.size, 0, none⟩) (c := r) rfl rfl ?_ rfl ?_; · exact L2.out) | (go_at_call 34; refine (C1.out _ (NW.out.trans N1.out)).mono ?_; rintro e w1 ⟨X, cx, A2, ca, Y, cy, rfl, g1, m1⟩; have G1 := Lib.hid g1.b; have M1 := Lib.hid (N1.out.trans m1); have hq := Lib.hid (HQ.out X cx A2 ca Y cy); clear g1 m1; rw [S1.out] at G1; generalize (o k).at X cx A2 ca Y cy = q at *; obtain ⟨r9, hq'⟩ : ∃ r9, ocs q = r9 := ⟨_, rfl⟩; rw [hq']; have I9 := Lib.hid (hq' ▸ ocs_op q)) | (refine wpl_rows (n := 1) (c := fun _ => r9) rfl rfl (by rw [Array.toList_map]; rfl) (by decide) (by decide) (fun _ => I9.out) ?_; intro w2 m2 hp; have P2 := hp 0 (by decide); rw [Addr.add_mid] at P2; simp only [Nat.zero_mul, Nat.add_zero] at P2; clear hp) | (refine wpl_puta rfl (.tmp 15) (.tmp 18) rfl _ l w.heap.size q _ rfl (own_new (own_new OW.out M1.out) m2) rfl (hq'.symm ▸ P2) hle (by have := (NW.out.trans M1.out).lt; have := m2.lt; omega) ?_; intro v' w3 o3 hgr hat))
      go_roundg (gk - 1)
      case rel =>
        refine ⟨k + 1, l ++ [q], by omega, by go_num, Lib.hid o3, Lib.hid (put_ne o3), by rw [List.length_append, hl]; rfl, Lib.hid (fun i hi => ?_), Lib.hid ?_, Lib.hid (((NW.out.trans M1.out).trans m2).grown hgr (fun b e => (OW.out.lt _ e).1))⟩
        · by_cases e : i = k
          · subst e; subst hl; rw [lk_snoc_eq]; exact hq.out
          · rw [lk_snoc_lt _ _ _ (by omega)]; exact CP.out i (by omega)
        · exact AP.out.put (M1.out.trans m2) (G1.out.keep m2.lt (fun b _ hb => m2.block b hb) (fun _ _ h => h)) (Nat.le_succ _) hgr OW.out hat
      case measure => omega
    · have hkL : k = n := by omega
      subst hkL
      obtain ⟨g, cap', e1, key⟩ := sort_row OW.out NE.out hl hn CP.out AP.out NW.out
      subst e1
      replace key := Lib.hid key
      clear OW NE CP AP NW own0 nw0 HA HB
      go_wp2_with (first | (go_at_call 35; refine (key.out).mono ?_; rintro e w3 ⟨rfl, K⟩; replace K := Lib.hid K))
      go_ret
      exact K.out
end Go.Proofs.Ytplaicdbcfnjbaa
/- Rows of references (two cells each) and of times that are built up; Pending: the program's own. -/
namespace Go.Proofs.Ytplaicdbcfnjbaa
open Go.RowKit Go.Sort
set_option linter.unusedVariables false
def pcells (l : List (Int × Int)) : List Value := l.flatMap fun r => [.int .i64 r.1, .int .i64 r.2]
theorem pcells_snoc (l : List (Int × Int)) (r : Int × Int) : pcells (l ++ [r]) = pcells l ++ [.int .i64 r.1, .int .i64 r.2] := by
  unfold pcells
  rw [List.flatMap_append]
  simp
def OwnR (w : World) (base : Nat) (v : Value) (l : List (Int × Int)) : Prop := w.ownsRow base 23 2 v l.length (pcells l)
def OwnI (w : World) (base : Nat) (v : Value) (l : List Int) : Prop := w.ownsRow base 3 1 v l.length (l.map (Value.int .i64))
theorem info23 : (Try.prog.info? 23).map (fun i => (i.zero, i.size, i.bytes)) = some (some (.agg #[.int .i64 0, .int .i64 0]), 2, 16) := by kernel_rfl
theorem info3 : (Try.prog.info? 3).map (fun i => (i.zero, i.size, i.bytes)) = some (some (.int .i64 0), 1, 8) := by kernel_rfl
theorem size23 : (Try.prog.info? 23).map (·.size) = some 2 := by kernel_rfl
theorem own_base {w : World} {b b' : Nat} {e : TypeId} {size n : Nat} {v : Value} {xs : List Value} (h : w.ownsRow b e size v n xs) (hb : b' ≤ b) : w.ownsRow b' e size v n xs := by
  obtain ⟨h1, h2⟩ := h
  refine ⟨h1, ?_⟩
  rcases h2 with h2 | ⟨g, cap, cur, hv, hg, r⟩
  · exact .inl h2
  · exact .inr ⟨g, cap, cur, hv, Nat.le_trans hb hg, r⟩
theorem wpl_putr {ops : Array Oper} {rest : List Oper} {o : Oper} {a : Act} {w : World} {Q : Exit → Act → World → Prop} (hgd : o.guard = none) (s x : Operand)
    (ho : o.op = .call { callee := .builtin .append, args := #[s, x], argTypes := #[44, 44] }) (v : Value) (l : List (Int × Int)) (base : Nat) (p : Int × Int)
    (hs : a.eval s = v) (hown : OwnR w base v l) (hx : a.eval x = .slice (some ⟨w.heap.size, 0, none⟩) 1 1) (hl : l.length ≤ 4000000) (hb : base ≤ w.heap.size)
    (h : ∀ v' w', OwnR w' base v' (l ++ [p]) → (w.alloc (.cells #[.int .i64 p.1, .int .i64 p.2] 23)).grownBy w' v.ownBlock → wpList Try.prog ops Q rest (a.put o.dst v') w') : wpList Try.prog ops Q (o :: rest) a (w.alloc (.cells #[.int .i64 p.1, .int .i64 p.2] 23)) := by
  obtain ⟨i0, hi, hz0, hz1, hz2⟩ := info_parts info23
  refine wpList_append_own _ hgd s x 44 ho base 23 i0 _ 2 16 Try.underlying44 hi hz0 hz1 hz2 rfl (by decide) v _ _ hs (own_new hown ((New.refl _).alloc _)) ⟨w.heap.size, 0, none⟩ 1 1 [.int .i64 p.1, .int .i64 p.2] hx rfl (news2 _ _ _ _) (fun u hu => by simp at hu; rcases hu with rfl | rfl <;> rfl) (by unfold maxLen; omega) (by omega) (by simp; omega) (fun v' w' h2 h3 _ => h v' w' ?_ h3)
  unfold OwnR
  rw [pcells_snoc, List.length_append, List.length_singleton]
  exact h2
theorem wpl_puti {ops : Array Oper} {rest : List Oper} {o : Oper} {a : Act} {w : World} {Q : Exit → Act → World → Prop} (hgd : o.guard = none) (s x : Operand)
    (ho : o.op = .call { callee := .builtin .append, args := #[s, x], argTypes := #[55, 55] }) (v : Value) (l : List Int) (base : Nat) (p : Int)
    (hs : a.eval s = v) (hown : OwnI w base v l) (hx : a.eval x = .slice (some ⟨w.heap.size, 0, none⟩) 1 1) (hl : l.length ≤ 4000000) (hb : base ≤ w.heap.size)
    (h : ∀ v' w', OwnI w' base v' (l ++ [p]) → (w.alloc (.cells #[.int .i64 p] 3)).grownBy w' v.ownBlock → wpList Try.prog ops Q rest (a.put o.dst v') w') : wpList Try.prog ops Q (o :: rest) a (w.alloc (.cells #[.int .i64 p] 3)) := by
  obtain ⟨i0, hi, hz0, hz1, hz2⟩ := info_parts info3
  refine wpList_append_own _ hgd s x 55 ho base 3 i0 _ 1 8 Try.underlying55 hi hz0 hz1 hz2 rfl (by decide) v _ _ hs (own_new hown ((New.refl _).alloc _)) ⟨w.heap.size, 0, none⟩ 1 1 [.int .i64 p] hx rfl (news1 _ _ _) (fun u hu => by simp at hu; rcases hu with rfl; rfl) (by unfold maxLen; omega) (by omega) (by simp; omega) (fun v' w' h2 h3 _ => h v' w' ?_ h3)
  unfold OwnI
  rw [List.length_append, List.length_singleton, List.map_append]
  exact h2
/-- the references of those that have not ended -/
def pendL (o : Nat → OD) : Nat → List (Int × Int)
  | 0 => []
  | k + 1 => if (o k).e = -1 then pendL o k ++ [((o k).r0, (o k).r1)] else pendL o k
theorem pendL_le (o : Nat → OD) : ∀ k, (pendL o k).length ≤ k
  | 0 => Nat.le_refl _
  | k + 1 => by
    have := pendL_le o k
    unfold pendL
    split
    · rw [List.length_append, List.length_singleton]; omega
    · omega
theorem pendL_cpy {o p : Nat → OD} (h : ∀ i, Cpy (o i) (p i)) : ∀ k, pendL p k = pendL o k
  | 0 => rfl
  | k + 1 => by
    have ih := pendL_cpy h k
    obtain ⟨X, cx, A, ca, Y, cy, e⟩ := h k
    unfold pendL
    rw [ih, e]
    rfl
def PendDone (f n : Nat) (o : Nat → OD) (w : World) (e : Ending) (w' : World) : Prop :=
  ∃ (v : Value) (d' : Array Nat), e = .returned v ∧ PermIn 0 n (Array.range n) d' ∧ SortedIn (lx fun i => (o i).s) 0 n d' ∧ OwnR w' w.heap.size v (pendL (fun k => o d'[k]!) n) ∧ New w w'
attribute [local irreducible] Go.wpList
set_option maxRecDepth 100000 in
set_option maxHeartbeats 1000000 in
theorem pending_any (f n : Nat) (o : Nat → OD) (A : Option Addr) (cap : Nat) (w : World) (hA : RowO w f A n o) (hn : n ≤ 40) (hb : ∀ k, k < n → (o k).nx ≤ 4000000 ∧ (o k).td.ny ≤ 4000000 ∧ nodes f (o k).td.d ≤ 4000000) :
    Calls Try.prog 13 #[.slice A n cap] w (PendDone f n o w) := by
  have HS := Lib.hid (sort_any f n o A cap w hA hn hb)
  clear hA hb
  go_enter Try.func13, Try.ntmps13
  go_wp2_with (first | (go_at_call 17; refine (HS.out).mono ?_; rintro e w0 ⟨B, cb, d', p, rfl, cp, hp, hsd, HB, nw0⟩; replace cp := Lib.hid cp; replace hp := Lib.hid hp; replace hsd := Lib.hid hsd; replace HB := Lib.hid HB; replace nw0 := Lib.hid nw0; clear HS))
  obtain ⟨q, hq⟩ : ∃ q : Nat → OD, q = fun k => p d'[k]! := ⟨_, rfl⟩
  rw [← hq] at HB
  replace hq := Lib.hid hq
  go_loopg [9, 3] n (fun z i v wr => ∃ (k : Nat) (l : List (Int × Int)), k + z = n ∧ i = .int .i64 k ∧ Hid (l = pendL q k) ∧ l.length ≤ k ∧ Hid (OwnR wr w0.heap.size v l) ∧ Hid (New w0 wr))
  case atStart => exact ⟨0, [], by omega, rfl, Lib.hid rfl, Nat.le_refl _, Lib.hid ⟨rfl, Or.inl ⟨rfl, rfl⟩⟩, Lib.hid (New.refl w0)⟩
  case round =>
    obtain ⟨k, l, hk, rfl, hl, hlk, OW, NW⟩ := hrel
    by_cases hkn : k < n
    · obtain ⟨ad, rfl, ca⟩ := HB.out.2.2 (by omega)
      have L1 := Lib.hid ((ca k hkn).new NW.out)
      have hkn' : (k : Int) < n := by omega
      have I1 := Lib.hid (ocs_op (q k))
      have B1 := Lib.hid (Box.made wr 36 (ocs (q k)))
      have N1 := Lib.hid ((New.refl wr).alloc (.cells (ocs (q k)) 36))
      have p18 : (wr.alloc (.cells (ocs (q k)) 36)).cell? ⟨wr.heap.size, 18, none⟩ = some (.int .i64 (q k).e) := B1.out.cell 18
      have LD := Lib.hid (lda_two (t := 23) B1.out (i := 0) (x := (q k).r0) (y := (q k).r1) rfl rfl Try.underlying23 rfl size23)
      have SS := Lib.hid (show pendL q (k + 1) = if (q k).e = -1 then pendL q k ++ [((q k).r0, (q k).r1)] else pendL q k from rfl)
      generalize ocs (q k) = r at *
      generalize hw1 : wr.alloc (.cells r 36) = wb at *
      clear ca
      by_cases he : (q k).e = -1
      · rw [if_pos he] at SS
        generalize (q k).r0 = x0 at *
        generalize (q k).r1 = x1 at *
        go_wp2_with (first | (refine wpl_load rfl rfl L1.out rfl ?_; clear L1) | (have tk_ := I1; refine wpl_store rfl rfl rfl rfl I1.out rfl ?_; rw [hw1]; clear I1 tk_) | (refine wpl_ld (t := 23) rfl rfl LD.out rfl ?_; clear LD) | (refine wpl_putr rfl (.tmp 16) (.tmp 19) rfl _ l w0.heap.size (x0, x1) rfl (own_new OW.out N1.out) rfl (by omega) (by have := (NW.out.trans N1.out).lt; omega) ?_; intro v' w3 o3 hgr))
        go_roundg (gk - 1)
        case rel => exact ⟨k + 1, l ++ [(x0, x1)], by omega, by go_num, Lib.hid (by rw [SS.out, hl.out]), by rw [List.length_append]; simp; omega, Lib.hid o3, Lib.hid (((NW.out.trans N1.out).alloc _).grown hgr (fun b e => (OW.out.lt _ e).1))⟩
        case measure => omega
      · rw [if_neg he] at SS
        go_wp2_with (first | (refine wpl_load rfl rfl L1.out rfl ?_; clear L1) | (have tk_ := I1; refine wpl_store rfl rfl rfl rfl I1.out rfl ?_; rw [hw1]; clear I1 tk_))
        go_roundg (gk - 1)
        case rel => exact ⟨k + 1, l, by omega, by go_num, Lib.hid (by rw [SS.out, hl.out]), by omega, Lib.hid (own_new OW.out N1.out), Lib.hid (NW.out.trans N1.out)⟩
        case measure => omega
    · have hkL : k = n := by omega
      subst hkL
      go_wp2
      go_ret
      refine ⟨_, d', rfl, hp.out, hsd.out, ?_, nw0.out.trans NW.out⟩
      have e1 : pendL (fun k => o d'[k]!) k = l := by
        rw [hl.out, hq.out]
        exact (pendL_cpy (fun i => cp.out _) _).symm
      rw [e1]
      exact own_base OW.out nw0.out.lt
end Go.Proofs.Ytplaicdbcfnjbaa
