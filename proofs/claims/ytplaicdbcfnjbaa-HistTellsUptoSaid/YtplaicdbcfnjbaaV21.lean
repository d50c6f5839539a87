/- Rows of copied calls as rows of places: what the sort of such a row leaves. -/
import Derived.Test.YtplaicdbcfnjbaaV15
import Derived.Test.YtplaicdbcfnjbaaV19
import Derived.Test.YtplaicdbcfnjbaaV20
import Derived.Test.YtplaicdbcfnjbaaV09
set_option linter.unusedSimpArgs false
set_option linter.unusedVariables false
namespace Go.Proofs.Ytplaicdbcfnjbaa
open Go.Shelf Go.RowKit Go.Lib Go.Sort
set_option linter.unusedVariables false
set_option maxRecDepth 100000
def odz : OD := ⟨0, 0, 0, 0, 0, ByteArray.empty, 0, 0, 0, fun _ => 0, none, 0, zTD, none, 0, none, 0, 0, 0⟩
/-- the i-th of a list of calls -/
def lk (l : List OD) (i : Nat) : OD := l.getD i odz
theorem lk_snoc_lt (l : List OD) (q : OD) (i : Nat) (h : i < l.length) : lk (l ++ [q]) i = lk l i := by
  unfold lk
  rw [List.getD_eq_getElem?_getD, List.getD_eq_getElem?_getD, List.getElem?_append_left h]
theorem lk_snoc_eq (l : List OD) (q : OD) : lk (l ++ [q]) l.length = q := by
  unfold lk
  rw [List.getD_eq_getElem?_getD, List.getElem?_append_right (Nat.le_refl _)]
  simp
theorem lk_mem (l : List OD) (i : Nat) (h : i < l.length) : lk l i ∈ l := by
  unfold lk
  rw [List.getD_eq_getElem?_getD, List.getElem?_eq_getElem h]
  exact List.getElem_mem h
theorem rcells_at : ∀ (l : List OD) (k j : Nat), k < l.length → j < 19 → (rcells l)[k * 19 + j]? = (ocs (lk l k))[j]?
  | [], k, j, h, _ => absurd h (by simp)
  | o :: l, 0, j, _, hj => by
    unfold rcells
    rw [List.flatMap_cons, List.getElem?_append_left (by rw [Array.length_toList, (ocs_op o).1]; omega), Nat.zero_mul, Nat.zero_add, Array.getElem?_toList]
    rfl
  | o :: l, k + 1, j, h, hj => by
    have ih := rcells_at l k j (by simpa using h) hj
    unfold rcells at ih ⊢
    rw [List.flatMap_cons, List.getElem?_append_right (by rw [Array.length_toList, (ocs_op o).1]; omega), Array.length_toList, (ocs_op o).1, show (k + 1) * 19 + j - 19 = k * 19 + j by omega, ih]
    rfl
/-- where an owned row lies -/
theorem OwnO.at {w : World} {base : Nat} {v : Value} {l : List OD} (h : OwnO w base v l) (hv : v ≠ .slice none 0 0) :
    ∃ g cap, v = .slice (some ⟨g, 0, none⟩) l.length cap ∧ base ≤ g ∧ g < w.heap.size ∧ ∀ i j, i < l.length → j < 19 → w.cell? ⟨g, i * 19 + j, none⟩ = (ocs (lk l i))[j]? ∧ w.frozen? ⟨g, i * 19 + j, none⟩ = false := by
  obtain ⟨h1, h2⟩ := h
  rcases h2 with ⟨e, _⟩ | ⟨g, cap, cur, hv, hg, hh, hc, hm, hs, ht⟩
  · exact absurd e hv
  · refine ⟨g, cap, hv, hg, ?_, fun i j hi hj => ⟨?_, ?_⟩⟩
    · apply Nat.lt_of_not_le
      intro hge
      simp [Array.getElem?_eq_none hge] at hh
    · rw [cell_of_row w g _ cur 36 (0, 0) hh, ← rcells_at l i j hi hj, ← ht, List.getElem?_take, if_pos (by omega), Array.getElem?_toList]
    · simp [World.frozen?, hh]
theorem OwnO.rowO {w : World} {base f : Nat} {v : Value} {l : List OD} (h : OwnO w base v l) (hl : l.length ≤ 7000000000000) (hx : ∀ x ∈ l, IsO w f x) : ∃ A cap, v = .slice A l.length cap ∧ RowO w f A l.length (lk l) := by
  by_cases hv : v = .slice none 0 0
  · have h0 : l.length = 0 := by
      rcases h.2 with ⟨_, e⟩ | ⟨g, cap, cur, e, _⟩
      · exact e
      · rw [hv] at e; cases e
    refine ⟨none, 0, by rw [hv, h0], hl, fun i hi => absurd hi (by omega), fun h1 => absurd h1 (by omega)⟩
  · obtain ⟨g, cap, e, hb, hg, hc⟩ := h.at hv
    refine ⟨some ⟨g, 0, none⟩, cap, e, hl, fun i hi => hx _ (lk_mem l i hi), fun _ => ⟨_, rfl, fun i hi => ⟨ocs_op _, ?_, fun j u hu => ?_⟩⟩⟩
    · rw [Addr.add_mid]; exact hg
    · have hj : j < 19 := by have := (Array.getElem?_eq_some_iff.1 hu).1; rwa [(ocs_op _).1] at this
      rw [Addr.add_mid, Addr.add_mid, Nat.zero_add, (hc i j hi hj).1]
      exact hu
/-- nothing but the row's block has changed, and new blocks -/
theorem swk_off {α : Type} [Inhabited α] {enc : α → List Value} {k blk off : Nat} {dk : Array α} {w0 W : World} (h : SWK enc k w0 blk off dk W) :
    W.os = w0.os ∧ W.tape = w0.tape ∧ W.output = w0.output ∧ w0.heap.size ≤ W.heap.size ∧ ∀ b, b ≠ blk → b < w0.heap.size → W.heap[b]? = w0.heap[b]? := by
  have hle := h.le
  obtain ⟨n, os, rfl⟩ := h
  refine ⟨rfl, rfl, rfl, hle, fun b hb hlt => ?_⟩
  unfold sortWorldK
  show ((putRowK enc k (Sort.ahead w0 n) blk off dk).heap ++ os)[b]? = _
  rw [Array.getElem?_append_left (by rw [size_putRowK]; exact hlt)]
  show ((Sort.ahead w0 n).heap.modify blk _)[b]? = _
  rw [Array.getElem?_modify, if_neg (fun e => hb e.symm)]
  rfl
theorem swk_new {α : Type} [Inhabited α] {enc : α → List Value} {k blk off : Nat} {dk : Array α} {w w0 W : World} (h : SWK enc k w0 blk off dk W) (n : New w w0) (hb : w.heap.size ≤ blk) : New w W := by
  obtain ⟨h1, h2, h3, h4, h5⟩ := swk_off h
  exact ⟨h1.trans n.os, h2.trans n.tape, h3.trans n.output, Nat.le_trans n.size h4, fun b hlt => (h5 b (by omega) (Nat.lt_of_lt_of_le hlt n.size)).trans (n.block b hlt)⟩
theorem cfS_compare (s : Nat → Int) (x y : Nat) : cfS s x y = Lib.compareInt (s x) (s y) := rfl
theorem cmp_lays {P : Nat → OD} (blk off size : Nat) (w : World) : CmpLays Try.prog 36 #[] (fun i => (ocs (P i)).toList) 19 (cfS fun i => (P i).s) blk off size w := fun m os dk _ x y => by
  have := cmp_from (ocs (P x)) (ocs (P y)) (P x).s (P y).s (sortWorldK (fun i => (ocs (P i)).toList) 19 w blk off m dk os) rfl rfl
  exact this
theorem rowK_of {w : World} {g : Nat} {l : List OD} {P : Nat → OD} (hg : g < w.heap.size) (hc : ∀ i j, i < l.length → j < 19 → w.cell? ⟨g, i * 19 + j, none⟩ = (ocs (lk l i))[j]? ∧ w.frozen? ⟨g, i * 19 + j, none⟩ = false) (hP : ∀ i, i < l.length → P i = lk l i) :
    RowK (fun i => (ocs (P i)).toList) 19 w g 0 (Array.range l.length) := by
  refine ⟨fun x => by rw [Array.length_toList, (ocs_op _).1], fun x v hv => ?_, fun t ht => ?_, hg⟩
  · exact (Array.all_eq_true_iff_forall_mem.1 (ocs_op (P x)).2) v (by simpa using hv)
  · rw [size_flatK, Array.size_range] at ht
    have h1 : t / 19 < l.length := by omega
    have h2 : t % 19 < 19 := Nat.mod_lt _ (by decide)
    have h3 := hc (t / 19) (t % 19) h1 h2
    rw [show t / 19 * 19 + t % 19 = t by omega] at h3
    rw [Nat.zero_add]
    refine ⟨?_, h3.2⟩
    rw [h3.1, get_flatK _ _ _ _ (by rw [Array.size_range]; exact ht), show (Array.range l.length)[t / 19]! = t / 19 by rw [getElem!_pos _ _ (by simpa using h1)]; simp, hP _ h1]
    have h4 : t % 19 < (ocs (lk l (t / 19))).size := by rw [(ocs_op _).1]; exact h2
    rw [Array.getElem?_eq_getElem h4, getElem!_pos _ _ (by simpa using h4)]
    simp
/-- what a sort of calls leaves -/
def SortDone (f n : Nat) (o : Nat → OD) (w : World) (e : Ending) (w' : World) : Prop :=
  ∃ (A : Option Addr) (cap : Nat) (d' : Array Nat) (p : Nat → OD), e = .returned (.slice A n cap) ∧ (∀ i, Cpy (o i) (p i)) ∧ PermIn 0 n (Array.range n) d' ∧ SortedIn (lx fun i => (o i).s) 0 n d' ∧ RowO w' f A n (fun k => p d'[k]!) ∧ New w w'
theorem perm_lt {n : Nat} {d' : Array Nat} (h : PermIn 0 n (Array.range n) d') (i : Nat) (hi : i < n) : d'[i]! < n :=
  permIn_all (Array.range n) d' 0 n (fun x => x < n) (by simp) h (fun j _ hj => by rw [getElem!_pos _ _ (by simpa using hj)]; simpa using hj) i (Nat.zero_le _) hi
/-- the copied row, sorted -/
theorem sort_row {f n : Nat} {o : Nat → OD} {w w1 : World} {v : Value} {l : List OD} (own : OwnO w1 w.heap.size v l) (hv : v ≠ .slice none 0 0) (hl : l.length = n) (hn : n ≤ 40) (cp : ∀ i, i < n → Cpy (o i) (lk l i)) (ap : Apart w1 f v l) (nw : New w w1) :
    ∃ g cap, v = .slice (some ⟨g, 0, none⟩) n cap ∧ Calls Try.prog 35 #[v, .func (.func 36) #[] #[]] w1 fun e w2 => e = .returned (.tuple #[]) ∧ SortDone f n o w (.returned v) w2 := by
  subst hl
  obtain ⟨g, cap, rfl, hb, hg, hc⟩ := own.at hv
  refine ⟨g, cap, rfl, ?_⟩
  obtain ⟨p, hp1, hp2⟩ : ∃ p : Nat → OD, (∀ i, i < l.length → p i = lk l i) ∧ ∀ i, Cpy (o i) (p i) := by
    refine ⟨fun i => if i < l.length then lk l i else o i, fun i hi => if_pos hi, fun i => ?_⟩
    by_cases h : i < l.length
    · simp only [if_pos h]; exact cp i h
    · simp only [if_neg h]; exact Cpy.refl _
  have hs : (fun i => (p i).s) = fun i => (o i).s := funext fun i => (hp2 i).e.2
  have R := rowK_of (P := p) hg hc hp1
  have key := stableFunc_any (fun i => (p i).s) (fun i => (ocs (p i)).toList) 36 #[] g 0 cap (Array.range l.length) w1 (enters_of Try.func36 (by kernel_rfl) rfl) (cmp_lays _ _ _ _) R (fun i j hij hj => by
    rw [Array.size_range] at hj
    rw [getElem!_pos _ i (by simp; omega), getElem!_pos _ j (by simpa using hj)]
    simpa using hij) (by simpa using hn)
  rw [Array.size_range] at key
  refine key.mono fun e w2 ⟨he, d', hperm, hsort, S⟩ => ⟨he, some ⟨g, 0, none⟩, cap, d', p, rfl, hp2, hperm, by rw [← hs]; exact hsort, ?_, swk_new S nw hb⟩
  have hsz : d'.size = l.length := hperm.1.trans (by simp)
  have hH := S.holds hg R.hH hperm.1
  refine ⟨by omega, fun i hi => ?_, fun _ => ⟨_, rfl, fun i hi => ⟨ocs_op _, ?_, fun j u hu => ?_⟩⟩⟩
  · have hd := perm_lt hperm i hi
    show IsO w2 f (p d'[i]!)
    rw [hp1 _ hd]
    have k := ap _ (lk_mem l _ hd)
    exact (k.keep (Q := fun _ => False) (S.le) (fun b hb' hlt => (swk_off S).2.2.2.2 b (fun e => hb' (by rw [e]; rfl)) hlt) (fun _ _ h => h.elim)).isO
  · rw [Addr.add_mid]; exact S.lt hg
  · rw [Addr.add_mid]
    exact HoldsK.cells hH R.hk (i := i) (by rw [hsz]; exact hi) j u (by rw [Array.getElem?_toList]; exact hu)
end Go.Proofs.Ytplaicdbcfnjbaa
/- Check: what the program tells of a row of calls is what the reference tells. No walk. -/
namespace Go.Proofs.Ytplaicdbcfnjbaa
open Go.Sort
set_option linter.unusedVariables false
theorem nodup_snoc {α : Type} {l : List α} {x : α} : (l ++ [x]).Nodup ↔ l.Nodup ∧ x ∉ l := by
  rw [List.nodup_append]
  constructor
  · rintro ⟨h1, _, h3⟩
    exact ⟨h1, fun hx => h3 x hx x (by simp) rfl⟩
  · rintro ⟨h1, h2⟩
    exact ⟨h1, by simp, fun a ha b hb e => by rw [List.mem_singleton] at hb; subst hb; subst e; exact h2 ha⟩
def rf (a : OD) : Int × Int := (a.r0, a.r1)
def refL (o : Nat → OD) : Nat → List (Int × Int)
  | 0 => []
  | k + 1 => refL o k ++ [rf (o k)]
def timL (o : Nat → OD) : Nat → List Int
  | 0 => []
  | k + 1 => if (o k).e = -1 then timL o k ++ [(o k).s] else (timL o k ++ [(o k).s]) ++ [(o k).e]
theorem refL_len (o : Nat → OD) : ∀ k, (refL o k).length = k
  | 0 => rfl
  | k + 1 => by unfold refL; rw [List.length_append, refL_len o k]; rfl
theorem timL_len (o : Nat → OD) : ∀ k, (timL o k).length ≤ 2 * k
  | 0 => Nat.le_refl _
  | k + 1 => by
    have := timL_len o k
    unfold timL
    split <;> simp <;> omega
theorem mem_refL {o : Nat → OD} {x : Int × Int} : ∀ {k}, x ∈ refL o k ↔ ∃ j, j < k ∧ x = rf (o j)
  | 0 => by simp [refL]
  | k + 1 => by
    unfold refL
    rw [List.mem_append, mem_refL, List.mem_singleton]
    constructor
    · rintro (⟨j, h1, h2⟩ | h)
      · exact ⟨j, by omega, h2⟩
      · exact ⟨k, by omega, h⟩
    · rintro ⟨j, h1, h2⟩
      rcases Nat.lt_or_ge j k with h | h
      · exact .inl ⟨j, h, h2⟩
      · obtain rfl : j = k := by omega
        exact .inr h2
theorem mem_timL {o : Nat → OD} {x : Int} : ∀ {k}, x ∈ timL o k ↔ ∃ j, j < k ∧ (x = (o j).s ∨ ((o j).e ≠ -1 ∧ x = (o j).e))
  | 0 => by simp [timL]
  | k + 1 => by
    have key : x ∈ timL o (k + 1) ↔ x ∈ timL o k ∨ (x = (o k).s ∨ ((o k).e ≠ -1 ∧ x = (o k).e)) := by
      show (x ∈ if (o k).e = -1 then timL o k ++ [(o k).s] else (timL o k ++ [(o k).s]) ++ [(o k).e]) ↔ _
      by_cases he : (o k).e = -1
      · rw [if_pos he]; simp [he]
      · rw [if_neg he]; simp [he]
    rw [key, mem_timL]
    constructor
    · rintro (⟨j, h1, h2⟩ | h)
      · exact ⟨j, by omega, h2⟩
      · exact ⟨k, by omega, h⟩
    · rintro ⟨j, h1, h2⟩
      rcases Nat.lt_or_ge j k with h | h
      · exact .inl ⟨j, h, h2⟩
      · obtain rfl : j = k := by omega
        exact .inr h2
theorem refR_iff {a b : OD} : refR a b = true ↔ rf a = rf b := by
  unfold refR eq2 rf
  simp [Prod.ext_iff]
theorem refL_nodup {o : Nat → OD} : ∀ {n}, (refL o n).Nodup ↔ ∀ i, i < n → ∀ k, k < i → refR (o i) (o k) = false
  | 0 => by simp [refL]
  | n + 1 => by
    show (refL o n ++ [rf (o n)]).Nodup ↔ _
    rw [nodup_snoc, refL_nodup]
    constructor
    · rintro ⟨h1, h2⟩ i hi k hk
      rcases Nat.lt_or_ge i n with h | h
      · exact h1 i h k hk
      · obtain rfl : i = n := by omega
        rw [← Bool.not_eq_true, refR_iff]
        exact fun e => h2 (mem_refL.2 ⟨k, hk, e⟩)
    · intro h
      refine ⟨fun i hi k hk => h i (by omega) k hk, fun hm => ?_⟩
      obtain ⟨k, hk, e⟩ := mem_refL.1 hm
      have := h n (Nat.lt_succ_self n) k hk
      rw [← Bool.not_eq_true, refR_iff] at this
      exact this e
theorem bad_iff {a : OD} : badR a = false ↔ 0 ≤ a.s ∧ (a.e = -1 ∨ a.s < a.e) := by
  rw [← Bool.not_eq_true]
  unfold badR
  simp
  omega
theorem rng_bad (a : OD) : rngB a.s a.e = !badR a := by
  rw [Bool.eq_iff_iff, Bool.not_eq_true', bad_iff]
  unfold rngB
  simp
theorem cls_iff {a b : OD} : clsR a b = true ↔ a.s = b.s ∨ a.e = b.s ∨ a.s = b.e ∨ (a.e = b.e ∧ a.e ≠ -1) := by
  unfold clsR clashB
  simp [or_assoc]
theorem timL_nodup {o : Nat → OD} : ∀ {n}, (∀ i, i < n → badR (o i) = false) → ((timL o n).Nodup ↔ ∀ i, i < n → ∀ k, k < i → clsR (o i) (o k) = false)
  | 0, _ => by simp [timL]
  | n + 1, hb => by
    have ih := timL_nodup (o := o) (n := n) fun i hi => hb i (by omega)
    have bn := bad_iff.1 (hb n (Nat.lt_succ_self n))
    have key : (timL o (n + 1)).Nodup ↔ (timL o n).Nodup ∧ (o n).s ∉ timL o n ∧ ((o n).e ≠ -1 → (o n).e ∉ timL o n) := by
      show (if (o n).e = -1 then timL o n ++ [(o n).s] else (timL o n ++ [(o n).s]) ++ [(o n).e]).Nodup ↔ _
      by_cases he : (o n).e = -1
      · rw [if_pos he, nodup_snoc]; simp [he]
      · rw [if_neg he, nodup_snoc, nodup_snoc, List.mem_append, List.mem_singleton]
        have : (o n).e ≠ (o n).s := by omega
        simp [he, this, and_assoc]
    have step : ((o n).s ∉ timL o n ∧ ((o n).e ≠ -1 → (o n).e ∉ timL o n)) ↔ ∀ k, k < n → clsR (o n) (o k) = false := by
      constructor
      · rintro ⟨h1, h2⟩ k hk
        have bk := bad_iff.1 (hb k (by omega))
        rw [← Bool.not_eq_true, cls_iff]
        rintro (e | e | e | ⟨e, e2⟩)
        · exact h1 (mem_timL.2 ⟨k, hk, .inl e⟩)
        · exact h2 (by omega) (mem_timL.2 ⟨k, hk, .inl e⟩)
        · exact h1 (mem_timL.2 ⟨k, hk, .inr ⟨by omega, e⟩⟩)
        · exact h2 e2 (mem_timL.2 ⟨k, hk, .inr ⟨by omega, e⟩⟩)
      · intro h
        refine ⟨fun hm => ?_, fun he hm => ?_⟩
        · obtain ⟨k, hk, e⟩ := mem_timL.1 hm
          have := h k hk
          rw [← Bool.not_eq_true, cls_iff] at this
          rcases e with e | ⟨_, e⟩
          · exact this (.inl e)
          · exact this (.inr (.inr (.inl e)))
        · obtain ⟨k, hk, e⟩ := mem_timL.1 hm
          have := h k hk
          rw [← Bool.not_eq_true, cls_iff] at this
          rcases e with e | ⟨_, e⟩
          · exact this (.inr (.inl e))
          · exact this (.inr (.inr (.inr ⟨e, he⟩)))
    rw [key, ih, step]
    constructor
    · rintro ⟨h1, h2⟩ i hi k hk
      rcases Nat.lt_or_ge i n with h | h
      · exact h1 i h k hk
      · obtain rfl : i = n := by omega
        exact h2 k hk
    · intro h
      exact ⟨fun i hi k hk => h i (by omega) k hk, fun k hk => h n (Nat.lt_succ_self n) k hk⟩
section
variable {n : Nat} {o : Nat → OD} (h1 : ∀ i, i < n → badR (o i) = false)
include h1
theorem chp_b (h2 : ¬ (refL o n).Nodup) : chkR n o = 2 := by
  rw [refL_nodup] at h2
  apply Classical.byContradiction
  intro hc
  refine h2 fun i hi k hk => ?_
  cases h : refR (o i) (o k)
  · rfl
  · exact absurd (chk_b h1 i k hi hk h) hc
theorem chp_c (h2 : (refL o n).Nodup) (h3 : ¬ (timL o n).Nodup) : chkR n o = 11 := by
  rw [refL_nodup] at h2
  rw [timL_nodup h1] at h3
  apply Classical.byContradiction
  intro hc
  refine h3 fun i hi k hk => ?_
  cases h : clsR (o i) (o k)
  · rfl
  · exact absurd (chk_c h1 h2 i k hi hk h) hc
theorem chp_d (h2 : (refL o n).Nodup) (h3 : (timL o n).Nodup) (h4 : chk4 n o = true) : chkR n o = 13 := by
  rw [refL_nodup] at h2
  rw [timL_nodup h1] at h3
  obtain ⟨i, hi, h⟩ := anyB_ex h4
  obtain ⟨k, hk, h⟩ := anyB_ex h
  exact chk_d h1 h2 h3 i k hi hk h
theorem chp_e (h2 : (refL o n).Nodup) (h3 : (timL o n).Nodup) (h4 : chk4 n o = false) : chkR n o = 0 := by
  rw [refL_nodup] at h2
  rw [timL_nodup h1] at h3
  exact chk_e h1 h2 h3 fun i hi k hk => anyB_get (anyB_get h4 i hi) k hk
end
/-- the calls of one client -/
def clL (o : Nat → OD) (who : Int) : Nat → List OD
  | 0 => []
  | k + 1 => if (o k).r0 = who then clL o who k ++ [o k] else clL o who k
theorem clL_len (o : Nat → OD) (who : Int) : ∀ k, (clL o who k).length ≤ k
  | 0 => Nat.le_refl _
  | k + 1 => by
    have := clL_len o who k
    unfold clL
    split <;> simp <;> omega
theorem mem_clL {o : Nat → OD} {who : Int} {x : OD} : ∀ {k}, x ∈ clL o who k ↔ ∃ j, j < k ∧ x = o j ∧ (o j).r0 = who
  | 0 => by simp [clL]
  | k + 1 => by
    have key : x ∈ clL o who (k + 1) ↔ x ∈ clL o who k ∨ (x = o k ∧ (o k).r0 = who) := by
      show (x ∈ if (o k).r0 = who then clL o who k ++ [o k] else clL o who k) ↔ _
      by_cases he : (o k).r0 = who
      · rw [if_pos he]; simp [he]
      · rw [if_neg he]; simp [he]
    rw [key, mem_clL]
    constructor
    · rintro (⟨j, h1, h2⟩ | h)
      · exact ⟨j, by omega, h2⟩
      · exact ⟨k, by omega, h⟩
    · rintro ⟨j, h1, h2⟩
      rcases Nat.lt_or_ge j k with h | h
      · exact .inl ⟨j, h, h2⟩
      · obtain rfl : j = k := by omega
        exact .inr h2
theorem clL_nodup {o : Nat → OD} {who : Int} : ∀ {k}, (refL o k).Nodup → ((clL o who k).map rf).Nodup
  | 0, _ => by simp [clL]
  | k + 1, h => by
    have h' : (refL o k ++ [rf (o k)]).Nodup := h
    rw [nodup_snoc] at h'
    have ih := clL_nodup (who := who) h'.1
    unfold clL
    split
    · rw [List.map_append, List.map_singleton, nodup_snoc]
      refine ⟨ih, fun hm => h'.2 ?_⟩
      obtain ⟨x, hx, e⟩ := List.mem_map.1 hm
      obtain ⟨j, hj, rfl, _⟩ := mem_clL.1 hx
      exact mem_refL.2 ⟨j, hj, e.symm⟩
    · exact ih
/-- is it one behind the other for this client? -/
def okC (o : Nat → OD) (n : Nat) (who : Int) : Prop := ∀ a ∈ clL o who n, ∀ b ∈ clL o who n, a.r1 < b.r1 → aheadB a.e b.s = true
theorem chk4_no {n : Nat} {o : Nat → OD} (h : ∀ i, i < n → okC o n (o i).r0) : chk4 n o = false := by
  refine anyB_no fun i hi => anyB_no fun k hk => ?_
  cases hb : ordR (o i) (o k)
  · rfl
  · exfalso
    unfold ordR at hb
    simp at hb
    obtain ⟨⟨e, hl⟩, hn⟩ := hb
    have := h i hi (o i) (mem_clL.2 ⟨i, hi, rfl, rfl⟩) (o k) (mem_clL.2 ⟨k, hk, rfl, e.symm⟩) hl
    rw [this] at hn
    cases hn
theorem chk4_yes {n : Nat} {o : Nat → OD} {who : Int} {a b : OD} (ha : a ∈ clL o who n) (hb : b ∈ clL o who n) (hl : a.r1 < b.r1) (hn : aheadB a.e b.s = false) : chk4 n o = true := by
  obtain ⟨i, hi, rfl, e1⟩ := mem_clL.1 ha
  obtain ⟨k, hk, rfl, e2⟩ := mem_clL.1 hb
  refine anyB_yes i hi (anyB_yes k hk ?_)
  unfold ordR
  simp [e1, e2, hl, hn]
theorem ahead_iff {e s : Int} : aheadB e s = true ↔ e ≠ -1 ∧ e < s := by unfold aheadB; simp
theorem ext_self {n : Nat} {d : Array Nat} (h : d.size = n) : d.extract 0 n = d := by subst h; exact Array.extract_size
theorem perm_get {n : Nat} {d' : Array Nat} (h : PermIn 0 n (Array.range n) d') (i : Nat) (hi : i < n) : ∃ k, k < n ∧ d'[k]! = i := by
  obtain ⟨h1, _, h3⟩ := h
  have hs : d'.size = n := by simpa using h1
  have hm : i ∈ d'.toList := by
    have : i ∈ (Array.range n).toList := by simp [hi]
    rw [ext_self hs, ext_self (by simp)] at h3
    exact (h3.mem_iff).2 (by simpa using hi)
  obtain ⟨k, hk, e⟩ := List.getElem_of_mem hm
  have hk' : k < d'.size := by simpa using hk
  exact ⟨k, by omega, by rw [getElem!_pos d' k hk']; simpa using e⟩
theorem perm_inj {n : Nat} {d' : Array Nat} (h : PermIn 0 n (Array.range n) d') (i k : Nat) (hi : i < n) (hk : k < n) (e : d'[i]! = d'[k]!) : i = k := by
  obtain ⟨h1, _, h3⟩ := h
  have hs : d'.size = n := by simpa using h1
  have hnd : d'.toList.Nodup := by
    rw [ext_self hs, ext_self (by simp)] at h3
    exact h3.nodup_iff.2 (by rw [Array.toList_range]; exact List.nodup_range)
  rw [getElem!_pos d' i (by omega), getElem!_pos d' k (by omega)] at e
  exact (List.getElem_inj (h₀ := by simpa [hs] using hi) (h₁ := by simpa [hs] using hk) hnd).1 (by simpa using e)
/-- the sorted chain: neighbours suffice -/
theorem chain_all {l : List OD} {d' : Array Nat} (hb : ∀ x ∈ l, badR x = false) (hp : PermIn 0 l.length (Array.range l.length) d') (hs : SortedIn (ls fun i => (lk l i).r1) 0 l.length d')
    (h : ∀ i, i + 1 < l.length → aheadB (lk l d'[i]!).e (lk l d'[i + 1]!).s = true) : ∀ a ∈ l, ∀ b ∈ l, a.r1 < b.r1 → aheadB a.e b.s = true := by
  have hm : ∀ a ∈ l, ∃ i, i < l.length ∧ lk l d'[i]! = a := fun a ha => by
    obtain ⟨j, hj, e⟩ := List.getElem_of_mem ha
    obtain ⟨k, hk, e2⟩ := perm_get hp j hj
    refine ⟨k, hk, ?_⟩
    rw [e2, ← e]
    unfold lk
    rw [List.getD_eq_getElem?_getD, List.getElem?_eq_getElem hj]
    rfl
  have far : ∀ t i, i + t + 1 < l.length → aheadB (lk l d'[i]!).e (lk l d'[i + t + 1]!).s = true := by
    intro t
    induction t with
    | zero => exact fun i hi => h i hi
    | succ t ih =>
      intro i hi
      have a1 := ahead_iff.1 (ih i (by omega))
      have a2 := ahead_iff.1 (h (i + t + 1) (by omega))
      have hd := perm_lt hp (i + t + 1) (by omega)
      have b2 := bad_iff.1 (hb _ (lk_mem l _ hd))
      rw [ahead_iff]
      rw [show i + (t + 1) + 1 = i + t + 1 + 1 by omega]
      omega
  intro a ha b hb' hl
  obtain ⟨i, hi, rfl⟩ := hm a ha
  obtain ⟨k, hk, rfl⟩ := hm b hb'
  have hik : i < k := by
    rcases Nat.lt_trichotomy i k with h' | h' | h'
    · exact h'
    · subst h'; omega
    · have := hs k i (Nat.zero_le _) h' hi
      rw [← Bool.not_eq_true, ls_iff] at this
      omega
  obtain ⟨t, rfl⟩ : ∃ t, k = i + t + 1 := ⟨k - i - 1, by omega⟩
  exact far t i hk
/-- neighbours differ -/
theorem chain_lt {l : List OD} {d' : Array Nat} {who : Int} (hw : ∀ x ∈ l, x.r0 = who) (hn : (l.map rf).Nodup) (hp : PermIn 0 l.length (Array.range l.length) d') (hs : SortedIn (ls fun i => (lk l i).r1) 0 l.length d')
    (i : Nat) (hi : i + 1 < l.length) : (lk l d'[i]!).r1 < (lk l d'[i + 1]!).r1 := by
  have h1 := hs i (i + 1) (Nat.zero_le _) (Nat.lt_succ_self i) hi
  rw [← Bool.not_eq_true, ls_iff] at h1
  have p1 := perm_lt hp i (by omega)
  have p2 := perm_lt hp (i + 1) hi
  have q1 := lk_mem l _ p1
  have q2 := lk_mem l _ p2
  have hne : d'[i]! ≠ d'[i + 1]! := fun e => by have := perm_inj hp i (i + 1) (by omega) hi e; omega
  apply Classical.byContradiction
  intro hge
  apply hne
  have e : rf (lk l d'[i]!) = rf (lk l d'[i + 1]!) := by
    unfold rf
    rw [hw _ q1, hw _ q2]
    have : (lk l d'[i]!).r1 = (lk l d'[i + 1]!).r1 := by omega
    rw [this]
  have g : ∀ j, j < l.length → (l.map rf)[j]? = some (rf (lk l j)) := fun j hj => by
    rw [List.getElem?_map, List.getElem?_eq_getElem hj]
    unfold lk
    rw [List.getD_eq_getElem?_getD, List.getElem?_eq_getElem hj]
    rfl
  have e3 : (l.map rf)[d'[i]!]? = (l.map rf)[d'[i + 1]!]? := by rw [g _ p1, g _ p2, e]
  exact (List.getElem?_inj (by rw [List.length_map]; exact p1) hn).1 e3
end Go.Proofs.Ytplaicdbcfnjbaa
