/- Rows that are filled place by place. No program is named here. -/
import Derived.Test.YtplaicdbcfnjbaaKit
namespace Go.Proofs.Ytplaicdbcfnjbaa
open Go.RowKit
set_option linter.unusedVariables false

/-- n numbers of a kind: the first i of them are f's, the others 0 -/
def fillv (k : IntKind) (f : Nat → Nat) (n i : Nat) : List Value := (List.range n).map fun j => Value.int k ((if j < i then f j else 0 : Nat) : Int)

theorem fillv_len (k : IntKind) (f : Nat → Nat) (n i : Nat) : (fillv k f n i).length = n := by simp [fillv]
theorem fillv_zero (k : IntKind) (f : Nat → Nat) (n : Nat) : List.replicate n (Value.int k 0) = fillv k f n 0 := by
  apply List.ext_getElem
  · simp [fillv]
  · intro j h1 h2; simp [fillv]
theorem fillv_set (k : IntKind) (f : Nat → Nat) (n i : Nat) (hi : i < n) : (fillv k f n i).set i (Value.int k (f i)) = fillv k f n (i + 1) := by
  apply List.ext_getElem
  · simp [fillv]
  · intro j h1 h2
    simp only [fillv, List.getElem_set, List.getElem_map, List.getElem_range]
    by_cases h : i = j
    · subst h; simp
    · rw [if_neg h]
      by_cases h' : j < i
      · rw [if_pos h', if_pos (by omega)]
      · rw [if_neg h', if_neg (by omega)]
theorem fillv_at (k : IntKind) (f : Nat → Nat) (n i j : Nat) (hj : j < n) : (fillv k f n i)[j]? = some (Value.int k ((if j < i then f j else 0 : Nat) : Int)) := by
  rw [List.getElem?_eq_getElem (by rw [fillv_len]; exact hj)]
  simp [fillv]
theorem fillv_full (k : IntKind) (f : Nat → Nat) (n j : Nat) (hj : j < n) : (fillv k f n n)[j]? = some (Value.int k (f j)) := by
  rw [fillv_at k f n n j hj, if_pos hj]
/-- the first n numbers of f -/
def firstv (k : IntKind) (f : Nat → Nat) (n : Nat) : List Value := (List.range n).map fun j => Value.int k (f j)
theorem firstv_len (k : IntKind) (f : Nat → Nat) (n : Nat) : (firstv k f n).length = n := by simp [firstv]
theorem firstv_snoc (k : IntKind) (f : Nat → Nat) (n : Nat) : firstv k f (n + 1) = firstv k f n ++ [Value.int k (f n)] := by
  simp [firstv, List.range_succ]
theorem firstv_at (k : IntKind) (f : Nat → Nat) (n j : Nat) (hj : j < n) : (firstv k f n)[j]? = some (Value.int k (f j)) := by
  rw [List.getElem?_eq_getElem (by rw [firstv_len]; exact hj)]
  simp [firstv]
theorem fillv_firstv (k : IntKind) (f : Nat → Nat) (n : Nat) : fillv k f n n = firstv k f n := by
  apply List.ext_getElem
  · simp [fillv, firstv]
  · intro j h1 h2
    simp only [fillv, firstv, List.getElem_map, List.getElem_range]
    rw [if_pos (by simpa [fillv] using h1)]

theorem add_blk (a : Addr) (j : Nat) : (a.add j).block = a.block := by unfold Addr.add; split <;> rfl
/-- a slice that reads as the first n numbers of f -/
def ReadsF (w : World) (k : IntKind) (A : Option Addr) (n : Nat) (f : Nat → Nat) : Prop :=
  n ≤ 9223372036854775807 ∧ (0 < n → ∃ ad : Addr, A = some ad ∧ ad.block < w.heap.size ∧ ∀ j, j < n → w.cell? (ad.add j) = some (.int k (f j)))
theorem readsF_own {w : World} {base : Nat} {e : TypeId} {n : Nat} {v : Value} {k : IntKind} {f : Nat → Nat} (h : w.ownsRow base e 1 v n (firstv k f n)) : ∃ A cap, v = .slice A n cap ∧ ReadsF w k A n f := by
  obtain ⟨A, cap, e1, h2, h3⟩ := own_slice h
  refine ⟨A, cap, e1, own_len h, fun hn => ?_⟩
  obtain ⟨g, e2, _, h5, h6⟩ := h3 hn
  refine ⟨⟨g, 0, none⟩, e2, h5, fun j hj => ?_⟩
  have e : (⟨g, 0, none⟩ : Addr).add j = ⟨g, j, none⟩ := by unfold Addr.add; split <;> simp_all
  rw [e, h6 j (by omega)]; exact firstv_at k f n j hj
theorem ReadsF.new {w w' : World} {k : IntKind} {A : Option Addr} {n : Nat} {f : Nat → Nat} (h : ReadsF w k A n f) (hn : New w w') : ReadsF w' k A n f := by
  refine ⟨h.1, fun h0 => ?_⟩
  obtain ⟨g, e2, h5, h6⟩ := h.2 h0
  exact ⟨g, e2, by have := hn.lt; omega, fun j hj => (hn.cell (by rw [add_blk]; exact h5)).trans (h6 j hj)⟩
end Go.Proofs.Ytplaicdbcfnjbaa
