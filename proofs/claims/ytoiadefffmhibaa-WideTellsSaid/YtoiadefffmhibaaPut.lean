/- Blocks of eight digits: the whole laid anew. -/
import Derived.Test.YtoiadefffmhibaaWadd
namespace Go.Proofs.Ytoiadefffmhibaa
open Go.RowKit
set_option linter.unusedVariables false
abbrev set8 (w : World) (g : Nat) (f : Nat → Nat) : World :=
  (((((((w.setCell ⟨g, 0, none⟩ (.int .i64 (f 0))).setCell ⟨g, 1, none⟩ (.int .i64 (f 1))).setCell ⟨g, 2, none⟩ (.int .i64 (f 2))).setCell ⟨g, 3, none⟩ (.int .i64 (f 3))).setCell ⟨g, 4, none⟩ (.int .i64 (f 4))).setCell ⟨g, 5, none⟩ (.int .i64 (f 5))).setCell ⟨g, 6, none⟩ (.int .i64 (f 6))).setCell ⟨g, 7, none⟩ (.int .i64 (f 7))
theorem Digs.ext {w : World} {g : Nat} {f m : Nat → Nat} (h : Digs w g f) (e : ∀ i < 8, f i = m i) : Digs w g m := by
  unfold Digs at *
  rw [e 0 (by decide), e 1 (by decide), e 2 (by decide), e 3 (by decide), e 4 (by decide), e 5 (by decide), e 6 (by decide), e 7 (by decide)] at h
  exact h
theorem Digs.put8 {w : World} {g : Nat} {f : Nat → Nat} (h : Digs w g f) (m : Nat → Nat) : Digs (set8 w g m) g m := by
  have := (((((((h.put 0 (by decide) (m 0)).put 1 (by decide) (m 1)).put 2 (by decide) (m 2)).put 3 (by decide) (m 3)).put 4 (by decide) (m 4)).put 5 (by decide) (m 5)).put 6 (by decide) (m 6)).put 7 (by decide) (m 7)
  refine Digs.ext this ?_
  intro i hi
  match i, hi with
  | 0, _ => simp
  | 1, _ => simp
  | 2, _ => simp
  | 3, _ => simp
  | 4, _ => simp
  | 5, _ => simp
  | 6, _ => simp
  | 7, _ => simp
theorem Box.off8 {w : World} {g g' : Nat} {t : TypeId} {cs : Array Value} (h : Box w g t cs) (hg : g ≠ g') (m : Nat → Nat) : Box (set8 w g' m) g t cs :=
  (((((((h.off hg _).off hg _).off hg _).off hg _).off hg _).off hg _).off hg _).off hg _
theorem New.set8 {a w : World} {g : Nat} (h : New a w) (hg : a.heap.size ≤ g) (m : Nat → Nat) : New a (set8 w g m) :=
  (((((((h.setCell hg _).setCell hg _).setCell hg _).setCell hg _).setCell hg _).setCell hg _).setCell hg _).setCell hg _
theorem Digs.off8 {w : World} {g g' : Nat} {f : Nat → Nat} (h : Digs w g f) (hg : g ≠ g') (m : Nat → Nat) : Digs (Go.Proofs.Ytoiadefffmhibaa.set8 w g' m) g f := Box.off8 h hg m
theorem Digs.new {w w' : World} {g : Nat} {f : Nat → Nat} (h : Digs w g f) (hb : New w w') : Digs w' g f := Box.new h hb
theorem dig_zero : dig 0 = fun _ => 0 := by
  funext i; simp [dig]
theorem Digs.zero {w : World} {g : Nat} {cs : Array Value} (h : Box w g 27 cs) (e : cs = #[.int .i64 0, .int .i64 0, .int .i64 0, .int .i64 0, .int .i64 0, .int .i64 0, .int .i64 0, .int .i64 0]) : Digs w g (dig 0) := by
  subst e
  rw [dig_zero]; exact h
end Go.Proofs.Ytoiadefffmhibaa
