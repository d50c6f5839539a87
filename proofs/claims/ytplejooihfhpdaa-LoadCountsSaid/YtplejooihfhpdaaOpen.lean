/- A slice of loads that came in, opened to its cells. -/
import Derived.Test.YtplejooihfhpdaaSum
import Derived.Deep.Slices
import Derived.Deep.Fields
import Derived.ChangeSame
import Derived.OpenShut
namespace Go.Proofs.Ytplejooihfhpdaa
open Go.RowKit Go.ChangeShapes Go.WideShapes Go.Deep
set_option linter.unusedVariables false
section
variable {H : Type} {enc : TypeId × Value → H} {w : World}
theorem i64_of {x : Int} (h : (Lit.int .i64 x).wf = true) : i64 x := by
  simp [Lit.wf, IntKind.min, IntKind.max, IntKind.signed, IntKind.bits] at h
  exact ⟨by omega, by omega⟩
theorem add_at (a : Addr) (j : Nat) (hj : j ≠ 0) : a.add j = ⟨a.block, a.off + j, none⟩ := by unfold Addr.add; rw [if_neg hj]
theorem open_loads {v : Value} {d : DataW H} {p : List MemPlace} {b0 : Nat} {r : Reach} (hval : Value.okWide Try.prog w r b0 22 v) (h : DataW.Trod enc Try.prog w 0 (fun _ => true) true 22 v d p) (hlt : ∀ x ∈ p, x.block < w.heap.size) :
    ∃ (A : Option Addr) (n cap : Nat) (z : Nat → Ld), v = .slice A n cap ∧ Loads w A n z := by
  obtain ⟨a0, len, cap, rfl⟩ := okWide_slice Try.underlying22 hval
  obtain ⟨fuel, hf⟩ := h
  rcases open_slice Try.underlying22 hf with ⟨hcs, _⟩ | ⟨a, len', cap', m, n, D, Pl, hcs, _, hl, hm, hmm, hx, hi⟩
  · simp [Value.cells] at hcs
    obtain ⟨rfl, rfl, rfl⟩ := hcs
    exact ⟨none, 0, 0, fun _ => ⟨0, 0, 0, 0⟩, rfl, fun i hi => absurd hi (by omega), fun h => absurd h (by omega)⟩
  · simp [Value.cells] at hcs
    obtain ⟨rfl, rfl, rfl⟩ := hcs
    simp only [if_true] at hmm
    have ce : Try.prog.cellsOf 25 = 4 := by kernel_rfl
    have each : ∀ i, i < m → ∃ q : Int × Int × Int × Int, (i64 q.1 ∧ i64 q.2.1 ∧ i64 q.2.2.1 ∧ i64 q.2.2.2) ∧ At4 w (a.add (i * 4)) ⟨q.1, q.2.1, q.2.2.1, q.2.2.2⟩ := by
      intro i hic
      obtain ⟨cs', h1, h2⟩ := hi i hic
      rw [ce] at h1
      obtain ⟨_, hlen, hcell⟩ := World.cells?_some h1
      obtain ⟨xs, k, hk, hxy, _, hxl, hfl⟩ := DataW.trod_struct Try.underlying25 h2
      match xs, hxl, cs', hlen with
      | [y0, y1, y2, y3], _, [v0, v1, v2, v3], _ =>
        have c3 : Try.prog.cellsOf 3 = 1 := by kernel_rfl
        have g0 := hfl 0 _ rfl
        have g1 := hfl 1 _ rfl
        have g2 := hfl 2 _ rfl
        have g3 := hfl 3 _ rfl
        simp [c3] at g0 g1 g2 g3
        obtain ⟨x0, e0, _, w0⟩ := DataW.trod_int Try.underlying3 g0
        obtain ⟨x1, e1, _, w1⟩ := DataW.trod_int Try.underlying3 g1
        obtain ⟨x2, e2, _, w2⟩ := DataW.trod_int Try.underlying3 g2
        obtain ⟨x3, e3, _, w3⟩ := DataW.trod_int Try.underlying3 g3
        simp at e0 e1 e2 e3
        subst e0 e1 e2 e3
        have d0 := hcell 0 (by decide)
        have d1 := hcell 1 (by decide)
        have d2 := hcell 2 (by decide)
        have d3 := hcell 3 (by decide)
        rw [add_at _ 1 (by decide)] at d1
        rw [add_at _ 2 (by decide)] at d2
        rw [add_at _ 3 (by decide)] at d3
        refine ⟨(x0, x1, x2, x3), ⟨i64_of w0, i64_of w1, i64_of w2, i64_of w3⟩, block_lt_of_cell d0, d0, d1, d2, d3⟩
    obtain ⟨q, hq⟩ := choose_lt each
    exact ⟨some a, _, _, fun i => ⟨(q i).1, (q i).2.1, (q i).2.2.1, (q i).2.2.2⟩, rfl, fun i h => (hq i (by omega)).1, fun _ => ⟨a, rfl, fun i h => (hq i (by omega)).2⟩⟩
end
end Go.Proofs.Ytplejooihfhpdaa
