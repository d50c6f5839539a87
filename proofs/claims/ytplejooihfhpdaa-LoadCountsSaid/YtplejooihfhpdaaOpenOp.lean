/- A slice of calls (api.Op) that came in, opened to its rows. -/
import Derived.Test.YtplejooihfhpdaaHits
import Derived.Test.YtplejooihfhpdaaOpen
namespace Go.Proofs.Ytplejooihfhpdaa
open Go.RowKit Go.ChangeShapes Go.WideShapes Go.Deep
set_option linter.unusedVariables false
section
variable {H : Type} {enc : TypeId × Value → H} {w : World} {base fuel : Nat} {sp : Nat → Bool} {held : Bool}
theorem c3' : Try.prog.cellsOf 3 = 1 := by kernel_rfl
theorem c9' : Try.prog.cellsOf 9 = 1 := by kernel_rfl
theorem c31' : Try.prog.cellsOf 31 = 1 := by kernel_rfl
theorem c35' : Try.prog.cellsOf 35 = 1 := by kernel_rfl
theorem c32' : Try.prog.cellsOf 32 = 1 := by kernel_rfl
theorem c34' : Try.prog.cellsOf 34 = 3 := by kernel_rfl
theorem c37' : Try.prog.cellsOf 37 = 8 := by kernel_rfl
theorem c39' : Try.prog.cellsOf 39 = 2 := by kernel_rfl
theorem c41' : Try.prog.cellsOf 41 = 2 := by kernel_rfl
theorem c43' : Try.prog.cellsOf 43 = 7 := by kernel_rfl
theorem c45' : Try.prog.cellsOf 45 = 19 := by kernel_rfl
theorem one_int {t : TypeId} {k : IntKind} {cs : List Value} {x : DataW H × List MemPlace} (ht : Try.prog.underlying t = some (.int k)) (h : DataW.trod enc Try.prog w base sp held fuel t cs = some x) : ∀ v ∈ cs, v.oneCell' = true := by
  obtain ⟨n, rfl, _, _⟩ := DataW.trod_int ht h
  intro v hv; simp at hv; subst hv; rfl
theorem one_str {t : TypeId} {cs : List Value} {x : DataW H × List MemPlace} (ht : Try.prog.underlying t = some .string) (h : DataW.trod enc Try.prog w base sp held fuel t cs = some x) : ∀ v ∈ cs, v.oneCell' = true := by
  obtain ⟨n, rfl, _, _⟩ := DataW.trod_string ht h
  intro v hv; simp at hv; subst hv; rfl
theorem one_slice {t e : TypeId} {cs : List Value} {x : DataW H × List MemPlace} (ht : Try.prog.underlying t = some (.slice e)) (h : DataW.trod enc Try.prog w base sp held fuel t cs = some x) : ∀ v ∈ cs, v.oneCell' = true := by
  rcases open_slice ht h with ⟨rfl, _⟩ | ⟨a, len', cap', m, n, D, Pl, rfl, _⟩ <;> (intro v hv; simp at hv; subst hv; rfl)
/-- every field's cells are single: so are the struct's, where the fields cover them -/
theorem one_struct {t : TypeId} {fs : Array Field} {cs : List Value} {x : DataW H × List MemPlace} (ht : Try.prog.underlying t = some (.struct fs)) (h : DataW.trod enc Try.prog w base sp held fuel t cs = some x)
    (hall : ∀ (i : Nat) (f : Field), fs[i]? = some f → ∀ n y, DataW.trod enc Try.prog w base sp held n f.type ((cs.drop f.offset).take (Try.prog.cellsOf f.type)) = some y → ∀ v ∈ (cs.drop f.offset).take (Try.prog.cellsOf f.type), v.oneCell' = true)
    (hcov : ((List.range (Try.prog.cellsOf t)).all fun j => fs.any fun f => decide (f.offset ≤ j) && decide (j < f.offset + Try.prog.cellsOf f.type)) = true) : ∀ v ∈ cs, v.oneCell' = true := by
  obtain ⟨xs, k, hk, hxy, hlen, hxl, hfl⟩ := DataW.trod_struct ht h
  intro v hv
  obtain ⟨j, hj, rfl⟩ := List.getElem_of_mem hv
  have hc := List.all_eq_true.1 hcov j (List.mem_range.2 (by omega))
  obtain ⟨i, hi', hb⟩ := Array.any_eq_true.1 hc
  simp only [Bool.and_eq_true, decide_eq_true_eq] at hb
  obtain ⟨f, hfe⟩ : ∃ f, f = fs[i] := ⟨_, rfl⟩
  rw [← hfe] at hb
  obtain ⟨h1, h2⟩ := hb
  have hf : fs[i]? = some f := by rw [hfe]; exact Array.getElem?_eq_getElem hi'
  have hi : i < xs.length := by rw [hxl]; exact (Array.getElem?_eq_some_iff.1 hf).1
  have ht2 := hfl i f hf
  rw [List.getElem?_eq_getElem hi] at ht2
  refine hall i f hf k _ ht2 _ ?_
  refine List.mem_iff_getElem?.2 ⟨j - f.offset, ?_⟩
  rw [List.getElem?_take, if_pos (by omega), List.getElem?_drop, show f.offset + (j - f.offset) = j by omega, List.getElem?_eq_getElem hj]
theorem one39 {cs : List Value} {x : DataW H × List MemPlace} (h : DataW.trod enc Try.prog w base sp held fuel 39 cs = some x) : ∀ v ∈ cs, v.oneCell' = true := by
  refine one_struct Try.underlying39 h ?_ (by kernel_rfl)
  · intro i f hf
    match i, hf with
    | 0, hf => cases hf; exact fun n y h => one_int Try.underlying3 h
    | 1, hf => cases hf; exact fun n y h => one_int Try.underlying3 h
theorem one41 {cs : List Value} {x : DataW H × List MemPlace} (h : DataW.trod enc Try.prog w base sp held fuel 41 cs = some x) : ∀ v ∈ cs, v.oneCell' = true := by
  refine one_struct Try.underlying41 h ?_ (by kernel_rfl)
  · intro i f hf
    match i, hf with
    | 0, hf => cases hf; exact fun n y h => one_int Try.underlying3 h
    | 1, hf => cases hf; exact fun n y h => one_int Try.underlying3 h
theorem one34 {cs : List Value} {x : DataW H × List MemPlace} (h : DataW.trod enc Try.prog w base sp held fuel 34 cs = some x) : ∀ v ∈ cs, v.oneCell' = true := by
  refine one_struct Try.underlying34 h ?_ (by kernel_rfl)
  · intro i f hf
    match i, hf with
    | 0, hf => cases hf; exact fun n y h => one_int Try.underlying3 h
    | 1, hf => cases hf; exact fun n y h => one_int Try.underlying3 h
    | 2, hf => cases hf; exact fun n y h => one_slice Try.underlying32 h
theorem one37 {cs : List Value} {x : DataW H × List MemPlace} (h : DataW.trod enc Try.prog w base sp held fuel 37 cs = some x) : ∀ v ∈ cs, v.oneCell' = true := by
  refine one_struct Try.underlying37 h ?_ (by kernel_rfl)
  · intro i f hf
    match i, hf with
    | 0, hf => cases hf; exact fun n y h => one_int Try.underlying31 h
    | 1, hf => cases hf; exact fun n y h => one34 h
    | 2, hf => cases hf; exact fun n y h => one_int Try.underlying3 h
    | 3, hf => cases hf; exact fun n y h => one_int Try.underlying3 h
    | 4, hf => cases hf; exact fun n y h => one_str Try.underlying9 h
    | 5, hf => cases hf; exact fun n y h => one_slice Try.underlying35 h
theorem one43 {cs : List Value} {x : DataW H × List MemPlace} (h : DataW.trod enc Try.prog w base sp held fuel 43 cs = some x) : ∀ v ∈ cs, v.oneCell' = true := by
  refine one_struct Try.underlying43 h ?_ (by kernel_rfl)
  · intro i f hf
    match i, hf with
    | 0, hf => cases hf; exact fun n y h => one_int Try.underlying3 h
    | 1, hf => cases hf; exact fun n y h => one41 h
    | 2, hf => cases hf; exact fun n y h => one_str Try.underlying9 h
    | 3, hf => cases hf; exact fun n y h => one39 h
    | 4, hf => cases hf; exact fun n y h => one_slice Try.underlying35 h
theorem one45 {cs : List Value} {x : DataW H × List MemPlace} (h : DataW.trod enc Try.prog w base sp held fuel 45 cs = some x) : ∀ v ∈ cs, v.oneCell' = true := by
  refine one_struct Try.underlying45 h ?_ (by kernel_rfl)
  · intro i f hf
    match i, hf with
    | 0, hf => cases hf; exact fun n y h => one39 h
    | 1, hf => cases hf; exact fun n y h => one43 h
    | 2, hf => cases hf; exact fun n y h => one37 h
    | 3, hf => cases hf; exact fun n y h => one_int Try.underlying3 h
    | 4, hf => cases hf; exact fun n y h => one_int Try.underlying3 h
/-- the first cell of a struct whose first field is an integer -/
theorem first_int {t : TypeId} {fs : Array Field} {k : IntKind} {f0 : Field} {cs : List Value} {x : DataW H × List MemPlace} (ht : Try.prog.underlying t = some (.struct fs)) (h0 : fs[0]? = some f0) (ho : f0.offset = 0) (hc : Try.prog.cellsOf f0.type = 1) (hi : Try.prog.underlying f0.type = some (.int k))
    (h : DataW.trod enc Try.prog w base sp held fuel t cs = some x) : ∃ a, cs[0]? = some (.int k a) ∧ (Lit.int k a).wf = true := by
  obtain ⟨xs, n, hk, hxy, hlen, hxl, hfl⟩ := DataW.trod_struct ht h
  have hi0 : 0 < xs.length := by rw [hxl]; exact (Array.getElem?_eq_some_iff.1 h0).1
  have h1 := hfl 0 f0 h0
  rw [List.getElem?_eq_getElem hi0, ho, hc] at h1
  obtain ⟨a, e1, _, w1⟩ := DataW.trod_int hi h1
  refine ⟨a, ?_, w1⟩
  have := congrArg (fun l => l[0]?) e1
  simpa [List.getElem?_take] using this
theorem field_of {t : TypeId} {fs : Array Field} {cs : List Value} {x : DataW H × List MemPlace} (ht : Try.prog.underlying t = some (.struct fs)) (h : DataW.trod enc Try.prog w base sp held fuel t cs = some x) (i : Nat) (f : Field) (hf : fs[i]? = some f) :
    ∃ n y, DataW.trod enc Try.prog w base sp held n f.type ((cs.drop f.offset).take (Try.prog.cellsOf f.type)) = some y := by
  obtain ⟨xs, n, hk, hxy, hlen, hxl, hfl⟩ := DataW.trod_struct ht h
  have hi0 : i < xs.length := by rw [hxl]; exact (Array.getElem?_eq_some_iff.1 hf).1
  have h1 := hfl i f hf
  rw [List.getElem?_eq_getElem hi0] at h1
  exact ⟨n, _, h1⟩
theorem at_of {cs : List Value} {o n j : Nat} {v : Value} (h : ((cs.drop o).take n)[j]? = some v) : cs[o + j]? = some v := by
  rw [List.getElem?_take] at h
  split at h
  · rwa [List.getElem?_drop] at h
  · cases h
theorem reads_op {cs : List Value} {x : DataW H × List MemPlace} (h : DataW.trod enc Try.prog w base sp held fuel 45 cs = some x) : ∃ z : Nm, Reads5 cs.toArray z := by
  have hl : cs.length = 19 := by obtain ⟨xs, n, hk, hxy, hlen, hxl, hfl⟩ := DataW.trod_struct Try.underlying45 h; rw [hlen, c45']
  obtain ⟨n0, y0, g0⟩ := field_of Try.underlying45 h 0 _ rfl
  obtain ⟨n1, y1, g1⟩ := field_of Try.underlying45 h 1 _ rfl
  obtain ⟨n2, y2, g2⟩ := field_of Try.underlying45 h 2 _ rfl
  obtain ⟨n3, y3, g3⟩ := field_of Try.underlying45 h 3 _ rfl
  obtain ⟨n4, y4, g4⟩ := field_of Try.underlying45 h 4 _ rfl
  obtain ⟨a0, e0, w0⟩ := first_int Try.underlying39 rfl rfl c3' Try.underlying3 g0
  obtain ⟨a1, e1, w1⟩ := first_int Try.underlying43 rfl rfl c3' Try.underlying3 g1
  obtain ⟨a2, e2, w2⟩ := first_int Try.underlying37 rfl rfl c31' Try.underlying31 g2
  obtain ⟨a3, e3, _, w3⟩ := DataW.trod_int Try.underlying3 g3
  obtain ⟨a4, e4, _, w4⟩ := DataW.trod_int Try.underlying3 g4
  have e3' := congrArg (fun l => l[0]?) e3
  have e4' := congrArg (fun l => l[0]?) e4
  have q0 := at_of e0
  have q1 := at_of e1
  have q2 := at_of e2
  have q3 := at_of e3'
  have q4 := at_of e4'
  refine ⟨⟨a0, a1, a2, a3, a4⟩, ⟨by simpa using hl, ?_⟩, ⟨i64_of w0, i64_of w1, i64_of w2, i64_of w3, i64_of w4⟩, by simpa using q0, by simpa using q1, by simpa using q2, by simpa using q3, by simpa using q4⟩
  rw [Array.all_eq_true_iff_forall_mem]
  intro v hv
  exact one45 h v (by simpa using hv)
theorem open_ops {v : Value} {d : DataW H} {p : List MemPlace} {b0 : Nat} {r : Reach} (hval : Value.okWide Try.prog w r b0 28 v) (h : DataW.Trod enc Try.prog w 0 (fun _ => true) true 28 v d p) (hlt : ∀ x ∈ p, x.block < w.heap.size) :
    ∃ (A : Option Addr) (n cap : Nat) (o : Nat → Array Value) (z : Nat → Nm), v = .slice A n cap ∧ n ≤ cap ∧ Ops w A n o z := by
  obtain ⟨a0, len, cap, rfl⟩ := okWide_slice Try.underlying28 hval
  obtain ⟨fuel, hf⟩ := h
  rcases open_slice Try.underlying28 hf with ⟨hcs, _⟩ | ⟨a, len', cap', m, n, D, Pl, hcs, _, hl, hm, hmm, hx, hi⟩
  · simp [Value.cells] at hcs
    obtain ⟨rfl, rfl, rfl⟩ := hcs
    exact ⟨none, 0, 0, fun _ => #[], fun _ => ⟨0, 0, 0, 0, 0⟩, rfl, Nat.le_refl _, fun i hi => absurd hi (by omega), fun h => absurd h (by omega)⟩
  · simp [Value.cells] at hcs
    obtain ⟨rfl, rfl, rfl⟩ := hcs
    simp only [if_true] at hmm
    have each : ∀ i, i < m → ∃ q : Array Value × Nm, Reads5 q.1 q.2 ∧ OpAt w (a.add (i * 19)) q.1 := by
      intro i hic
      obtain ⟨cs', h1, h2⟩ := hi i hic
      rw [c45'] at h1
      obtain ⟨_, hlen, hcell⟩ := World.cells?_some h1
      obtain ⟨z, hz⟩ := reads_op h2
      refine ⟨(cs'.toArray, z), hz, hz.1, ?_, fun j u hu => ?_⟩
      · have d0 := hcell 0 (by omega)
        have hs0 : 0 < cs'.length := by omega
        rw [List.getElem?_eq_getElem hs0] at d0
        have hb := block_lt_of_cell d0
        have e : ((a.add (i * 19)).add 0) = a.add (i * 19) := by unfold Addr.add; simp
        rw [e] at hb
        exact hb
      · have hu' : cs'[j]? = some u := by simpa using hu
        have hj : j < cs'.length := (List.getElem?_eq_some_iff.1 hu').1
        exact (hcell j (by omega)).trans hu'
    haveI : Inhabited (Array Value × Nm) := ⟨(#[], ⟨0, 0, 0, 0, 0⟩)⟩
    obtain ⟨q, hq⟩ := choose_lt each
    exact ⟨some a, _, _, fun i => (q i).1, fun i => (q i).2, rfl, hl, fun i h => (hq i (by omega)).1, fun _ => ⟨a, rfl, fun i h => (hq i (by omega)).2⟩⟩
end
end Go.Proofs.Ytplejooihfhpdaa
