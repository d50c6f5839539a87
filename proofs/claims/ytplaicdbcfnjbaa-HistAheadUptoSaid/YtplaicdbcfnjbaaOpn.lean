/- A call that came in, opened to its cells; how many nodes its tree has at most. -/
import Derived.Test.YtplaicdbcfnjbaaRows
import Derived.Test.YtplaicdbcfnjbaaOd
import Derived.Deep.Slices
import Derived.Deep.Fields
import Derived.ChangeSame
import Derived.OpenShut
namespace Go.Proofs.Ytplaicdbcfnjbaa
open Go.RowKit Go.ChangeShapes Go.WideShapes Go.Deep
set_option linter.unusedVariables false
theorem bulk_one {H : Type} (d : DataW H) : 1 ≤ Rows.uptoBulk d := by
  cases d with
  | lit l => cases l <;> simp [Rows.uptoBulk]
  | nil => simp [Rows.uptoBulk]
  | ptr d => simp [Rows.uptoBulk]
  | slice elems spare => simp [Rows.uptoBulk]
  | agg parts => simp [Rows.uptoBulk]
  | iface t d => simp [Rows.uptoBulk]
  | map entries => simp [Rows.uptoBulk]
  | held h => simp [Rows.uptoBulk]
theorem bulk_part {H : Type} {d : DataW H} {l : List (DataW H)} (h : d ∈ l) : Rows.uptoBulk d ≤ Rows.uptoBulkAll l := by
  induction l with
  | nil => cases h
  | cons x r ih =>
    simp only [Rows.uptoBulkAll]
    cases List.mem_cons.1 h with
    | inl e => subst e; omega
    | inr e => have := ih e; omega
theorem bulk_app {H : Type} (l r : List (DataW H)) : Rows.uptoBulkAll (l ++ r) = Rows.uptoBulkAll l + Rows.uptoBulkAll r := by
  induction l with
  | nil => simp [Rows.uptoBulkAll]
  | cons x l ih => simp only [List.cons_append, Rows.uptoBulkAll, ih]; omega
section
variable {H : Type} {enc : TypeId × Value → H} {w : World}
theorem i64_of {x : Int} (h : (Lit.int .i64 x).wf = true) : i64 x := by
  simp [Lit.wf, IntKind.min, IntKind.max, IntKind.signed, IntKind.bits] at h
  exact ⟨by omega, by omega⟩
theorem u64_of {x : Int} (h : (Lit.int .u64 x).wf = true) : ∃ n : Nat, x = n := by
  simp [Lit.wf, IntKind.min, IntKind.max, IntKind.signed, IntKind.bits] at h
  exact ⟨x.toNat, by omega⟩
theorem c3' : Try.prog.cellsOf 3 = 1 := by kernel_rfl
theorem c9' : Try.prog.cellsOf 9 = 1 := by kernel_rfl
theorem c29' : Try.prog.cellsOf 29 = 1 := by kernel_rfl
theorem c26' : Try.prog.cellsOf 26 = 1 := by kernel_rfl
theorem c30' : Try.prog.cellsOf 30 = 1 := by kernel_rfl
theorem c53' : Try.prog.cellsOf 53 = 1 := by kernel_rfl
theorem c32' : Try.prog.cellsOf 32 = 3 := by kernel_rfl
theorem c34' : Try.prog.cellsOf 34 = 8 := by kernel_rfl
theorem c23' : Try.prog.cellsOf 23 = 2 := by kernel_rfl
theorem c25' : Try.prog.cellsOf 25 = 2 := by kernel_rfl
theorem c28' : Try.prog.cellsOf 28 = 7 := by kernel_rfl
theorem c36' : Try.prog.cellsOf 36 = 19 := by kernel_rfl
theorem len3 {α : Type} : ∀ {l : List α}, l.length = 3 → ∃ a b c, l = [a, b, c]
  | [a, b, c], _ => ⟨a, b, c, rfl⟩
theorem sumN_bulk {B : Nat} {T : Nat → DT} {D : Nat → DataW H} {len : Nat} (h : ∀ i, i < len → nodes B (T i) ≤ Rows.uptoBulk (D i)) : ∀ k, k ≤ len → sumN (nodes B) ((List.range len).map T) k ≤ Rows.uptoBulkAll ((List.range k).map D)
  | 0, _ => Nat.zero_le _
  | k + 1, hk => by
    have := sumN_bulk h k (by omega)
    unfold sumN
    rw [List.range_succ, List.map_append, bulk_app]
    have e : ((List.range len).map T).getD k (.mk 0 0 []) = T k := by
      rw [List.getD_eq_getElem?_getD, List.getElem?_map, List.getElem?_range (by omega)]; rfl
    rw [e]
    have := h k (by omega)
    simp only [List.map_cons, List.map_nil, Rows.uptoBulkAll]
    omega
set_option maxRecDepth 10000 in
theorem open_desc (sp : Nat → Bool) (hsp : ∀ b, sp b = true) : ∀ (B fuel : Nat) (cs : List Value) (x : DataW H × List MemPlace), Rows.uptoBulk x.1 ≤ B → DataW.trod enc Try.prog w 0 sp true fuel 32 cs = some x →
    ∃ t A cap, cs = (dcs t A cap).toList ∧ IsD w B t A cap ∧ nodes B t ≤ Rows.uptoBulk x.1
  | 0, fuel, cs, x, hB, _ => by have := bulk_one x.1; omega
  | B + 1, fuel, cs, x, hB, h => by
    obtain ⟨xs, n, hk, hxy, hlen, hxl, hfl⟩ := DataW.trod_struct Try.underlying32 h
    rw [c32'] at hlen
    obtain ⟨v0, v1, v2, rfl⟩ := len3 hlen
    obtain ⟨x0, x1, x2, rfl⟩ := len3 (show xs.length = 3 from hxl)
    have g0 := hfl 0 _ rfl
    have g1 := hfl 1 _ rfl
    have g2 := hfl 2 _ rfl
    simp only [List.getElem?_cons_zero, List.getElem?_cons_succ, c3', c30', List.drop_zero, List.drop_succ_cons, List.take_succ_cons, List.take_zero] at g0 g1 g2
    obtain ⟨k, e0, _, w0⟩ := DataW.trod_int Try.underlying3 g0
    obtain ⟨m, e1, _, w1⟩ := DataW.trod_int Try.underlying3 g1
    cases e0
    cases e1
    subst hxy
    simp only [List.map_cons, List.map_nil, Rows.uptoBulk, Rows.uptoBulkAll] at hB ⊢
    have b0 := bulk_one x0.1
    have b1 := bulk_one x1.1
    rcases open_slice Try.underlying30 g2 with ⟨hcs, hx⟩ | ⟨a, len, cap, mm, n', D, Pl, hcs, _, hl, hm, hmm, hx, hi⟩
    · cases hcs
      refine ⟨.mk k m [], none, 0, rfl, ⟨i64_of w0, i64_of w1, Nat.le_refl _, by omega, fun h => absurd h (by simp [DT.kids])⟩, ?_⟩
      have b2 := bulk_one x2.1
      show 1 + sumN (nodes B) [] 0 ≤ _
      simp only [sumN]
      omega
    · cases hcs
      rw [hsp, if_pos rfl] at hmm
      subst hmm
      have hx1 : x2.1 = .slice ((List.range len).map D) ((List.range (mm - len)).map fun j => D (len + j)) := by rw [hx]
      rw [hx1] at hB ⊢
      simp only [Rows.uptoBulk] at hB ⊢
      have each : ∀ i, i < len → ∃ q : DT × Option Addr × Nat, D3 w (a.add (i * 3)) q.1 q.2.1 q.2.2 ∧ IsD w B q.1 q.2.1 q.2.2 ∧ nodes B q.1 ≤ Rows.uptoBulk (D i) := by
        intro i hil
        obtain ⟨cs', h1, h2⟩ := hi i (by omega)
        rw [c32'] at h1
        obtain ⟨_, hlen', hcell⟩ := World.cells?_some h1
        have hmem : Rows.uptoBulk (D i) ≤ Rows.uptoBulkAll ((List.range len).map D) := bulk_part (List.mem_map.2 ⟨i, List.mem_range.2 hil, rfl⟩)
        obtain ⟨t, A, cap', ec, hD, hn⟩ := open_desc sp hsp B n' cs' (D i, Pl i) (by show Rows.uptoBulk (D i) ≤ B; omega) h2
        subst ec
        have q0 := hcell 0 (by simp [dcs])
        have q1 := hcell 1 (by simp [dcs])
        have q2 := hcell 2 (by simp [dcs])
        have ea : ((a.add (i * 3)).add 0) = a.add (i * 3) := by unfold Addr.add; simp
        rw [ea] at q0
        have e1 : (a.add (i * 3)).add 1 = ⟨(a.add (i * 3)).block, (a.add (i * 3)).off + 1, none⟩ := by rw [Addr.add, if_neg (by decide)]
        have e2 : (a.add (i * 3)).add 2 = ⟨(a.add (i * 3)).block, (a.add (i * 3)).off + 2, none⟩ := by rw [Addr.add, if_neg (by decide)]
        rw [e1] at q1
        rw [e2] at q2
        exact ⟨(t, A, cap'), ⟨block_lt_of_cell q0, q0, q1, q2⟩, hD, hn⟩
      haveI : Inhabited (DT × Option Addr × Nat) := ⟨(.mk 0 0 [], none, 0)⟩
      obtain ⟨q, hq⟩ := choose_lt each
      have hkl : ((List.range len).map fun i => (q i).1).length = len := by simp
      refine ⟨.mk k m ((List.range len).map fun i => (q i).1), some a, mm, ?_, ⟨i64_of w0, i64_of w1, by show _ ≤ mm; simp only [DT.kids]; rw [hkl]; exact hl, by unfold maxLen at hm; exact hm, fun _ => ⟨a, rfl, fun i hi' => ?_⟩⟩, ?_⟩
      · simp [dcs, DT.k, DT.n, DT.kids]
      · have hi2 : i < len := by simpa [DT.kids] using hi'
        have ek : (DT.mk k m ((List.range len).map fun i => (q i).1)).kid i = (q i).1 := by
          simp only [DT.kid, DT.kids]
          rw [List.getD_eq_getElem?_getD, List.getElem?_map, List.getElem?_range hi2]; rfl
        rw [ek]
        exact ⟨_, _, (hq i hi2).1, (hq i hi2).2.1⟩
      · show 1 + sumN (nodes B) ((List.range len).map fun i => (q i).1) ((List.range len).map fun i => (q i).1).length ≤ _
        rw [hkl]
        have := sumN_bulk (B := B) (T := fun i => (q i).1) (D := D) (fun i hi => (hq i hi).2.2) len (Nat.le_refl _)
        omega
theorem open_nums (sp : Nat → Bool) (hsp : ∀ b, sp b = true) {fuel : Nat} {cs : List Value} {x : DataW H × List MemPlace} (h : DataW.trod enc Try.prog w 0 sp true fuel 26 cs = some x) :
    ∃ A n cap f, cs = [.slice A n cap] ∧ ReadsF w .u64 A n f := by
  rcases open_slice Try.underlying26 h with ⟨hcs, _⟩ | ⟨a, len, cap, mm, n', D, Pl, hcs, _, hl, hm, hmm, hx, hi⟩
  · exact ⟨none, 0, 0, fun _ => 0, hcs, by omega, fun h => absurd h (by omega)⟩
  · rw [hsp, if_pos rfl] at hmm
    subst hmm
    have each : ∀ i, i < len → ∃ q : Nat, w.cell? (a.add i) = some (.int .u64 q) := by
      intro i hil
      obtain ⟨cs', h1, h2⟩ := hi i (by omega)
      rw [c53'] at h1
      obtain ⟨_, hlen', hcell⟩ := World.cells?_some h1
      obtain ⟨k, e0, _, w0⟩ := DataW.trod_int Try.underlying53 h2
      subst e0
      obtain ⟨m, rfl⟩ := u64_of w0
      have q0 := hcell 0 (by simp)
      have ea : ((a.add (i * 1)).add 0) = a.add i := by unfold Addr.add; simp
      rw [ea] at q0
      exact ⟨m, q0⟩
    obtain ⟨q, hq⟩ := choose_lt each
    refine ⟨some a, len, mm, q, hcs, by unfold maxLen at hm; omega, fun h0 => ⟨a, rfl, ?_, hq⟩⟩
    have := block_lt_of_cell (hq 0 h0)
    rwa [add_blk] at this
end
end Go.Proofs.Ytplaicdbcfnjbaa
