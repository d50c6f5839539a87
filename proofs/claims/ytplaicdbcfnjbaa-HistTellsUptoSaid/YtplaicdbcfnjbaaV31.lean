/- A call that came in, opened: its 19 cells and what they read as. -/
import Derived.Test.YtplaicdbcfnjbaaV30
import Derived.Test.YtplaicdbcfnjbaaV07
set_option linter.unusedSimpArgs false
set_option linter.unusedVariables false
namespace Go.Proofs.Ytplaicdbcfnjbaa
open Go.RowKit Go.ChangeShapes Go.WideShapes Go.Deep
set_option linter.unusedVariables false

theorem len2 {α : Type} : ∀ {l : List α}, l.length = 2 → ∃ a0 a1, l = [a0, a1]
  | [a0, a1], _ => ⟨a0, a1, rfl⟩
theorem len5 {α : Type} : ∀ {l : List α}, l.length = 5 → ∃ a0 a1 a2 a3 a4, l = [a0, a1, a2, a3, a4]
  | [a0, a1, a2, a3, a4], _ => ⟨a0, a1, a2, a3, a4, rfl⟩
theorem len6 {α : Type} : ∀ {l : List α}, l.length = 6 → ∃ a0 a1 a2 a3 a4 a5, l = [a0, a1, a2, a3, a4, a5]
  | [a0, a1, a2, a3, a4, a5], _ => ⟨a0, a1, a2, a3, a4, a5, rfl⟩
theorem len7 {α : Type} : ∀ {l : List α}, l.length = 7 → ∃ a0 a1 a2 a3 a4 a5 a6, l = [a0, a1, a2, a3, a4, a5, a6]
  | [a0, a1, a2, a3, a4, a5, a6], _ => ⟨a0, a1, a2, a3, a4, a5, a6, rfl⟩
theorem len8 {α : Type} : ∀ {l : List α}, l.length = 8 → ∃ a0 a1 a2 a3 a4 a5 a6 a7, l = [a0, a1, a2, a3, a4, a5, a6, a7]
  | [a0, a1, a2, a3, a4, a5, a6, a7], _ => ⟨a0, a1, a2, a3, a4, a5, a6, a7, rfl⟩
theorem len19 {α : Type} : ∀ {l : List α}, l.length = 19 → ∃ a0 a1 a2 a3 a4 a5 a6 a7 a8 a9 a10 a11 a12 a13 a14 a15 a16 a17 a18, l = [a0, a1, a2, a3, a4, a5, a6, a7, a8, a9, a10, a11, a12, a13, a14, a15, a16, a17, a18]
  | [a0, a1, a2, a3, a4, a5, a6, a7, a8, a9, a10, a11, a12, a13, a14, a15, a16, a17, a18], _ => ⟨a0, a1, a2, a3, a4, a5, a6, a7, a8, a9, a10, a11, a12, a13, a14, a15, a16, a17, a18, rfl⟩
section
variable {H : Type} {enc : TypeId × Value → H} {w : World}
theorem bulk_agg {xs : List (DataW H × List MemPlace)} {i : Nat} {y : DataW H × List MemPlace} (h : xs[i]? = some y) : Rows.uptoBulk y.1 ≤ Rows.uptoBulk (.agg (xs.map (·.1))) := by
  have : y.1 ∈ xs.map (·.1) := List.mem_map.2 ⟨y, List.mem_of_getElem? h, rfl⟩
  have := bulk_part this
  simp only [Rows.uptoBulk]; omega

set_option maxRecDepth 10000 in
theorem open23 {sp : Nat → Bool} {fuel : Nat} {cs : List Value} {x : DataW H × List MemPlace} (h : DataW.trod enc Try.prog w 0 sp true fuel 23 cs = some x) : ∃ a b, cs = [.int .i64 a, .int .i64 b] := by
  obtain ⟨xs, n, hk, hxy, hlen, hxl, hfl⟩ := DataW.trod_struct Try.underlying23 h
  rw [c23'] at hlen
  obtain ⟨v0, v1, rfl⟩ := len2 hlen
  obtain ⟨x0, x1, rfl⟩ := len2 (show xs.length = 2 from hxl)
  have g0 := hfl 0 _ rfl
  have g1 := hfl 1 _ rfl
  simp only [List.getElem?_cons_zero, List.getElem?_cons_succ, c3', List.drop_zero, List.drop_succ_cons, List.take_succ_cons, List.take_zero] at g0 g1
  obtain ⟨k, e0, _, w0⟩ := DataW.trod_int Try.underlying3 g0
  obtain ⟨m, e1, _, w1⟩ := DataW.trod_int Try.underlying3 g1
  cases e0
  cases e1
  exact ⟨_, _, rfl⟩
set_option maxRecDepth 10000 in
theorem open25 {sp : Nat → Bool} {fuel : Nat} {cs : List Value} {x : DataW H × List MemPlace} (h : DataW.trod enc Try.prog w 0 sp true fuel 25 cs = some x) : ∃ a b, cs = [.int .i64 a, .int .i64 b] := by
  obtain ⟨xs, n, hk, hxy, hlen, hxl, hfl⟩ := DataW.trod_struct Try.underlying25 h
  rw [c25'] at hlen
  obtain ⟨v0, v1, rfl⟩ := len2 hlen
  obtain ⟨x0, x1, rfl⟩ := len2 (show xs.length = 2 from hxl)
  have g0 := hfl 0 _ rfl
  have g1 := hfl 1 _ rfl
  simp only [List.getElem?_cons_zero, List.getElem?_cons_succ, c3', List.drop_zero, List.drop_succ_cons, List.take_succ_cons, List.take_zero] at g0 g1
  obtain ⟨k, e0, _, w0⟩ := DataW.trod_int Try.underlying3 g0
  obtain ⟨m, e1, _, w1⟩ := DataW.trod_int Try.underlying3 g1
  cases e0
  cases e1
  exact ⟨_, _, rfl⟩
set_option maxRecDepth 10000 in
theorem open28 (sp : Nat → Bool) (hsp : ∀ b, sp b = true) {fuel : Nat} {cs : List Value} {x : DataW H × List MemPlace} (h : DataW.trod enc Try.prog w 0 sp true fuel 28 cs = some x) :
    ∃ kd k0 k1 tx o0 o1 X nx cx f, cs = [.int .i64 kd, .int .i64 k0, .int .i64 k1, .string tx, .int .i64 o0, .int .i64 o1, .slice X nx cx] ∧ ReadsF w .u64 X nx f := by
  obtain ⟨xs, nn, hk, hxy, hlen, hxl, hfl⟩ := DataW.trod_struct Try.underlying28 h
  rw [c28'] at hlen
  obtain ⟨v0, v1, v2, v3, v4, v5, v6, rfl⟩ := len7 hlen
  obtain ⟨x0, x1, x2, x3, x4, rfl⟩ := len5 (show xs.length = 5 from hxl)
  have g0 := hfl 0 _ rfl
  have g1 := hfl 1 _ rfl
  have g2 := hfl 2 _ rfl
  have g3 := hfl 3 _ rfl
  have g4 := hfl 4 _ rfl
  simp only [List.getElem?_cons_zero, List.getElem?_cons_succ, List.drop_zero, List.drop_succ_cons, List.take_succ_cons, List.take_zero, c3', c25', c9', c23', c26'] at g0 g1 g2 g3 g4
  subst hxy
  obtain ⟨kd, e0, _, _⟩ := DataW.trod_int Try.underlying3 g0
  obtain ⟨k0, k1, e1⟩ := open25 g1
  obtain ⟨tx, e2, _, _⟩ := DataW.trod_string Try.underlying9 g2
  obtain ⟨o0, o1, e3⟩ := open23 g3
  obtain ⟨X, nx, cx, f, e4, hr4⟩ := open_nums sp hsp g4
  cases e0; cases e1; cases e2; cases e3; cases e4
  exact ⟨_, _, _, _, _, _, _, _, _, f, rfl, hr4⟩
set_option maxRecDepth 10000 in
theorem open34 (sp : Nat → Bool) (hsp : ∀ b, sp b = true) (B : Nat) {fuel : Nat} {cs : List Value} {x : DataW H × List MemPlace} (hB : Rows.uptoBulk x.1 ≤ B) (h : DataW.trod enc Try.prog w 0 sp true fuel 34 cs = some x) :
    ∃ (t : TD) (A : Option Addr) (ca : Nat) (Y : Option Addr) (cy : Nat), cs = (tcs t A ca Y cy).toList ∧ IsD w B t.d A ca ∧ nodes B t.d ≤ Rows.uptoBulk x.1 ∧ ReadsF w .u64 Y t.ny t.y := by
  obtain ⟨xs, nn, hk, hxy, hlen, hxl, hfl⟩ := DataW.trod_struct Try.underlying34 h
  rw [c34'] at hlen
  obtain ⟨v0, v1, v2, v3, v4, v5, v6, v7, rfl⟩ := len8 hlen
  obtain ⟨x0, x1, x2, x3, x4, x5, rfl⟩ := len6 (show xs.length = 6 from hxl)
  have g0 := hfl 0 _ rfl
  have g1 := hfl 1 _ rfl
  have g2 := hfl 2 _ rfl
  have g3 := hfl 3 _ rfl
  have g4 := hfl 4 _ rfl
  have g5 := hfl 5 _ rfl
  simp only [List.getElem?_cons_zero, List.getElem?_cons_succ, List.drop_zero, List.drop_succ_cons, List.take_succ_cons, List.take_zero, c29', c32', c3', c9', c26'] at g0 g1 g2 g3 g4 g5
  subst hxy
  obtain ⟨e, e0, _, _⟩ := DataW.trod_int Try.underlying29 g0
  have hb1 := bulk_agg (xs := [x0, x1, x2, x3, x4, x5]) (i := 1) (y := x1) rfl
  obtain ⟨t, A, ca, e1, hd1, hn1⟩ := open_desc sp hsp B _ _ _ (Nat.le_trans hb1 hB) g1
  obtain ⟨n, e2, _, _⟩ := DataW.trod_int Try.underlying3 g2
  obtain ⟨l, e3, _, _⟩ := DataW.trod_int Try.underlying3 g3
  obtain ⟨tx, e4, _, _⟩ := DataW.trod_string Try.underlying9 g4
  obtain ⟨Y, ny, cy, y, e5, hr5⟩ := open_nums sp hsp g5
  cases e0; cases e1; cases e2; cases e3; cases e4; cases e5
  exact ⟨⟨e, t, n, l, tx, ny, y⟩, A, ca, Y, cy, rfl, hd1, Nat.le_trans hn1 hb1, hr5⟩
set_option maxRecDepth 10000 in
theorem open36 (sp : Nat → Bool) (hsp : ∀ b, sp b = true) (B : Nat) {fuel : Nat} {cs : List Value} {x : DataW H × List MemPlace} (hB : Rows.uptoBulk x.1 ≤ B) (h : DataW.trod enc Try.prog w 0 sp true fuel 36 cs = some x) :
    ∃ o : OD, cs = (ocs o).toList ∧ IsO w B o ∧ nodes B o.td.d ≤ Rows.uptoBulk x.1 ∧ i64 o.s ∧ i64 o.e := by
  obtain ⟨xs, nn, hk, hxy, hlen, hxl, hfl⟩ := DataW.trod_struct Try.underlying36 h
  rw [c36'] at hlen
  obtain ⟨v0, v1, v2, v3, v4, v5, v6, v7, v8, v9, v10, v11, v12, v13, v14, v15, v16, v17, v18, rfl⟩ := len19 hlen
  obtain ⟨x0, x1, x2, x3, x4, rfl⟩ := len5 (show xs.length = 5 from hxl)
  have g0 := hfl 0 _ rfl
  have g1 := hfl 1 _ rfl
  have g2 := hfl 2 _ rfl
  have g3 := hfl 3 _ rfl
  have g4 := hfl 4 _ rfl
  simp only [List.getElem?_cons_zero, List.getElem?_cons_succ, List.drop_zero, List.drop_succ_cons, List.take_succ_cons, List.take_zero, c23', c28', c34', c3'] at g0 g1 g2 g3 g4
  subst hxy
  obtain ⟨r0, r1, e0⟩ := open23 g0
  obtain ⟨kd, k0, k1, tx, o0, o1, X, nx, cx, f, e1, hr1⟩ := open28 sp hsp g1
  have hb2 := bulk_agg (xs := [x0, x1, x2, x3, x4]) (i := 2) (y := x2) rfl
  obtain ⟨t, A, ca, Y, cy, e2, hd2, hn2, hr2⟩ := open34 sp hsp B (Nat.le_trans hb2 hB) g2
  obtain ⟨s, e3, _, ws⟩ := DataW.trod_int Try.underlying3 g3
  obtain ⟨e, e4, _, we⟩ := DataW.trod_int Try.underlying3 g4
  simp only [tcs] at e2
  cases e0; cases e1; cases e2; cases e3; cases e4
  exact ⟨⟨r0, r1, kd, k0, k1, tx, o0, o1, nx, f, X, cx, t, A, ca, Y, cy, s, e⟩, rfl, ⟨⟨hd2, hr2⟩, hr1⟩, Nat.le_trans hn2 hb2, i64_of ws, i64_of we⟩
set_option maxRecDepth 10000 in
theorem open_op {v : Value} {d : DataW H} {p : List MemPlace} {b0 B : Nat} {r : Reach} (hval : Value.okWide Try.prog w r b0 36 v) (h : DataW.Trod enc Try.prog w 0 (fun _ => true) true 36 v d p) (hB : Rows.uptoBulk d ≤ B) :
    ∃ o : OD, v = .agg (ocs o) ∧ IsO w B o ∧ nodes B o.td.d ≤ Rows.uptoBulk d ∧ i64 o.s ∧ i64 o.e := by
  obtain ⟨fuel, hf⟩ := h
  obtain ⟨o, ho, hi, hn, hs, he⟩ := open36 (fun _ => true) (fun _ => rfl) B hB hf
  obtain ⟨cs, rfl, _⟩ := okWide_struct Try.underlying36 hval
  refine ⟨o, ?_, hi, hn, hs, he⟩
  have e : (Value.agg cs).cells = cs := rfl
  rw [e] at ho
  rw [Array.toList_inj.1 ho]
end
end Go.Proofs.Ytplaicdbcfnjbaa
/- A row of calls that came in, opened. -/
namespace Go.Proofs.Ytplaicdbcfnjbaa
open Go.RowKit Go.ChangeShapes Go.WideShapes Go.Deep
set_option linter.unusedVariables false
def odw : OD := ⟨0, 0, 0, 0, 0, ByteArray.empty, 0, 0, 0, fun _ => 0, none, 0, ⟨0, .mk 0 0 [], 0, 0, ByteArray.empty, 0, fun _ => 0⟩, none, 0, none, 0, 0, 0⟩
section
variable {H : Type} {enc : TypeId × Value → H} {w : World}
set_option maxRecDepth 10000 in
theorem open23w {sp : Nat → Bool} {fuel : Nat} {cs : List Value} {x : DataW H × List MemPlace} (h : DataW.trod enc Try.prog w 0 sp true fuel 23 cs = some x) : ∃ a b, cs = [.int .i64 a, .int .i64 b] ∧ i64 a ∧ i64 b := by
  obtain ⟨xs, n, hk, hxy, hlen, hxl, hfl⟩ := DataW.trod_struct Try.underlying23 h
  rw [c23'] at hlen
  obtain ⟨v0, v1, rfl⟩ := len2 hlen
  obtain ⟨x0, x1, rfl⟩ := len2 (show xs.length = 2 from hxl)
  have g0 := hfl 0 _ rfl
  have g1 := hfl 1 _ rfl
  simp only [List.getElem?_cons_zero, List.getElem?_cons_succ, c3', List.drop_zero, List.drop_succ_cons, List.take_succ_cons, List.take_zero] at g0 g1
  obtain ⟨k, e0, _, w0⟩ := DataW.trod_int Try.underlying3 g0
  obtain ⟨m, e1, _, w1⟩ := DataW.trod_int Try.underlying3 g1
  cases e0
  cases e1
  exact ⟨_, _, rfl, i64_of w0, i64_of w1⟩
set_option maxRecDepth 10000 in
theorem open36w (sp : Nat → Bool) (hsp : ∀ b, sp b = true) (B : Nat) {fuel : Nat} {cs : List Value} {x : DataW H × List MemPlace} (hB : Rows.uptoBulk x.1 ≤ B) (h : DataW.trod enc Try.prog w 0 sp true fuel 36 cs = some x) :
    ∃ o : OD, cs = (ocs o).toList ∧ IsO w B o ∧ nodes B o.td.d ≤ Rows.uptoBulk x.1 ∧ i64 o.r0 ∧ i64 o.r1 ∧ i64 o.s ∧ i64 o.e := by
  obtain ⟨xs, nn, hk, hxy, hlen, hxl, hfl⟩ := DataW.trod_struct Try.underlying36 h
  rw [c36'] at hlen
  obtain ⟨v0, v1, v2, v3, v4, v5, v6, v7, v8, v9, v10, v11, v12, v13, v14, v15, v16, v17, v18, rfl⟩ := len19 hlen
  obtain ⟨x0, x1, x2, x3, x4, rfl⟩ := len5 (show xs.length = 5 from hxl)
  have g0 := hfl 0 _ rfl
  have g1 := hfl 1 _ rfl
  have g2 := hfl 2 _ rfl
  have g3 := hfl 3 _ rfl
  have g4 := hfl 4 _ rfl
  simp only [List.getElem?_cons_zero, List.getElem?_cons_succ, List.drop_zero, List.drop_succ_cons, List.take_succ_cons, List.take_zero, c23', c28', c34', c3'] at g0 g1 g2 g3 g4
  subst hxy
  obtain ⟨r0, r1, e0, wr0, wr1⟩ := open23w g0
  obtain ⟨kd, k0, k1, tx, o0, o1, X, nx, cx, f, e1, hr1⟩ := open28 sp hsp g1
  have hb2 := bulk_agg (xs := [x0, x1, x2, x3, x4]) (i := 2) (y := x2) rfl
  obtain ⟨t, A, ca, Y, cy, e2, hd2, hn2, hr2⟩ := open34 sp hsp B (Nat.le_trans hb2 hB) g2
  obtain ⟨s, e3, _, ws⟩ := DataW.trod_int Try.underlying3 g3
  obtain ⟨e, e4, _, we⟩ := DataW.trod_int Try.underlying3 g4
  simp only [tcs] at e2
  cases e0; cases e1; cases e2; cases e3; cases e4
  exact ⟨⟨r0, r1, kd, k0, k1, tx, o0, o1, nx, f, X, cx, t, A, ca, Y, cy, s, e⟩, rfl, ⟨⟨hd2, hr2⟩, hr1⟩, Nat.le_trans hn2 hb2, wr0, wr1, i64_of ws, i64_of we⟩
theorem bulk_len : ∀ (l : List (DataW H)), l.length ≤ Rows.uptoBulkAll l
  | [] => Nat.zero_le _
  | d :: l => by
    have := bulk_len l
    have := bulk_one d
    simp only [Rows.uptoBulkAll, List.length_cons]
    omega
set_option maxRecDepth 10000 in
theorem open_row {v : Value} {d : DataW H} {p : List MemPlace} {b0 B : Nat} {r : Reach} (hval : Value.okWide Try.prog w r b0 38 v) (h : DataW.Trod enc Try.prog w 0 (fun _ => true) true 38 v d p) (hB : Rows.uptoBulk d ≤ B) (hB9 : B ≤ 4000000) :
    ∃ (A : Option Addr) (n cap : Nat) (o : Nat → OD), v = .slice A n cap ∧ RowO w B A n o ∧ (∀ i, i < n → nodes B (o i).td.d ≤ 4000000) ∧ ∀ i, i < n → i64 (o i).r0 ∧ i64 (o i).r1 ∧ i64 (o i).s ∧ i64 (o i).e := by
  obtain ⟨a0, len, cap, rfl⟩ := okWide_slice Try.underlying38 hval
  obtain ⟨fuel, hf⟩ := h
  rcases open_slice Try.underlying38 hf with ⟨hcs, _⟩ | ⟨a, len', cap', m, n, D, Pl, hcs, _, hl, hm, hmm, hx, hi⟩
  · simp [Value.cells] at hcs
    obtain ⟨rfl, rfl, rfl⟩ := hcs
    exact ⟨none, 0, 0, fun _ => odw, rfl, ⟨by omega, fun i hi => absurd hi (by omega), fun h => absurd h (by omega)⟩, fun i hi => absurd hi (by omega), fun i hi => absurd hi (by omega)⟩
  · simp [Value.cells] at hcs
    obtain ⟨rfl, rfl, rfl⟩ := hcs
    simp only [if_true] at hmm
    subst hmm
    have hd : d = .slice ((List.range len).map D) ((List.range (m - len)).map fun j => D (len + j)) := by
      have := congrArg Prod.fst hx
      simpa using this
    have each : ∀ i, i < len → ∃ q : OD, OpAt w (a.add (i * 19)) (ocs q) ∧ IsO w B q ∧ nodes B q.td.d ≤ Rows.uptoBulk (D i) ∧ Rows.uptoBulk (D i) ≤ B ∧ i64 q.r0 ∧ i64 q.r1 ∧ i64 q.s ∧ i64 q.e := by
      intro i hil
      obtain ⟨cs', h1, h2⟩ := hi i (by omega)
      rw [c36'] at h1
      obtain ⟨_, hlen, hcell⟩ := World.cells?_some h1
      have hmem : Rows.uptoBulk (D i) ≤ Rows.uptoBulkAll ((List.range len).map D) := bulk_part (List.mem_map.2 ⟨i, List.mem_range.2 hil, rfl⟩)
      have hb : Rows.uptoBulk (D i) ≤ B := by
        rw [hd] at hB
        simp only [Rows.uptoBulk] at hB
        omega
      obtain ⟨o, ho, hI, hn, hr0, hr1, hs, he⟩ := open36w (fun _ => true) (fun _ => rfl) B (x := (D i, Pl i)) hb h2
      refine ⟨o, ⟨ocs_op o, ?_, fun j u hu => ?_⟩, hI, hn, hb, hr0, hr1, hs, he⟩
      · have d0 := hcell 0 (by omega)
        have hs0 : 0 < cs'.length := by omega
        rw [List.getElem?_eq_getElem hs0] at d0
        have hb := block_lt_of_cell d0
        have e : ((a.add (i * 19)).add 0) = a.add (i * 19) := by unfold Addr.add; simp
        rw [e] at hb
        exact hb
      · have hj : j < cs'.length := by
          have := (Array.getElem?_eq_some_iff.1 hu).1
          rw [(ocs_op o).1] at this
          omega
        rw [hcell j (by omega), ho, Array.getElem?_toList]
        exact hu
    haveI : Inhabited OD := ⟨odw⟩
    obtain ⟨q, hq⟩ := choose_lt each
    have hlb : len ≤ 4000000 := by
      have := bulk_len ((List.range len).map D)
      rw [List.length_map, List.length_range] at this
      rw [hd] at hB
      simp only [Rows.uptoBulk] at hB
      omega
    exact ⟨some a, len, m, q, rfl, ⟨by omega, fun i hi => (hq i hi).2.1, fun _ => ⟨a, rfl, fun i hi => (hq i hi).1⟩⟩, fun i hi => by have := (hq i hi).2.2.1; have := (hq i hi).2.2.2.1; omega, fun i hi => (hq i hi).2.2.2.2⟩
end
end Go.Proofs.Ytplaicdbcfnjbaa
