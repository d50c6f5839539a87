/- Rows of calls that are made: a new variable, a store, a slice literal; the world behind each is known by what it keeps and holds. -/
import Derived.Test.YtplaicdbcfnjbaaV06
import Derived.Great.BuildSlice
import Derived.Test.YtplaicdbcfnjbaaV11
import Derived.Test.YtplaicdbcfnjbaaV08
import Derived.Test.YtplaicdbcfnjbaaV07
set_option linter.unusedSimpArgs false
set_option linter.unusedVariables false
namespace Go.Proofs.Ytplaicdbcfnjbaa
open Go.RowKit
set_option linter.unusedVariables false

def z36 : Array Value := #[.int .i64 0, .int .i64 0, .int .i64 0, .int .i64 0, .int .i64 0, .string ByteArray.empty, .int .i64 0, .int .i64 0, .slice none 0 0, .int .i64 0, .int .i64 0, .int .i64 0, .slice none 0 0, .int .i64 0, .int .i64 0, .string ByteArray.empty, .slice none 0 0, .int .i64 0, .int .i64 0]
theorem run_z36 (w : World) : (Instr.alloc 36 true (.tuple #[])).run Try.prog w = .ok (.pointer (some ⟨w.heap.size, 0, none⟩)) (w.alloc (.cells z36 36)) := by
  kernel_rfl
theorem wp_al36 {o : Oper} {a : Act} {w : World} {K : Act → World → Prop} {Q : Exit → Act → World → Prop} (ho : o.op = .alloc 36)
    (hk : ∀ w', New w w' → Box w' w.heap.size 36 z36 → K (a.put o.dst (.pointer (some ⟨w.heap.size, 0, none⟩))) w') : o.wp Try.prog a w K Q := by
  unfold Oper.wp execOp
  simp only [ho, Sem.run_bind, run_z36, Result.andThen_ok, Sem.run_pure]
  exact hk _ ((New.refl w).alloc _) (Box.made w 36 z36)
theorem wp_st36 {o : Oper} {a : Act} {w : World} {K : Act → World → Prop} {Q : Exit → Act → World → Prop} {x y : Operand} {g : Nat} {c c' : Array Value} (ho : o.op = .store 36 x y)
    (hx : a.eval x = .pointer (some ⟨g, 0, none⟩)) (hy : a.eval y = .agg c') (hb : Box w g 36 c) (hs : c.size = 19) (h1 : IsOp c')
    (hk : ∀ w', (∀ g' t d, g' ≠ g → Box w g' t d → Box w' g' t d) → Box w' g 36 c' → (∀ a : World, a.heap.size ≤ g → New a w → New a w') → K (a.put o.dst undef) w') : o.wp Try.prog a w K Q := by
  refine wp_store_row 36 x y ho g c' hx hy 36 c hb (by rw [size36, h1.1]) (by rw [hs, h1.1]) h1.2 (hk _ ?_ ?_ ?_)
  · intro g' t d hne h
    simp only [Box, World.setRow] at h ⊢
    rw [Array.getElem?_modify, if_neg (fun e => hne e.symm)]; exact h
  · simp only [Box, World.setRow] at hb ⊢
    simp [Array.getElem?_modify, hb]
  · intro a ha h
    exact h.setRow ha _
theorem wpl_al36 {ops : Array Oper} {rest : List Oper} {o : Oper} {a : Act} {w : World} {Q : Exit → Act → World → Prop} (ho : o.op = .alloc 36) (hg : o.guard = none)
    (hk : ∀ w', New w w' → Box w' w.heap.size 36 z36 → wpList Try.prog ops Q rest (a.put o.dst (.pointer (some ⟨w.heap.size, 0, none⟩))) w') : wpList Try.prog ops Q (o :: rest) a w :=
  wpList_plain hg fun K hK => wp_al36 ho fun w' h1 h2 => hK _ _ (hk w' h1 h2)
theorem wpl_st36 {ops : Array Oper} {rest : List Oper} {o : Oper} {a : Act} {w : World} {Q : Exit → Act → World → Prop} {x y : Operand} {g : Nat} {c c' : Array Value} (ho : o.op = .store 36 x y) (hg : o.guard = none)
    (hx : a.eval x = .pointer (some ⟨g, 0, none⟩)) (hy : a.eval y = .agg c') (hb : Box w g 36 c) (hs : c.size = 19) (h1 : IsOp c')
    (hk : ∀ w', (∀ g' t d, g' ≠ g → Box w g' t d → Box w' g' t d) → Box w' g 36 c' → (∀ a : World, a.heap.size ≤ g → New a w → New a w') → wpList Try.prog ops Q rest (a.put o.dst undef) w') : wpList Try.prog ops Q (o :: rest) a w :=
  wpList_plain hg fun K hK => wp_st36 ho hx hy hb hs h1 fun w' h1 h2 h3 => hK _ _ (hk w' h1 h2 h3)
theorem OpAt.of_box {w : World} {g : Nat} {c : Array Value} (h : Box w g 36 c) (hc : IsOp c) : OpAt w ⟨g, 0, none⟩ c := by
  refine ⟨hc, h.lt, fun j v hj => ?_⟩
  rw [Addr.add_mid, Nat.zero_add]
  exact (h.cell j).trans hj
theorem set_at (l : List Value) (o : Nat) : ∀ (k : Nat) (cs : Array Value), ((l.zipIdx k).foldl (fun cs (x : Value × Nat) => cs.setIfInBounds (o + x.2) x.1) cs).size = cs.size ∧
    ∀ i, ((l.zipIdx k).foldl (fun cs (x : Value × Nat) => cs.setIfInBounds (o + x.2) x.1) cs)[i]? = if o + k ≤ i ∧ i < o + k + l.length ∧ i < cs.size then l[i - (o + k)]? else cs[i]? := by
  induction l with
  | nil => intro k cs; refine ⟨by simp, fun i => ?_⟩; rw [if_neg (by simp; omega)]; simp
  | cons v l ih =>
    intro k cs
    obtain ⟨h1, h2⟩ := ih (k + 1) (cs.setIfInBounds (o + k) v)
    rw [List.zipIdx_cons, List.foldl_cons]
    refine ⟨by rw [h1]; simp, fun i => ?_⟩
    rw [h2]
    simp only [Array.size_setIfInBounds, List.length_cons]
    by_cases ha : o + (k + 1) ≤ i ∧ i < o + (k + 1) + l.length ∧ i < cs.size
    · rw [if_pos ha, if_pos (by omega), show i - (o + k) = (i - (o + (k + 1))) + 1 by omega, List.getElem?_cons_succ]
    · rw [if_neg ha, Array.getElem?_setIfInBounds]
      by_cases hk : o + k = i
      · subst hk
        by_cases hs : o + k < cs.size
        · rw [if_pos rfl, if_pos hs, if_pos (by omega), Nat.sub_self, List.getElem?_cons_zero]
        · rw [if_pos rfl, if_neg hs, if_neg (by omega), Array.getElem?_eq_none (by omega)]
      · rw [if_neg hk, if_neg (by omega)]
/-- rows are laid one behind the other -/
theorem fill_rows (c : Nat → Array Value) (hc : ∀ i, (c i).size = 19) (N : Nat) : ∀ (m k : Nat) (base : Array Value), base.size = N * 19 → k + m ≤ N →
    ∃ fl, Instr.fill (fun i => some (i * 19, 19)) base ((List.range' k m).map fun i => (i, .agg (c i))) = some fl ∧ fl.size = N * 19 ∧ (∀ i j, k ≤ i → i < k + m → j < 19 → fl[i * 19 + j]? = (c i)[j]?) ∧ ∀ q, q < k * 19 → fl[q]? = base[q]?
  | 0, k, base, hb, _ => ⟨base, rfl, hb, fun i j h1 h2 => by omega, fun q _ => rfl⟩
  | m + 1, k, base, hb, hk => by
    have hs := set_at (c k).toList (k * 19) 0 base
    obtain ⟨fl, e, s, h1, h2⟩ := fill_rows c hc N m (k + 1) (((c k).toList.zipIdx 0).foldl (fun cs (x : Value × Nat) => cs.setIfInBounds (k * 19 + x.2) x.1) base) (by rw [hs.1, hb]) (by omega)
    refine ⟨fl, ?_, s, fun i j hi hj hj9 => ?_, fun q hq => ?_⟩
    · rw [List.range'_succ, List.map_cons]
      unfold Instr.fill
      have ec : (Value.agg (c k)).cells = c k := rfl
      simp only [ec, hc, hb]
      rw [if_neg (by simp; omega)]
      rw [← Array.foldl_toList, Array.toList_zipIdx]
      exact e
    · by_cases hik : i = k
      · subst hik
        rw [h2 _ (by omega), hs.2, Array.length_toList, hc, Nat.add_zero, if_pos (by omega), Nat.add_sub_cancel_left, Array.getElem?_toList]
      · exact h1 i j (by omega) (by omega) hj9
    · rw [h2 q (by omega), hs.2, if_neg (by omega)]
theorem info36 : (Try.prog.info? 36).map (fun i => (i.zero, i.size, i.bytes)) = some (some (.agg z36), 19, 216) := by kernel_rfl
/-- a slice literal of calls -/
theorem wp_rows {o : Oper} {a : Act} {w : World} {K : Act → World → Prop} {Q : Exit → Act → World → Prop} {n : Nat} {parts : Array (Nat × Operand)} {c : Nat → Array Value}
    (ho : o.op = .buildSlice 38 n parts) (hp : (parts.map fun (i, x) => (i, a.eval x)).toList = (List.range' 0 n).map fun i => (i, .agg (c i))) (hn0 : 0 < n) (hn : n ≤ 40) (hc : ∀ i, IsOp (c i))
    (hk : ∀ w', New w w' → (∀ i, i < n → OpAt w' ((⟨w.heap.size, 0, none⟩ : Addr).add (i * 19)) (c i)) → K (a.put o.dst (.slice (some ⟨w.heap.size, 0, none⟩) n n)) w') : o.wp Try.prog a w K Q := by
  obtain ⟨i0, hi, hz0, hz1, hz2⟩ := info_parts info36
  obtain ⟨fl, e, s, h1, _⟩ := fill_rows c (fun i => (hc i).1) n n 0 ((Array.range (n * 19)).map ((Value.agg z36).cells[· % (Value.agg z36).cells.size]!)) (by simp) (by omega)
  refine wp_buildSlice 38 36 n parts ho fl i0 _ Try.underlying38 hi hz0 (by rw [hz1]; omega) (by rw [hz1]; omega) ?_ (hk _ ((New.refl w).alloc _) fun i hi' => ?_)
  · rw [hz1, hp]; exact e
  · have hb := Box.made w 36 fl
    refine ⟨hc i, by rw [Addr.add_mid]; exact hb.lt, fun j v hj => ?_⟩
    have hj9 : j < 19 := by have := (Array.getElem?_eq_some_iff.1 hj).1; have := (hc i).1; omega
    rw [Addr.add_mid, Addr.add_mid, Nat.zero_add]
    refine (hb.cell _).trans ?_
    rw [h1 i j (by omega) (by omega) hj9]; exact hj
theorem wpl_rows {ops : Array Oper} {rest : List Oper} {o : Oper} {a : Act} {w : World} {Q : Exit → Act → World → Prop} {n : Nat} {parts : Array (Nat × Operand)} {c : Nat → Array Value}
    (ho : o.op = .buildSlice 38 n parts) (hw : Region.wanted o (yielded ops a.tmps) = true) (hp : (parts.map fun (i, x) => (i, a.eval x)).toList = (List.range' 0 n).map fun i => (i, .agg (c i))) (hn0 : 0 < n) (hn : n ≤ 40) (hc : ∀ i, IsOp (c i))
    (hk : ∀ w', New w w' → (∀ i, i < n → OpAt w' ((⟨w.heap.size, 0, none⟩ : Addr).add (i * 19)) (c i)) → wpList Try.prog ops Q rest (a.put o.dst (.slice (some ⟨w.heap.size, 0, none⟩) n n)) w') : wpList Try.prog ops Q (o :: rest) a w :=
  wpList_step fun K hK => by
    rw [if_pos hw]
    exact wp_rows ho hp hn0 hn hc fun w' h1 h2 => hK _ _ (hk w' h1 h2)
end Go.Proofs.Ytplaicdbcfnjbaa
/- hist.clone: a copy of a call, its rows and its tree new. -/
namespace Go.Proofs.Ytplaicdbcfnjbaa
open Go.RowKit
set_option linter.unusedVariables false
set_option maxRecDepth 100000
/-- the call o at other addresses -/
def OD.at (o : OD) (X : Option Addr) (cx : Nat) (A : Option Addr) (ca : Nat) (Y : Option Addr) (cy : Nat) : OD := { o with X := X, cx := cx, A := A, ca := ca, Y := Y, cy := cy }
structure IsOA (P : Nat → Prop) (w : World) (f : Nat) (o : OD) : Prop where
  d : IsDA P w f o.td.d o.A o.ca
  y : ReadsF w .u64 o.Y o.td.ny o.td.y
  x : ReadsF w .u64 o.X o.nx o.x
  yb : ∀ ad, o.Y = some ad → ¬ P ad.block
  xb : ∀ ad, o.X = some ad → ¬ P ad.block
def HCloned (f : Nat) (o : OD) (w : World) (e : Ending) (w' : World) : Prop := ∃ X cx A ca Y cy, e = .returned (.agg (ocs (o.at X cx A ca Y cy))) ∧ IsOA (fun b => b < w.heap.size) w' f (o.at X cx A ca Y cy) ∧ New w w'
theorem copied_new {w w1 w2 : World} {n : Nat} {f : Nat → Nat} {e : Ending} (h : Copied w1 n f e w2) (n1 : New w w1) : ∃ A cap, e = .returned (.slice A n cap) ∧ ReadsF w2 .u64 A n f ∧ (∀ ad, A = some ad → w1.heap.size ≤ ad.block) ∧ New w1 w2 := h
theorem reads_keep {w w' : World} {k : IntKind} {A : Option Addr} {n base : Nat} {f : Nat → Nat} (hs : w.heap.size ≤ w'.heap.size) (hk : ∀ b, base ≤ b → b < w.heap.size → w'.heap[b]? = w.heap[b]?) (hX : ∀ ad, A = some ad → base ≤ ad.block) (h : ReadsF w k A n f) : ReadsF w' k A n f := by
  refine ⟨h.1, fun h0 => ?_⟩
  obtain ⟨g, e2, h5, h6⟩ := h.2 h0
  refine ⟨g, e2, by omega, fun j hj => ?_⟩
  rw [← h6 j hj]
  simp only [World.cell?]
  rw [add_blk, hk _ (hX g e2) h5]
theorem opat_box {w : World} {g : Nat} {c : Array Value} (h : Box w g 36 c) (hc : IsOp c) : OpAt w ⟨g, 0, none⟩ c := by
  refine ⟨hc, h.lt, fun j v hv => ?_⟩
  rw [Addr.add_mid, Nat.zero_add]
  exact (h.cell j).trans hv
theorem new_setRow {w W : World} (h : New w W) {g : Nat} (hg : w.heap.size ≤ g) (cs : Array Value) : New w (W.setRow g cs) :=
  ⟨h.os, h.tape, h.output, by simp; exact h.size, fun b hb => (setRow_other _ _ _ _ (by omega)).trans (h.block b hb)⟩
theorem ldv {W : World} {g : Nat} {c : Array Value} (h : Box W g 36 c) (hc : IsOp c) : (loadVar 36 ⟨g, 0, none⟩).run Try.prog W = .ok (.agg c) W :=
  run_loadVar_row _ _ 36 36 c (0, 0) _ h Try.underlying36 rfl (by rw [size36, hc.1])
theorem res_cell {fn : Func} {tmps : Array Value} {W : World} {g : Nat} {c : Array Value} (hf : fn.results = #[.cell 2 36]) (ht : tmps.getD 2 undef = .pointer (some ⟨g, 0, none⟩)) (h : Box W g 36 c) (hc : IsOp c) : (results fn tmps).run Try.prog W = .ok (.agg c) W := by
  have := ldv h hc
  unfold results
  rw [hf]
  simp only [List.mapM_toArray, List.mapM_cons, List.mapM_nil, Sem.run_bind, ht]
  simp [asAddr, this, Sem.run_bind, Sem.run_pure]
attribute [local irreducible] Go.wpList
set_option maxHeartbeats 400000 in
theorem hclone_any (f : Nat) (o : OD) (w : World) (h : IsO w f o) (hx : o.nx ≤ 4000000) (hy : o.td.ny ≤ 4000000) (hd : nodes f o.td.d ≤ 4000000) : Calls Try.prog 34 #[.agg (ocs o)] w (HCloned f o w) := by
  have CX := Lib.hid (fun w' (m : New w w') => clone47 o.nx o.x o.X o.cx w' (h.x.new m) hx)
  have CY := Lib.hid (fun w' (m : New w w') => clone47 o.td.ny o.td.y o.Y o.cy w' (h.t.y.new m) hy)
  have CD := Lib.hid (fun w' (m : New w w') => clone_any f o.td.d o.A o.ca w' (h.t.d.new m) hd)
  unfold dagg at CD
  clear h hx hy hd
  unfold ocs
  go_enter Try.func34, Try.ntmps34
  have n0 := Lib.hid (((New.refl w).alloc (.cells #[.int .i64 o.r0, .int .i64 o.r1, .int .i64 o.kd, .int .i64 o.k0, .int .i64 o.k1, .string o.tx, .int .i64 o.o0, .int .i64 o.o1, .slice o.X o.nx o.cx, .int .i64 o.td.e, .int .i64 o.td.d.k, .int .i64 o.td.d.n, .slice o.A o.td.d.kids.length o.ca, .int .i64 o.td.n, .int .i64 o.td.l, .string o.td.t, .slice o.Y o.td.ny o.cy, .int .i64 o.s, .int .i64 o.e] 36)).alloc (.cells z36 36))
  have b0 := Lib.hid ((Box.made w 36 #[.int .i64 o.r0, .int .i64 o.r1, .int .i64 o.kd, .int .i64 o.k0, .int .i64 o.k1, .string o.tx, .int .i64 o.o0, .int .i64 o.o1, .slice o.X o.nx o.cx, .int .i64 o.td.e, .int .i64 o.td.d.k, .int .i64 o.td.d.n, .slice o.A o.td.d.kids.length o.ca, .int .i64 o.td.n, .int .i64 o.td.l, .string o.td.t, .slice o.Y o.td.ny o.cy, .int .i64 o.s, .int .i64 o.e]).alloc (.cells z36 36))
  have y0 := Lib.hid (Box.made (w.alloc (.cells #[.int .i64 o.r0, .int .i64 o.r1, .int .i64 o.kd, .int .i64 o.k0, .int .i64 o.k1, .string o.tx, .int .i64 o.o0, .int .i64 o.o1, .slice o.X o.nx o.cx, .int .i64 o.td.e, .int .i64 o.td.d.k, .int .i64 o.td.d.n, .slice o.A o.td.d.kids.length o.ca, .int .i64 o.td.n, .int .i64 o.td.l, .string o.td.t, .slice o.Y o.td.ny o.cy, .int .i64 o.s, .int .i64 o.e] 36)) 36 z36)
  have s0 : ((w.alloc (.cells #[.int .i64 o.r0, .int .i64 o.r1, .int .i64 o.kd, .int .i64 o.k0, .int .i64 o.k1, .string o.tx, .int .i64 o.o0, .int .i64 o.o1, .slice o.X o.nx o.cx, .int .i64 o.td.e, .int .i64 o.td.d.k, .int .i64 o.td.d.n, .slice o.A o.td.d.kids.length o.ca, .int .i64 o.td.n, .int .i64 o.td.l, .string o.td.t, .slice o.Y o.td.ny o.cy, .int .i64 o.s, .int .i64 o.e] 36)).alloc (.cells z36 36)).heap.size = w.heap.size + 2 := by simp
  go_wp2_with (first
    | (go_at_call 47; refine (CX.out _ n0.out).mono ?_; rintro e w1 ⟨X, cx, rfl, rx, hX, m1⟩
       have n1 := Lib.hid (n0.out.trans m1)
       have b1 := Lib.hid (b0.out.new m1)
       have y1 : Hid (Box w1 (w.heap.size + 1) 36 z36) := Lib.hid ((by simpa using y0.out : Box _ (w.heap.size + 1) 36 z36).new m1)
       have RX := Lib.hid rx
       have HX := Lib.hid (fun ad (e : X = some ad) => (by have := hX ad e; rw [show _ = w.heap.size + 2 from s0] at this; exact this : w.heap.size + 2 ≤ ad.block))
       clear hX m1 n0 b0 y0 s0 CX rx
       have p8 := b1.out.cell 8
       have p16 := b1.out.cell 16
       have f8 := b1.out.frozen 8
       simp only [List.getElem?_toArray, List.getElem?_cons_zero, List.getElem?_cons_succ] at p8 p16
       have n1s := Lib.hid (n1.out.setCell (p := ⟨w.heap.size, 8, none⟩) (Nat.le_refl _) (.slice X o.nx cx)))
    | (go_at_call 47; refine (CY.out _ n1s.out).mono ?_; rintro e w2 ⟨Y, cy, rfl, ry, hY, m2⟩
       have n2 := Lib.hid (n1s.out.trans m2)
       have b2 : Hid (Box w2 w.heap.size 36 #[.int .i64 o.r0, .int .i64 o.r1, .int .i64 o.kd, .int .i64 o.k0, .int .i64 o.k1, .string o.tx, .int .i64 o.o0, .int .i64 o.o1, .slice X o.nx cx, .int .i64 o.td.e, .int .i64 o.td.d.k, .int .i64 o.td.d.n, .slice o.A o.td.d.kids.length o.ca, .int .i64 o.td.n, .int .i64 o.td.l, .string o.td.t, .slice o.Y o.td.ny o.cy, .int .i64 o.s, .int .i64 o.e]) := Lib.hid ((by simpa using b1.out.put 8 (.slice X o.nx cx) : Box _ w.heap.size 36 #[.int .i64 o.r0, .int .i64 o.r1, .int .i64 o.kd, .int .i64 o.k0, .int .i64 o.k1, .string o.tx, .int .i64 o.o0, .int .i64 o.o1, .slice X o.nx cx, .int .i64 o.td.e, .int .i64 o.td.d.k, .int .i64 o.td.d.n, .slice o.A o.td.d.kids.length o.ca, .int .i64 o.td.n, .int .i64 o.td.l, .string o.td.t, .slice o.Y o.td.ny o.cy, .int .i64 o.s, .int .i64 o.e]).new m2)
       have y2 : Hid (Box w2 (w.heap.size + 1) 36 z36) := Lib.hid ((y1.out.off (p := ⟨w.heap.size, 8, none⟩) (by show w.heap.size + 1 ≠ w.heap.size; omega) (.slice X o.nx cx)).new m2)
       have RX2 := Lib.hid (reads_keep (base := w.heap.size + 2) (w' := w2) (by have := m2.lt; simpa using this) (fun b hb hlt => (m2.block b (by simpa using hlt)).trans (Below.heap_setCell _ _ _ _ (by show b ≠ w.heap.size; omega))) HX.out RX.out)
       have RY := Lib.hid ry
       have HY := Lib.hid (fun ad (e : Y = some ad) => (by have := hY ad e; have h2 := y1.out.lt; simp at this; omega : w.heap.size + 2 ≤ ad.block))
       have z0 : w.heap.size + 1 < w1.heap.size := y1.out.lt
       clear hY m2 n1 n1s b1 y1 CY ry RX p8 p16 f8
       have p10 := b2.out.cell 10
       have p11 := b2.out.cell 11
       have p12 := b2.out.cell 12
       have p16 := b2.out.cell 16
       have f16 := b2.out.frozen 16
       have f10 := b2.out.frozen 10
       have f11 := b2.out.frozen 11
       have f12 := b2.out.frozen 12
       simp only [List.getElem?_toArray, List.getElem?_cons_zero, List.getElem?_cons_succ] at p10 p11 p12 p16
       have n2s := Lib.hid (n2.out.setCell (p := ⟨w.heap.size, 16, none⟩) (Nat.le_refl _) (.slice Y o.td.ny cy)))
    | (go_at_call 48; refine (CD.out _ n2s.out).mono ?_; rintro e w3 ⟨A, ca, rfl, rd, m3⟩
       have n3 := Lib.hid (n2s.out.trans m3)
       have b3 : Hid (Box w3 w.heap.size 36 #[.int .i64 o.r0, .int .i64 o.r1, .int .i64 o.kd, .int .i64 o.k0, .int .i64 o.k1, .string o.tx, .int .i64 o.o0, .int .i64 o.o1, .slice X o.nx cx, .int .i64 o.td.e, .int .i64 o.td.d.k, .int .i64 o.td.d.n, .slice o.A o.td.d.kids.length o.ca, .int .i64 o.td.n, .int .i64 o.td.l, .string o.td.t, .slice Y o.td.ny cy, .int .i64 o.s, .int .i64 o.e]) := Lib.hid ((by simpa using b2.out.put 16 (.slice Y o.td.ny cy) : Box _ w.heap.size 36 #[.int .i64 o.r0, .int .i64 o.r1, .int .i64 o.kd, .int .i64 o.k0, .int .i64 o.k1, .string o.tx, .int .i64 o.o0, .int .i64 o.o1, .slice X o.nx cx, .int .i64 o.td.e, .int .i64 o.td.d.k, .int .i64 o.td.d.n, .slice o.A o.td.d.kids.length o.ca, .int .i64 o.td.n, .int .i64 o.td.l, .string o.td.t, .slice Y o.td.ny cy, .int .i64 o.s, .int .i64 o.e]).new m3)
       have y3 : Hid (Box w3 (w.heap.size + 1) 36 z36) := Lib.hid ((y2.out.off (p := ⟨w.heap.size, 16, none⟩) (by show w.heap.size + 1 ≠ w.heap.size; omega) (.slice Y o.td.ny cy)).new m3)
       have RX3 := Lib.hid (reads_keep (base := w.heap.size + 2) (w' := w3) (by have := m3.lt; simpa using this) (fun b hb hlt => (m3.block b (by simpa using hlt)).trans (Below.heap_setCell _ _ _ _ (by show b ≠ w.heap.size; omega))) HX.out RX2.out)
       have RY3 := Lib.hid (reads_keep (base := w.heap.size + 2) (w' := w3) (by have := m3.lt; simpa using this) (fun b hb hlt => (m3.block b (by simpa using hlt)).trans (Below.heap_setCell _ _ _ _ (by show b ≠ w.heap.size; omega))) HY.out RY.out)
       have RD := Lib.hid (IsDA.keep (Y := fun b => b < w.heap.size + 2) (Nat.le_refl _) (fun _ _ _ => rfl) (fun b _ hb => (by have := y2.out.lt; simp; omega)) rd)
       clear m3 n2 n2s b2 y2 CD rd RX2 RY p10 p11 p12 p16 f10 f11 f12 f16
       unfold dagg
       have p10 := b3.out.cell 10
       have p11 := b3.out.cell 11
       have p12 := b3.out.cell 12
       have f10 := b3.out.frozen 10
       have f11 := b3.out.frozen 11
       have f12 := b3.out.frozen 12
       simp only [List.getElem?_toArray, List.getElem?_cons_zero, List.getElem?_cons_succ] at p10 p11 p12
       have B4 : Hid (Box (((w3.setCell ⟨w.heap.size, 10, none⟩ (.int .i64 o.td.d.k)).setCell ⟨w.heap.size, 11, none⟩ (.int .i64 o.td.d.n)).setCell ⟨w.heap.size, 12, none⟩ (.slice A o.td.d.kids.length ca)) w.heap.size 36 #[.int .i64 o.r0, .int .i64 o.r1, .int .i64 o.kd, .int .i64 o.k0, .int .i64 o.k1, .string o.tx, .int .i64 o.o0, .int .i64 o.o1, .slice X o.nx cx, .int .i64 o.td.e, .int .i64 o.td.d.k, .int .i64 o.td.d.n, .slice A o.td.d.kids.length ca, .int .i64 o.td.n, .int .i64 o.td.l, .string o.td.t, .slice Y o.td.ny cy, .int .i64 o.s, .int .i64 o.e]) := Lib.hid (by simpa using ((b3.out.put 10 (.int .i64 o.td.d.k)).put 11 (.int .i64 o.td.d.n)).put 12 (.slice A o.td.d.kids.length ca))
       have Y4 := Lib.hid (((y3.out.off (p := ⟨w.heap.size, 10, none⟩) (by show w.heap.size + 1 ≠ w.heap.size; omega) (.int .i64 o.td.d.k)).off (p := ⟨w.heap.size, 11, none⟩) (by show w.heap.size + 1 ≠ w.heap.size; omega) (.int .i64 o.td.d.n)).off (p := ⟨w.heap.size, 12, none⟩) (by show w.heap.size + 1 ≠ w.heap.size; omega) (.slice A o.td.d.kids.length ca))
       have N4 := Lib.hid (((n3.out.setCell (p := ⟨w.heap.size, 10, none⟩) (Nat.le_refl _) (.int .i64 o.td.d.k)).setCell (p := ⟨w.heap.size, 11, none⟩) (Nat.le_refl _) (.int .i64 o.td.d.n)).setCell (p := ⟨w.heap.size, 12, none⟩) (Nat.le_refl _) (.slice A o.td.d.kids.length ca))
       have L4 := Lib.hid (opat_box B4.out (ocs_op (o.at X cx A ca Y cy))))
    | (refine wpl_load rfl rfl L4.out rfl ?_)
    | (refine wpList_store_rowTo rfl 36 (.tmp 2) (.tmp 21) rfl rfl (w.heap.size + 1) #[.int .i64 o.r0, .int .i64 o.r1, .int .i64 o.kd, .int .i64 o.k0, .int .i64 o.k1, .string o.tx, .int .i64 o.o0, .int .i64 o.o1, .slice X o.nx cx, .int .i64 o.td.e, .int .i64 o.td.d.k, .int .i64 o.td.d.n, .slice A o.td.d.kids.length ca, .int .i64 o.td.n, .int .i64 o.td.l, .string o.td.t, .slice Y o.td.ny cy, .int .i64 o.s, .int .i64 o.e] rfl rfl 36 z36 Y4.out (by rw [size36]; exact congrArg some (ocs_op (o.at X cx A ca Y cy)).1.symm) (Eq.trans (by rfl : z36.size = 19) (ocs_op (o.at X cx A ca Y cy)).1.symm) (ocs_op (o.at X cx A ca Y cy)).2 ?_; generalize hW : World.setRow _ _ _ = W5))
  have E5 : Box W5 (w.heap.size + 1) 36 #[.int .i64 o.r0, .int .i64 o.r1, .int .i64 o.kd, .int .i64 o.k0, .int .i64 o.k1, .string o.tx, .int .i64 o.o0, .int .i64 o.o1, .slice X o.nx cx, .int .i64 o.td.e, .int .i64 o.td.d.k, .int .i64 o.td.d.n, .slice A o.td.d.kids.length ca, .int .i64 o.td.n, .int .i64 o.td.l, .string o.td.t, .slice Y o.td.ny cy, .int .i64 o.s, .int .i64 o.e] := by rw [← hW]; exact setRow_heap _ _ _ _ _ _ Y4.out
  have hb5 : ∀ b, w.heap.size + 2 ≤ b → W5.heap[b]? = w3.heap[b]? := fun b hb => by
    rw [← hW, setRow_other _ _ _ _ (by omega), Below.heap_setCell _ _ _ _ (by show b ≠ w.heap.size; omega), Below.heap_setCell _ _ _ _ (by show b ≠ w.heap.size; omega), Below.heap_setCell _ _ _ _ (by show b ≠ w.heap.size; omega)]
  have hs5 : W5.heap.size = w3.heap.size := by rw [← hW]; simp
  have N5 : New w W5 := by rw [← hW]; exact new_setRow N4.out (by omega) _
  have H5 := Lib.hid (⟨hb5, hs5, N5⟩ : _ ∧ _ ∧ _)
  clear hb5 hs5 N5 hW p10 p11 p12 f10 f11 f12 B4 Y4 N4 L4
  try simp only [Act.put, List.setIfInBounds_toArray, List.set_cons_zero, List.set_cons_succ]
  refine bodyPost_ret (v := .agg (ocs (o.at X cx A ca Y cy))) (res_cell Try.results34 rfl E5 (ocs_op (o.at X cx A ca Y cy))) rfl ⟨X, cx, A, ca, Y, cy, rfl, ⟨?_, ?_, ?_, ?_, ?_⟩, H5.out.2.2⟩
  · exact IsDA.keep (Nat.le_of_eq H5.out.2.1.symm) (fun b h _ => H5.out.1 b (by omega)) (fun b _ (h : b < w.heap.size) => by show b < w.heap.size + 2; omega) RD.out
  · exact reads_keep (base := w.heap.size + 2) (Nat.le_of_eq H5.out.2.1.symm) (fun b h _ => H5.out.1 b h) HY.out RY3.out
  · exact reads_keep (base := w.heap.size + 2) (Nat.le_of_eq H5.out.2.1.symm) (fun b h _ => H5.out.1 b h) HX.out RX3.out
  · intro ad e; have := HY.out ad e; show ¬ ad.block < w.heap.size; omega
  · intro ad e; have := HX.out ad e; show ¬ ad.block < w.heap.size; omega
end Go.Proofs.Ytplaicdbcfnjbaa
/- Cut: the reference's. -/
namespace Go.Proofs.Ytplaicdbcfnjbaa
open Go.RowKit
set_option linter.unusedVariables false
def zTD : TD := ⟨0, .mk 0 0 [], 0, 0, ByteArray.empty, 0, fun _ => 0⟩
def OD.open (o : OD) : OD := { o with e := -1, td := zTD, A := none, ca := 0, Y := none, cy := 0 }
def cutE (t : Int) (o : OD) : Bool := (!decide (o.e = -1)) && decide (t ≤ o.e)
def cutO (t : Int) (o : OD) : OD := if cutE t o = true then o.open else o
def cutL (t : Int) (o : Nat → OD) : Nat → List OD
  | 0 => []
  | k + 1 => if t ≤ (o k).s then cutL t o k else cutL t o k ++ [cutO t (o k)]
theorem cutL_le (t : Int) (o : Nat → OD) : ∀ k, (cutL t o k).length ≤ k
  | 0 => Nat.le_refl _
  | k + 1 => by
    have := cutL_le t o k
    unfold cutL
    split
    · omega
    · rw [List.length_append, List.length_singleton]; omega
def rcells (l : List OD) : List Value := l.flatMap fun o => (ocs o).toList
theorem rcells_len : ∀ l : List OD, (rcells l).length = l.length * 19
  | [] => rfl
  | o :: l => by
    have := rcells_len l
    unfold rcells at this ⊢
    rw [List.flatMap_cons, List.length_append, this, List.length_cons, Array.length_toList, (ocs_op o).1]
    omega
theorem rcells_snoc (l : List OD) (o : OD) : rcells (l ++ [o]) = rcells l ++ (ocs o).toList := by
  unfold rcells
  rw [List.flatMap_append]
  simp
/-- a row of calls, owned -/
def OwnO (w : World) (base : Nat) (v : Value) (l : List OD) : Prop := w.ownsRow base 36 19 v l.length (rcells l)
theorem info36a : ∃ i0, Try.prog.info? 36 = some i0 ∧ i0.zero = some (.agg z36) ∧ i0.size = 19 ∧ i0.bytes = 216 := info_parts info36
theorem wpl_put {ops : Array Oper} {rest : List Oper} {o : Oper} {a : Act} {w : World} {Q : Exit → Act → World → Prop} (hgd : o.guard = none) (s x : Operand)
    (ho : o.op = .call { callee := .builtin .append, args := #[s, x], argTypes := #[38, 38] }) (v : Value) (l : List OD) (base : Nat) (p : OD) (ad : Addr)
    (hs : a.eval s = v) (hown : OwnO w base v l) (hx : a.eval x = .slice (some ad) 1 1) (hp : OpAt w ad (ocs p)) (hl : l.length ≤ 4000000) (hb : base ≤ w.heap.size)
    (h : ∀ v' w', OwnO w' base v' (l ++ [p]) → w.grownBy w' v.ownBlock → wpList Try.prog ops Q rest (a.put o.dst v') w') : wpList Try.prog ops Q (o :: rest) a w := by
  obtain ⟨i0, hi, hz0, hz1, hz2⟩ := info36a
  refine wpList_append_own _ hgd s x 38 ho base 36 i0 _ 19 216 Try.underlying38 hi hz0 hz1 hz2 rfl (by decide) v _ _ hs hown ad 1 1 (ocs p).toList hx (by rw [Array.length_toList, (ocs_op p).1]) (fun j u hu => hp.2.2 j u (by simpa using hu)) (fun u hu => (Array.all_eq_true_iff_forall_mem.1 (ocs_op p).2) u (by simpa using hu)) (by unfold maxLen; omega) (by omega) hb (fun v' w' h2 h3 _ => h v' w' ?_ h3)
  unfold OwnO
  rw [rcells_snoc, List.length_append, List.length_singleton]
  exact h2
def OD.ended (o : OD) : OD := { o with e := -1 }
theorem end_cells (o : OD) : (ocs o).setIfInBounds 18 (.int .i64 (-1)) = ocs o.ended := by simp [ocs, OD.ended]
def OD.blank (o : OD) : OD := { o with td := zTD, A := none, ca := 0, Y := none, cy := 0 }
theorem blank_cells (q : OD) : ((((((((((((((((ocs q).setIfInBounds 9 (.int .i64 0))).setIfInBounds 10 (.int .i64 0))).setIfInBounds 11 (.int .i64 0))).setIfInBounds 12 (.slice none 0 0))).setIfInBounds 13 (.int .i64 0))).setIfInBounds 14 (.int .i64 0))).setIfInBounds 15 (.string ByteArray.empty))).setIfInBounds 16 (.slice none 0 0)) = ocs q.blank := by simp [ocs, OD.blank, zTD, DT.k, DT.n, DT.kids]
theorem box_blank {w : World} {g : Nat} {q : OD} (h : Box w g 36 (ocs q)) : Box ((((((((w.setCell ⟨g, 9, none⟩ (.int .i64 0)).setCell ⟨g, 10, none⟩ (.int .i64 0)).setCell ⟨g, 11, none⟩ (.int .i64 0)).setCell ⟨g, 12, none⟩ (.slice none 0 0)).setCell ⟨g, 13, none⟩ (.int .i64 0)).setCell ⟨g, 14, none⟩ (.int .i64 0)).setCell ⟨g, 15, none⟩ (.string ByteArray.empty)).setCell ⟨g, 16, none⟩ (.slice none 0 0)) g 36 (ocs q.blank) := by
  rw [← blank_cells]
  exact (Box.put (Box.put (Box.put (Box.put (Box.put (Box.put (Box.put (Box.put h 9 (.int .i64 0)) 10 (.int .i64 0)) 11 (.int .i64 0)) 12 (.slice none 0 0)) 13 (.int .i64 0)) 14 (.int .i64 0)) 15 (.string ByteArray.empty)) 16 (.slice none 0 0))
theorem new_blank {w0 w : World} {g : Nat} (n : New w0 w) (hg : w0.heap.size ≤ g) : New w0 ((((((((w.setCell ⟨g, 9, none⟩ (.int .i64 0)).setCell ⟨g, 10, none⟩ (.int .i64 0)).setCell ⟨g, 11, none⟩ (.int .i64 0)).setCell ⟨g, 12, none⟩ (.slice none 0 0)).setCell ⟨g, 13, none⟩ (.int .i64 0)).setCell ⟨g, 14, none⟩ (.int .i64 0)).setCell ⟨g, 15, none⟩ (.string ByteArray.empty)).setCell ⟨g, 16, none⟩ (.slice none 0 0)) := (New.setCell (p := ⟨g, 16, none⟩) (New.setCell (p := ⟨g, 15, none⟩) (New.setCell (p := ⟨g, 14, none⟩) (New.setCell (p := ⟨g, 13, none⟩) (New.setCell (p := ⟨g, 12, none⟩) (New.setCell (p := ⟨g, 11, none⟩) (New.setCell (p := ⟨g, 10, none⟩) (New.setCell (p := ⟨g, 9, none⟩) n hg (.int .i64 0)) hg (.int .i64 0)) hg (.int .i64 0)) hg (.slice none 0 0)) hg (.int .i64 0)) hg (.int .i64 0)) hg (.string ByteArray.empty)) hg (.slice none 0 0))
theorem size34 : (Try.prog.info? 34).map (·.size) = some 8 := by kernel_rfl
theorem wpl_blank {ops : Array Oper} {rest : List Oper} {op : Oper} {a : Act} {w : World} {Q : Exit → Act → World → Prop} {q : OD} (hgd : op.guard = none) (x y : Operand) (g : Nat) (ho : op.op = .store 34 x y)
    (hx : a.eval x = .pointer (some ⟨g, 9, none⟩)) (hy : a.eval y = .agg #[.int .i64 0, .int .i64 0, .int .i64 0, .slice none 0 0, .int .i64 0, .int .i64 0, .string ByteArray.empty, .slice none 0 0]) (hb : Box w g 36 (ocs q))
    (h : ∀ w', Box w' g 36 (ocs q.blank) → (∀ w0 : World, New w0 w → w0.heap.size ≤ g → New w0 w') → wpList Try.prog ops Q rest (a.put op.dst undef) w') : wpList Try.prog ops Q (op :: rest) a w := by
  refine wpList_store_mid hgd 34 x y ho g 9 #[.int .i64 0, .int .i64 0, .int .i64 0, .slice none 0 0, .int .i64 0, .int .i64 0, .string ByteArray.empty, .slice none 0 0] hx hy (fun j hj => ⟨?_, hb.frozen _⟩) size34 (by simp [Value.oneCell']) ?_
  · rw [hb.cell, Array.getElem?_eq_getElem (by rw [(ocs_op q).1]; have : j < 8 := hj; omega)]; rfl
  · exact h ((((((((w.setCell ⟨g, 9, none⟩ (.int .i64 0)).setCell ⟨g, 10, none⟩ (.int .i64 0)).setCell ⟨g, 11, none⟩ (.int .i64 0)).setCell ⟨g, 12, none⟩ (.slice none 0 0)).setCell ⟨g, 13, none⟩ (.int .i64 0)).setCell ⟨g, 14, none⟩ (.int .i64 0)).setCell ⟨g, 15, none⟩ (.string ByteArray.empty)).setCell ⟨g, 16, none⟩ (.slice none 0 0)) (box_blank hb) (fun w0 n hg => new_blank n hg)
theorem open_cells (o : OD) : ((((((((((((((((((ocs o).setIfInBounds 18 (.int .i64 (-1)))).setIfInBounds 9 (.int .i64 0))).setIfInBounds 10 (.int .i64 0))).setIfInBounds 11 (.int .i64 0))).setIfInBounds 12 (.slice none 0 0))).setIfInBounds 13 (.int .i64 0))).setIfInBounds 14 (.int .i64 0))).setIfInBounds 15 (.string ByteArray.empty))).setIfInBounds 16 (.slice none 0 0)) = ocs o.open := by simp [ocs, OD.open, zTD, DT.k, DT.n, DT.kids]
theorem box_open {w : World} {g : Nat} {o : OD} (h : Box w g 36 (ocs o)) : Box (((((((((w.setCell ⟨g, 18, none⟩ (.int .i64 (-1))).setCell ⟨g, 9, none⟩ (.int .i64 0)).setCell ⟨g, 10, none⟩ (.int .i64 0)).setCell ⟨g, 11, none⟩ (.int .i64 0)).setCell ⟨g, 12, none⟩ (.slice none 0 0)).setCell ⟨g, 13, none⟩ (.int .i64 0)).setCell ⟨g, 14, none⟩ (.int .i64 0)).setCell ⟨g, 15, none⟩ (.string ByteArray.empty)).setCell ⟨g, 16, none⟩ (.slice none 0 0)) g 36 (ocs o.open) := by
  rw [← open_cells]
  exact (Box.put (Box.put (Box.put (Box.put (Box.put (Box.put (Box.put (Box.put (Box.put h 18 (.int .i64 (-1))) 9 (.int .i64 0)) 10 (.int .i64 0)) 11 (.int .i64 0)) 12 (.slice none 0 0)) 13 (.int .i64 0)) 14 (.int .i64 0)) 15 (.string ByteArray.empty)) 16 (.slice none 0 0))
attribute [local irreducible] Go.wpList
set_option maxRecDepth 100000 in
set_option maxHeartbeats 1000000 in
theorem rcut_any (f n : Nat) (o : Nat → OD) (A : Option Addr) (cap : Nat) (t : Int) (w : World) (hA : RowO w f A n o) (hn : n ≤ 4000000) :
    Calls Try.prog 21 #[.slice A n cap, .int .i64 t] w fun e w' => ∃ v, e = .returned v ∧ OwnO w' w.heap.size v (cutL t o n) ∧ New w w' := by
  have HA := Lib.hid hA
  clear hA
  go_enter Try.func21, Try.ntmps21
  go_wp2_with fail
  go_loopg [6, 5] n (fun q i v wr => ∃ k : Nat, k + q = n ∧ i = .int .i64 k ∧ OwnO wr w.heap.size v (cutL t o k) ∧ New w wr)
  case atStart => exact ⟨0, by omega, rfl, ⟨rfl, Or.inl ⟨rfl, rfl⟩⟩, New.refl w⟩
  case round =>
    obtain ⟨k, hk, rfl, own, nw⟩ := hrel
    by_cases hkn : k < n
    · obtain ⟨ad, rfl, ca⟩ := HA.out.2.2 (by omega)
      have L1 := Lib.hid ((ca k hkn).new nw)
      have hkn' : (k : Int) < n := by omega
      have I1 := Lib.hid (ocs_op (o k))
      have OW := Lib.hid own
      have NW := Lib.hid nw
      have hle := cutL_le t o k
      have HS := Lib.hid (show cutL t o (k + 1) = if t ≤ (o k).s then cutL t o k else cutL t o k ++ [cutO t (o k)] from rfl)
      have B1 := Lib.hid (Box.made wr 36 (ocs (o k)))
      have p17 : (wr.alloc (.cells (ocs (o k)) 36)).cell? ⟨wr.heap.size, 17, none⟩ = some (.int .i64 (o k).s) := B1.out.cell 17
      have p18 : (wr.alloc (.cells (ocs (o k)) 36)).cell? ⟨wr.heap.size, 18, none⟩ = some (.int .i64 (o k).e) := B1.out.cell 18
      have f18 := B1.out.frozen 18
      generalize cutL t o k = l at *
      generalize hr : ocs (o k) = r at *
      clear ca own nw
      by_cases hs : t ≤ (o k).s
      · rw [if_pos hs] at HS
        go_wp2_with (first | (refine wpl_load rfl rfl L1.out rfl ?_) | (refine wpl_store rfl rfl rfl rfl I1.out rfl ?_))
        go_roundg (gk - 1)
        case rel => exact ⟨k + 1, by omega, by go_num, HS.out.symm ▸ own_new OW.out ((New.refl _).alloc _), NW.out.alloc _⟩
        case measure => omega
      · rw [if_neg hs] at HS
        by_cases he : (o k).e = -1
        · have hc : cutO t (o k) = o k := if_neg (by simp [cutE, he])
          rw [hc] at HS
          have L2 := Lib.hid (opat_box B1.out I1.out)
          have I2 := Lib.hid I1.out
          go_wp2_with (first | (refine wpl_load rfl rfl L1.out rfl ?_; clear L1) | (have tk_ := I1; refine wpl_store rfl rfl rfl rfl I1.out rfl ?_; clear I1 tk_) | (refine wpl_load (x := .tmp 7) (p := ⟨wr.heap.size, 0, none⟩) (c := r) rfl rfl ?_ rfl ?_; · exact L2.out) | (refine wpl_rows (n := 1) (c := fun _ => r) rfl rfl (by rw [Array.toList_map]; rfl) (by decide) (by decide) (fun _ => I2.out) ?_; intro w2 m2 hp; have P2 := hp 0 (by decide); rw [Addr.add_mid] at P2; simp only [Nat.zero_mul, Nat.add_zero] at P2; clear hp) | (refine wpl_put rfl (.tmp 34) (.tmp 36) rfl _ l w.heap.size (o k) _ rfl (own_new (own_new OW.out ((New.refl wr).alloc (.cells r 36))) m2) rfl (hr.symm ▸ P2) (by omega) (by have := (NW.out.trans ((New.refl wr).alloc (.cells r 36))).lt; have := m2.lt; omega) ?_; intro v' w3 o3 hgr))
          go_roundg (gk - 1)
          case rel => exact ⟨k + 1, by omega, by go_num, HS.out.symm ▸ o3, ((NW.out.trans ((New.refl wr).alloc (.cells r 36))).trans m2).grown hgr (fun b e => (OW.out.lt _ e).1)⟩
          case measure => omega
        · by_cases ht : t ≤ (o k).e
          · have hc : cutO t (o k) = (o k).open := if_pos (by simp [cutE, he, ht])
            rw [hc] at HS
            obtain ⟨r', hq⟩ : ∃ r', ocs (o k).open = r' := ⟨_, rfl⟩
            have BE : Hid (Box (wr.alloc (.cells (r.setIfInBounds 18 (.int .i64 (-1))) 36)) wr.heap.size 36 (ocs (o k).ended)) := Lib.hid (by rw [← end_cells, hr]; exact Box.made _ _ _)
            have NE := Lib.hid ((New.refl wr).alloc (.cells (r.setIfInBounds 18 (.int .i64 (-1))) 36))
            go_wp2_with (first | (refine wpl_load rfl rfl L1.out rfl ?_; clear L1) | (have tk_ := I1; refine wpl_store rfl rfl rfl rfl I1.out rfl ?_; clear I1 tk_) | (refine wpl_blank (q := (o k).ended) rfl (.tmp 33) (.tmp 32) wr.heap.size rfl rfl rfl BE.out ?_; intro w9 b9 n9; have NO := Lib.hid (n9 wr NE.out (Nat.le_refl _)); have L2 : Hid (OpAt w9 ⟨wr.heap.size, 0, none⟩ r') := Lib.hid (by have q9 := opat_box b9 (ocs_op (o k).open); rw [← hq]; exact q9); clear b9 n9 BE NE p18 f18) | (refine wpl_load (x := .tmp 7) (p := ⟨wr.heap.size, 0, none⟩) (c := r') rfl rfl ?_ rfl ?_; · exact L2.out) | (refine wpl_rows (n := 1) (c := fun _ => r') rfl rfl (by rw [Array.toList_map]; rfl) (by decide) (by decide) (fun _ => (hq ▸ ocs_op (o k).open)) ?_; intro w2 m2 hp; have P2 := hp 0 (by decide); rw [Addr.add_mid] at P2; simp only [Nat.zero_mul, Nat.add_zero] at P2; clear hp) | (refine wpl_put rfl (.tmp 34) (.tmp 36) rfl _ l w.heap.size (o k).open _ rfl (own_new (own_new OW.out NO.out) m2) rfl (hq.symm ▸ P2) (by omega) (by have := (NW.out.trans NO.out).lt; have := m2.lt; omega) ?_; intro v' w3 o3 hgr))
            go_roundg (gk - 1)
            case rel => exact ⟨k + 1, by omega, by go_num, HS.out.symm ▸ o3, ((NW.out.trans NO.out).trans m2).grown hgr (fun b e => (OW.out.lt _ e).1)⟩
            case measure => omega
          · have hc : cutO t (o k) = o k := if_neg (by simp [cutE, ht])
            rw [hc] at HS
            have L2 := Lib.hid (opat_box B1.out I1.out)
            have I2 := Lib.hid I1.out
            go_wp2_with (first | (refine wpl_load rfl rfl L1.out rfl ?_; clear L1) | (have tk_ := I1; refine wpl_store rfl rfl rfl rfl I1.out rfl ?_; clear I1 tk_) | (refine wpl_load (x := .tmp 7) (p := ⟨wr.heap.size, 0, none⟩) (c := r) rfl rfl ?_ rfl ?_; · exact L2.out) | (refine wpl_rows (n := 1) (c := fun _ => r) rfl rfl (by rw [Array.toList_map]; rfl) (by decide) (by decide) (fun _ => I2.out) ?_; intro w2 m2 hp; have P2 := hp 0 (by decide); rw [Addr.add_mid] at P2; simp only [Nat.zero_mul, Nat.add_zero] at P2; clear hp) | (refine wpl_put rfl (.tmp 34) (.tmp 36) rfl _ l w.heap.size (o k) _ rfl (own_new (own_new OW.out ((New.refl wr).alloc (.cells r 36))) m2) rfl (hr.symm ▸ P2) (by omega) (by have := (NW.out.trans ((New.refl wr).alloc (.cells r 36))).lt; have := m2.lt; omega) ?_; intro v' w3 o3 hgr))
            go_roundg (gk - 1)
            case rel => exact ⟨k + 1, by omega, by go_num, HS.out.symm ▸ o3, ((NW.out.trans ((New.refl wr).alloc (.cells r 36))).trans m2).grown hgr (fun b e => (OW.out.lt _ e).1)⟩
            case measure => omega
    · have hkL : k = n := by omega
      subst hkL
      go_wp2
      go_ret
      exact ⟨_, rfl, own, nw⟩
end Go.Proofs.Ytplaicdbcfnjbaa
/- The page's example. -/
namespace Go.Proofs.Ytplaicdbcfnjbaa
open Go.RowKit
set_option linter.unusedVariables false

def T0 : TD := ⟨0, .mk 0 0 [], 0, 0, ByteArray.empty, 0, fun _ => 0⟩
def O0 (r s e : Int) : OD := ⟨r, 0, 0, 0, 0, ByteArray.empty, 0, 0, 0, fun _ => 0, none, 0, T0, none, 0, none, 0, s, e⟩
def row0 (r s e : Int) : Array Value := #[.int .i64 r, .int .i64 0, .int .i64 0, .int .i64 0, .int .i64 0, .string ByteArray.empty, .int .i64 0, .int .i64 0, .slice none 0 0, .int .i64 0, .int .i64 0, .int .i64 0, .slice none 0 0, .int .i64 0, .int .i64 0, .string ByteArray.empty, .slice none 0 0, .int .i64 s, .int .i64 e]
theorem row0_ocs (r s e : Int) : row0 r s e = ocs (O0 r s e) := rfl
theorem D0 (w : World) : IsD w 1 (.mk 0 0 []) none 0 := ⟨by constructor <;> decide, by constructor <;> decide, Nat.le_refl _, by decide, fun h => absurd h (by decide)⟩
theorem R0 (w : World) : ReadsF w .u64 none 0 (fun _ => 0) := ⟨by decide, fun h => absurd h (by decide)⟩
theorem isO0 (r s e : Int) (w : World) : IsO w 1 (O0 r s e) := ⟨⟨D0 w, R0 w⟩, R0 w⟩
def two0 (i : Nat) : OD := if i = 0 then O0 0 1 4 else O0 1 2 3
theorem most0 : mostU two0 2 2 = 2 := by decide
theorem same0 : sameO 1 1 1 (fun _ => O0 0 1 4) (fun _ => O0 0 1 4) = true := by
  refine sameO_yes fun i _ => ?_
  simp [oneO, eq2, eqR, alikeT, sameD, O0, T0, cmpD, or3, cmpI, DT.k, DT.n, DT.kids, cmpK]
attribute [local irreducible] Go.wpList
set_option maxRecDepth 100000 in
set_option maxHeartbeats 4000000 in
theorem live_any (w : World) : Calls Try.prog 7 #[] w fun x w' => x = .returned (.bool true) ∧ New w w' := by
  have IA := Lib.hid (ocs_op (O0 0 1 4))
  have IB := Lib.hid (ocs_op (O0 1 2 3))
  have RA := Lib.hid (row0_ocs 0 1 4)
  have RB := Lib.hid (row0_ocs 1 2 3)
  have A1 := Lib.hid (fun w => ahead_any (ocs (O0 0 1 4)) (ocs (O0 1 2 3)) 4 2 w rfl rfl)
  have A2 := Lib.hid (fun w => ahead_any (ocs (O0 1 2 3)) #[.int .i64 0, .int .i64 0, .int .i64 0, .int .i64 0, .int .i64 0, .string ⟨#[]⟩, .int .i64 0, .int .i64 0, .slice none 0 0, .int .i64 0, .int .i64 0, .int .i64 0, .slice none 0 0, .int .i64 0, .int .i64 0, .string ⟨#[]⟩, .slice none 0 0, .int .i64 5, .int .i64 0] 3 5 w rfl rfl)
  have HI := Lib.hid (fun i => (show IsOp (ocs (two0 i)) from ocs_op _))
  have HI1 := Lib.hid (fun (i : Nat) => ocs_op (O0 0 1 4))
  have RT := Lib.hid (fun (w : World) (A : Option Addr) (h : ∃ ad, A = some ad ∧ ∀ i, i < 2 → OpAt w (ad.add (i * 19)) (ocs (two0 i))) => (⟨by decide, fun i _ => by unfold two0; split <;> exact isO0 _ _ _ w, fun _ => h⟩ : RowO w 1 A 2 two0))
  have RO := Lib.hid (fun (w : World) (A : Option Addr) (h : ∃ ad, A = some ad ∧ ∀ i, i < 1 → OpAt w (ad.add (i * 19)) (ocs (O0 0 1 4))) => (⟨by decide, fun i _ => isO0 _ _ _ w, fun _ => h⟩ : RowO w 1 A 1 (fun _ => O0 0 1 4)))
  have MO := Lib.hid (fun (w : World) (A : Option Addr) (cap : Nat) (h : RowO w 1 A 2 two0) => (most_any 1 2 two0 A cap w h).mono (R' := fun x w' => x = .returned (.int .i64 2) ∧ New w w') fun e w' ⟨h1, h2⟩ => ⟨by rw [h1, most0]; rfl, h2⟩)
  have SA := Lib.hid (fun (w : World) (A B : Option Addr) (ca cb : Nat) (h : RowO w 1 A 1 (fun _ => O0 0 1 4)) (h' : RowO w 1 B 1 (fun _ => O0 0 1 4)) => (hsame_any 1 1 1 _ _ A ca B cb w h h').mono (R' := fun x w' => x = .returned (.bool true) ∧ New w w') fun e w' ⟨h1, h2⟩ => ⟨by rw [h1, same0], h2⟩)
  have a1 : aheadB 4 2 = false := by decide
  have a2 : aheadB 3 5 = true := by decide
  rw [a1] at A1
  rw [a2] at A2
  clear a1 a2
  generalize hra : ocs (O0 0 1 4) = ra at *
  generalize hrb : ocs (O0 1 2 3) = rb at *
  have HT0 := Lib.hid (show ocs (two0 0) = ra from hra)
  have HT1 := Lib.hid (show ocs (two0 1) = rb from hrb)
  clear hra hrb
  have tk0 : True := trivial
  have tk1 : True := trivial
  have tk2 : True := trivial
  have tk3 : True := trivial
  have tk4 : True := trivial
  have tk5 : True := trivial
  have tk6 : True := trivial
  have tk7 : True := trivial
  have tk8 : True := trivial
  have tk9 : True := trivial
  have tk10 : True := trivial
  have tk11 : True := trivial
  have tk12 : True := trivial
  have tk13 : True := trivial
  have tk14 : True := trivial
  have tk15 : True := trivial
  have tk16 : True := trivial
  have tk17 : True := trivial
  go_enter Try.func7, Try.ntmps7
  go_wp2_with (first
    | (have tk_ := tk0; refine wpl_al36 rfl rfl (fun w1 n1 b1 => ?_); clear tk0 tk_)
    | (have tk_ := tk1; refine wpl_al36 rfl rfl (fun w2 n2 b2 => ?_); clear tk1 tk_)
    | (have tk_ := tk2; refine wpl_st36 rfl rfl rfl (by first | exact congrArg Value.agg RA.out | (show Value.agg (row0 0 1 4) = _; rw [RA.out])) (b1.new n2) rfl IA.out (fun w3 k3 c1 r3 => ?_); clear tk2 tk_)
    | (have tk_ := tk3; refine wpl_st36 rfl rfl rfl (by first | exact congrArg Value.agg RB.out | (show Value.agg (row0 1 2 3) = _; rw [RB.out])) (k3 _ _ _ (Nat.ne_of_gt b1.lt) b2) rfl IB.out (fun w4 k4 c2 r4 => ?_); have ca := Lib.hid (OpAt.of_box (k4 _ _ _ (Nat.ne_of_lt b1.lt) c1) IA.out); have cb := Lib.hid (OpAt.of_box c2 IB.out); have m4 := Lib.hid (r4 _ (Nat.le_of_lt b1.lt) (r3 w (Nat.le_refl _) (n1.trans n2))); clear k3 c1 r3 k4 c2 r4 b2; clear tk3 tk_)
    | (have tk_ := tk4; refine wpl_load rfl rfl ca.out rfl ?_; clear tk4 tk_)
    | (have tk_ := tk5; refine wpl_load rfl rfl cb.out rfl ?_; clear tk5 tk_)
    | (have tk_ := tk6; refine wpl_rows (c := fun i => ocs (two0 i)) rfl rfl (by rw [Array.toList_map]; show [(0, Value.agg ra), (1, Value.agg rb)] = [(0, .agg (ocs (two0 0))), (1, .agg (ocs (two0 1)))]; rw [HT0.out, HT1.out]) (by decide) (by decide) HI.out (fun w5 n5 d5 => ?_); have m5 := Lib.hid (m4.out.trans n5); have R5 := Lib.hid (RT.out w5 _ ⟨_, rfl, d5⟩); have e5 := Lib.hid n5; clear d5 n5; clear tk6 tk_)
    | (have tk_ := tk7; go_at_call 18; refine (MO.out _ _ _ R5.out).mono ?_; rintro e w6 ⟨rfl, n6⟩; have m6 := Lib.hid (m5.out.trans n6); have ca6 := Lib.hid (ca.out.new (e5.out.trans n6)); have cb6 := Lib.hid (cb.out.new (e5.out.trans n6)); clear n6 m5 R5 e5 ca cb; clear tk7 tk_)
    | (have tk_ := tk8; refine wpl_load rfl rfl ca6.out rfl ?_; clear tk8 tk_)
    | (have tk_ := tk9; refine wpl_load rfl rfl cb6.out rfl ?_; clear tk9 tk_)
    | (have tk_ := tk10; go_at_call 8; refine (A1.out _).mono ?_; rintro e w7 ⟨rfl, n7⟩; have m7 := Lib.hid (m6.out.trans n7); have ca7 := Lib.hid (ca6.out.new n7); have cb7 := Lib.hid (cb6.out.new n7); clear n7 m6 ca6 cb6; clear tk10 tk_)
    | (have tk_ := tk11; refine wpl_load rfl rfl cb7.out rfl ?_; clear tk11 tk_)
    | (have tk_ := tk12; go_at_call 8; refine (A2.out _).mono ?_; rintro e w8 ⟨rfl, n8⟩; have m8 := Lib.hid (m7.out.trans n8); have ca8 := Lib.hid (ca7.out.new n8); clear n8 m7 ca7 cb7; clear tk12 tk_)
    | (have tk_ := tk13; refine wpl_load rfl rfl ca8.out rfl ?_; clear tk13 tk_)
    | (have tk_ := tk14; refine wpl_rows (c := fun _ => ra) rfl rfl (by rw [Array.toList_map]; rfl) (by decide) (by decide) HI1.out (fun w9 n9 d9 => ?_); have m9 := Lib.hid (m8.out.trans n9); have R9 := Lib.hid (RO.out w9 _ ⟨_, rfl, d9⟩); have ca9 := Lib.hid (ca8.out.new n9); clear d9 n9 m8 ca8; clear tk14 tk_)
    | (have tk_ := tk15; refine wpl_load rfl rfl ca9.out rfl ?_; clear tk15 tk_)
    | (have tk_ := tk16; refine wpl_rows (c := fun _ => ra) rfl rfl (by rw [Array.toList_map]; rfl) (by decide) (by decide) HI1.out (fun w10 n10 d10 => ?_); have m10 := Lib.hid (m9.out.trans n10); have R10 := Lib.hid (RO.out w10 _ ⟨_, rfl, d10⟩); have R9' := Lib.hid (RowO.new R9.out n10); clear d10 n10 m9 R9; clear tk16 tk_)
    | (have tk_ := tk17; go_at_call 10; refine (SA.out _ _ _ _ _ R9'.out R10.out).mono ?_; rintro e w11 ⟨rfl, n11⟩; have m11 := Lib.hid (m10.out.trans n11); clear n11; clear tk17 tk_))
  exact bodyPost_ret (by simp [results, Try.results7, go_sem]) rfl ⟨rfl, m11.out⟩
end Go.Proofs.Ytplaicdbcfnjbaa
