/- Contracts of the small functions that the statement on counts reaches: same, the sum of two, one call's load, the calls of a client. -/
import Derived.Test.YtplejooihfhpdaaCnt
import Derived.Deep.MidRow
namespace Go.Proofs.Ytplejooihfhpdaa
open Go.RowKit
set_option linter.unusedVariables false

theorem info25 : (Try.prog.info? 25).map (fun i => (i.zero, i.size, i.bytes)) = some (some (.agg #[.int .i64 0, .int .i64 0, .int .i64 0, .int .i64 0]), 4, 32) := by kernel_rfl
def Ld.cs (p : Ld) : Array Value := #[.int .i64 p.c, .int .i64 p.e, .int .i64 p.n, .int .i64 p.l]
def two (p q : Ld) : Array Value := #[.int .i64 p.c, .int .i64 p.e, .int .i64 p.n, .int .i64 p.l, .int .i64 q.c, .int .i64 q.e, .int .i64 q.n, .int .i64 q.l]
theorem fill_two (p q : Ld) : Instr.fill (fun i => some (i * 4, 4)) ((Array.range (2 * 4)).map ((Value.agg #[.int .i64 0, .int .i64 0, .int .i64 0, .int .i64 0]).cells[· % (Value.agg #[.int .i64 0, .int .i64 0, .int .i64 0, .int .i64 0]).cells.size]!)) [(0, p.agg), (1, q.agg)] = some (two p q) := by
  obtain ⟨a, b, c, d⟩ := p
  obtain ⟨e, f, g, h⟩ := q
  kernel_rfl
theorem wp_build2 {o : Oper} {a : Act} {w : World} {K : Act → World → Prop} {Q : Exit → Act → World → Prop} {x y : Operand} {p q : Ld}
    (ho : o.op = .buildSlice 22 2 #[(0, x), (1, y)]) (hx : a.eval x = p.agg) (hy : a.eval y = q.agg)
    (h : K (a.put o.dst (.slice (some ⟨w.heap.size, 0, none⟩) 2 2)) (w.alloc (.cells (two p q) 25))) : o.wp Try.prog a w K Q := by
  obtain ⟨i0, hi, hz0, hz1, hz2⟩ := info_parts info25
  refine wp_buildSlice 22 25 2 #[(0, x), (1, y)] ho (two p q) i0 _ Try.underlying22 hi hz0 (by rw [hz1]; decide) (by rw [hz1]; decide) ?_ h
  rw [hz1, Array.toList_map]
  show Instr.fill _ _ [(0, a.eval x), (1, a.eval y)] = _
  rw [hx, hy]
  exact fill_two p q
theorem At4.of_box {w : World} {g : Nat} {t : TypeId} {cs : Array Value} {o : Nat} {p : Ld} (h : Box w g t cs) (h0 : cs[o]? = some (.int .i64 p.c)) (h1 : cs[o + 1]? = some (.int .i64 p.e)) (h2 : cs[o + 2]? = some (.int .i64 p.n)) (h3 : cs[o + 3]? = some (.int .i64 p.l)) : At4 w ⟨g, o, none⟩ p :=
  ⟨h.lt, (h.cell o).trans h0, (h.cell (o + 1)).trans h1, (h.cell (o + 2)).trans h2, (h.cell (o + 3)).trans h3⟩
theorem loads_two (w : World) {p q : Ld} (hp : p.ok) (hq : q.ok) : Loads (w.alloc (.cells (two p q) 25)) (some ⟨w.heap.size, 0, none⟩) 2 (fun k => if k = 0 then p else q) := by
  have hb := Box.made w 25 (two p q)
  refine ⟨fun i _ => by dsimp only; split <;> assumption, fun _ => ⟨_, rfl, fun i hi => ?_⟩⟩
  rw [Addr.add_mid]
  match i, hi with
  | 0, _ => exact At4.of_box hb rfl rfl rfl rfl
  | 1, _ => exact At4.of_box hb rfl rfl rfl rfl
/-- the sum of two that were just laid into a row -/
theorem sum2_any (p q : Ld) {i j : Int} (hp : Lin p i) (hq : Lin q j) (hi : i ≤ 1000000) (hj : j ≤ 1000000) (w : World) :
    Calls Try.prog 7 #[.slice (some ⟨w.heap.size, 0, none⟩) 2 2] (w.alloc (.cells (two p q) 25)) fun e w' => e = .returned (pl p q).agg ∧ New w w' := by
  have h := sum_any (some ⟨w.heap.size, 0, none⟩) 2 2 _ (by decide) _ (loads_two w (lin_ok hp hi) (lin_ok hq hj))
  rw [sum_two hp hq hi hj] at h
  exact h.mono fun e w' ⟨he, hn⟩ => ⟨he, ((New.refl w).alloc _).trans hn⟩
set_option maxHeartbeats 1000000 in
theorem same_any (x : Ld) (w : World) : Calls Try.prog 15 #[x.agg, x.agg] w fun e w' => e = .returned (.bool true) ∧ New w w' := by
  obtain ⟨a, b, c, d⟩ := x
  unfold Ld.agg
  simp only []
  go_enter Try.func15, Try.ntmps15
  go_wp2_with fail
  exact bodyPost_ret (v := .bool true) (by simp [results, Try.results15, go_sem]) rfl ⟨rfl, ((New.refl _).alloc _).alloc _⟩
theorem Box.made' {g : Nat} (w : World) (t : TypeId) (cs : Array Value) (hg : g = w.heap.size) : Box (w.alloc (.cells cs t)) g t cs := by
  subst hg; exact Box.made w t cs
theorem u64_diff {a b : Int} (h : ¬ a ≤ b) (hb : -9223372036854775808 ≤ b) (ha : a ≤ 9223372036854775807) : IntKind.u64.wrap (IntKind.u64.wrap a - IntKind.u64.wrap b) = a - b := by
  simp [IntKind.wrap, IntKind.signed, IntKind.bits, IntKind.min, IntKind.max]
  omega
set_option maxHeartbeats 1000000 in
theorem lasted_is (o : Array Value) (z : Nm) (h : Reads5 o z) (w : World) : Calls Try.prog 26 #[.agg o] w fun e w' => e = .returned (.int .i64 (las z)) ∧ New w w' := by
  obtain ⟨hio, hok, h0, h2, h9, h17, h18⟩ := h
  obtain ⟨-, -, -, f1, t1⟩ := hok
  unfold i64 at f1 t1
  obtain ⟨f1, f2⟩ := f1
  obtain ⟨t1, t2⟩ := t1
  unfold las
  generalize z.fr = fr at *
  generalize z.to = to at *
  clear h0 h2 h9 hio
  by_cases hA : to ≤ fr
  · have q := Lib.hid (⟨f1, f2, t1, t2⟩ : _ ∧ _ ∧ _ ∧ _)
    rw [lasI_a hA]
    clear f1 f2 t1 t2
    go_enter Try.func26, Try.ntmps26
    go_wp2_with fail
    exact bodyPost_ret (v := .int .i64 0) (by simp [results, Try.results26, go_sem]) rfl ⟨rfl, (New.refl _).alloc _⟩
  · have hw := u64_diff hA f1 t2
    have hv : wrap64 (to - fr) = lasI fr to ∨ ¬ to - fr ≤ 1152921504606846976 := by
      by_cases hC : to - fr ≤ 1152921504606846976
      · left
        unfold lasI wrap64
        rw [if_neg hA]
        split <;> omega
      · exact Or.inr hC
    by_cases hC : to - fr ≤ 1152921504606846976
    · have hv' : to - fr = lasI fr to := by
        unfold lasI
        rw [if_neg hA]
        split <;> omega
      have HV := Lib.hid (⟨hv', f1, f2, t1, t2, hv⟩ : _ ∧ _ ∧ _ ∧ _ ∧ _ ∧ _)
      clear f1 f2 t1 t2 hv hv'
      go_enter Try.func26, Try.ntmps26
      go_wp2_with fail
      rw [← HV.out.1]
      exact bodyPost_ret (v := .int .i64 (to - fr)) (by simp [results, Try.results26, go_sem]) rfl ⟨rfl, (New.refl _).alloc _⟩
    · have hv' : lasI fr to = 1152921504606846976 := lasI_c hA (by omega)
      rw [hv']
      have HV := Lib.hid (⟨f1, f2, t1, t2, hv⟩ : _ ∧ _ ∧ _ ∧ _ ∧ _)
      clear f1 f2 t1 t2 hv hv'
      go_enter Try.func26, Try.ntmps26
      go_wp2_with fail
      exact bodyPost_ret (v := .int .i64 1152921504606846976) (by simp [results, Try.results26, go_sem]) rfl ⟨rfl, (New.refl _).alloc _⟩
set_option maxRecDepth 100000 in
set_option maxHeartbeats 2000000 in
theorem one_any (o : Array Value) (z : Nm) (h : Reads5 o z) (w : World) : Calls Try.prog 21 #[.agg o] w fun e w' => e = .returned (oneL z).agg ∧ New w w' := by
  have HL := Lib.hid (fun w => lasted_is o z h w)
  have hi := h.1
  have h9 := h.2.2.2.2.1
  have EY := Lib.hid (fun q w => ended_yes o z.to h.2.2.2.2.2.2 q w)
  have EN := Lib.hid (fun (q : z.to = -1) w => ended_no o (by rw [h.2.2.2.2.2.2, q]) w)
  have C9 := Lib.hid (fun w1 (n1 : New (w.alloc (.cells o 45)) w1) => (n1.cell (p := ⟨w.heap.size, 9, none⟩) (by simp)).trans (((Box.made w 45 _).cell 9).trans h9))
  have OA := Lib.hid (fun w1 (n1 : New (w.alloc (.cells o 45)) w1) => (OpAt.made w o hi).new n1)
  have o1 : oneL z = if z.to = -1 then ⟨1, 0, 0, 0⟩ else ⟨1, if z.er = 0 then 0 else 1, 1, las z⟩ := rfl
  clear h h9
  by_cases ht : z.to = -1
  · rw [if_pos ht] at o1
    rw [o1]
    have HT := Lib.hid ht
    clear ht o1
    go_enter Try.func21, Try.ntmps21
    go_wp2_with (first | (refine wpl_load rfl rfl (OA.out _ (((New.refl _).alloc _).alloc _)) rfl ?_) | (go_at_call 19; refine (EN.out HT.out _).mono ?_; rintro e w1 ⟨rfl, n1⟩; have B1 : Box w1 (w.heap.size + 1) 25 #[.int .i64 0, .int .i64 0, .int .i64 0, .int .i64 0] := Box.new ((Box.made' (w.alloc (.cells o 45)) 25 _ (by simp)).alloc _) n1; have B2 : Box w1 (w.heap.size + 1 + 1) 25 #[.int .i64 1, .int .i64 0, .int .i64 0, .int .i64 0] := Box.new (Box.made' ((w.alloc (.cells o 45)).alloc (.cells #[.int .i64 0, .int .i64 0, .int .i64 0, .int .i64 0] 25)) 25 _ (by simp)) n1; have pc0 := B1.cell 0; have pc1 := B1.cell 1; have pc2 := B1.cell 2; have pc3 := B1.cell 3; have pf0 := B1.frozen 0; have pf1 := B1.frozen 1; have pf2 := B1.frozen 2; have pf3 := B1.frozen 3; have pl := B1.lt; simp only [List.getElem?_toArray, List.getElem?_cons_zero, List.getElem?_cons_succ] at pc0 pc1 pc2 pc3; have qc0 := B2.cell 0; have qc1 := B2.cell 1; have qc2 := B2.cell 2; have qc3 := B2.cell 3; have qf0 := B2.frozen 0; have qf1 := B2.frozen 1; have qf2 := B2.frozen 2; have qf3 := B2.frozen 3; have ql := B2.lt; simp only [List.getElem?_toArray, List.getElem?_cons_zero, List.getElem?_cons_succ] at qc0 qc1 qc2 qc3; have N1 := Lib.hid n1; clear B1 B2 n1))
    refine bodyPost_ret (v := Ld.agg ⟨1, 0, 0, 0⟩) (by simp [results, Try.results21, go_sem, Ld.agg, pc0, pc1, pc2, pc3]) rfl ⟨rfl, ?_⟩
    exact ((((((((New.refl w).alloc _).alloc _).alloc _).trans N1.out).setCell (by simp) _).setCell (by simp) _).setCell (by simp) _).setCell (by simp) _
  · rw [if_neg ht] at o1
    have HT := Lib.hid ht
    clear ht
    by_cases e0 : z.er = 0
    · rw [if_pos e0] at o1
      have t3 : ((z.er) != 0) = false := by simpa using e0
      rw [o1]
      clear o1 e0
      generalize las z = ls at *
      generalize z.er = er at *
      go_enter Try.func21, Try.ntmps21
      go_wp2_with (first | (refine wpl_load rfl rfl (OA.out _ (((New.refl _).alloc _).alloc _)) rfl ?_) | (go_at_call 19; refine (EY.out HT.out _).mono ?_; rintro e w1 ⟨rfl, n1⟩; have B1 : Box w1 (w.heap.size + 1) 25 #[.int .i64 0, .int .i64 0, .int .i64 0, .int .i64 0] := Box.new ((Box.made' (w.alloc (.cells o 45)) 25 _ (by simp)).alloc _) n1; have B2 : Box w1 (w.heap.size + 1 + 1) 25 #[.int .i64 1, .int .i64 0, .int .i64 0, .int .i64 0] := Box.new (Box.made' ((w.alloc (.cells o 45)).alloc (.cells #[.int .i64 0, .int .i64 0, .int .i64 0, .int .i64 0] 25)) 25 _ (by simp)) n1; have pc0 := B1.cell 0; have pc1 := B1.cell 1; have pc2 := B1.cell 2; have pc3 := B1.cell 3; have pf0 := B1.frozen 0; have pf1 := B1.frozen 1; have pf2 := B1.frozen 2; have pf3 := B1.frozen 3; have pl := B1.lt; simp only [List.getElem?_toArray, List.getElem?_cons_zero, List.getElem?_cons_succ] at pc0 pc1 pc2 pc3; have qc0 := B2.cell 0; have qc1 := B2.cell 1; have qc2 := B2.cell 2; have qc3 := B2.cell 3; have qf0 := B2.frozen 0; have qf1 := B2.frozen 1; have qf2 := B2.frozen 2; have qf3 := B2.frozen 3; have ql := B2.lt; simp only [List.getElem?_toArray, List.getElem?_cons_zero, List.getElem?_cons_succ] at qc0 qc1 qc2 qc3; have N1 := Lib.hid n1; have BB1 := Lib.hid B1; have BB2 := Lib.hid B2; clear B1 B2 n1) | (refine wpl_load rfl rfl (OA.out _ ((((((New.refl _).alloc _).alloc _).trans N1.out).setCell (by simp) _))) rfl ?_) | (go_at_call 26; refine (HL.out _).mono ?_; rintro e w2 ⟨rfl, n2⟩; have N2 := Lib.hid n2; clear pc0 pc1 pc2 pc3 pf0 pf1 pf2 pf3 qc0 qc1 qc2 qc3 qf0 qf1 qf2 qf3 pl ql; have B1 := (BB1.out.off (by simp) _).new n2; have B2 := (BB2.out.put 2 _).new n2; have pc0 := B1.cell 0; have pc1 := B1.cell 1; have pc2 := B1.cell 2; have pc3 := B1.cell 3; have pf0 := B1.frozen 0; have pf1 := B1.frozen 1; have pf2 := B1.frozen 2; have pf3 := B1.frozen 3; have pl := B1.lt; simp only [List.setIfInBounds_toArray, List.set_cons_zero, List.set_cons_succ, List.getElem?_toArray, List.getElem?_cons_zero, List.getElem?_cons_succ] at pc0 pc1 pc2 pc3; have qc0 := B2.cell 0; have qc1 := B2.cell 1; have qc2 := B2.cell 2; have qc3 := B2.cell 3; have qf0 := B2.frozen 0; have qf1 := B2.frozen 1; have qf2 := B2.frozen 2; have qf3 := B2.frozen 3; have ql := B2.lt; simp only [List.setIfInBounds_toArray, List.set_cons_zero, List.set_cons_succ, List.getElem?_toArray, List.getElem?_cons_zero, List.getElem?_cons_succ] at qc0 qc1 qc2 qc3; have c9 := C9.out _ (((((((New.refl _).alloc _).alloc _).trans N1.out).setCell (by simp) _)).trans n2); clear B1 B2 n2))
      refine bodyPost_ret (v := Ld.agg ⟨1, 0, 1, ls⟩) (by simp [results, Try.results21, go_sem, Ld.agg, pc0, pc1, pc2, pc3]) rfl ⟨rfl, ?_⟩
      exact ((((((((((((New.refl w).alloc _).alloc _).alloc _).trans N1.out).setCell (by dsimp only; omega) _).trans N2.out).setCell (by dsimp only; omega) _).setCell (by dsimp only; omega) _).setCell (by dsimp only; omega) _).setCell (by dsimp only; omega) _).setCell (by dsimp only; omega) _)
    · rw [if_neg e0] at o1
      have t3 : ((z.er) != 0) = true := by simpa using e0
      rw [o1]
      clear o1 e0
      generalize las z = ls at *
      generalize z.er = er at *
      go_enter Try.func21, Try.ntmps21
      go_wp2_with (first | (refine wpl_load rfl rfl (OA.out _ (((New.refl _).alloc _).alloc _)) rfl ?_) | (go_at_call 19; refine (EY.out HT.out _).mono ?_; rintro e w1 ⟨rfl, n1⟩; have B1 : Box w1 (w.heap.size + 1) 25 #[.int .i64 0, .int .i64 0, .int .i64 0, .int .i64 0] := Box.new ((Box.made' (w.alloc (.cells o 45)) 25 _ (by simp)).alloc _) n1; have B2 : Box w1 (w.heap.size + 1 + 1) 25 #[.int .i64 1, .int .i64 0, .int .i64 0, .int .i64 0] := Box.new (Box.made' ((w.alloc (.cells o 45)).alloc (.cells #[.int .i64 0, .int .i64 0, .int .i64 0, .int .i64 0] 25)) 25 _ (by simp)) n1; have pc0 := B1.cell 0; have pc1 := B1.cell 1; have pc2 := B1.cell 2; have pc3 := B1.cell 3; have pf0 := B1.frozen 0; have pf1 := B1.frozen 1; have pf2 := B1.frozen 2; have pf3 := B1.frozen 3; have pl := B1.lt; simp only [List.getElem?_toArray, List.getElem?_cons_zero, List.getElem?_cons_succ] at pc0 pc1 pc2 pc3; have qc0 := B2.cell 0; have qc1 := B2.cell 1; have qc2 := B2.cell 2; have qc3 := B2.cell 3; have qf0 := B2.frozen 0; have qf1 := B2.frozen 1; have qf2 := B2.frozen 2; have qf3 := B2.frozen 3; have ql := B2.lt; simp only [List.getElem?_toArray, List.getElem?_cons_zero, List.getElem?_cons_succ] at qc0 qc1 qc2 qc3; have N1 := Lib.hid n1; have BB1 := Lib.hid B1; have BB2 := Lib.hid B2; clear B1 B2 n1) | (refine wpl_load rfl rfl (OA.out _ ((((((New.refl _).alloc _).alloc _).trans N1.out).setCell (by simp) _))) rfl ?_) | (go_at_call 26; refine (HL.out _).mono ?_; rintro e w2 ⟨rfl, n2⟩; have N2 := Lib.hid n2; clear pc0 pc1 pc2 pc3 pf0 pf1 pf2 pf3 qc0 qc1 qc2 qc3 qf0 qf1 qf2 qf3 pl ql; have B1 := (BB1.out.off (by simp) _).new n2; have B2 := (BB2.out.put 2 _).new n2; have pc0 := B1.cell 0; have pc1 := B1.cell 1; have pc2 := B1.cell 2; have pc3 := B1.cell 3; have pf0 := B1.frozen 0; have pf1 := B1.frozen 1; have pf2 := B1.frozen 2; have pf3 := B1.frozen 3; have pl := B1.lt; simp only [List.setIfInBounds_toArray, List.set_cons_zero, List.set_cons_succ, List.getElem?_toArray, List.getElem?_cons_zero, List.getElem?_cons_succ] at pc0 pc1 pc2 pc3; have qc0 := B2.cell 0; have qc1 := B2.cell 1; have qc2 := B2.cell 2; have qc3 := B2.cell 3; have qf0 := B2.frozen 0; have qf1 := B2.frozen 1; have qf2 := B2.frozen 2; have qf3 := B2.frozen 3; have ql := B2.lt; simp only [List.setIfInBounds_toArray, List.set_cons_zero, List.set_cons_succ, List.getElem?_toArray, List.getElem?_cons_zero, List.getElem?_cons_succ] at qc0 qc1 qc2 qc3; have c9 := C9.out _ (((((((New.refl _).alloc _).alloc _).trans N1.out).setCell (by simp) _)).trans n2); clear B1 B2 n2))
      refine bodyPost_ret (v := Ld.agg ⟨1, 1, 1, ls⟩) (by simp [results, Try.results21, go_sem, Ld.agg, pc0, pc1, pc2, pc3]) rfl ⟨rfl, ?_⟩
      exact (((((((((((((New.refl w).alloc _).alloc _).alloc _).trans N1.out).setCell (by dsimp only; omega) _).trans N2.out).setCell (by dsimp only; omega) _).setCell (by dsimp only; omega) _).setCell (by dsimp only; omega) _).setCell (by dsimp only; omega) _).setCell (by dsimp only; omega) _).setCell (by dsimp only; omega) _)
end Go.Proofs.Ytplejooihfhpdaa
