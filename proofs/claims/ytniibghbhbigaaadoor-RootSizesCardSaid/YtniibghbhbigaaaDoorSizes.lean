/- Sizes: all that the iterator gives, sorted. -/
import Derived.RangeFuncBox
import Derived.Sort.OwnSortedInts
import Derived.Shelf.Slices.In.SortNone
import Derived.Test.YtniibghbhbigaaaDoorIter
import Derived.Test.YtniibghbhbigaaaDoorShelf
namespace Go.Proofs.YtniibghbhbigaaaDoor
open Go.RowKit Go.Shelf
set_option linter.unusedVariables false

theorem infoI : (Tryd.prog.info? 3).map (fun i => (i.zero, i.size, i.bytes)) = some (some (.int .i64 0), 1, 8) := by kernel_rfl
def ints (l : List Nat) : List Value := l.map fun x : Nat => Value.int .i64 (x : Int)
theorem ints_snoc (l : List Nat) (x : Nat) : ints (l ++ [x]) = ints l ++ [.int .i64 (x : Int)] := by simp [ints]
theorem sort_own {w : World} {base : Nat} {v : Value} {zs : List Int} (h : w.ownsRow base 3 1 v zs.length (zs.map (Value.int .i64))) (hl : zs.length < 4611686018427387904) :
    Calls Tryd.prog 18 #[v] w fun e w' => e = .returned (.tuple #[]) ∧ w'.ownsRow base 3 1 v zs.length ((zs.mergeSort fun x y => decide (x ≤ y)).map (Value.int .i64)) ∧ w.grownBy w' v.ownBlock := by
  rcases h.2 with ⟨rfl, h0⟩ | ⟨gb, cap, cur, rfl, hbase, hb, h1, h2, h3, h4⟩
  · obtain rfl : zs = [] := List.length_eq_zero_iff.1 h0
    refine (Any.slices_Sort_int_none Tryd.lays189 none 0 w).mono ?_
    rintro e w' ⟨rfl, rfl⟩
    exact ⟨rfl, by rw [List.mergeSort_nil]; exact World.ownsRow_nil _ _ _ _, ⟨rfl, rfl, rfl, Nat.le_refl _, fun _ _ _ => rfl⟩⟩
  · have hgb : gb < w.heap.size := (Array.getElem?_eq_some_iff.1 hb).1
    have hH := holds_of_blockI (ss := zs) hb (by simpa using h4)
    have q : Calls Tryd.prog 18 #[.slice (some ⟨gb, 0, none⟩) zs.length cap] w _ := Tryd.slices_Sort_int gb 0 cap zs w hH hgb hl
    refine q.mono ?_
    rintro e w' ⟨rfl, n, os, rfl⟩
    exact ⟨rfl, ownsRow_sortedI (ss := zs) (ts := zs.mergeSort _) (List.length_mergeSort _) hbase hb h1 h2 h3, grownBy_sortedI _⟩
theorem own_less {W : World} {b b' : Nat} {e : TypeId} {size n : Nat} {v : Value} {xs : List Value} (h : W.ownsRow b' e size v n xs) (hb : b ≤ b') : W.ownsRow b e size v n xs := by
  refine ⟨h.1, ?_⟩
  rcases h.2 with h0 | ⟨g, cap, cur, hv, hg, r⟩
  · exact .inl h0
  · exact .inr ⟨g, cap, cur, hv, Nat.le_trans hb hg, r⟩
theorem own_set {W : World} {b base : Nat} {e : TypeId} {size n : Nat} {v : Value} {xs : List Value} (h : W.ownsRow base e size v n xs) (hb : b < base) (u : Value) : (W.setCell ⟨b, 0, none⟩ u).ownsRow base e size v n xs := by
  refine h.kept (grownBy_setCell' W b u) ?_
  cases hv : v.ownBlock with
  | none => exact .inl rfl
  | some k => exact .inr (fun e => by cases e; have := (h.lt _ hv).1; omega)
theorem own_not {W : World} {base D : Nat} {e : TypeId} {size n : Nat} {v : Value} {xs : List Value} {o : Obj} (h : W.ownsRow base e size v n xs) (hD : W.heap[D]? = some o) (ho : o.isCells = false) : some D ≠ v.ownBlock := by
  rcases h.2 with ⟨rfl, _⟩ | ⟨g, cap, cur, rfl, _, hgb, _⟩
  · simp [Value.ownBlock]
  · intro e'
    obtain rfl : D = g := by simpa [Value.ownBlock] using e'
    rw [hgb] at hD; cases hD; cases ho
theorem kq_b {n₀ Bn : Nat} {W : World} {l : Nat} {o o' : Obj} (hl : n₀ ≤ l ∧ Bn < l) (h : W.heap[l]? = some o) : Kq n₀ Bn W (W.putObj l o') := by
  have hlt := (Array.getElem?_eq_some_iff.1 h).1
  have g := grownBy_putObj' W l o'
  exact ⟨(Below.refl n₀ W).grown g (by omega) (fun k e => by cases e; omega), by omega, g.block _ (by omega) (fun e => by cases e; omega)⟩
theorem kq_app {n₀ B Bn base : Nat} {W w1 : World} {e : TypeId} {size n : Nat} {v v' : Value} {xs : List Value} {tmp : Obj} (hr : W.ownsRow base e size v n xs) (hg : (W.alloc tmp).grownBy w1 v.ownBlock) (hb : Below n₀ W (w1.setCell ⟨B, 0, none⟩ v')) (h1 : Bn < base) (h2 : B ≠ Bn) (h3 : Bn < W.heap.size) : Kq n₀ Bn W (w1.setCell ⟨B, 0, none⟩ v') := by
  refine ⟨hb, h3, ?_⟩
  rw [(grownBy_setCell' w1 B v').block Bn (Nat.lt_of_lt_of_le h3 (Nat.le_trans (by simp) hg.size)) (fun e => by cases e; exact h2 rfl)]
  rw [hg.block Bn (by simp; omega) (fun e => by have := (hr.lt _ e.symm).1; omega)]
  exact Below.heap_alloc _ _ _ h3
set_option maxRecDepth 100000 in
set_option maxHeartbeats 4000000 in
theorem sizes_in (n : Nat) (hn : 3 ≤ n) (a : Int) (M : Int) (hMin : min a 16777216 = M) (m : Nat) (hM : M.toNat = m) (hm : m ≤ 16777216) (w : World) (hT : Table w) (hw : 0 < w.heap.size) :
    CallsIn Fence.wide n Tryd.prog 9 #[.int .i64 a] w fun e W' => ∃ v, e = .returned v ∧ W'.ownsRow (w.heap.size + 2) 3 1 v (sizesI m).length ((sizesI m).map (Value.int .i64)) ∧ Below w.heap.size w W' := by
  have h1 : 1 ≤ n := by omega
  have hlen := szs_len hm
  obtain ⟨i0, hi, hz0, hz1, hz2⟩ := info_parts infoI
  refine callsIn_of_wp_marks Tryd.func9 rfl trivial ?_ rfl
  simp only [Tryd.ntmps9, List.size_toArray, List.length_cons, List.length_nil, Nat.reduceAdd, Nat.reduceSub, Array.replicate_succ, Array.replicate_zero, List.push_toArray, List.append_toArray, List.nil_append, List.cons_append]
  gi_wp2_with (refine ⟨trivial, ?_⟩; gi_at_call 17; refine (all_in Fence.wide (n - 1) trivial rfl _ _).mono ?_; rintro e w' ⟨rfl, rfl⟩)
  have bO := Boxed.new w 30 (.slice none 0 0)
  have bN := Boxed.new (w.alloc (.cells #[.slice none 0 0] 30)) 3 (.int .i64 M)
  rw [World.size_alloc] at bN
  have hB0 : Below w.heap.size w ((w.alloc (.cells #[.slice none 0 0] 30)).alloc (.cells #[.int .i64 M] 3)) := ((Below.refl _ w).alloc (Nat.le_refl _) _).alloc (by simp) _
  refine wpIn_rangeFunc_ownG rfl h1 (gf := 21) (lb := #[.pointer (some ⟨w.heap.size + 1, 0, none⟩)]) rfl trivial (enters_of Tryd.func21 (by kernel_rfl) rfl)
    (all_stops Fence.wide (n - 1) trivial rfl (by omega) (w.heap.size + 1) w.heap.size M m hM hm _ (by simp) hw bN.cell (hT.below hB0 hw) (by simp)) Kq.trans (fun W l o o' h1 h2 h3 h4 => kq_b (by simp at h1; omega) h2) (Below.refl _ _) (fun _ => rfl)
    (fun pre W => (∃ v, Boxed W w.heap.size 30 v ∧ W.ownsRow (w.heap.size + 2) 3 1 v pre.length (ints pre) ∧ (v = .slice none 0 0 ↔ pre = [])) ∧ Kq w.heap.size (w.heap.size + 1) ((w.alloc (.cells #[.slice none 0 0] 30)).alloc (.cells #[.int .i64 M] 3)) W)
    (fun _ _ _ => False)
    (OwnFrom.and (Own.from (holdsRow_own (w.heap.size + 2) w.heap.size 30 3 1 (fun pre : List Nat => pre.length) (fun pre => ints pre) (fun pre v => v = .slice none 0 0 ↔ pre = [])) _) (fun s A B row ⟨h1, h2, h3⟩ hg hr => ⟨h1.grown hg (Nat.le_trans (by simp; omega) h1.size) (fun k e => by have := (hr k e).1; simp at this; omega), h2, by rw [hg.block _ (Nat.lt_of_lt_of_le (by simp) h1.size) (fun e => by have := (hr _ e.symm).1; simp at this; omega)]; exact h3⟩))
    (fun _ _ _ _ _ hs _ _ => hs)
    ⟨⟨_, bO.alloc _, World.ownsRow_nil _ _ _ _, by simp⟩, Kq.refl _ (by simp)⟩
    (fun x : Nat => { tmps := #[.int .i64 a, undef, .slice none 0 0, .pointer (some ⟨w.heap.size, 0, none⟩), .int .i64 (x : Int), .int .i64 a, .int .i64 M, .func (.func 21) #[] #[.pointer (some ⟨w.heap.size + 1, 0, none⟩)], .int .i64 (x : Int), undef, undef, undef, undef, undef, undef, undef], defers := [] }) ?assign ?body ?done ?stop
  case assign =>
    have hsa := @Oper.semAt_some
    intro l x W K hK
    gi_wp2
    exact hK
  case body =>
    rintro l pre x W ⟨⟨v, hv, hrow, hnil⟩, hB⟩ hlt
    have hsa := @Oper.semAt_some
    have hc := hv.cell
    have hsz : w.heap.size + 2 ≤ W.heap.size := by have := hB.1.size; simpa using this
    gi_wp2_with (gi_at_builtin; refine wpListIn_append_own _ rfl _ _ 30 rfl (w.heap.size + 2) 3 i0 (.int .i64 0) 1 8 Tryd.underlying30 hi hz0 hz1 hz2 rfl (by decide) _ _ _ rfl (hrow.alloc _) ⟨W.heap.size, 0, none⟩ 1 1 [.int .i64 (x : Int)] rfl rfl (cell_one_new _ _ _) (by simp [Value.oneCell']) (by unfold maxLen; omega) (by omega) (by simp; omega) ?_; intro v' w1 hown' hgrow _; obtain ⟨g', cap', rfl⟩ := ownsRow_succ hown'; obtain ⟨hv1, hv2, hr2, hk2, hb2⟩ := hv.appended (by decide) (own_less hrow (show w.heap.size ≤ w.heap.size + 2 by omega)) (by omega) (Nat.le_refl _) (own_less hown' (show w.heap.size ≤ w.heap.size + 2 by omega)) hgrow; have hc1 := hv1.cell; have hf1 := hv1.frozen)
    have hr3 := own_set hown' (b := w.heap.size) (by omega) (.slice (some ⟨g', 0, none⟩) (pre.length + 1) cap')
    have hkq := kq_app (n₀ := w.heap.size) (B := w.heap.size) (Bn := w.heap.size + 1) hrow hgrow hb2 (by omega) (by omega) (by omega)
    exact ⟨hk2.from _, hkq, ⟨_, hv2, by rw [ints_snoc]; simpa using hr3, by simp⟩, hB.trans hkq⟩
  case done =>
    rintro D ys W hD rfl ⟨⟨v, hv, hrow, hnil⟩, hB⟩ hK
    have hc := hv.cell
    have hrow' : W.ownsRow (w.heap.size + 2) 3 1 v ((szs m).map fun x : Nat => (x : Int)).length (((szs m).map fun x : Nat => (x : Int)).map (Value.int .i64)) := by
      rw [List.length_map, List.map_map]; exact hrow
    have SO := sort_own hrow' (by rw [List.length_map]; omega)
    have hne := Boxed.not_row hv (by decide) hrow
    have HB := Lib.hid (⟨hB.1, hrow, hnil⟩ : _ ∧ _ ∧ _)
    have HC := Lib.hid (fun w3 (g3 : W.grownBy w3 v.ownBlock) => (hv.kept g3 hne).cell)
    have HD := Lib.hid (fun w3 (g3 : W.grownBy w3 v.ownBlock) => (g3.block D (Array.getElem?_eq_some_iff.1 hK).1 (own_not hrow hK rfl)).trans hK)
    clear hB hrow hnil hrow'
    gi_wp2_with (refine ⟨trivial, ?_⟩; gi_at_call 18; refine (callsIn_wide.2 SO).mono ?_; rintro e w3 ⟨rfl, o3, g3⟩; have hc3 := HC.out w3 g3)
    have hK3 := HD.out w3 g3
    obtain ⟨hB1, hrow, hnil⟩ := HB.out
    have hB3 : Below w.heap.size w w3 := (hB0.trans hB1).grown g3 (Nat.le_trans (by simp; omega) hB1.size) (fun k e => by have := (hrow.lt k e).1; omega)
    refine ⟨by simp, .inl ⟨_, _, rfl, run_takeDeferred hK3, ?_⟩⟩
    refine ⟨_, results_tmp rfl _ _ _, v, rfl, ?_, hB3.trans (belowK_b (w := w) (Nat.le_refl _) w3 D _ _ (by simp at hD; omega) hK3 rfl rfl)⟩
    refine ownsRow_putObj ?_ _ hK3 rfl
    unfold sizesI
    rw [List.length_mergeSort]
    exact o3
  case stop =>
    rintro D c pre W _ _ h _
    exact h.elim
end Go.Proofs.YtniibghbhbigaaaDoor
