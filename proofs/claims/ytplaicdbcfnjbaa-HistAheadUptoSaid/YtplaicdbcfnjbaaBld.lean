/- Rows of calls that are made: a new variable, a store, a slice literal; the world behind each is known by what it keeps and holds. -/
import Derived.Test.YtplaicdbcfnjbaaS1
import Derived.Great.BuildSlice
namespace Go.Proofs.Ytplaicdbcfnjbaa
open Go.RowKit
set_option linter.unusedVariables false

def z36 : Array Value := #[.int .i64 0, .int .i64 0, .int .i64 0, .int .i64 0, .int .i64 0, .string ByteArray.empty, .int .i64 0, .int .i64 0, .slice none 0 0, .int .i64 0, .int .i64 0, .int .i64 0, .slice none 0 0, .int .i64 0, .int .i64 0, .string ByteArray.empty, .slice none 0 0, .int .i64 0, .int .i64 0]
theorem run_z36 (w : World) : (Instr.alloc 36 true (.tuple #[])).run Try.prog w = .ok (.pointer (some ⟨w.heap.size, 0, none⟩)) (w.alloc (.cells z36 36)) := by
  kernel_rfl
theorem wp_al36 {o : Oper} {a : Act} {w : World} {K : Act → World → Prop} {Q : Exit → Act → World → Prop} (ho : o.op = .alloc 36)
    (hk : ∀ w', New w w' → Box w' w.heap.size 36 z36 → K (a.put o.dst (.pointer (some ⟨w.heap.size, 0, none⟩))) w') : o.wp Try.prog a w K Q := by
  unfold Oper.wp execOp
  simp only [ho, Sem.run_bind, run_z36, Result.andThen_ok, Sem.run_pure]
  exact hk _ ((New.refl w).alloc _) (Box.made w 36 z36)
theorem wp_st36 {o : Oper} {a : Act} {w : World} {K : Act → World → Prop} {Q : Exit → Act → World → Prop} {x y : Operand} {g : Nat} {c c' : Array Value} (ho : o.op = .store 36 x y)
    (hx : a.eval x = .pointer (some ⟨g, 0, none⟩)) (hy : a.eval y = .agg c') (hb : Box w g 36 c) (hs : c.size = 19) (h1 : IsOp c')
    (hk : ∀ w', (∀ g' t d, g' ≠ g → Box w g' t d → Box w' g' t d) → Box w' g 36 c' → (∀ a : World, a.heap.size ≤ g → New a w → New a w') → K (a.put o.dst undef) w') : o.wp Try.prog a w K Q := by
  refine wp_store_row 36 x y ho g c' hx hy 36 c hb (by rw [size36, h1.1]) (by rw [hs, h1.1]) h1.2 (hk _ ?_ ?_ ?_)
  · intro g' t d hne h
    simp only [Box, World.setRow] at h ⊢
    rw [Array.getElem?_modify, if_neg (fun e => hne e.symm)]; exact h
  · simp only [Box, World.setRow] at hb ⊢
    simp [Array.getElem?_modify, hb]
  · intro a ha h
    exact h.setRow ha _
theorem wpl_al36 {ops : Array Oper} {rest : List Oper} {o : Oper} {a : Act} {w : World} {Q : Exit → Act → World → Prop} (ho : o.op = .alloc 36) (hg : o.guard = none)
    (hk : ∀ w', New w w' → Box w' w.heap.size 36 z36 → wpList Try.prog ops Q rest (a.put o.dst (.pointer (some ⟨w.heap.size, 0, none⟩))) w') : wpList Try.prog ops Q (o :: rest) a w :=
  wpList_plain hg fun K hK => wp_al36 ho fun w' h1 h2 => hK _ _ (hk w' h1 h2)
theorem wpl_st36 {ops : Array Oper} {rest : List Oper} {o : Oper} {a : Act} {w : World} {Q : Exit → Act → World → Prop} {x y : Operand} {g : Nat} {c c' : Array Value} (ho : o.op = .store 36 x y) (hg : o.guard = none)
    (hx : a.eval x = .pointer (some ⟨g, 0, none⟩)) (hy : a.eval y = .agg c') (hb : Box w g 36 c) (hs : c.size = 19) (h1 : IsOp c')
    (hk : ∀ w', (∀ g' t d, g' ≠ g → Box w g' t d → Box w' g' t d) → Box w' g 36 c' → (∀ a : World, a.heap.size ≤ g → New a w → New a w') → wpList Try.prog ops Q rest (a.put o.dst undef) w') : wpList Try.prog ops Q (o :: rest) a w :=
  wpList_plain hg fun K hK => wp_st36 ho hx hy hb hs h1 fun w' h1 h2 h3 => hK _ _ (hk w' h1 h2 h3)
theorem OpAt.of_box {w : World} {g : Nat} {c : Array Value} (h : Box w g 36 c) (hc : IsOp c) : OpAt w ⟨g, 0, none⟩ c := by
  refine ⟨hc, h.lt, fun j v hj => ?_⟩
  rw [Addr.add_mid, Nat.zero_add]
  exact (h.cell j).trans hj
theorem set_at (l : List Value) (o : Nat) : ∀ (k : Nat) (cs : Array Value), ((l.zipIdx k).foldl (fun cs (x : Value × Nat) => cs.setIfInBounds (o + x.2) x.1) cs).size = cs.size ∧
    ∀ i, ((l.zipIdx k).foldl (fun cs (x : Value × Nat) => cs.setIfInBounds (o + x.2) x.1) cs)[i]? = if o + k ≤ i ∧ i < o + k + l.length ∧ i < cs.size then l[i - (o + k)]? else cs[i]? := by
  induction l with
  | nil => intro k cs; refine ⟨by simp, fun i => ?_⟩; rw [if_neg (by simp; omega)]; simp
  | cons v l ih =>
    intro k cs
    obtain ⟨h1, h2⟩ := ih (k + 1) (cs.setIfInBounds (o + k) v)
    rw [List.zipIdx_cons, List.foldl_cons]
    refine ⟨by rw [h1]; simp, fun i => ?_⟩
    rw [h2]
    simp only [Array.size_setIfInBounds, List.length_cons]
    by_cases ha : o + (k + 1) ≤ i ∧ i < o + (k + 1) + l.length ∧ i < cs.size
    · rw [if_pos ha, if_pos (by omega), show i - (o + k) = (i - (o + (k + 1))) + 1 by omega, List.getElem?_cons_succ]
    · rw [if_neg ha, Array.getElem?_setIfInBounds]
      by_cases hk : o + k = i
      · subst hk
        by_cases hs : o + k < cs.size
        · rw [if_pos rfl, if_pos hs, if_pos (by omega), Nat.sub_self, List.getElem?_cons_zero]
        · rw [if_pos rfl, if_neg hs, if_neg (by omega), Array.getElem?_eq_none (by omega)]
      · rw [if_neg hk, if_neg (by omega)]
/-- rows are laid one behind the other -/
theorem fill_rows (c : Nat → Array Value) (hc : ∀ i, (c i).size = 19) (N : Nat) : ∀ (m k : Nat) (base : Array Value), base.size = N * 19 → k + m ≤ N →
    ∃ fl, Instr.fill (fun i => some (i * 19, 19)) base ((List.range' k m).map fun i => (i, .agg (c i))) = some fl ∧ fl.size = N * 19 ∧ (∀ i j, k ≤ i → i < k + m → j < 19 → fl[i * 19 + j]? = (c i)[j]?) ∧ ∀ q, q < k * 19 → fl[q]? = base[q]?
  | 0, k, base, hb, _ => ⟨base, rfl, hb, fun i j h1 h2 => by omega, fun q _ => rfl⟩
  | m + 1, k, base, hb, hk => by
    have hs := set_at (c k).toList (k * 19) 0 base
    obtain ⟨fl, e, s, h1, h2⟩ := fill_rows c hc N m (k + 1) (((c k).toList.zipIdx 0).foldl (fun cs (x : Value × Nat) => cs.setIfInBounds (k * 19 + x.2) x.1) base) (by rw [hs.1, hb]) (by omega)
    refine ⟨fl, ?_, s, fun i j hi hj hj9 => ?_, fun q hq => ?_⟩
    · rw [List.range'_succ, List.map_cons]
      unfold Instr.fill
      have ec : (Value.agg (c k)).cells = c k := rfl
      simp only [ec, hc, hb]
      rw [if_neg (by simp; omega)]
      rw [← Array.foldl_toList, Array.toList_zipIdx]
      exact e
    · by_cases hik : i = k
      · subst hik
        rw [h2 _ (by omega), hs.2, Array.length_toList, hc, Nat.add_zero, if_pos (by omega), Nat.add_sub_cancel_left, Array.getElem?_toList]
      · exact h1 i j (by omega) (by omega) hj9
    · rw [h2 q (by omega), hs.2, if_neg (by omega)]
theorem info36 : (Try.prog.info? 36).map (fun i => (i.zero, i.size, i.bytes)) = some (some (.agg z36), 19, 216) := by kernel_rfl
/-- a slice literal of calls -/
theorem wp_rows {o : Oper} {a : Act} {w : World} {K : Act → World → Prop} {Q : Exit → Act → World → Prop} {n : Nat} {parts : Array (Nat × Operand)} {c : Nat → Array Value}
    (ho : o.op = .buildSlice 38 n parts) (hp : (parts.map fun (i, x) => (i, a.eval x)).toList = (List.range' 0 n).map fun i => (i, .agg (c i))) (hn0 : 0 < n) (hn : n ≤ 40) (hc : ∀ i, IsOp (c i))
    (hk : ∀ w', New w w' → (∀ i, i < n → OpAt w' ((⟨w.heap.size, 0, none⟩ : Addr).add (i * 19)) (c i)) → K (a.put o.dst (.slice (some ⟨w.heap.size, 0, none⟩) n n)) w') : o.wp Try.prog a w K Q := by
  obtain ⟨i0, hi, hz0, hz1, hz2⟩ := info_parts info36
  obtain ⟨fl, e, s, h1, _⟩ := fill_rows c (fun i => (hc i).1) n n 0 ((Array.range (n * 19)).map ((Value.agg z36).cells[· % (Value.agg z36).cells.size]!)) (by simp) (by omega)
  refine wp_buildSlice 38 36 n parts ho fl i0 _ Try.underlying38 hi hz0 (by rw [hz1]; omega) (by rw [hz1]; omega) ?_ (hk _ ((New.refl w).alloc _) fun i hi' => ?_)
  · rw [hz1, hp]; exact e
  · have hb := Box.made w 36 fl
    refine ⟨hc i, by rw [Addr.add_mid]; exact hb.lt, fun j v hj => ?_⟩
    have hj9 : j < 19 := by have := (Array.getElem?_eq_some_iff.1 hj).1; have := (hc i).1; omega
    rw [Addr.add_mid, Addr.add_mid, Nat.zero_add]
    refine (hb.cell _).trans ?_
    rw [h1 i j (by omega) (by omega) hj9]; exact hj
theorem wpl_rows {ops : Array Oper} {rest : List Oper} {o : Oper} {a : Act} {w : World} {Q : Exit → Act → World → Prop} {n : Nat} {parts : Array (Nat × Operand)} {c : Nat → Array Value}
    (ho : o.op = .buildSlice 38 n parts) (hw : Region.wanted o (yielded ops a.tmps) = true) (hp : (parts.map fun (i, x) => (i, a.eval x)).toList = (List.range' 0 n).map fun i => (i, .agg (c i))) (hn0 : 0 < n) (hn : n ≤ 40) (hc : ∀ i, IsOp (c i))
    (hk : ∀ w', New w w' → (∀ i, i < n → OpAt w' ((⟨w.heap.size, 0, none⟩ : Addr).add (i * 19)) (c i)) → wpList Try.prog ops Q rest (a.put o.dst (.slice (some ⟨w.heap.size, 0, none⟩) n n)) w') : wpList Try.prog ops Q (o :: rest) a w :=
  wpList_step fun K hK => by
    rw [if_pos hw]
    exact wp_rows ho hp hn0 hn hc fun w' h1 h2 => hK _ _ (hk w' h1 h2)
end Go.Proofs.Ytplaicdbcfnjbaa
