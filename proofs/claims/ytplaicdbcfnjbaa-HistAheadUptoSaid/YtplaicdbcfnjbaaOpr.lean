/- Contracts on calls (api.Op, rows of 19 cells that are not looked into but for two): ended, lasted, and the small laws on such rows. -/
import Derived.Test.YtplaicdbcfnjbaaProg
import Derived.Test.YtplaicdbcfnjbaaKit
import Derived.BigQuiet
import Derived.Deep.QuietTactic
import Derived.Deep.RegionHeld3
import Derived.Deep.LoopGhost
import Derived.Deep.MidRow
import Derived.Deep.WholeRow
import Derived.WalkMore
import Derived.Test.YtplaicdbcfnjbaaAlike
namespace Go.Proofs.Ytplaicdbcfnjbaa
open Go.RowKit
set_option linter.unusedVariables false

theorem size36 : (Try.prog.info? 36).map (·.size) = some 19 := by kernel_rfl
/-- a call's row: 19 cells -/
def IsOp (o : Array Value) : Prop := o.size = 19 ∧ o.all (·.oneCell') = true
theorem lda_new (w : World) (c : Array Value) (hc : IsOp c) : (Instr.loadAt 36 (.pointer (some ⟨w.heap.size, 0, none⟩))).run Try.prog (w.alloc (.cells c 36)) = .ok (.agg c) (w.alloc (.cells c 36)) := by
  simp only [Instr.loadAt, Instr.sureAddr, Sem.run_bind, Sem.run_pure, Result.andThen]
  exact run_loadVar_row _ _ 36 36 c (0, 0) _ (heap_alloc_last w _) Try.underlying36 rfl (by rw [size36, hc.1])
theorem sta_new (w : World) (c c' : Array Value) (h : c.size = 19) (hc : IsOp c') : (Instr.storeAt 36 (.pointer (some ⟨w.heap.size, 0, none⟩)) (.agg c')).run Try.prog (w.alloc (.cells c 36)) = .ok () (w.alloc (.cells c' 36)) :=
  run_storeAt_new w 36 c c' (by rw [size36, hc.1]) (by rw [h, hc.1]) hc.2
/-- a call's row within a block -/
def OpAt (w : World) (p : Addr) (o : Array Value) : Prop := IsOp o ∧ p.block < w.heap.size ∧ ∀ j v, o[j]? = some v → w.cell? (p.add j) = some v
theorem OpAt.new {w w' : World} {p : Addr} {o : Array Value} (h : OpAt w p o) (n : New w w') : OpAt w' p o := by
  refine ⟨h.1, Nat.lt_of_lt_of_le h.2.1 n.lt, fun j v hv => ?_⟩
  rw [n.cell]
  · exact h.2.2 j v hv
  · have e : (p.add j).block = p.block := by unfold Addr.add; split <;> rfl
    rw [e]; exact h.2.1
theorem lda_at (w : World) (p : Addr) (o : Array Value) (h : OpAt w p o) : (Instr.loadAt 36 (.pointer (some p))).run Try.prog w = .ok (.agg o) w := by
  have hl := run_loadCells_list (P := Try.prog) w p o.toList (fun j v hv => h.2.2 j v (by simpa using hv))
  rw [Array.length_toList, h.1.1] at hl
  have hagg : (isAgg 36).run Try.prog w = .ok true w := by
    unfold isAgg
    rw [Sem.run_bind, run_underlying Try.underlying36 w]
    rfl
  have hq := size36
  cases hi : Try.prog.info? 36 with
  | none => simp [hi] at hq
  | some i =>
    have hs : i.size = 19 := by simpa [hi] using hq
    simp [Instr.loadAt, Instr.sureAddr, loadVar, Sem.run_bind, hagg, sizeOf, typeInfo, hi, hs, hl]

theorem OpAt.made (w : World) (c : Array Value) (h : IsOp c) : OpAt (w.alloc (.cells c 36)) ⟨w.heap.size, 0, none⟩ c := by
  refine ⟨h, by simp, fun j v hv => ?_⟩
  rw [Addr.add_mid, Nat.zero_add]
  exact ((Box.made w 36 c).cell j).trans hv
/-- a call's row is loaded -/
theorem wpl_load {ops : Array Oper} {rest : List Oper} {o : Oper} {a : Act} {w : World} {Q : Exit → Act → World → Prop} {x : Operand} {p : Addr} {c : Array Value}
    (ho : o.op = .load 36 x) (hx : a.eval x = .pointer (some p)) (h : OpAt w p c) (hw : Region.wanted o (yielded ops a.tmps) = true) (hk : wpList Try.prog ops Q rest (a.put o.dst (.agg c)) w) : wpList Try.prog ops Q (o :: rest) a w :=
  wpList_step fun K hK => by
    rw [if_pos hw]
    unfold Oper.wp execOp
    simp only [ho, hx, Sem.run_bind, Sem.run_pure, Result.andThen_ok, lda_at w p c h]
    exact hK _ _ hk
/-- a call's row is laid into a block that was made just before -/
theorem wpl_store {ops : Array Oper} {rest : List Oper} {o : Oper} {a : Act} {w : World} {Q : Exit → Act → World → Prop} {x y : Operand} {c c' : Array Value}
    (ho : o.op = .store 36 x y) (hx : a.eval x = .pointer (some ⟨w.heap.size, 0, none⟩)) (hy : a.eval y = .agg c') (h : c.size = 19) (h' : IsOp c') (hg : o.guard = none)
    (hk : wpList Try.prog ops Q rest (a.put o.dst undef) (w.alloc (.cells c' 36))) : wpList Try.prog ops Q (o :: rest) a (w.alloc (.cells c 36)) :=
  wpList_plain hg fun K hK => by
    unfold Oper.wp execOp
    simp only [ho, hx, hy, Sem.run_bind, Sem.run_pure, Result.andThen_ok, sta_new w c c' h h']
    exact hK _ _ hk

end Go.Proofs.Ytplaicdbcfnjbaa
