/- Contracts on calls (api.Op, rows of 19 cells that are not looked into but for two): ended, lasted, and the small laws on such rows. -/
import Derived.Test.YtplejooihfhpdaaProg
import Derived.Test.YtplejooihfhpdaaKit
import Derived.BigQuiet
import Derived.Deep.QuietTactic
import Derived.Deep.RegionHeld3
import Derived.Deep.LoopGhost
import Derived.Deep.MidRow
import Derived.Deep.WholeRow
import Derived.WalkMore
namespace Go.Proofs.Ytplejooihfhpdaa
open Go.RowKit
set_option linter.unusedVariables false

theorem size45 : (Try.prog.info? 45).map (·.size) = some 19 := by kernel_rfl
/-- a call's row: 19 cells -/
def IsOp (o : Array Value) : Prop := o.size = 19 ∧ o.all (·.oneCell') = true
theorem lda_new (w : World) (c : Array Value) (hc : IsOp c) : (Instr.loadAt 45 (.pointer (some ⟨w.heap.size, 0, none⟩))).run Try.prog (w.alloc (.cells c 45)) = .ok (.agg c) (w.alloc (.cells c 45)) := by
  simp only [Instr.loadAt, Instr.sureAddr, Sem.run_bind, Sem.run_pure, Result.andThen]
  exact run_loadVar_row _ _ 45 45 c (0, 0) _ (heap_alloc_last w _) Try.underlying45 rfl (by rw [size45, hc.1])
theorem sta_new (w : World) (c c' : Array Value) (h : c.size = 19) (hc : IsOp c') : (Instr.storeAt 45 (.pointer (some ⟨w.heap.size, 0, none⟩)) (.agg c')).run Try.prog (w.alloc (.cells c 45)) = .ok () (w.alloc (.cells c' 45)) :=
  run_storeAt_new w 45 c c' (by rw [size45, hc.1]) (by rw [h, hc.1]) hc.2
/-- a call's row within a block -/
def OpAt (w : World) (p : Addr) (o : Array Value) : Prop := IsOp o ∧ p.block < w.heap.size ∧ ∀ j v, o[j]? = some v → w.cell? (p.add j) = some v
theorem OpAt.new {w w' : World} {p : Addr} {o : Array Value} (h : OpAt w p o) (n : New w w') : OpAt w' p o := by
  refine ⟨h.1, Nat.lt_of_lt_of_le h.2.1 n.lt, fun j v hv => ?_⟩
  rw [n.cell]
  · exact h.2.2 j v hv
  · have e : (p.add j).block = p.block := by unfold Addr.add; split <;> rfl
    rw [e]; exact h.2.1
theorem lda_at (w : World) (p : Addr) (o : Array Value) (h : OpAt w p o) : (Instr.loadAt 45 (.pointer (some p))).run Try.prog w = .ok (.agg o) w := by
  have hl := run_loadCells_list (P := Try.prog) w p o.toList (fun j v hv => h.2.2 j v (by simpa using hv))
  rw [Array.length_toList, h.1.1] at hl
  have hagg : (isAgg 45).run Try.prog w = .ok true w := by
    unfold isAgg
    rw [Sem.run_bind, run_underlying Try.underlying45 w]
    rfl
  have hq := size45
  cases hi : Try.prog.info? 45 with
  | none => simp [hi] at hq
  | some i =>
    have hs : i.size = 19 := by simpa [hi] using hq
    simp [Instr.loadAt, Instr.sureAddr, loadVar, Sem.run_bind, hagg, sizeOf, typeInfo, hi, hs, hl]

theorem OpAt.made (w : World) (c : Array Value) (h : IsOp c) : OpAt (w.alloc (.cells c 45)) ⟨w.heap.size, 0, none⟩ c := by
  refine ⟨h, by simp, fun j v hv => ?_⟩
  rw [Addr.add_mid, Nat.zero_add]
  exact ((Box.made w 45 c).cell j).trans hv
/-- a call's row is loaded -/
theorem wpl_load {ops : Array Oper} {rest : List Oper} {o : Oper} {a : Act} {w : World} {Q : Exit → Act → World → Prop} {x : Operand} {p : Addr} {c : Array Value}
    (ho : o.op = .load 45 x) (hx : a.eval x = .pointer (some p)) (h : OpAt w p c) (hw : Region.wanted o (yielded ops a.tmps) = true) (hk : wpList Try.prog ops Q rest (a.put o.dst (.agg c)) w) : wpList Try.prog ops Q (o :: rest) a w :=
  wpList_step fun K hK => by
    rw [if_pos hw]
    unfold Oper.wp execOp
    simp only [ho, hx, Sem.run_bind, Sem.run_pure, Result.andThen_ok, lda_at w p c h]
    exact hK _ _ hk
/-- a call's row is laid into a block that was made just before -/
theorem wpl_store {ops : Array Oper} {rest : List Oper} {o : Oper} {a : Act} {w : World} {Q : Exit → Act → World → Prop} {x y : Operand} {c c' : Array Value}
    (ho : o.op = .store 45 x y) (hx : a.eval x = .pointer (some ⟨w.heap.size, 0, none⟩)) (hy : a.eval y = .agg c') (h : c.size = 19) (h' : IsOp c') (hg : o.guard = none)
    (hk : wpList Try.prog ops Q rest (a.put o.dst undef) (w.alloc (.cells c' 45))) : wpList Try.prog ops Q (o :: rest) a (w.alloc (.cells c 45)) :=
  wpList_plain hg fun K hK => by
    unfold Oper.wp execOp
    simp only [ho, hx, hy, Sem.run_bind, Sem.run_pure, Result.andThen_ok, sta_new w c c' h h']
    exact hK _ _ hk

theorem ended_yes (o : Array Value) (t : Int) (h : o[18]? = some (.int .i64 t)) (ht : t ≠ -1) (w : World) : Calls Try.prog 19 #[.agg o] w fun e w' => e = .returned (.bool true) ∧ New w w' := by
  have ht' : (t == -1) = false := by simpa using ht
  have ht2 : (t != -1) = true := by simpa using ht
  go_enter Try.func19, Try.ntmps19
  go_wp2_with fail
  exact bodyPost_ret (by simp [results, Try.results19, go_sem]) rfl ⟨rfl, (New.refl _).alloc _⟩
theorem ended_no (o : Array Value) (h : o[18]? = some (.int .i64 (-1))) (w : World) : Calls Try.prog 19 #[.agg o] w fun e w' => e = .returned (.bool false) ∧ New w w' := by
  go_enter Try.func19, Try.ntmps19
  go_wp2_with fail
  exact bodyPost_ret (by simp [results, Try.results19, go_sem]) rfl ⟨rfl, (New.refl _).alloc _⟩

theorem under_aa (o : Array Value) (ho : IsOp o) (h17 : o[17]? = some (.int .i64 1)) (h18 : o[18]? = some (.int .i64 4)) (g : Nat) (w : World) (hg : g < w.heap.size) (hc : w.cell? ⟨g, 18, none⟩ = some (.int .i64 4)) :
    Calls Try.prog 22 #[.agg o, .pointer (some ⟨g, 0, none⟩)] w fun e w' => e = .returned (.bool false) ∧ New w w' := by
  have hg' : g ≠ w.heap.size := by omega
  have HE := Lib.hid (ended_yes o 4 h18 (by decide))
  go_enter Try.func22, Try.ntmps22
  have OA := OpAt.made w o ho
  go_wp2_with (first | (refine wpl_load rfl rfl OA rfl ?_) | (go_at_call 19; refine (HE.out _).mono ?_; rintro e w1 ⟨rfl, n1⟩; have c1 : w1.cell? ⟨w.heap.size, 18, none⟩ = some (.int .i64 4) := (n1.cell (by simp)).trans (((Box.made w 45 _).cell 18).trans h18); have c2 : w1.cell? ⟨g, 18, none⟩ = some (.int .i64 4) := (n1.cell (p := ⟨g, 18, none⟩) (by simp; omega)).trans ((World.cell?_alloc_lt _ _ _ hg).trans hc)))

  exact bodyPost_ret (by simp [results, Try.results22, go_sem]) rfl ⟨rfl, ((New.refl _).alloc _).trans n1⟩
end Go.Proofs.Ytplejooihfhpdaa
