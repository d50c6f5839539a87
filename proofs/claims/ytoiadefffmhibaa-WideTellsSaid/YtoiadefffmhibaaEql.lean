/- '==' of the reference's numbers. -/
import Derived.Test.YtoiadefffmhibaaPut
import Derived.ChangeKeysEq
import Derived.WalkSpells
namespace Go.Proofs.Ytoiadefffmhibaa
open Go.RowKit
set_option linter.unusedVariables false
theorem eqItems_same (d : Nat) (xs : Array Value) (w : World) : ∀ (is : List Nat), (∀ i ∈ is, ∃ z, xs[i * 1]? = some (.int .i64 z)) → (Op.eqItems (d + 1) 3 1 xs xs is).run Try.prog w = .ok true w
  | [], _ => by simp [Op.eqItems]
  | i :: is, h => by
    obtain ⟨z, hz⟩ := h i (by simp)
    have p := run_part_plain (P := Try.prog) w (e := 3) (by kernel_rfl) hz
    have ih := eqItems_same d xs w is (fun j hj => h j (by simp [hj]))
    have q : (Op.equalIn (d + 1) 3 (.int .i64 z) (.int .i64 z)).run Try.prog w = .ok true w := by
      simp [Op.equalIn, run_underlying Try.underlying3]
    simp only [Op.eqItems, Sem.run_bind, p, q, Result.andThen_ok]
    simpa using ih
theorem eql_digs (x : Nat) (w : World) : (binOp .eql 27 (.agg #[.int .i64 (dig x 0), .int .i64 (dig x 1), .int .i64 (dig x 2), .int .i64 (dig x 3), .int .i64 (dig x 4), .int .i64 (dig x 5), .int .i64 (dig x 6), .int .i64 (dig x 7)]) (.agg #[.int .i64 (dig x 0), .int .i64 (dig x 1), .int .i64 (dig x 2), .int .i64 (dig x 3), .int .i64 (dig x 4), .int .i64 (dig x 5), .int .i64 (dig x 6), .int .i64 (dig x 7)])).run Try.prog w = .ok (.bool true) w := by
  obtain ⟨i, h3⟩ : ∃ i, Try.prog.info? 3 = some i := ⟨_, rfl⟩
  have hc : Try.prog.cellsOf 3 = 1 := by kernel_rfl
  have e := run_equalIn_array (P := Try.prog) w 9999 (#[.int .i64 (dig x 0), .int .i64 (dig x 1), .int .i64 (dig x 2), .int .i64 (dig x 3), .int .i64 (dig x 4), .int .i64 (dig x 5), .int .i64 (dig x 6), .int .i64 (dig x 7)]) (#[.int .i64 (dig x 0), .int .i64 (dig x 1), .int .i64 (dig x 2), .int .i64 (dig x 3), .int .i64 (dig x 4), .int .i64 (dig x 5), .int .i64 (dig x 6), .int .i64 (dig x 7)]) Try.underlying27 h3
  rw [hc, eqItems_same 9998 _ w] at e
  · simp only [binOp]
    simp [Op.equal, Op.maxDepth, e]
  · intro j hj
    have : j < 8 := List.mem_range.1 hj
    match j, this with
    | 0, _ => exact ⟨_, rfl⟩
    | 1, _ => exact ⟨_, rfl⟩
    | 2, _ => exact ⟨_, rfl⟩
    | 3, _ => exact ⟨_, rfl⟩
    | 4, _ => exact ⟨_, rfl⟩
    | 5, _ => exact ⟨_, rfl⟩
    | 6, _ => exact ⟨_, rfl⟩
    | 7, _ => exact ⟨_, rfl⟩
end Go.Proofs.Ytoiadefffmhibaa
