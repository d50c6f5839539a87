/- Contracts of the reference of layer wide: Bit. -/
import Derived.Test.YtoiadefffmhibaaProg
import Derived.Test.YtoiadefffmhibaaDigs
import Derived.Test.YtoiadefffmhibaaWadd
import Derived.BigQuiet
import Derived.Deep.QuietTactic
import Derived.Deep.LoopGhost
import Derived.WalkMore
namespace Go.Proofs.Ytoiadefffmhibaa
open Go.RowKit
set_option linter.unusedVariables false

set_option maxRecDepth 100000 in
set_option maxHeartbeats 1000000 in
theorem refbit_any (a k : Nat) (hk : k < 128) (w : World) :
    Calls Try.prog 27 #[.agg #[.int .i64 (dig a 0), .int .i64 (dig a 1), .int .i64 (dig a 2), .int .i64 (dig a 3), .int .i64 (dig a 4), .int .i64 (dig a 5), .int .i64 (dig a 6), .int .i64 (dig a 7)], .int .i64 k] w fun e w' => e = .returned (.int .i64 (a / 2 ^ k % 2 : Nat)) ∧ New w w' := by
  rw [← bit_dig a k]
  have hq : k / 16 < 8 := by omega
  have hr : k % 16 < 16 := by omega
  have dl := dig_lt a (k / 16)
  generalize hm : k % 16 = m at *
  generalize hn : dig a (k / 16) = N at *
  generalize hx : N / 2 ^ m % 2 = X
  go_enter Try.func27, Try.ntmps27
  have ek : Int.tdiv (k : Int) 16 = ((k / 16 : Nat) : Int) := by rw [Int.tdiv_eq_ediv_of_nonneg (by omega)]; rfl
  have em : Int.tmod (k : Int) 16 = (m : Int) := by rw [Int.tmod_eq_emod_of_nonneg (by omega)]; omega
  have hq' : ((k / 16 : Nat) : Int) < 8 := by omega
  have cells : ∀ j < 8, (w.alloc (.cells #[.int .i64 (dig a 0), .int .i64 (dig a 1), .int .i64 (dig a 2), .int .i64 (dig a 3), .int .i64 (dig a 4), .int .i64 (dig a 5), .int .i64 (dig a 6), .int .i64 (dig a 7)] 27 (0, 0))).cell? ⟨w.heap.size, j, none⟩ = some (.int .i64 (dig a j)) := fun j hj => Digs.at_ (Box.made w 27 _) j hj
  have cA := cells _ hq
  clear cells
  rw [hn] at cA
  go_wp2_with fail
  go_loopg [5, 6] 16 (fun n x i wr => ∃ j : Nat, x = .int .i64 (N / 2 ^ j : Nat) ∧ i = .int .i64 j ∧ j ≤ m ∧ j + n = 16 ∧ New w wr)
  case atStart =>
    exact ⟨0, by simp, rfl, by omega, rfl, (New.refl _).alloc _⟩
  case round =>
    obtain ⟨j, rfl, rfl, hjm, hjn, hnw⟩ := hrel
    have bd : N / 2 ^ j ≤ 65535 := Nat.le_trans (Nat.div_le_self _ _) (by omega)
    have e3 : N / 2 ^ (j + 1) = N / 2 ^ j / 2 := by rw [Nat.pow_succ, Nat.div_div_eq_div_mul]
    by_cases hj : j < m
    · have hj' : (j : Int) < (m : Int) := by omega
      generalize N / 2 ^ j = y at *
      go_wp2
      go_roundg (gk - 1)
      case rel => exact ⟨j + 1, by rw [e3]; simp, by simp, by omega, by omega, hnw⟩
      case measure => omega
    · have hje : j = m := by omega
      subst hje
      generalize N / 2 ^ j = y at *
      subst hx
      go_wp2
      exact bodyPost_ret (v := .int .i64 ((y : Int) % 2)) (by simp [results, Try.results27, go_sem]) rfl ⟨by simp, hnw⟩
end Go.Proofs.Ytoiadefffmhibaa
