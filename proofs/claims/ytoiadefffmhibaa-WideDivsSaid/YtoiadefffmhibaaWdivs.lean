/- Contract of layer wide: Div. -/
import Derived.Test.YtoiadefffmhibaaDiv64
import Derived.Test.YtoiadefffmhibaaWops
namespace Go.Proofs.Ytoiadefffmhibaa
open Go.RowKit
set_option linter.unusedVariables false

theorem wdiv_none (x1 x0 : Nat) (w : World) :
    Calls Try.prog 21 #[.agg #[.int .u64 x1, .int .u64 x0], .int .u64 0] w fun e w' => e = .returned (.tuple #[.agg #[.int .u64 0, .int .u64 0], .int .u64 0, .int .i64 2]) ∧ New w w' := by
  go_enter Try.func21, Try.ntmps21
  go_wp2_with fail
  exact bodyPost_ret (v := .tuple #[.agg #[.int .u64 0, .int .u64 0], .int .u64 0, .int .i64 2]) (by simp [results, Try.results21, go_sem]) rfl ⟨rfl, ((New.refl _).alloc _).alloc _⟩

theorem div_parts (x1 x0 b : Nat) (hb : 0 < b) (h0 : x0 < 18446744073709551616) (h1 : x1 < 18446744073709551616) (hb2 : b < 18446744073709551616) :
    x1 / b = (x1 * 18446744073709551616 + x0) / b / 18446744073709551616 ∧ (x1 % b * 18446744073709551616 + x0) / b = (x1 * 18446744073709551616 + x0) / b % 18446744073709551616 ∧
    (x1 % b * 18446744073709551616 + x0) % b = (x1 * 18446744073709551616 + x0) % b := by
  have hN := Nat.div_add_mod x1 b
  have e2 : x1 * 18446744073709551616 + x0 = (x1 % b * 18446744073709551616 + x0) + b * (x1 / b * 18446744073709551616) := by
    conv => lhs; rw [← hN]
    rw [Nat.add_mul, Nat.mul_assoc]; omega
  have hl : (x1 % b * 18446744073709551616 + x0) / b < 18446744073709551616 := by
    apply Nat.div_lt_of_lt_mul
    have : (x1 % b + 1) * 18446744073709551616 ≤ b * 18446744073709551616 := Nat.mul_le_mul_right _ (Nat.mod_lt _ hb)
    omega
  rw [e2, Nat.add_mul_div_left _ _ hb, Nat.add_mul_mod_self_left]
  clear e2 hN
  generalize x1 / b = p at *
  generalize (x1 % b * 18446744073709551616 + x0) / b = q at *
  exact ⟨by omega, by omega, rfl⟩

set_option maxHeartbeats 1000000 in
theorem wdiv_any (x1 x0 b : Nat) (h1 : x1 ≤ 18446744073709551615) (h0 : x0 ≤ 18446744073709551615) (hb : 0 < b) (hb2 : b ≤ 18446744073709551615) (w : World) :
    Calls Try.prog 21 #[.agg #[.int .u64 x1, .int .u64 x0], .int .u64 b] w fun e w' => e = .returned (.tuple #[.agg #[.int .u64 (((x1 * 18446744073709551616 + x0) / b / 18446744073709551616 : Nat) : Int), .int .u64 (((x1 * 18446744073709551616 + x0) / b % 18446744073709551616 : Nat) : Int)], .int .u64 (((x1 * 18446744073709551616 + x0) % b : Nat) : Int), .int .i64 0]) ∧ New w w' := by
  obtain ⟨e1, e2, e3⟩ := div_parts x1 x0 b hb (by omega) (by omega) (by omega)
  have D := Lib.hid (fun w => div64_any (x1 % b) x0 b (Nat.mod_lt _ hb) h0 hb2 w)
  rw [← e1, ← e2, ← e3]
  clear e1 e2 e3
  have k1 : (x1 : Int) / (b : Int) = ((x1 / b : Nat) : Int) := by simp
  have k2 : (x1 : Int) % (b : Int) = ((x1 % b : Nat) : Int) := by simp
  have k3 : x1 / b ≤ 18446744073709551615 := Nat.le_trans (Nat.div_le_self _ _) h1
  have k4 : x1 % b ≤ 18446744073709551615 := by have := Nat.mod_le x1 b; omega
  have e0 : ((b : Int) == 0) = false := by simp; omega
  generalize (x1 % b * 18446744073709551616 + x0) / b = Q at *
  generalize (x1 % b * 18446744073709551616 + x0) % b = R at *
  generalize x1 / b = q at *
  generalize x1 % b = r at *
  go_enter Try.func21, Try.ntmps21
  go_wp2_with (go_at_call 31; refine (D.out _).mono ?_; rintro e w1 ⟨rfl, n1⟩; have BQ : Box w1 (w.heap.size + 1 + 1) 25 #[.int .u64 q, .int .u64 0] := box_at (by simp) ((Box.made ((w.alloc (.cells #[.int .u64 x1, .int .u64 x0] 25)).alloc (.cells #[.int .u64 0, .int .u64 0] 25)) 25 _).new n1); have BR : Box w1 (w.heap.size + 1) 25 #[.int .u64 0, .int .u64 0] := box_at (by simp) (((Box.made (w.alloc (.cells #[.int .u64 x1, .int .u64 x0] 25)) 25 _).alloc _).new n1); have c0 : w1.cell? ⟨w.heap.size + 1 + 1, 0, none⟩ = some (.int .u64 q) := Box.cell BQ 0; have c1 : w1.cell? ⟨w.heap.size + 1 + 1, 1, none⟩ = some (.int .u64 0) := Box.cell BQ 1; have f1 : w1.frozen? ⟨w.heap.size + 1 + 1, 1, none⟩ = false := Box.frozen BQ 1; have r0 : w1.cell? ⟨w.heap.size + 1, 0, none⟩ = some (.int .u64 0) := Box.cell BR 0; have r1 : w1.cell? ⟨w.heap.size + 1, 1, none⟩ = some (.int .u64 0) := Box.cell BR 1; have g0 : w1.frozen? ⟨w.heap.size + 1, 0, none⟩ = false := Box.frozen BR 0; have g1 : w1.frozen? ⟨w.heap.size + 1, 1, none⟩ = false := Box.frozen BR 1; have HB := Lib.hid (⟨BQ, BR⟩ : _ ∧ _); clear BQ BR)
  have N1 := ((((New.refl w).alloc _).alloc _).alloc _).trans n1
  refine bodyPost_ret (v := .tuple #[.agg #[.int .u64 q, .int .u64 Q], .int .u64 R, .int .i64 0]) (by simp [results, Try.results21, go_sem, r0, r1, c0, c1]) rfl ⟨rfl, ?_⟩
  exact ((N1.setCell (by first | omega | (simp; done) | (simp; omega)) _).setCell (by first | omega | (simp; done) | (simp; omega)) _).setCell (by first | omega | (simp; done) | (simp; omega)) _
end Go.Proofs.Ytoiadefffmhibaa
