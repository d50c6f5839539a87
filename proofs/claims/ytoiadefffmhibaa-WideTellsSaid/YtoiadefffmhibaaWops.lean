/- Contracts of layer wide: Add, Sub, Cmp. -/
import Derived.Test.YtoiadefffmhibaaWide
import Derived.Test.YtoiadefffmhibaaWcmp
import Derived.Test.YtoiadefffmhibaaWsub
namespace Go.Proofs.Ytoiadefffmhibaa
open Go.RowKit
set_option linter.unusedVariables false

theorem wadd_any (x1 x0 y1 y0 : Nat) (hx : x0 ≤ 18446744073709551615) (hy : y0 ≤ 18446744073709551615) (w : World) :
    Calls Try.prog 12 #[.agg #[.int .u64 x1, .int .u64 x0], .agg #[.int .u64 y1, .int .u64 y0]] w fun e w' => e = .returned (.agg #[.int .u64 ((((x1 * 18446744073709551616 + x0) + (y1 * 18446744073709551616 + y0)) % WW / 18446744073709551616 : Nat) : Int), .int .u64 ((((x1 * 18446744073709551616 + x0) + (y1 * 18446744073709551616 + y0)) % WW % 18446744073709551616 : Nat) : Int)]) ∧ New w w' := by
  have hb : (x0 + y0) / 18446744073709551616 ≤ 1 := by omega
  have r1 : ∀ w, (callFunc 28 #[.int .u64 x0, .int .u64 y0, .int .u64 0]).run Try.prog w = .ok (.value (.tuple #[.int .u64 (((x0 + y0 + 0) % 18446744073709551616 : Nat) : Int), .int .u64 (((x0 + y0 + 0) / 18446744073709551616 : Nat) : Int)])) w :=
    fun w => Any7.bits_Add64 Try.lays25 x0 y0 0 (by omega) w
  have r2 : ∀ w, (callFunc 28 #[.int .u64 x1, .int .u64 y1, .int .u64 (((x0 + y0) / 18446744073709551616 : Nat) : Int)]).run Try.prog w = .ok (.value (.tuple #[.int .u64 (((x1 + y1 + (x0 + y0) / 18446744073709551616) % 18446744073709551616 : Nat) : Int), .int .u64 (((x1 + y1 + (x0 + y0) / 18446744073709551616) / 18446744073709551616 : Nat) : Int)])) w :=
    fun w => Any7.bits_Add64 Try.lays25 x1 y1 ((x0 + y0) / 18446744073709551616) hb w
  rw [show (x1 + y1 + (x0 + y0) / 18446744073709551616) % 18446744073709551616 = ((x1 * 18446744073709551616 + x0) + (y1 * 18446744073709551616 + y0)) % WW / 18446744073709551616 by unfold WW; omega] at r2
  rw [show (x0 + y0 + 0) % 18446744073709551616 = ((x1 * 18446744073709551616 + x0) + (y1 * 18446744073709551616 + y0)) % WW % 18446744073709551616 by unfold WW; omega, show (x0 + y0 + 0) / 18446744073709551616 = (x0 + y0) / 18446744073709551616 by rfl] at r1
  clear hb hx hy
  generalize ((x1 * 18446744073709551616 + x0) + (y1 * 18446744073709551616 + y0)) % WW / 18446744073709551616 = X at *
  generalize ((x1 * 18446744073709551616 + x0) + (y1 * 18446744073709551616 + y0)) % WW % 18446744073709551616 = Y at *
  generalize (x0 + y0) / 18446744073709551616 = c at *
  generalize (x1 + y1 + c) / 18446744073709551616 = c2 at *
  have H1 := Lib.hid r1
  have H2 := Lib.hid r2
  clear r1 r2
  go_enter Try.func12, Try.ntmps12
  go_wp2_with (first | simp only [H1.out] | simp only [H2.out])
  refine bodyPost_ret (v := .agg #[.int .u64 X, .int .u64 Y]) (by simp [results, Try.results12, go_sem]) rfl ⟨rfl, ?_⟩
  exact (((New.refl _).alloc _).alloc _).alloc _

theorem wsub_any (x1 x0 y1 y0 : Nat) (hx : x0 ≤ 18446744073709551615) (hy : y0 ≤ 18446744073709551615) (hx1 : x1 ≤ 18446744073709551615) (hy1 : y1 ≤ 18446744073709551615) (w : World) :
    Calls Try.prog 14 #[.agg #[.int .u64 x1, .int .u64 x0], .agg #[.int .u64 y1, .int .u64 y0]] w fun e w' => e = .returned (.agg #[.int .u64 ((((x1 * 18446744073709551616 + x0) + WW - (y1 * 18446744073709551616 + y0)) % WW / 18446744073709551616 : Nat) : Int), .int .u64 ((((x1 * 18446744073709551616 + x0) + WW - (y1 * 18446744073709551616 + y0)) % WW % 18446744073709551616 : Nat) : Int)]) ∧ New w w' := by
  obtain ⟨b, hb⟩ : ∃ b : Nat, b = if x0 < y0 + 0 then 1 else 0 := ⟨_, rfl⟩
  have hb1 : b ≤ 1 := by rw [hb]; split <;> omega
  have r1 : ∀ w, (callFunc 29 #[.int .u64 x0, .int .u64 y0, .int .u64 0]).run Try.prog w = .ok (.value (.tuple #[.int .u64 (((x0 + 18446744073709551616 - y0 - 0) % 18446744073709551616 : Nat) : Int), .int .u64 ((if x0 < y0 + 0 then 1 else 0 : Nat) : Int)])) w :=
    fun w => Any7.bits_Sub64 Try.lays26 x0 y0 0 (by omega) w
  have r2 : ∀ w, (callFunc 29 #[.int .u64 x1, .int .u64 y1, .int .u64 (b : Int)]).run Try.prog w = .ok (.value (.tuple #[.int .u64 (((x1 + 18446744073709551616 - y1 - b) % 18446744073709551616 : Nat) : Int), .int .u64 ((if x1 < y1 + b then 1 else 0 : Nat) : Int)])) w :=
    fun w => Any7.bits_Sub64 Try.lays26 x1 y1 b hb1 w
  rw [show (x1 + 18446744073709551616 - y1 - b) % 18446744073709551616 = ((x1 * 18446744073709551616 + x0) + WW - (y1 * 18446744073709551616 + y0)) % WW / 18446744073709551616 by unfold WW; rw [hb]; split <;> omega] at r2
  rw [show (x0 + 18446744073709551616 - y0 - 0) % 18446744073709551616 = ((x1 * 18446744073709551616 + x0) + WW - (y1 * 18446744073709551616 + y0)) % WW % 18446744073709551616 by unfold WW; omega, ← hb] at r1
  clear hb hb1 hx hy hx1 hy1
  generalize ((x1 * 18446744073709551616 + x0) + WW - (y1 * 18446744073709551616 + y0)) % WW / 18446744073709551616 = X at *
  generalize ((x1 * 18446744073709551616 + x0) + WW - (y1 * 18446744073709551616 + y0)) % WW % 18446744073709551616 = Y at *
  generalize (if x1 < y1 + b then 1 else 0 : Nat) = c2 at *
  have H1 := Lib.hid r1
  have H2 := Lib.hid r2
  clear r1 r2
  go_enter Try.func14, Try.ntmps14
  go_wp2_with (first | simp only [H1.out] | simp only [H2.out])
  refine bodyPost_ret (v := .agg #[.int .u64 X, .int .u64 Y]) (by simp [results, Try.results14, go_sem]) rfl ⟨rfl, ?_⟩
  exact (((New.refl _).alloc _).alloc _).alloc _

theorem wcmp_any (x1 x0 y1 y0 : Nat) (hx : x0 ≤ 18446744073709551615) (hy : y0 ≤ 18446744073709551615) (w : World) :
    Calls Try.prog 16 #[.agg #[.int .u64 x1, .int .u64 x0], .agg #[.int .u64 y1, .int .u64 y0]] w fun e w' => e = .returned (.int .i64 (cmpv (x1 * 18446744073709551616 + x0) (y1 * 18446744073709551616 + y0))) ∧ New w w' := by
  rcases Nat.lt_trichotomy x1 y1 with h | h | h
  · rw [show cmpv (x1 * 18446744073709551616 + x0) (y1 * 18446744073709551616 + y0) = -1 by unfold cmpv; rw [if_pos (by omega)]]
    have hd : ((x1 : Int) == (y1 : Int)) = false := by simp; omega
    have he : (x1 == y1) = false := by simp; omega
    have hl : decide (x1 < y1) = true := by simp; omega
    clear hx hy
    go_enter Try.func16, Try.ntmps16
    go_wp2_with fail
    exact bodyPost_ret (by simp [results, Try.results16, go_sem]) rfl ⟨rfl, ((New.refl _).alloc _).alloc _⟩
  · subst h
    rcases Nat.lt_trichotomy x0 y0 with h | h | h
    · rw [show cmpv (x1 * 18446744073709551616 + x0) (x1 * 18446744073709551616 + y0) = -1 by unfold cmpv; rw [if_pos (by omega)]]
      have hd : ((x0 : Int) == (y0 : Int)) = false := by simp; omega
      have he : (x0 == y0) = false := by simp; omega
      have hl : decide (x0 < y0) = true := by simp; omega
      clear hx hy
      go_enter Try.func16, Try.ntmps16
      go_wp2_with fail
      exact bodyPost_ret (by simp [results, Try.results16, go_sem]) rfl ⟨rfl, ((New.refl _).alloc _).alloc _⟩
    · subst h
      rw [show cmpv (x1 * 18446744073709551616 + x0) (x1 * 18446744073709551616 + x0) = 0 by unfold cmpv; rw [if_neg (by omega), if_neg (by omega)]]
      clear hx hy
      go_enter Try.func16, Try.ntmps16
      go_wp2_with fail
      exact bodyPost_ret (by simp [results, Try.results16, go_sem]) rfl ⟨rfl, ((New.refl _).alloc _).alloc _⟩
    · rw [show cmpv (x1 * 18446744073709551616 + x0) (x1 * 18446744073709551616 + y0) = 1 by unfold cmpv; rw [if_neg (by omega), if_pos (by omega)]]
      have hd : ((x0 : Int) == (y0 : Int)) = false := by simp; omega
      have he : (x0 == y0) = false := by simp; omega
      have hl : decide (x0 < y0) = false := by simp; omega
      clear hx hy
      go_enter Try.func16, Try.ntmps16
      go_wp2_with fail
      exact bodyPost_ret (by simp [results, Try.results16, go_sem]) rfl ⟨rfl, ((New.refl _).alloc _).alloc _⟩
  · rw [show cmpv (x1 * 18446744073709551616 + x0) (y1 * 18446744073709551616 + y0) = 1 by unfold cmpv; rw [if_neg (by omega), if_pos (by omega)]]
    have hd : ((x1 : Int) == (y1 : Int)) = false := by simp; omega
    have he : (x1 == y1) = false := by simp; omega
    have hl : decide (x1 < y1) = false := by simp; omega
    clear hx hy
    go_enter Try.func16, Try.ntmps16
    go_wp2_with fail
    exact bodyPost_ret (by simp [results, Try.results16, go_sem]) rfl ⟨rfl, ((New.refl _).alloc _).alloc _⟩
end Go.Proofs.Ytoiadefffmhibaa
