/- The walk of WideShifts. -/
import Derived.Test.YtoiadefffmhibaaLeft
import Derived.Test.YtoiadefffmhibaaLive
import Derived.Test.YtoiadefffmhibaaEql
import Derived.Deep.RegionHeld3
namespace Go.Proofs.Ytoiadefffmhibaa
open Go.RowKit
set_option linter.unusedVariables false

theorem keep2 {w0 w w' : World} {g : Nat} {x y : Value} (s : w.cell? ⟨g, 0, none⟩ = some x ∧ w.cell? ⟨g, 1, none⟩ = some y ∧ New w0 w ∧ g < w.heap.size) (n : New w w') :
    w'.cell? ⟨g, 0, none⟩ = some x ∧ w'.cell? ⟨g, 1, none⟩ = some y ∧ New w0 w' ∧ g < w'.heap.size :=
  ⟨(n.cell s.2.2.2).trans s.1, (n.cell s.2.2.2).trans s.2.1, s.2.2.1.trans n, Nat.lt_of_lt_of_le s.2.2.2 n.lt⟩
theorem New.box {w w' : World} {g : Nat} {t : TypeId} {cs : Array Value} (h : Box w g t cs) (n : New w w') : Box w' g t cs := Box.new h n

attribute [local go_sem ↓] eql_digs
set_option maxRecDepth 100000 in
set_option maxHeartbeats 2000000 in
theorem shifts_walk (a0 a1 : Nat) (n : Int) (h0 : a0 ≤ 18446744073709551615) (h1 : a1 ≤ 18446744073709551615) (w : World) :
    Calls Try.prog 3 #[.agg #[.int .u64 a0, .int .u64 a1], .int .i64 n] w fun e w' => e = .returned (.bool true) ∧ New w w' := by
  have ha : a0 * 18446744073709551616 + a1 < WW := by unfold WW; omega
  have L1 := Lib.hid (fun w => wleft_any a0 a1 n h0 h1 w)
  have L2 := Lib.hid (fun w => digits_any (sh (a0 * 18446744073709551616 + a1) n / 18446744073709551616) (sh (a0 * 18446744073709551616 + a1) n % 18446744073709551616) (by have := sh_lt _ n ha; unfold WW at this; omega) (Nat.mod_lt _ (by decide)) w)
  rw [Nat.div_add_mod'] at L2
  have L3 := Lib.hid (fun w => digits_any a0 a1 (by omega) (by omega) w)
  have L4 := Lib.hid (fun w => refleft_any _ ha n w)
  have L5 := Lib.hid (fun w => wlen_any a0 a1 h0 h1 w)
  have L6 := Lib.hid (fun w => reflen_any _ ha w)
  rw [blen_two a0 a1 (by omega), ← bitlen_blen a0 (by omega), ← bitlen_blen a1 (by omega)] at L6
  have L7 := Lib.hid live_any
  rw [show (((if a0 ≠ 0 then 64 + Lib.bitLen a0 else Lib.bitLen a1 : Nat)) : Int) = (if a0 ≠ 0 then 64 + (Lib.bitLen a0 : Int) else Lib.bitLen a1) by split <;> simp] at L6
  generalize (if a0 ≠ 0 then 64 + (Lib.bitLen a0 : Int) else Lib.bitLen a1) = len at L5 L6
  generalize sh (a0 * 18446744073709551616 + a1) n = S at *
  generalize S / 18446744073709551616 = s1 at *
  generalize S % 18446744073709551616 = s2 at *
  generalize a0 * 18446744073709551616 + a1 = A at *
  clear ha h0 h1
  go_enter Try.func3, Try.ntmps3
  go_wp2_with fail
  go_region_held3 (fun w' => w'.cell? ⟨w.heap.size + 1, 0, none⟩ = some (.int .u64 a0) ∧ w'.cell? ⟨w.heap.size + 1, 1, none⟩ = some (.int .u64 a1) ∧ New w w' ∧ w.heap.size + 1 < w'.heap.size)
    (first | (refine ⟨by simp [go_sem], by simp [go_sem], (((New.refl _).alloc _).alloc _).drew, by simp⟩) | exact keep2 (by assumption) nn)
    (first
      | (go_at_call 7; refine (L1.out _).mono ?_; rintro e w' ⟨rfl, nn⟩)
      | (go_at_call 6; refine (L2.out _).mono ?_; rintro e w' ⟨rfl, nn⟩)
      | (go_at_call 6; refine (L3.out _).mono ?_; rintro e w' ⟨rfl, nn⟩)
      | (go_at_call 8; refine (L4.out _).mono ?_; rintro e w' ⟨rfl, nn⟩)
      | (go_at_call 9; refine (L5.out _).mono ?_; rintro e w' ⟨rfl, nn⟩)
      | (go_at_call 10; refine (L6.out _).mono ?_; rintro e w' ⟨rfl, nn⟩)
      | (go_at_call 11; refine (L7.out _).mono ?_; rintro e w' ⟨rfl, nn⟩))
  go_wp2_with fail
  exact bodyPost_ret (v := .bool true) (by simp [results, Try.results3, go_sem]) rfl ⟨rfl, (by assumption : w'.cell? ⟨w.heap.size + 1, 0, none⟩ = some (.int .u64 a0) ∧ w'.cell? ⟨w.heap.size + 1, 1, none⟩ = some (.int .u64 a1) ∧ New w w' ∧ w.heap.size + 1 < w'.heap.size).2.2.1⟩
end Go.Proofs.Ytoiadefffmhibaa
