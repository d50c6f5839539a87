/- wide.Left and the reference's Left, by one plain number. -/
import Derived.Test.YtoiadefffmhibaaWide
import Derived.Test.YtoiadefffmhibaaWleft
import Derived.Test.YtoiadefffmhibaaWlen
namespace Go.Proofs.Ytoiadefffmhibaa
open Go.RowKit
set_option linter.unusedVariables false

/-- what is shifted -/
def sh (a : Nat) (n : Int) : Nat := if n < 0 then a / 2 ^ (min (-n).toNat 128) else a * 2 ^ (min n.toNat 128) % WW
theorem sh_lt (a : Nat) (n : Int) (h : a < WW) : sh a n < WW := by
  unfold sh
  split
  · exact Nat.lt_of_le_of_lt (Nat.div_le_self _ _) h
  · exact Nat.mod_lt _ (by decide)

theorem digs_mod (w : World) (x : Nat) : (.agg #[.int .i64 (dig (x % WW) 0), .int .i64 (dig (x % WW) 1), .int .i64 (dig (x % WW) 2), .int .i64 (dig (x % WW) 3), .int .i64 (dig (x % WW) 4), .int .i64 (dig (x % WW) 5), .int .i64 (dig (x % WW) 6), .int .i64 (dig (x % WW) 7)] : Value) = .agg #[.int .i64 (dig x 0), .int .i64 (dig x 1), .int .i64 (dig x 2), .int .i64 (dig x 3), .int .i64 (dig x 4), .int .i64 (dig x 5), .int .i64 (dig x 6), .int .i64 (dig x 7)] := by
  rw [dig_mod x 0 (by decide), dig_mod x 1 (by decide), dig_mod x 2 (by decide), dig_mod x 3 (by decide), dig_mod x 4 (by decide), dig_mod x 5 (by decide), dig_mod x 6 (by decide), dig_mod x 7 (by decide)]

theorem refleft_any (a : Nat) (ha : a < WW) (n : Int) (w : World) :
    Calls Try.prog 8 #[.agg #[.int .i64 (dig a 0), .int .i64 (dig a 1), .int .i64 (dig a 2), .int .i64 (dig a 3), .int .i64 (dig a 4), .int .i64 (dig a 5), .int .i64 (dig a 6), .int .i64 (dig a 7)], .int .i64 n] w fun e w' => e = .returned (.agg #[.int .i64 (dig (sh a n) 0), .int .i64 (dig (sh a n) 1), .int .i64 (dig (sh a n) 2), .int .i64 (dig (sh a n) 3), .int .i64 (dig (sh a n) 4), .int .i64 (dig (sh a n) 5), .int .i64 (dig (sh a n) 6), .int .i64 (dig (sh a n) 7)]) ∧ New w w' := by
  by_cases h0 : n < 0
  · have e : sh a n = a / 2 ^ (min (-n).toNat 128) := by unfold sh; rw [if_pos h0]
    rw [e]
    by_cases h1 : n < -128
    · exact refleft_low a ha n h1 _ (by omega) w
    · exact refleft_neg a ha n _ (by omega) h1 w
  · have e : sh a n = a * 2 ^ (min n.toNat 128) % WW := by unfold sh; rw [if_neg h0]
    rw [e, digs_mod w]
    by_cases h1 : n > 128
    · exact refleft_big a n h1 _ (by omega) w
    · exact refleft_pos a n _ (by omega) h1 w

theorem wdown_any (hi lo n : Nat) (h1 : hi ≤ 18446744073709551615) (h2 : lo ≤ 18446744073709551615) (hn : n < 128) (w : World) :
    Calls Try.prog 24 #[.agg #[.int .u64 hi, .int .u64 lo], .int .u64 n] w fun e w' => e = .returned (.agg #[.int .u64 (((hi * 18446744073709551616 + lo) / 2 ^ n / 18446744073709551616 : Nat) : Int), .int .u64 (((hi * 18446744073709551616 + lo) / 2 ^ n % 18446744073709551616 : Nat) : Int)]) ∧ New w w' := by
  by_cases h : n < 64
  · exact wdown_lo hi lo n h1 h2 h w
  · exact wdown_hi hi lo n h1 h2 (by omega) hn w
theorem wup_any (hi lo n : Nat) (h1 : hi ≤ 18446744073709551615) (h2 : lo ≤ 18446744073709551615) (hn : n < 128) (w : World) :
    Calls Try.prog 25 #[.agg #[.int .u64 hi, .int .u64 lo], .int .u64 n] w fun e w' => e = .returned (.agg #[.int .u64 (((hi * 18446744073709551616 + lo) * 2 ^ n % WW / 18446744073709551616 : Nat) : Int), .int .u64 (((hi * 18446744073709551616 + lo) * 2 ^ n % WW % 18446744073709551616 : Nat) : Int)]) ∧ New w w' := by
  by_cases h : n < 64
  · exact wup_lo hi lo n h1 h2 h w
  · exact wup_hi hi lo n h1 h2 (by omega) hn w

theorem wleft_any (hi lo : Nat) (n : Int) (h1 : hi ≤ 18446744073709551615) (h2 : lo ≤ 18446744073709551615) (w : World) :
    Calls Try.prog 7 #[.agg #[.int .u64 hi, .int .u64 lo], .int .i64 n] w fun e w' => e = .returned (.agg #[.int .u64 ((sh (hi * 18446744073709551616 + lo) n / 18446744073709551616 : Nat) : Int), .int .u64 ((sh (hi * 18446744073709551616 + lo) n % 18446744073709551616 : Nat) : Int)]) ∧ New w w' := by
  have ha : hi * 18446744073709551616 + lo < WW := by unfold WW; omega
  by_cases c1 : n ≤ -128
  · have e : sh (hi * 18446744073709551616 + lo) n = 0 := by
      unfold sh
      rw [if_pos (by omega), show min (-n).toNat 128 = 128 by omega]
      exact Nat.div_eq_of_lt ha
    rw [e]
    clear e ha h1 h2
    go_enter Try.func7, Try.ntmps7
    go_wp2_with fail
    refine bodyPost_ret (v := .agg #[.int .u64 0, .int .u64 0]) (by simp [results, Try.results7, go_sem]) rfl ⟨by simp, ?_⟩
    first | exact (New.refl _).alloc _ | exact ((New.refl _).alloc _).alloc _
  · by_cases c2 : 128 ≤ n
    · have e : sh (hi * 18446744073709551616 + lo) n = 0 := by
        unfold sh
        rw [if_neg (by omega), show min n.toNat 128 = 128 by omega, show (2 : Nat) ^ 128 = WW from rfl]
        exact Nat.mul_mod_left _ _
      rw [e]
      clear e ha h1 h2
      go_enter Try.func7, Try.ntmps7
      go_wp2_with fail
      refine bodyPost_ret (v := .agg #[.int .u64 0, .int .u64 0]) (by simp [results, Try.results7, go_sem]) rfl ⟨by simp, ?_⟩
      first | exact (New.refl _).alloc _ | exact ((New.refl _).alloc _).alloc _
    · by_cases c3 : n < 0
      · obtain ⟨m, rfl⟩ : ∃ m : Nat, n = -(m : Int) := ⟨(-n).toNat, by omega⟩
        have HF := Lib.hid (fun w => wdown_any hi lo m h1 h2 (by omega) w)
        have e : sh (hi * 18446744073709551616 + lo) (-(m : Int)) = (hi * 18446744073709551616 + lo) / 2 ^ m := by
          unfold sh
          rw [if_pos c3, show min (- -(m : Int)).toNat 128 = m by omega]
        rw [e]
        clear e ha h1 h2
        generalize (hi * 18446744073709551616 + lo) / 2 ^ m = S at *
        generalize S / 18446744073709551616 = X at *
        generalize S % 18446744073709551616 = Y at *
        go_enter Try.func7, Try.ntmps7
        go_wp2_with fail
        refine (HF.out _).mono ?_
        rintro e w1 ⟨rfl, n1⟩
        have N1 : New w w1 := by first | exact ((New.refl w).alloc _).trans n1 | exact (((New.refl w).alloc _).alloc _).trans n1
        have B1 : Box w1 (w.heap.size + 1) 25 #[.int .u64 0, .int .u64 0] := box_at (by simp) ((Box.made (w.alloc (.cells #[.int .u64 hi, .int .u64 lo] 25 (0, 0))) 25 _).new n1)
        have bc0 : w1.cell? ⟨w.heap.size + 1, 0, none⟩ = some (.int .u64 0) := Box.cell B1 0
        have bc1 : w1.cell? ⟨w.heap.size + 1, 1, none⟩ = some (.int .u64 0) := Box.cell B1 1
        have bf0 : w1.frozen? ⟨w.heap.size + 1, 0, none⟩ = false := Box.frozen B1 0
        have bf1 : w1.frozen? ⟨w.heap.size + 1, 1, none⟩ = false := Box.frozen B1 1
        clear n1 HF
        go_wp2_with fail
        refine bodyPost_ret (v := .agg #[.int .u64 X, .int .u64 Y]) (by simp [results, Try.results7, go_sem, bc0, bc1]) rfl ⟨rfl, ?_⟩
        exact (N1.setCell (show w.heap.size ≤ w.heap.size + 1 by omega) _).setCell (show w.heap.size ≤ w.heap.size + 1 by omega) _
      · obtain ⟨m, rfl⟩ : ∃ m : Nat, n = (m : Int) := ⟨n.toNat, by omega⟩
        have HF := Lib.hid (fun w => wup_any hi lo m h1 h2 (by omega) w)
        have e : sh (hi * 18446744073709551616 + lo) (m : Int) = (hi * 18446744073709551616 + lo) * 2 ^ m % WW := by
          unfold sh
          rw [if_neg c3, show min (m : Int).toNat 128 = m by omega]
        rw [e]
        clear e ha h1 h2
        generalize (hi * 18446744073709551616 + lo) * 2 ^ m % WW = S at *
        generalize S / 18446744073709551616 = X at *
        generalize S % 18446744073709551616 = Y at *
        go_enter Try.func7, Try.ntmps7
        go_wp2_with fail
        refine (HF.out _).mono ?_
        rintro e w1 ⟨rfl, n1⟩
        have N1 : New w w1 := by first | exact ((New.refl w).alloc _).trans n1 | exact (((New.refl w).alloc _).alloc _).trans n1
        have B1 : Box w1 (w.heap.size + 1) 25 #[.int .u64 0, .int .u64 0] := box_at (by simp) ((Box.made (w.alloc (.cells #[.int .u64 hi, .int .u64 lo] 25 (0, 0))) 25 _).new n1)
        have bc0 : w1.cell? ⟨w.heap.size + 1, 0, none⟩ = some (.int .u64 0) := Box.cell B1 0
        have bc1 : w1.cell? ⟨w.heap.size + 1, 1, none⟩ = some (.int .u64 0) := Box.cell B1 1
        have bf0 : w1.frozen? ⟨w.heap.size + 1, 0, none⟩ = false := Box.frozen B1 0
        have bf1 : w1.frozen? ⟨w.heap.size + 1, 1, none⟩ = false := Box.frozen B1 1
        clear n1 HF
        go_wp2_with fail
        refine bodyPost_ret (v := .agg #[.int .u64 X, .int .u64 Y]) (by simp [results, Try.results7, go_sem, bc0, bc1]) rfl ⟨rfl, ?_⟩
        exact (N1.setCell (show w.heap.size ≤ w.heap.size + 1 by omega) _).setCell (show w.heap.size ≤ w.heap.size + 1 by omega) _
end Go.Proofs.Ytoiadefffmhibaa
