/- Contracts of the reference of layer wide: Of. -/
import Derived.Test.YtoiadefffmhibaaProg
import Derived.Test.YtoiadefffmhibaaDigs
import Derived.Test.YtoiadefffmhibaaWadd
import Derived.BigQuiet
import Derived.Deep.QuietTactic
import Derived.Deep.LoopGhost
import Derived.WalkMore
namespace Go.Proofs.Ytoiadefffmhibaa
open Go.RowKit
set_option linter.unusedVariables false

/-- the digits that the loop of Of has laid -/
def ofAt (hi lo j i : Nat) : Nat := if i < j then dig lo i else if 4 ≤ i ∧ i < 4 + j then dig hi (i - 4) else 0
theorem ofAt_step (hi lo j : Nat) (hj : j < 4) : (fun i => if i = 4 + j then dig hi j else if i = j then dig lo j else ofAt hi lo j i) = ofAt hi lo (j + 1) := by
  funext i
  unfold ofAt
  by_cases h1 : i = 4 + j
  · subst h1
    rw [if_pos rfl, if_neg (by omega), if_pos (by omega), Nat.add_sub_cancel_left]
  · rw [if_neg h1]
    by_cases h2 : i = j
    · subst h2; simp
    · rw [if_neg h2]
      by_cases h3 : i < j
      · rw [if_pos h3, if_pos (by omega)]
      · rw [if_neg h3, if_neg (show ¬ i < j + 1 by omega)]
        by_cases h4 : 4 ≤ i ∧ i < 4 + j
        · rw [if_pos h4, if_pos (by omega)]
        · rw [if_neg h4, if_neg (by omega)]
theorem ofAt_full (hi lo i : Nat) (hi' : lo < 18446744073709551616) (h : i < 8) : ofAt hi lo 4 i = dig (hi * 18446744073709551616 + lo) i := by
  unfold ofAt dig
  split
  · have e : (18446744073709551616 : Nat) = 65536 ^ i * (65536 * 65536 ^ (3 - i)) := by
      rw [← Nat.pow_succ', ← Nat.pow_add, show i + (3 - i).succ = 4 by omega]
    conv => rhs; rw [e, ← Nat.mul_assoc, Nat.mul_comm hi, Nat.mul_assoc, Nat.mul_add_div (Nat.pow_pos (by decide)), Nat.mul_comm hi, Nat.mul_assoc, Nat.mul_add_mod]
  · rw [if_pos (by omega)]
    have e : (65536 : Nat) ^ i = 18446744073709551616 * 65536 ^ (i - 4) := by
      rw [show (18446744073709551616 : Nat) = 65536 ^ 4 by rfl, ← Nat.pow_add, show 4 + (i - 4) = i by omega]
    rw [e, ← Nat.div_div_eq_div_mul, Nat.mul_comm hi, Nat.mul_add_div (by decide), Nat.div_eq_of_lt hi', Nat.add_zero]

set_option maxRecDepth 100000 in
set_option maxHeartbeats 1000000 in
theorem refof_any (hi lo : Nat) (h1 : hi < 18446744073709551616) (h2 : lo < 18446744073709551616) (w : World) :
    Calls Try.prog 23 #[.int .u64 hi, .int .u64 lo] w fun e w' => e = .returned (.agg #[.int .i64 (dig (hi * 18446744073709551616 + lo) 0), .int .i64 (dig (hi * 18446744073709551616 + lo) 1), .int .i64 (dig (hi * 18446744073709551616 + lo) 2), .int .i64 (dig (hi * 18446744073709551616 + lo) 3), .int .i64 (dig (hi * 18446744073709551616 + lo) 4), .int .i64 (dig (hi * 18446744073709551616 + lo) 5), .int .i64 (dig (hi * 18446744073709551616 + lo) 6), .int .i64 (dig (hi * 18446744073709551616 + lo) 7)]) ∧ New w w' := by
  have full := fun i h => ofAt_full hi lo i h2 h
  generalize hi * 18446744073709551616 + lo = m at full ⊢
  have b1 : ∀ j, hi / 65536 ^ j ≤ 18446744073709551615 := fun j => Nat.le_trans (Nat.div_le_self _ _) (by omega)
  have b2 : ∀ j, lo / 65536 ^ j ≤ 18446744073709551615 := fun j => Nat.le_trans (Nat.div_le_self _ _) (by omega)
  clear h1 h2
  have z1 : hi / 65536 ^ 0 = hi := by simp
  have z2 : lo / 65536 ^ 0 = lo := by simp
  go_enter Try.func23, Try.ntmps23
  go_wp2_with fail
  go_loopg [0, 1, 6] 4 (fun n x y i wr => ∃ j : Nat, x = .int .u64 (hi / 65536 ^ j : Nat) ∧ y = .int .u64 (lo / 65536 ^ j : Nat) ∧ i = .int .i64 j ∧ j + n = 4 ∧ Digs wr w.heap.size (fun _ => 0) ∧ Digs wr (w.heap.size + 1) (ofAt hi lo j) ∧ New w wr)
  case atStart => 
    refine ⟨0, by rw [z1], by rw [z2], rfl, rfl, ?_, ?_, ?_⟩
    · exact (Box.made w 27 _).alloc _
    · exact box_at (by simp) (Box.made _ 27 _)
    · exact ((New.refl _).alloc _).alloc _
  case round =>
    obtain ⟨j, rfl, rfl, rfl, hjn, hR, hD, hnw⟩ := hrel
    by_cases hj : j < 4
    · have e1 : dig hi j = hi / 65536 ^ j % 65536 := rfl
      have e2 : dig lo j = lo / 65536 ^ j % 65536 := rfl
      have e3 : hi / 65536 ^ (j + 1) = hi / 65536 ^ j / 65536 := by rw [Nat.pow_succ, Nat.div_div_eq_div_mul]
      have e4 : lo / 65536 ^ (j + 1) = lo / 65536 ^ j / 65536 := by rw [Nat.pow_succ, Nat.div_div_eq_div_mul]
      have e5 := ofAt_step hi lo j hj
      have b1 := b1 j
      have b2 := b2 j
      have cD := hD.at_ j (by omega)
      have cD4 := hD.at_ (4 + j) (by omega)
      have fD : wr.frozen? ⟨w.heap.size + 1, j, none⟩ = false := Box.frozen hD j
      have fD4 : wr.frozen? ⟨w.heap.size + 1, 4 + j, none⟩ = false := Box.frozen hD (4 + j)
      have put := (hD.put j (by omega) (dig lo j)).put (4 + j) (by omega) (dig hi j)
      rw [e5, e1, e2] at put
      clear full
      generalize hi / 65536 ^ j = x at *
      generalize lo / 65536 ^ j = y at *
      have hj' : (j : Int) < 4 := by omega
      have b3 : ((y : Int) % 65536) ≤ 9223372036854775807 := by omega
      have b4 : ((x : Int) % 65536) ≤ 9223372036854775807 := by omega
      have b5 : 0 ≤ ((y : Int) % 65536) := by omega
      have b6 : 0 ≤ ((x : Int) % 65536) := by omega
      go_wp2
      go_roundg (gk - 1)
      case rel =>
        refine ⟨j + 1, by rw [e3]; simp, by rw [e4]; simp, by simp, by omega, ?_, ?_, ?_⟩
        · exact Box.off (Box.off hR (by simp) _) (by simp) _
        · simpa using put
        · exact (hnw.setCell (by show w.heap.size ≤ w.heap.size + 1; omega) _).setCell (by show w.heap.size ≤ w.heap.size + 1; omega) _
      case measure => omega
    · have hje : j = 4 := by omega
      subst hje
      have d0 := hD.at_ 0 (by omega)
      have d1 := hD.at_ 1 (by omega)
      have d2 := hD.at_ 2 (by omega)
      have d3 := hD.at_ 3 (by omega)
      have d4 := hD.at_ 4 (by omega)
      have d5 := hD.at_ 5 (by omega)
      have d6 := hD.at_ 6 (by omega)
      have d7 := hD.at_ 7 (by omega)
      rw [full _ (by omega)] at d0 d1 d2 d3 d4 d5 d6 d7
      clear full
      have r0 := hR.at_ 0 (by omega)
      have r1 := hR.at_ 1 (by omega)
      have r2 := hR.at_ 2 (by omega)
      have r3 := hR.at_ 3 (by omega)
      have r4 := hR.at_ 4 (by omega)
      have r5 := hR.at_ 5 (by omega)
      have r6 := hR.at_ 6 (by omega)
      have r7 := hR.at_ 7 (by omega)
      have f0 : wr.frozen? ⟨w.heap.size, 0, none⟩ = false := Box.frozen hR 0
      have f1 : wr.frozen? ⟨w.heap.size, 1, none⟩ = false := Box.frozen hR 1
      have f2 : wr.frozen? ⟨w.heap.size, 2, none⟩ = false := Box.frozen hR 2
      have f3 : wr.frozen? ⟨w.heap.size, 3, none⟩ = false := Box.frozen hR 3
      have f4 : wr.frozen? ⟨w.heap.size, 4, none⟩ = false := Box.frozen hR 4
      have f5 : wr.frozen? ⟨w.heap.size, 5, none⟩ = false := Box.frozen hR 5
      have f6 : wr.frozen? ⟨w.heap.size, 6, none⟩ = false := Box.frozen hR 6
      have f7 : wr.frozen? ⟨w.heap.size, 7, none⟩ = false := Box.frozen hR 7
      go_wp2
      refine bodyPost_ret (v := .agg #[.int .i64 (dig m 0), .int .i64 (dig m 1), .int .i64 (dig m 2), .int .i64 (dig m 3), .int .i64 (dig m 4), .int .i64 (dig m 5), .int .i64 (dig m 6), .int .i64 (dig m 7)]) (by simp [results, Try.results23, go_sem, r0, r1, r2, r3, r4, r5, r6, r7]) rfl ⟨rfl, ?_⟩
      repeat (refine New.setCell ?_ (Nat.le_refl _) _)
      exact hnw
end Go.Proofs.Ytoiadefffmhibaa
