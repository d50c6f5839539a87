/- Contracts of the reference of layer wide: Mul. -/
import Derived.Test.YtoiadefffmhibaaProg
import Derived.Test.YtoiadefffmhibaaDigs
import Derived.Test.YtoiadefffmhibaaWof
import Derived.Test.YtoiadefffmhibaaWbit
import Derived.Test.YtoiadefffmhibaaPut
import Derived.BigQuiet
import Derived.Deep.QuietTactic
import Derived.Deep.LoopGhost
import Derived.WalkMore
namespace Go.Proofs.Ytoiadefffmhibaa
open Go.RowKit
set_option linter.unusedVariables false

set_option maxRecDepth 100000 in
set_option maxHeartbeats 1000000 in
theorem refmul_any (a b : Nat) (h1 : a < 18446744073709551616) (h2 : b < 18446744073709551616) (w : World) :
    Calls Try.prog 19 #[.int .u64 a, .int .u64 b] w fun e w' => e = .returned (.agg #[.int .i64 (dig (a * b) 0), .int .i64 (dig (a * b) 1), .int .i64 (dig (a * b) 2), .int .i64 (dig (a * b) 3), .int .i64 (dig (a * b) 4), .int .i64 (dig (a * b) 5), .int .i64 (dig (a * b) 6), .int .i64 (dig (a * b) 7)]) ∧ New w w' := by
  have HX := Lib.hid (fun w => refof_any 0 a (by decide) h1 w)
  have HY := Lib.hid (fun w => refof_any 0 b (by decide) h2 w)
  rw [Nat.zero_mul, Nat.zero_add] at HX HY
  have HB := Lib.hid (fun k hk w => refbit_any a k hk w)
  have HA := Lib.hid (fun x y w => refadd_any x y w)
  have ms := Lib.hid (fun k => mul_step a b k)
  have me : a / 2 ^ 0 * b = a * b := by simp
  have m0 : a / 2 ^ 64 * b = 0 := by rw [Nat.div_eq_of_lt h1, Nat.zero_mul]
  clear h1 h2
  go_enter Try.func19, Try.ntmps19
  go_wp2_with fail
  refine (HX.out _).mono ?_
  rintro e w1 ⟨rfl, n1⟩
  go_wp2_with fail
  refine (HY.out _).mono ?_
  rintro e w2 ⟨rfl, n2⟩
  go_wp2_with fail
  have R2 : Digs w2 w.heap.size (dig 0) := Digs.zero (((Box.made w 27 _).new n1).new n2) rfl
  have lt2 : w.heap.size < w2.heap.size := Box.lt R2
  have N2 : New w w2 := (((New.refl w).alloc _).trans n1).trans n2
  clear n1 n2 HX HY
  go_loopg [8] 64 (fun n k wr => ∃ j : Int, k = .int .i64 j ∧ -1 ≤ j ∧ j ≤ 63 ∧ (n : Int) = j + 1 ∧ Digs wr w.heap.size (dig 0) ∧ Digs wr w2.heap.size (dig a) ∧ Digs wr (w2.heap.size + 1) (dig b) ∧ Digs wr (w2.heap.size + 1 + 1) (dig (a / 2 ^ n * b)) ∧ New w wr)
  case atStart =>
    refine ⟨63, rfl, by omega, by omega, rfl, ?_, ?_, ?_, ?_, ?_⟩
    · exact ((Box.alloc R2 _).alloc _).alloc _
    · exact (((Box.made w2 27 _).alloc _).alloc _)
    · exact box_at (by simp) ((Box.made _ 27 _).alloc _)
    · rw [m0]
      exact Digs.zero (box_at (by simp) (Box.made _ 27 _)) rfl
    · exact ((N2.alloc _).alloc _).alloc _
  case round =>
    obtain ⟨j, rfl, hj1, hj2, hn, hR, hX, hY, hD, hnw⟩ := hrel
    clear m0
    by_cases hj : 0 ≤ j
    · obtain ⟨k, rfl⟩ : ∃ k : Nat, j = k := ⟨j.toNat, by omega⟩
      have hk : gk = k + 1 := by omega
      subst hk
      have ms := ms.out k
      have hk2 : k < 128 := by omega
      have hge : (k : Int) ≥ 0 := by omega
      generalize hQ : a / 2 ^ k * b = Q' at ms
      generalize a / 2 ^ (k + 1) * b = Q at *
      clear me
      have pc0 := Digs.at_ hD 0 (by decide)
      have pc1 := Digs.at_ hD 1 (by decide)
      have pc2 := Digs.at_ hD 2 (by decide)
      have pc3 := Digs.at_ hD 3 (by decide)
      have pc4 := Digs.at_ hD 4 (by decide)
      have pc5 := Digs.at_ hD 5 (by decide)
      have pc6 := Digs.at_ hD 6 (by decide)
      have pc7 := Digs.at_ hD 7 (by decide)
      go_wp2_with fail
      refine (HA.out Q Q _).mono ?_
      rintro e w3 ⟨rfl, n3⟩
      have D3 := hD.new n3
      have X3 := hX.new n3
      have Y3 := hY.new n3
      have R3 := hR.new n3
      have N3 := hnw.trans n3
      clear pc0 pc1 pc2 pc3 pc4 pc5 pc6 pc7
      clear hD hX hY hR hnw n3
      have pc0 := Digs.at_ D3 0 (by decide)
      have pf0 : (w3).frozen? ⟨w2.heap.size + 1 + 1, 0, none⟩ = false := Box.frozen D3 0
      have pc1 := Digs.at_ D3 1 (by decide)
      have pf1 : (w3).frozen? ⟨w2.heap.size + 1 + 1, 1, none⟩ = false := Box.frozen D3 1
      have pc2 := Digs.at_ D3 2 (by decide)
      have pf2 : (w3).frozen? ⟨w2.heap.size + 1 + 1, 2, none⟩ = false := Box.frozen D3 2
      have pc3 := Digs.at_ D3 3 (by decide)
      have pf3 : (w3).frozen? ⟨w2.heap.size + 1 + 1, 3, none⟩ = false := Box.frozen D3 3
      have pc4 := Digs.at_ D3 4 (by decide)
      have pf4 : (w3).frozen? ⟨w2.heap.size + 1 + 1, 4, none⟩ = false := Box.frozen D3 4
      have pc5 := Digs.at_ D3 5 (by decide)
      have pf5 : (w3).frozen? ⟨w2.heap.size + 1 + 1, 5, none⟩ = false := Box.frozen D3 5
      have pc6 := Digs.at_ D3 6 (by decide)
      have pf6 : (w3).frozen? ⟨w2.heap.size + 1 + 1, 6, none⟩ = false := Box.frozen D3 6
      have pc7 := Digs.at_ D3 7 (by decide)
      have pf7 : (w3).frozen? ⟨w2.heap.size + 1 + 1, 7, none⟩ = false := Box.frozen D3 7
      have xc0 := Digs.at_ X3 0 (by decide)
      have xc1 := Digs.at_ X3 1 (by decide)
      have xc2 := Digs.at_ X3 2 (by decide)
      have xc3 := Digs.at_ X3 3 (by decide)
      have xc4 := Digs.at_ X3 4 (by decide)
      have xc5 := Digs.at_ X3 5 (by decide)
      have xc6 := Digs.at_ X3 6 (by decide)
      have xc7 := Digs.at_ X3 7 (by decide)
      go_wp2_with fail
      refine (HB.out k hk2 _).mono ?_
      rintro e w4 ⟨rfl, n4⟩
      have D4 := (D3.put8 (dig (Q + Q))).new n4
      have X4 := (X3.off8 (show w2.heap.size ≠ w2.heap.size + 1 + 1 by omega) (dig (Q + Q))).new n4
      have Y4 := (Y3.off8 (show w2.heap.size + 1 ≠ w2.heap.size + 1 + 1 by omega) (dig (Q + Q))).new n4
      have R4 := (R3.off8 (show w.heap.size ≠ w2.heap.size + 1 + 1 by omega) (dig (Q + Q))).new n4
      have N4 := (N3.set8 (show w.heap.size ≤ w2.heap.size + 1 + 1 by omega) (dig (Q + Q))).trans n4
      clear pc0 pc1 pc2 pc3 pc4 pc5 pc6 pc7 pf0 pf1 pf2 pf3 pf4 pf5 pf6 pf7
      clear xc0 xc1 xc2 xc3 xc4 xc5 xc6 xc7
      clear D3 X3 Y3 R3 N3 n4
      have hb2 : a / 2 ^ k % 2 < 2 := Nat.mod_lt _ (by decide)
      generalize a / 2 ^ k % 2 = bit at *
      by_cases hb : bit = 1
      · subst hb
        rw [if_pos rfl] at ms
        have pc0 := Digs.at_ D4 0 (by decide)
        have pc1 := Digs.at_ D4 1 (by decide)
        have pc2 := Digs.at_ D4 2 (by decide)
        have pc3 := Digs.at_ D4 3 (by decide)
        have pc4 := Digs.at_ D4 4 (by decide)
        have pc5 := Digs.at_ D4 5 (by decide)
        have pc6 := Digs.at_ D4 6 (by decide)
        have pc7 := Digs.at_ D4 7 (by decide)
        have yc0 := Digs.at_ Y4 0 (by decide)
        have yc1 := Digs.at_ Y4 1 (by decide)
        have yc2 := Digs.at_ Y4 2 (by decide)
        have yc3 := Digs.at_ Y4 3 (by decide)
        have yc4 := Digs.at_ Y4 4 (by decide)
        have yc5 := Digs.at_ Y4 5 (by decide)
        have yc6 := Digs.at_ Y4 6 (by decide)
        have yc7 := Digs.at_ Y4 7 (by decide)
        go_wp2_with fail
        refine (HA.out (Q + Q) b _).mono ?_
        rintro e w5 ⟨rfl, n5⟩
        have D5 := D4.new n5
        have X5 := X4.new n5
        have Y5 := Y4.new n5
        have R5 := R4.new n5
        have N5 := N4.trans n5
        clear pc0 pc1 pc2 pc3 pc4 pc5 pc6 pc7
        clear yc0 yc1 yc2 yc3 yc4 yc5 yc6 yc7
        clear D4 X4 Y4 R4 N4 n5
        rw [ms]
        have pc0 := Digs.at_ D5 0 (by decide)
        have pf0 : (w5).frozen? ⟨w2.heap.size + 1 + 1, 0, none⟩ = false := Box.frozen D5 0
        have pc1 := Digs.at_ D5 1 (by decide)
        have pf1 : (w5).frozen? ⟨w2.heap.size + 1 + 1, 1, none⟩ = false := Box.frozen D5 1
        have pc2 := Digs.at_ D5 2 (by decide)
        have pf2 : (w5).frozen? ⟨w2.heap.size + 1 + 1, 2, none⟩ = false := Box.frozen D5 2
        have pc3 := Digs.at_ D5 3 (by decide)
        have pf3 : (w5).frozen? ⟨w2.heap.size + 1 + 1, 3, none⟩ = false := Box.frozen D5 3
        have pc4 := Digs.at_ D5 4 (by decide)
        have pf4 : (w5).frozen? ⟨w2.heap.size + 1 + 1, 4, none⟩ = false := Box.frozen D5 4
        have pc5 := Digs.at_ D5 5 (by decide)
        have pf5 : (w5).frozen? ⟨w2.heap.size + 1 + 1, 5, none⟩ = false := Box.frozen D5 5
        have pc6 := Digs.at_ D5 6 (by decide)
        have pf6 : (w5).frozen? ⟨w2.heap.size + 1 + 1, 6, none⟩ = false := Box.frozen D5 6
        have pc7 := Digs.at_ D5 7 (by decide)
        have pf7 : (w5).frozen? ⟨w2.heap.size + 1 + 1, 7, none⟩ = false := Box.frozen D5 7
        go_wp2_with fail
        go_roundg k
        case rel =>
          refine ⟨(k : Int) - 1, by simp, by omega, by omega, by omega, ?_, ?_, ?_, ?_, ?_⟩
          · exact R5.off8 (show w.heap.size ≠ w2.heap.size + 1 + 1 by omega) (dig Q')
          · exact X5.off8 (show w2.heap.size ≠ w2.heap.size + 1 + 1 by omega) (dig Q')
          · exact Y5.off8 (show w2.heap.size + 1 ≠ w2.heap.size + 1 + 1 by omega) (dig Q')
          · rw [hQ]; exact D5.put8 (dig Q')
          · exact N5.set8 (show w.heap.size ≤ w2.heap.size + 1 + 1 by omega) (dig Q')
        case measure => omega
      · have hb0 : bit = 0 := by omega
        subst hb0
        rw [if_neg (by decide), Nat.add_zero] at ms
        rw [ms] at D4
        go_wp2_with fail
        go_roundg k
        case rel =>
          exact ⟨(k : Int) - 1, by simp, by omega, by omega, by omega, R4, X4, Y4, by rw [hQ]; exact D4, N4⟩
        case measure => omega
    · have hje : j = -1 := by omega
      subst hje
      have hk : gk = 0 := by omega
      subst hk
      rw [me] at hD
      clear me ms HA HB
      have pc0 := Digs.at_ hD 0 (by decide)
      have pc1 := Digs.at_ hD 1 (by decide)
      have pc2 := Digs.at_ hD 2 (by decide)
      have pc3 := Digs.at_ hD 3 (by decide)
      have pc4 := Digs.at_ hD 4 (by decide)
      have pc5 := Digs.at_ hD 5 (by decide)
      have pc6 := Digs.at_ hD 6 (by decide)
      have pc7 := Digs.at_ hD 7 (by decide)
      have rc0 := Digs.at_ hR 0 (by decide)
      have rf0 : (wr).frozen? ⟨w.heap.size, 0, none⟩ = false := Box.frozen hR 0
      have rc1 := Digs.at_ hR 1 (by decide)
      have rf1 : (wr).frozen? ⟨w.heap.size, 1, none⟩ = false := Box.frozen hR 1
      have rc2 := Digs.at_ hR 2 (by decide)
      have rf2 : (wr).frozen? ⟨w.heap.size, 2, none⟩ = false := Box.frozen hR 2
      have rc3 := Digs.at_ hR 3 (by decide)
      have rf3 : (wr).frozen? ⟨w.heap.size, 3, none⟩ = false := Box.frozen hR 3
      have rc4 := Digs.at_ hR 4 (by decide)
      have rf4 : (wr).frozen? ⟨w.heap.size, 4, none⟩ = false := Box.frozen hR 4
      have rc5 := Digs.at_ hR 5 (by decide)
      have rf5 : (wr).frozen? ⟨w.heap.size, 5, none⟩ = false := Box.frozen hR 5
      have rc6 := Digs.at_ hR 6 (by decide)
      have rf6 : (wr).frozen? ⟨w.heap.size, 6, none⟩ = false := Box.frozen hR 6
      have rc7 := Digs.at_ hR 7 (by decide)
      have rf7 : (wr).frozen? ⟨w.heap.size, 7, none⟩ = false := Box.frozen hR 7
      go_wp2
      refine bodyPost_ret (v := .agg #[.int .i64 (dig (a * b) 0), .int .i64 (dig (a * b) 1), .int .i64 (dig (a * b) 2), .int .i64 (dig (a * b) 3), .int .i64 (dig (a * b) 4), .int .i64 (dig (a * b) 5), .int .i64 (dig (a * b) 6), .int .i64 (dig (a * b) 7)]) (by simp [results, Try.results19, go_sem, rc0, rc1, rc2, rc3, rc4, rc5, rc6, rc7]) rfl ⟨rfl, ?_⟩
      exact hnw.set8 (Nat.le_refl _) (dig (a * b))
end Go.Proofs.Ytoiadefffmhibaa
