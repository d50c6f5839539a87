/- Contracts of the reference of layer wide: Left. -/
import Derived.Test.YtoiadefffmhibaaProg
import Derived.Test.YtoiadefffmhibaaDigs
import Derived.Test.YtoiadefffmhibaaWof
import Derived.Test.YtoiadefffmhibaaWbit
import Derived.Test.YtoiadefffmhibaaPut
import Derived.Test.YtoiadefffmhibaaWdiv
import Derived.BigQuiet
import Derived.Deep.QuietTactic
import Derived.Deep.LoopGhost
import Derived.WalkMore
namespace Go.Proofs.Ytoiadefffmhibaa
open Go.RowKit
set_option linter.unusedVariables false

set_option maxRecDepth 100000 in
set_option maxHeartbeats 1000000 in
theorem refleft_big (a : Nat) (n : Int) (hn : n > 128) (P : Nat) (hP : P = 128) (w : World) :
    Calls Try.prog 8 #[.agg #[.int .i64 (dig a 0), .int .i64 (dig a 1), .int .i64 (dig a 2), .int .i64 (dig a 3), .int .i64 (dig a 4), .int .i64 (dig a 5), .int .i64 (dig a 6), .int .i64 (dig a 7)], .int .i64 n] w fun e w' => e = .returned (.agg #[.int .i64 (dig (a * 2 ^ P) 0), .int .i64 (dig (a * 2 ^ P) 1), .int .i64 (dig (a * 2 ^ P) 2), .int .i64 (dig (a * 2 ^ P) 3), .int .i64 (dig (a * 2 ^ P) 4), .int .i64 (dig (a * 2 ^ P) 5), .int .i64 (dig (a * 2 ^ P) 6), .int .i64 (dig (a * 2 ^ P) 7)]) ∧ New w w' := by
  have HA := Lib.hid (fun x y w => refadd_any x y w)
  have pw := Lib.hid (fun g (h : g + 1 ≤ P) => show a * 2 ^ (P - (g + 1)) + a * 2 ^ (P - (g + 1)) = a * 2 ^ (P - g) by
    rw [show P - g = (P - (g + 1)) + 1 by omega, Nat.pow_succ, ← Nat.mul_assoc, Nat.mul_two])
  have p0 : a * 2 ^ (P - P) = a := by simp
  have pe : P - 0 = P := rfl
  have c1 : ¬ n < -128 := by omega
  generalize hX : a * 2 ^ P = X
  go_enter Try.func8, Try.ntmps8
  go_wp2_with fail
  go_loopg [1] P (fun g m wr => m = .int .i64 (g : Int) ∧ g ≤ P ∧ Digs wr w.heap.size (dig (a * 2 ^ (P - g))) ∧ Digs wr (w.heap.size + 1) (dig 0) ∧ New w wr)
  case atStart =>
    refine ⟨by simp [hP], by omega, ?_, ?_, ?_⟩
    · rw [p0]; exact (Box.made w 27 _).alloc _
    · exact Digs.zero (box_at (by simp) (Box.made _ 27 _)) rfl
    · exact ((New.refl _).alloc _).alloc _
  case round =>
    obtain ⟨rfl, hg, hD, hR, hnw⟩ := hrel
    clear p0
    by_cases h0 : gk = 0
    · subst h0
      rw [pe, hX] at hD
      clear pe hX HA pw
      go_wp2_with fail
      go_loopg [1] 0 (fun g m wr => m = .int .i64 0 ∧ Digs wr w.heap.size (dig X) ∧ Digs wr (w.heap.size + 1) (dig 0) ∧ New w wr)
      case atStart => exact ⟨rfl, hD, hR, hnw⟩
      case round =>
      clear hD hR hnw
      obtain ⟨rfl, hD, hR, hnw⟩ := hrel
      have pc0 := Digs.at_ hD 0 (by decide)
      have pc1 := Digs.at_ hD 1 (by decide)
      have pc2 := Digs.at_ hD 2 (by decide)
      have pc3 := Digs.at_ hD 3 (by decide)
      have pc4 := Digs.at_ hD 4 (by decide)
      have pc5 := Digs.at_ hD 5 (by decide)
      have pc6 := Digs.at_ hD 6 (by decide)
      have pc7 := Digs.at_ hD 7 (by decide)
      have rc0 := Digs.at_ hR 0 (by decide)
      have rf0 : (wr).frozen? ⟨w.heap.size + 1, 0, none⟩ = false := Box.frozen hR 0
      have rc1 := Digs.at_ hR 1 (by decide)
      have rf1 : (wr).frozen? ⟨w.heap.size + 1, 1, none⟩ = false := Box.frozen hR 1
      have rc2 := Digs.at_ hR 2 (by decide)
      have rf2 : (wr).frozen? ⟨w.heap.size + 1, 2, none⟩ = false := Box.frozen hR 2
      have rc3 := Digs.at_ hR 3 (by decide)
      have rf3 : (wr).frozen? ⟨w.heap.size + 1, 3, none⟩ = false := Box.frozen hR 3
      have rc4 := Digs.at_ hR 4 (by decide)
      have rf4 : (wr).frozen? ⟨w.heap.size + 1, 4, none⟩ = false := Box.frozen hR 4
      have rc5 := Digs.at_ hR 5 (by decide)
      have rf5 : (wr).frozen? ⟨w.heap.size + 1, 5, none⟩ = false := Box.frozen hR 5
      have rc6 := Digs.at_ hR 6 (by decide)
      have rf6 : (wr).frozen? ⟨w.heap.size + 1, 6, none⟩ = false := Box.frozen hR 6
      have rc7 := Digs.at_ hR 7 (by decide)
      have rf7 : (wr).frozen? ⟨w.heap.size + 1, 7, none⟩ = false := Box.frozen hR 7
      clear hD hR
      go_wp2
      refine bodyPost_ret (v := .agg #[.int .i64 (dig X 0), .int .i64 (dig X 1), .int .i64 (dig X 2), .int .i64 (dig X 3), .int .i64 (dig X 4), .int .i64 (dig X 5), .int .i64 (dig X 6), .int .i64 (dig X 7)]) (by simp [results, Try.results8, go_sem, rc0, rc1, rc2, rc3, rc4, rc5, rc6, rc7]) rfl ⟨rfl, ?_⟩
      exact hnw.set8 (show w.heap.size ≤ w.heap.size + 1 by omega) (dig X)
    · obtain ⟨k, rfl⟩ : ∃ k, gk = k + 1 := ⟨gk - 1, by omega⟩
      have pw := pw.out k hg
      clear pe hX
      have hge : ((k + 1 : Nat) : Int) > 0 := by omega
      generalize hQ : a * 2 ^ (P - k) = Q' at *
      generalize a * 2 ^ (P - (k + 1)) = Q at *
      have pc0 := Digs.at_ hD 0 (by decide)
      have pc1 := Digs.at_ hD 1 (by decide)
      have pc2 := Digs.at_ hD 2 (by decide)
      have pc3 := Digs.at_ hD 3 (by decide)
      have pc4 := Digs.at_ hD 4 (by decide)
      have pc5 := Digs.at_ hD 5 (by decide)
      have pc6 := Digs.at_ hD 6 (by decide)
      have pc7 := Digs.at_ hD 7 (by decide)
      go_wp2_with fail
      refine (HA.out Q Q _).mono ?_
      rintro e w3 ⟨rfl, n3⟩
      have D3 := hD.new n3
      have R3 := hR.new n3
      have N3 := hnw.trans n3
      clear pc0 pc1 pc2 pc3 pc4 pc5 pc6 pc7
      clear hD hR hnw n3
      rw [pw]
      have pc0 := Digs.at_ D3 0 (by decide)
      have pf0 : (w3).frozen? ⟨w.heap.size, 0, none⟩ = false := Box.frozen D3 0
      have pc1 := Digs.at_ D3 1 (by decide)
      have pf1 : (w3).frozen? ⟨w.heap.size, 1, none⟩ = false := Box.frozen D3 1
      have pc2 := Digs.at_ D3 2 (by decide)
      have pf2 : (w3).frozen? ⟨w.heap.size, 2, none⟩ = false := Box.frozen D3 2
      have pc3 := Digs.at_ D3 3 (by decide)
      have pf3 : (w3).frozen? ⟨w.heap.size, 3, none⟩ = false := Box.frozen D3 3
      have pc4 := Digs.at_ D3 4 (by decide)
      have pf4 : (w3).frozen? ⟨w.heap.size, 4, none⟩ = false := Box.frozen D3 4
      have pc5 := Digs.at_ D3 5 (by decide)
      have pf5 : (w3).frozen? ⟨w.heap.size, 5, none⟩ = false := Box.frozen D3 5
      have pc6 := Digs.at_ D3 6 (by decide)
      have pf6 : (w3).frozen? ⟨w.heap.size, 6, none⟩ = false := Box.frozen D3 6
      have pc7 := Digs.at_ D3 7 (by decide)
      have pf7 : (w3).frozen? ⟨w.heap.size, 7, none⟩ = false := Box.frozen D3 7
      go_wp2_with fail
      go_roundg k
      case rel =>
        refine ⟨by simp, by omega, ?_, ?_, ?_⟩
        · rw [hQ]; exact D3.put8 (dig Q')
        · exact R3.off8 (show w.heap.size + 1 ≠ w.heap.size by omega) (dig Q')
        · exact N3.set8 (Nat.le_refl _) (dig Q')
      case measure => omega

set_option maxRecDepth 100000 in
set_option maxHeartbeats 1000000 in
theorem refleft_pos (a : Nat) (n : Int) (P : Nat) (hP : n = P) (hn : ¬ n > 128) (w : World) :
    Calls Try.prog 8 #[.agg #[.int .i64 (dig a 0), .int .i64 (dig a 1), .int .i64 (dig a 2), .int .i64 (dig a 3), .int .i64 (dig a 4), .int .i64 (dig a 5), .int .i64 (dig a 6), .int .i64 (dig a 7)], .int .i64 n] w fun e w' => e = .returned (.agg #[.int .i64 (dig (a * 2 ^ P) 0), .int .i64 (dig (a * 2 ^ P) 1), .int .i64 (dig (a * 2 ^ P) 2), .int .i64 (dig (a * 2 ^ P) 3), .int .i64 (dig (a * 2 ^ P) 4), .int .i64 (dig (a * 2 ^ P) 5), .int .i64 (dig (a * 2 ^ P) 6), .int .i64 (dig (a * 2 ^ P) 7)]) ∧ New w w' := by
  have HA := Lib.hid (fun x y w => refadd_any x y w)
  have pw := Lib.hid (fun g (h : g + 1 ≤ P) => show a * 2 ^ (P - (g + 1)) + a * 2 ^ (P - (g + 1)) = a * 2 ^ (P - g) by
    rw [show P - g = (P - (g + 1)) + 1 by omega, Nat.pow_succ, ← Nat.mul_assoc, Nat.mul_two])
  have p0 : a * 2 ^ (P - P) = a := by simp
  have pe : P - 0 = P := rfl
  have c1 : ¬ n < -128 := by omega
  subst hP
  have hP : (P : Int) = (P : Int) := rfl
  generalize hX : a * 2 ^ P = X
  go_enter Try.func8, Try.ntmps8
  go_wp2_with fail
  go_loopg [1] P (fun g m wr => m = .int .i64 (g : Int) ∧ g ≤ P ∧ Digs wr w.heap.size (dig (a * 2 ^ (P - g))) ∧ Digs wr (w.heap.size + 1) (dig 0) ∧ New w wr)
  case atStart =>
    refine ⟨by simp [hP], by omega, ?_, ?_, ?_⟩
    · rw [p0]; exact (Box.made w 27 _).alloc _
    · exact Digs.zero (box_at (by simp) (Box.made _ 27 _)) rfl
    · exact ((New.refl _).alloc _).alloc _
  case round =>
    obtain ⟨rfl, hg, hD, hR, hnw⟩ := hrel
    clear p0
    by_cases h0 : gk = 0
    · subst h0
      rw [pe, hX] at hD
      clear pe hX HA pw
      go_wp2_with fail
      go_loopg [1] 0 (fun g m wr => m = .int .i64 0 ∧ Digs wr w.heap.size (dig X) ∧ Digs wr (w.heap.size + 1) (dig 0) ∧ New w wr)
      case atStart => exact ⟨rfl, hD, hR, hnw⟩
      case round =>
      clear hD hR hnw
      obtain ⟨rfl, hD, hR, hnw⟩ := hrel
      have pc0 := Digs.at_ hD 0 (by decide)
      have pc1 := Digs.at_ hD 1 (by decide)
      have pc2 := Digs.at_ hD 2 (by decide)
      have pc3 := Digs.at_ hD 3 (by decide)
      have pc4 := Digs.at_ hD 4 (by decide)
      have pc5 := Digs.at_ hD 5 (by decide)
      have pc6 := Digs.at_ hD 6 (by decide)
      have pc7 := Digs.at_ hD 7 (by decide)
      have rc0 := Digs.at_ hR 0 (by decide)
      have rf0 : (wr).frozen? ⟨w.heap.size + 1, 0, none⟩ = false := Box.frozen hR 0
      have rc1 := Digs.at_ hR 1 (by decide)
      have rf1 : (wr).frozen? ⟨w.heap.size + 1, 1, none⟩ = false := Box.frozen hR 1
      have rc2 := Digs.at_ hR 2 (by decide)
      have rf2 : (wr).frozen? ⟨w.heap.size + 1, 2, none⟩ = false := Box.frozen hR 2
      have rc3 := Digs.at_ hR 3 (by decide)
      have rf3 : (wr).frozen? ⟨w.heap.size + 1, 3, none⟩ = false := Box.frozen hR 3
      have rc4 := Digs.at_ hR 4 (by decide)
      have rf4 : (wr).frozen? ⟨w.heap.size + 1, 4, none⟩ = false := Box.frozen hR 4
      have rc5 := Digs.at_ hR 5 (by decide)
      have rf5 : (wr).frozen? ⟨w.heap.size + 1, 5, none⟩ = false := Box.frozen hR 5
      have rc6 := Digs.at_ hR 6 (by decide)
      have rf6 : (wr).frozen? ⟨w.heap.size + 1, 6, none⟩ = false := Box.frozen hR 6
      have rc7 := Digs.at_ hR 7 (by decide)
      have rf7 : (wr).frozen? ⟨w.heap.size + 1, 7, none⟩ = false := Box.frozen hR 7
      clear hD hR
      go_wp2
      refine bodyPost_ret (v := .agg #[.int .i64 (dig X 0), .int .i64 (dig X 1), .int .i64 (dig X 2), .int .i64 (dig X 3), .int .i64 (dig X 4), .int .i64 (dig X 5), .int .i64 (dig X 6), .int .i64 (dig X 7)]) (by simp [results, Try.results8, go_sem, rc0, rc1, rc2, rc3, rc4, rc5, rc6, rc7]) rfl ⟨rfl, ?_⟩
      exact hnw.set8 (show w.heap.size ≤ w.heap.size + 1 by omega) (dig X)
    · obtain ⟨k, rfl⟩ : ∃ k, gk = k + 1 := ⟨gk - 1, by omega⟩
      have pw := pw.out k hg
      clear pe hX
      have hge : ((k + 1 : Nat) : Int) > 0 := by omega
      generalize hQ : a * 2 ^ (P - k) = Q' at *
      generalize a * 2 ^ (P - (k + 1)) = Q at *
      have pc0 := Digs.at_ hD 0 (by decide)
      have pc1 := Digs.at_ hD 1 (by decide)
      have pc2 := Digs.at_ hD 2 (by decide)
      have pc3 := Digs.at_ hD 3 (by decide)
      have pc4 := Digs.at_ hD 4 (by decide)
      have pc5 := Digs.at_ hD 5 (by decide)
      have pc6 := Digs.at_ hD 6 (by decide)
      have pc7 := Digs.at_ hD 7 (by decide)
      go_wp2_with fail
      refine (HA.out Q Q _).mono ?_
      rintro e w3 ⟨rfl, n3⟩
      have D3 := hD.new n3
      have R3 := hR.new n3
      have N3 := hnw.trans n3
      clear pc0 pc1 pc2 pc3 pc4 pc5 pc6 pc7
      clear hD hR hnw n3
      rw [pw]
      have pc0 := Digs.at_ D3 0 (by decide)
      have pf0 : (w3).frozen? ⟨w.heap.size, 0, none⟩ = false := Box.frozen D3 0
      have pc1 := Digs.at_ D3 1 (by decide)
      have pf1 : (w3).frozen? ⟨w.heap.size, 1, none⟩ = false := Box.frozen D3 1
      have pc2 := Digs.at_ D3 2 (by decide)
      have pf2 : (w3).frozen? ⟨w.heap.size, 2, none⟩ = false := Box.frozen D3 2
      have pc3 := Digs.at_ D3 3 (by decide)
      have pf3 : (w3).frozen? ⟨w.heap.size, 3, none⟩ = false := Box.frozen D3 3
      have pc4 := Digs.at_ D3 4 (by decide)
      have pf4 : (w3).frozen? ⟨w.heap.size, 4, none⟩ = false := Box.frozen D3 4
      have pc5 := Digs.at_ D3 5 (by decide)
      have pf5 : (w3).frozen? ⟨w.heap.size, 5, none⟩ = false := Box.frozen D3 5
      have pc6 := Digs.at_ D3 6 (by decide)
      have pf6 : (w3).frozen? ⟨w.heap.size, 6, none⟩ = false := Box.frozen D3 6
      have pc7 := Digs.at_ D3 7 (by decide)
      have pf7 : (w3).frozen? ⟨w.heap.size, 7, none⟩ = false := Box.frozen D3 7
      go_wp2_with fail
      go_roundg k
      case rel =>
        refine ⟨by simp, by omega, ?_, ?_, ?_⟩
        · rw [hQ]; exact D3.put8 (dig Q')
        · exact R3.off8 (show w.heap.size + 1 ≠ w.heap.size by omega) (dig Q')
        · exact N3.set8 (Nat.le_refl _) (dig Q')
      case measure => omega

set_option maxRecDepth 100000 in
set_option maxHeartbeats 1000000 in
theorem refleft_low (a : Nat) (ha : a < WW) (n : Int) (hn : n < -128) (P : Nat) (hP : P = 128) (w : World) :
    Calls Try.prog 8 #[.agg #[.int .i64 (dig a 0), .int .i64 (dig a 1), .int .i64 (dig a 2), .int .i64 (dig a 3), .int .i64 (dig a 4), .int .i64 (dig a 5), .int .i64 (dig a 6), .int .i64 (dig a 7)], .int .i64 n] w fun e w' => e = .returned (.agg #[.int .i64 (dig (a / 2 ^ P) 0), .int .i64 (dig (a / 2 ^ P) 1), .int .i64 (dig (a / 2 ^ P) 2), .int .i64 (dig (a / 2 ^ P) 3), .int .i64 (dig (a / 2 ^ P) 4), .int .i64 (dig (a / 2 ^ P) 5), .int .i64 (dig (a / 2 ^ P) 6), .int .i64 (dig (a / 2 ^ P) 7)]) ∧ New w w' := by
  have HA := Lib.hid (fun x h w => refdiv_any x 2 h (by decide) (by decide) w)
  have pw := Lib.hid (fun g (h : g + 1 ≤ P) => show a / 2 ^ (P - (g + 1)) / 2 = a / 2 ^ (P - g) by
    rw [show P - g = (P - (g + 1)) + 1 by omega, Nat.pow_succ, Nat.div_div_eq_div_mul])
  have pl := Lib.hid (fun g => show a / 2 ^ g < WW from Nat.lt_of_le_of_lt (Nat.div_le_self _ _) ha)
  have p0 : a / 2 ^ (P - P) = a := by simp
  have pe : P - 0 = P := rfl
  clear ha
  have c1 : ¬ n > 128 := by omega
  generalize hX : a / 2 ^ P = X
  go_enter Try.func8, Try.ntmps8
  go_wp2_with fail
  go_loopg [1] 0 (fun g m wr => m = .int .i64 (-(P : Int)) ∧ Digs wr w.heap.size (dig a) ∧ Digs wr (w.heap.size + 1) (dig 0) ∧ New w wr)
  case atStart =>
    refine ⟨by simp [hP], ?_, ?_, ?_⟩
    · exact (Box.made w 27 _).alloc _
    · exact Digs.zero (box_at (by simp) (Box.made _ 27 _)) rfl
    · exact ((New.refl _).alloc _).alloc _
  case round =>
    obtain ⟨rfl, hD, hR, hnw⟩ := hrel
    have hng : ¬ (-(P : Int)) > 0 := by omega
    go_wp2_with fail
    go_loopg [1] P (fun g m wr => m = .int .i64 (-(g : Int)) ∧ g ≤ P ∧ Digs wr w.heap.size (dig (a / 2 ^ (P - g))) ∧ Digs wr (w.heap.size + 1) (dig 0) ∧ New w wr)
    case atStart =>
      refine ⟨by simp [hP], by omega, ?_, hR, hnw⟩
      rw [p0]; exact hD
    case round =>
    clear hD hR hnw hng p0
    obtain ⟨rfl, hg, hD, hR, hnw⟩ := hrel
    by_cases h0 : gk = 0
    · subst h0
      rw [pe, hX] at hD
      clear pe hX HA pw pl
      have pc0 := Digs.at_ hD 0 (by decide)
      have pc1 := Digs.at_ hD 1 (by decide)
      have pc2 := Digs.at_ hD 2 (by decide)
      have pc3 := Digs.at_ hD 3 (by decide)
      have pc4 := Digs.at_ hD 4 (by decide)
      have pc5 := Digs.at_ hD 5 (by decide)
      have pc6 := Digs.at_ hD 6 (by decide)
      have pc7 := Digs.at_ hD 7 (by decide)
      have rc0 := Digs.at_ hR 0 (by decide)
      have rf0 : (wr).frozen? ⟨w.heap.size + 1, 0, none⟩ = false := Box.frozen hR 0
      have rc1 := Digs.at_ hR 1 (by decide)
      have rf1 : (wr).frozen? ⟨w.heap.size + 1, 1, none⟩ = false := Box.frozen hR 1
      have rc2 := Digs.at_ hR 2 (by decide)
      have rf2 : (wr).frozen? ⟨w.heap.size + 1, 2, none⟩ = false := Box.frozen hR 2
      have rc3 := Digs.at_ hR 3 (by decide)
      have rf3 : (wr).frozen? ⟨w.heap.size + 1, 3, none⟩ = false := Box.frozen hR 3
      have rc4 := Digs.at_ hR 4 (by decide)
      have rf4 : (wr).frozen? ⟨w.heap.size + 1, 4, none⟩ = false := Box.frozen hR 4
      have rc5 := Digs.at_ hR 5 (by decide)
      have rf5 : (wr).frozen? ⟨w.heap.size + 1, 5, none⟩ = false := Box.frozen hR 5
      have rc6 := Digs.at_ hR 6 (by decide)
      have rf6 : (wr).frozen? ⟨w.heap.size + 1, 6, none⟩ = false := Box.frozen hR 6
      have rc7 := Digs.at_ hR 7 (by decide)
      have rf7 : (wr).frozen? ⟨w.heap.size + 1, 7, none⟩ = false := Box.frozen hR 7
      clear hD hR
      go_wp2
      refine bodyPost_ret (v := .agg #[.int .i64 (dig X 0), .int .i64 (dig X 1), .int .i64 (dig X 2), .int .i64 (dig X 3), .int .i64 (dig X 4), .int .i64 (dig X 5), .int .i64 (dig X 6), .int .i64 (dig X 7)]) (by simp [results, Try.results8, go_sem, rc0, rc1, rc2, rc3, rc4, rc5, rc6, rc7]) rfl ⟨rfl, ?_⟩
      exact hnw.set8 (show w.heap.size ≤ w.heap.size + 1 by omega) (dig X)
    · obtain ⟨k, rfl⟩ : ∃ k, gk = k + 1 := ⟨gk - 1, by omega⟩
      have pw := pw.out k hg
      have pl := Lib.hid (pl.out (P - (k + 1)))
      clear pe hX
      have hge : -((k + 1 : Nat) : Int) < 0 := by omega
      generalize hQ : a / 2 ^ (P - k) = Q' at *
      generalize a / 2 ^ (P - (k + 1)) = Q at *
      have pc0 := Digs.at_ hD 0 (by decide)
      have pc1 := Digs.at_ hD 1 (by decide)
      have pc2 := Digs.at_ hD 2 (by decide)
      have pc3 := Digs.at_ hD 3 (by decide)
      have pc4 := Digs.at_ hD 4 (by decide)
      have pc5 := Digs.at_ hD 5 (by decide)
      have pc6 := Digs.at_ hD 6 (by decide)
      have pc7 := Digs.at_ hD 7 (by decide)
      go_wp2_with fail
      refine (HA.out Q pl.out _).mono ?_
      rintro e w3 ⟨rfl, n3⟩
      have D3 := hD.new n3
      have R3 := hR.new n3
      have N3 := hnw.trans n3
      clear pc0 pc1 pc2 pc3 pc4 pc5 pc6 pc7
      clear hD hR hnw n3
      rw [pw]
      generalize Q % 2 = junk
      have pc0 := Digs.at_ D3 0 (by decide)
      have pf0 : (w3).frozen? ⟨w.heap.size, 0, none⟩ = false := Box.frozen D3 0
      have pc1 := Digs.at_ D3 1 (by decide)
      have pf1 : (w3).frozen? ⟨w.heap.size, 1, none⟩ = false := Box.frozen D3 1
      have pc2 := Digs.at_ D3 2 (by decide)
      have pf2 : (w3).frozen? ⟨w.heap.size, 2, none⟩ = false := Box.frozen D3 2
      have pc3 := Digs.at_ D3 3 (by decide)
      have pf3 : (w3).frozen? ⟨w.heap.size, 3, none⟩ = false := Box.frozen D3 3
      have pc4 := Digs.at_ D3 4 (by decide)
      have pf4 : (w3).frozen? ⟨w.heap.size, 4, none⟩ = false := Box.frozen D3 4
      have pc5 := Digs.at_ D3 5 (by decide)
      have pf5 : (w3).frozen? ⟨w.heap.size, 5, none⟩ = false := Box.frozen D3 5
      have pc6 := Digs.at_ D3 6 (by decide)
      have pf6 : (w3).frozen? ⟨w.heap.size, 6, none⟩ = false := Box.frozen D3 6
      have pc7 := Digs.at_ D3 7 (by decide)
      have pf7 : (w3).frozen? ⟨w.heap.size, 7, none⟩ = false := Box.frozen D3 7
      go_wp2_with fail
      go_roundg k
      case rel =>
        refine ⟨by simp; try omega, by omega, ?_, ?_, ?_⟩
        · rw [hQ]; exact D3.put8 (dig Q')
        · exact R3.off8 (show w.heap.size + 1 ≠ w.heap.size by omega) (dig Q')
        · exact N3.set8 (Nat.le_refl _) (dig Q')
      case measure => omega

set_option maxRecDepth 100000 in
set_option maxHeartbeats 1000000 in
theorem refleft_neg (a : Nat) (ha : a < WW) (n : Int) (P : Nat) (hP : n = -(P : Int)) (hn : ¬ n < -128) (w : World) :
    Calls Try.prog 8 #[.agg #[.int .i64 (dig a 0), .int .i64 (dig a 1), .int .i64 (dig a 2), .int .i64 (dig a 3), .int .i64 (dig a 4), .int .i64 (dig a 5), .int .i64 (dig a 6), .int .i64 (dig a 7)], .int .i64 n] w fun e w' => e = .returned (.agg #[.int .i64 (dig (a / 2 ^ P) 0), .int .i64 (dig (a / 2 ^ P) 1), .int .i64 (dig (a / 2 ^ P) 2), .int .i64 (dig (a / 2 ^ P) 3), .int .i64 (dig (a / 2 ^ P) 4), .int .i64 (dig (a / 2 ^ P) 5), .int .i64 (dig (a / 2 ^ P) 6), .int .i64 (dig (a / 2 ^ P) 7)]) ∧ New w w' := by
  have HA := Lib.hid (fun x h w => refdiv_any x 2 h (by decide) (by decide) w)
  have pw := Lib.hid (fun g (h : g + 1 ≤ P) => show a / 2 ^ (P - (g + 1)) / 2 = a / 2 ^ (P - g) by
    rw [show P - g = (P - (g + 1)) + 1 by omega, Nat.pow_succ, Nat.div_div_eq_div_mul])
  have pl := Lib.hid (fun g => show a / 2 ^ g < WW from Nat.lt_of_le_of_lt (Nat.div_le_self _ _) ha)
  have p0 : a / 2 ^ (P - P) = a := by simp
  have pe : P - 0 = P := rfl
  clear ha
  have c1 : ¬ n > 128 := by omega
  subst hP
  have hP : (P : Int) = (P : Int) := rfl
  generalize hX : a / 2 ^ P = X
  go_enter Try.func8, Try.ntmps8
  go_wp2_with fail
  go_loopg [1] 0 (fun g m wr => m = .int .i64 (-(P : Int)) ∧ Digs wr w.heap.size (dig a) ∧ Digs wr (w.heap.size + 1) (dig 0) ∧ New w wr)
  case atStart =>
    refine ⟨by simp [hP], ?_, ?_, ?_⟩
    · exact (Box.made w 27 _).alloc _
    · exact Digs.zero (box_at (by simp) (Box.made _ 27 _)) rfl
    · exact ((New.refl _).alloc _).alloc _
  case round =>
    obtain ⟨rfl, hD, hR, hnw⟩ := hrel
    have hng : ¬ (-(P : Int)) > 0 := by omega
    go_wp2_with fail
    go_loopg [1] P (fun g m wr => m = .int .i64 (-(g : Int)) ∧ g ≤ P ∧ Digs wr w.heap.size (dig (a / 2 ^ (P - g))) ∧ Digs wr (w.heap.size + 1) (dig 0) ∧ New w wr)
    case atStart =>
      refine ⟨by simp [hP], by omega, ?_, hR, hnw⟩
      rw [p0]; exact hD
    case round =>
    clear hD hR hnw hng p0
    obtain ⟨rfl, hg, hD, hR, hnw⟩ := hrel
    by_cases h0 : gk = 0
    · subst h0
      rw [pe, hX] at hD
      clear pe hX HA pw pl
      have pc0 := Digs.at_ hD 0 (by decide)
      have pc1 := Digs.at_ hD 1 (by decide)
      have pc2 := Digs.at_ hD 2 (by decide)
      have pc3 := Digs.at_ hD 3 (by decide)
      have pc4 := Digs.at_ hD 4 (by decide)
      have pc5 := Digs.at_ hD 5 (by decide)
      have pc6 := Digs.at_ hD 6 (by decide)
      have pc7 := Digs.at_ hD 7 (by decide)
      have rc0 := Digs.at_ hR 0 (by decide)
      have rf0 : (wr).frozen? ⟨w.heap.size + 1, 0, none⟩ = false := Box.frozen hR 0
      have rc1 := Digs.at_ hR 1 (by decide)
      have rf1 : (wr).frozen? ⟨w.heap.size + 1, 1, none⟩ = false := Box.frozen hR 1
      have rc2 := Digs.at_ hR 2 (by decide)
      have rf2 : (wr).frozen? ⟨w.heap.size + 1, 2, none⟩ = false := Box.frozen hR 2
      have rc3 := Digs.at_ hR 3 (by decide)
      have rf3 : (wr).frozen? ⟨w.heap.size + 1, 3, none⟩ = false := Box.frozen hR 3
      have rc4 := Digs.at_ hR 4 (by decide)
      have rf4 : (wr).frozen? ⟨w.heap.size + 1, 4, none⟩ = false := Box.frozen hR 4
      have rc5 := Digs.at_ hR 5 (by decide)
      have rf5 : (wr).frozen? ⟨w.heap.size + 1, 5, none⟩ = false := Box.frozen hR 5
      have rc6 := Digs.at_ hR 6 (by decide)
      have rf6 : (wr).frozen? ⟨w.heap.size + 1, 6, none⟩ = false := Box.frozen hR 6
      have rc7 := Digs.at_ hR 7 (by decide)
      have rf7 : (wr).frozen? ⟨w.heap.size + 1, 7, none⟩ = false := Box.frozen hR 7
      clear hD hR
      go_wp2
      refine bodyPost_ret (v := .agg #[.int .i64 (dig X 0), .int .i64 (dig X 1), .int .i64 (dig X 2), .int .i64 (dig X 3), .int .i64 (dig X 4), .int .i64 (dig X 5), .int .i64 (dig X 6), .int .i64 (dig X 7)]) (by simp [results, Try.results8, go_sem, rc0, rc1, rc2, rc3, rc4, rc5, rc6, rc7]) rfl ⟨rfl, ?_⟩
      exact hnw.set8 (show w.heap.size ≤ w.heap.size + 1 by omega) (dig X)
    · obtain ⟨k, rfl⟩ : ∃ k, gk = k + 1 := ⟨gk - 1, by omega⟩
      have pw := pw.out k hg
      have pl := Lib.hid (pl.out (P - (k + 1)))
      clear pe hX
      have hge : -((k + 1 : Nat) : Int) < 0 := by omega
      generalize hQ : a / 2 ^ (P - k) = Q' at *
      generalize a / 2 ^ (P - (k + 1)) = Q at *
      have pc0 := Digs.at_ hD 0 (by decide)
      have pc1 := Digs.at_ hD 1 (by decide)
      have pc2 := Digs.at_ hD 2 (by decide)
      have pc3 := Digs.at_ hD 3 (by decide)
      have pc4 := Digs.at_ hD 4 (by decide)
      have pc5 := Digs.at_ hD 5 (by decide)
      have pc6 := Digs.at_ hD 6 (by decide)
      have pc7 := Digs.at_ hD 7 (by decide)
      go_wp2_with fail
      refine (HA.out Q pl.out _).mono ?_
      rintro e w3 ⟨rfl, n3⟩
      have D3 := hD.new n3
      have R3 := hR.new n3
      have N3 := hnw.trans n3
      clear pc0 pc1 pc2 pc3 pc4 pc5 pc6 pc7
      clear hD hR hnw n3
      rw [pw]
      generalize Q % 2 = junk
      have pc0 := Digs.at_ D3 0 (by decide)
      have pf0 : (w3).frozen? ⟨w.heap.size, 0, none⟩ = false := Box.frozen D3 0
      have pc1 := Digs.at_ D3 1 (by decide)
      have pf1 : (w3).frozen? ⟨w.heap.size, 1, none⟩ = false := Box.frozen D3 1
      have pc2 := Digs.at_ D3 2 (by decide)
      have pf2 : (w3).frozen? ⟨w.heap.size, 2, none⟩ = false := Box.frozen D3 2
      have pc3 := Digs.at_ D3 3 (by decide)
      have pf3 : (w3).frozen? ⟨w.heap.size, 3, none⟩ = false := Box.frozen D3 3
      have pc4 := Digs.at_ D3 4 (by decide)
      have pf4 : (w3).frozen? ⟨w.heap.size, 4, none⟩ = false := Box.frozen D3 4
      have pc5 := Digs.at_ D3 5 (by decide)
      have pf5 : (w3).frozen? ⟨w.heap.size, 5, none⟩ = false := Box.frozen D3 5
      have pc6 := Digs.at_ D3 6 (by decide)
      have pf6 : (w3).frozen? ⟨w.heap.size, 6, none⟩ = false := Box.frozen D3 6
      have pc7 := Digs.at_ D3 7 (by decide)
      have pf7 : (w3).frozen? ⟨w.heap.size, 7, none⟩ = false := Box.frozen D3 7
      go_wp2_with fail
      go_roundg k
      case rel =>
        refine ⟨by simp; try omega, by omega, ?_, ?_, ?_⟩
        · rw [hQ]; exact D3.put8 (dig Q')
        · exact R3.off8 (show w.heap.size + 1 ≠ w.heap.size by omega) (dig Q')
        · exact N3.set8 (Nat.le_refl _) (dig Q')
      case measure => omega
end Go.Proofs.Ytoiadefffmhibaa
