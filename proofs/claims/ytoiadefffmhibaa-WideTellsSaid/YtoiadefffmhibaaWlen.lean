/- Contracts of the reference of layer wide: Len. -/
import Derived.Test.YtoiadefffmhibaaProg
import Derived.Test.YtoiadefffmhibaaDigs
import Derived.Test.YtoiadefffmhibaaWof
import Derived.Test.YtoiadefffmhibaaWbit
import Derived.Test.YtoiadefffmhibaaPut
import Derived.BigQuiet
import Derived.Deep.QuietTactic
import Derived.Deep.LoopGhost
import Derived.WalkMore
namespace Go.Proofs.Ytoiadefffmhibaa
open Go.RowKit
set_option linter.unusedVariables false

set_option maxRecDepth 100000 in
set_option maxHeartbeats 1000000 in
theorem reflen_any (a : Nat) (ha : a < WW) (w : World) :
    Calls Try.prog 10 #[.agg #[.int .i64 (dig a 0), .int .i64 (dig a 1), .int .i64 (dig a 2), .int .i64 (dig a 3), .int .i64 (dig a 4), .int .i64 (dig a 5), .int .i64 (dig a 6), .int .i64 (dig a 7)]] w fun e w' => e = .returned (.int .i64 (blen a)) ∧ New w w' := by
  have HB := Lib.hid (fun k hk w => refbit_any a k hk w)
  have ls := Lib.hid (fun k => len_step a k)
  have l0 : blen (a % 2 ^ 0) = 0 := by simp [Nat.mod_one, blen]
  have le : blen (a % 2 ^ 128) = blen a := by rw [Nat.mod_eq_of_lt (show a < 2 ^ 128 from ha)]
  clear ha
  generalize hL : blen a = L at le ⊢
  clear hL
  go_enter Try.func10, Try.ntmps10
  go_wp2_with fail
  go_loopg [3, 4] 128 (fun n l k wr => ∃ j : Nat, l = .int .i64 (blen (a % 2 ^ j)) ∧ k = .int .i64 j ∧ j + n = 128 ∧ Digs wr w.heap.size (dig a) ∧ New w wr)
  case atStart =>
    exact ⟨0, by rw [l0]; rfl, rfl, rfl, Box.made w 27 _, (New.refl _).alloc _⟩
  case round =>
    obtain ⟨j, rfl, rfl, hn, hD, hnw⟩ := hrel
    clear l0
    by_cases hj : j < 128
    · have ls := ls.out j
      have hj' : (j : Int) < 128 := by omega
      clear le
      generalize hA : blen (a % 2 ^ (j + 1)) = A' at ls
      generalize blen (a % 2 ^ j) = A at *
      have pc0 := Digs.at_ hD 0 (by decide)
      have pc1 := Digs.at_ hD 1 (by decide)
      have pc2 := Digs.at_ hD 2 (by decide)
      have pc3 := Digs.at_ hD 3 (by decide)
      have pc4 := Digs.at_ hD 4 (by decide)
      have pc5 := Digs.at_ hD 5 (by decide)
      have pc6 := Digs.at_ hD 6 (by decide)
      have pc7 := Digs.at_ hD 7 (by decide)
      go_wp2_with fail
      refine (HB.out j hj _).mono ?_
      rintro e w3 ⟨rfl, n3⟩
      have D3 := hD.new n3
      have N3 := hnw.trans n3
      clear pc0 pc1 pc2 pc3 pc4 pc5 pc6 pc7
      clear hD hnw n3
      have hb2 : a / 2 ^ j % 2 < 2 := Nat.mod_lt _ (by decide)
      generalize a / 2 ^ j % 2 = bit at *
      by_cases hb : bit = 1
      · subst hb
        rw [if_pos rfl] at ls
        go_wp2_with fail
        go_roundg (gk - 1)
        case rel => exact ⟨j + 1, by rw [hA, ls]; simp, by simp, by omega, D3, N3⟩
        case measure => omega
      · have hb0 : bit = 0 := by omega
        subst hb0
        rw [if_neg (by decide)] at ls
        go_wp2_with fail
        go_roundg (gk - 1)
        case rel => exact ⟨j + 1, by rw [hA, ls], by simp, by omega, D3, N3⟩
        case measure => omega
    · have hje : j = 128 := by omega
      subst hje
      rw [le]
      clear le ls HB
      go_wp2
      exact bodyPost_ret (by simp [results, Try.results10, go_sem]) rfl ⟨rfl, hnw⟩
end Go.Proofs.Ytoiadefffmhibaa
