/- Contracts of the reference of layer wide: Div. -/
import Derived.Test.YtoiadefffmhibaaProg
import Derived.Test.YtoiadefffmhibaaDigs
import Derived.Test.YtoiadefffmhibaaWof
import Derived.Test.YtoiadefffmhibaaWbit
import Derived.Test.YtoiadefffmhibaaPut
import Derived.Test.YtoiadefffmhibaaWsub
import Derived.Test.YtoiadefffmhibaaWcmp
import Derived.BigQuiet
import Derived.Deep.QuietTactic
import Derived.Deep.LoopGhost
import Derived.WalkMore
namespace Go.Proofs.Ytoiadefffmhibaa
open Go.RowKit
set_option linter.unusedVariables false

/-- the blocks of Div -/
structure DivSt (wr : World) (h g1 g2 a b q r : Nat) : Prop where
  A : Digs wr h (dig a)
  R1 : Digs wr (h + 1) (dig 0)
  R2 : Digs wr (h + 1 + 1) (dig 0)
  Q : Digs wr (h + 1 + 1 + 1) (dig q)
  R : Digs wr (h + 1 + 1 + 1 + 1) (dig r)
  B : Digs wr g1 (dig b)
  O : Digs wr g2 (dig 1)
  l1 : h + 1 + 1 + 1 + 1 < g1
  l2 : g1 < g2
theorem DivSt.new {wr w' : World} {h g1 g2 a b q r : Nat} (s : DivSt wr h g1 g2 a b q r) (n : New wr w') : DivSt w' h g1 g2 a b q r :=
  ⟨s.A.new n, s.R1.new n, s.R2.new n, s.Q.new n, s.R.new n, s.B.new n, s.O.new n, s.l1, s.l2⟩
theorem DivSt.putq {wr : World} {h g1 g2 a b q r : Nat} (s : DivSt wr h g1 g2 a b q r) (x : Nat) : DivSt (set8 wr (h + 1 + 1 + 1) (dig x)) h g1 g2 a b x r := by
  have l1 := s.l1
  have l2 := s.l2
  exact ⟨s.A.off8 (by omega) _, s.R1.off8 (by omega) _, s.R2.off8 (by omega) _, s.Q.put8 _, s.R.off8 (by omega) _, s.B.off8 (by omega) _, s.O.off8 (by omega) _, s.l1, s.l2⟩
theorem DivSt.putr {wr : World} {h g1 g2 a b q r : Nat} (s : DivSt wr h g1 g2 a b q r) (x : Nat) : DivSt (set8 wr (h + 1 + 1 + 1 + 1) (dig x)) h g1 g2 a b q x := by
  have l1 := s.l1
  have l2 := s.l2
  exact ⟨s.A.off8 (by omega) _, s.R1.off8 (by omega) _, s.R2.off8 (by omega) _, s.Q.off8 (by omega) _, s.R.put8 _, s.B.off8 (by omega) _, s.O.off8 (by omega) _, s.l1, s.l2⟩
theorem refsub_le (a b : Nat) (hb : b < WW) (h : b ≤ a) (w : World) :
    Calls Try.prog 15 #[.agg #[.int .i64 (dig a 0), .int .i64 (dig a 1), .int .i64 (dig a 2), .int .i64 (dig a 3), .int .i64 (dig a 4), .int .i64 (dig a 5), .int .i64 (dig a 6), .int .i64 (dig a 7)], .agg #[.int .i64 (dig b 0), .int .i64 (dig b 1), .int .i64 (dig b 2), .int .i64 (dig b 3), .int .i64 (dig b 4), .int .i64 (dig b 5), .int .i64 (dig b 6), .int .i64 (dig b 7)]] w fun e w' => e = .returned (.agg #[.int .i64 (dig (a - b) 0), .int .i64 (dig (a - b) 1), .int .i64 (dig (a - b) 2), .int .i64 (dig (a - b) 3), .int .i64 (dig (a - b) 4), .int .i64 (dig (a - b) 5), .int .i64 (dig (a - b) 6), .int .i64 (dig (a - b) 7)]) ∧ New w w' := by
  have := refsub_any a b hb w
  rw [show a + WW - b = (a - b) + WW by omega] at this
  rw [dig_ww _ 0 (by decide), dig_ww _ 1 (by decide), dig_ww _ 2 (by decide), dig_ww _ 3 (by decide), dig_ww _ 4 (by decide), dig_ww _ 5 (by decide), dig_ww _ 6 (by decide), dig_ww _ 7 (by decide)] at this
  exact this
theorem cmpv_ge {a b : Nat} (h : b ≤ a) : cmpv a b ≥ 0 := by unfold cmpv; split <;> (try split) <;> omega
theorem cmpv_lt {a b : Nat} (h : a < b) : cmpv a b = -1 := by simp [cmpv, h]

set_option maxRecDepth 100000 in
set_option maxHeartbeats 1000000 in
theorem refdiv_any (a b : Nat) (ha : a < WW) (hb0 : 0 < b) (hb : b < 18446744073709551616) (w : World) :
    Calls Try.prog 22 #[.agg #[.int .i64 (dig a 0), .int .i64 (dig a 1), .int .i64 (dig a 2), .int .i64 (dig a 3), .int .i64 (dig a 4), .int .i64 (dig a 5), .int .i64 (dig a 6), .int .i64 (dig a 7)], .int .u64 b] w fun e w' => e = .returned (.tuple #[.agg #[.int .i64 (dig (a / b) 0), .int .i64 (dig (a / b) 1), .int .i64 (dig (a / b) 2), .int .i64 (dig (a / b) 3), .int .i64 (dig (a / b) 4), .int .i64 (dig (a / b) 5), .int .i64 (dig (a / b) 6), .int .i64 (dig (a / b) 7)], .agg #[.int .i64 (dig (a % b) 0), .int .i64 (dig (a % b) 1), .int .i64 (dig (a % b) 2), .int .i64 (dig (a % b) 3), .int .i64 (dig (a % b) 4), .int .i64 (dig (a % b) 5), .int .i64 (dig (a % b) 6), .int .i64 (dig (a % b) 7)]]) ∧ New w w' := by
  have HX := Lib.hid (fun w => refof_any 0 b (by decide) hb w)
  have HY := Lib.hid (fun w => refof_any 0 1 (by decide) (by decide) w)
  rw [Nat.zero_mul, Nat.zero_add] at HX HY
  have HB := Lib.hid (fun k hk w => refbit_any a k hk w)
  have HA := Lib.hid (fun x y w => refadd_any x y w)
  have hbW : b < WW := by unfold WW; omega
  have HS := Lib.hid (fun x h w => refsub_le x b hbW h w)
  have HC := Lib.hid (fun x hx w => refcmp_any x b hx hbW w)
  have ds := Lib.hid (fun k s h hs => div_step (a / 2 ^ k) (a / 2 ^ (k + 1)) b s hb0 h hs)
  have hf := Lib.hid (fun k => half a k)
  have q0 : a / 2 ^ 128 = 0 := Nat.div_eq_of_lt ha
  have z1 : 0 / b = 0 := Nat.zero_div b
  have z2 : 0 % b = 0 := Nat.zero_mod b
  have rl : Hid (∀ k, a / 2 ^ k % b < 18446744073709551616) := fun k => Nat.lt_trans (Nat.mod_lt _ hb0) hb
  have e0 : a / 2 ^ 0 = a := by simp
  clear hb0 hb hbW ha
  generalize hqq : a / b = qq
  generalize hrr : a % b = rr
  go_enter Try.func22, Try.ntmps22
  go_wp2_with fail
  refine (HX.out _).mono ?_
  rintro e w1 ⟨rfl, n1⟩
  go_wp2_with fail
  refine (HY.out _).mono ?_
  rintro e w2 ⟨rfl, n2⟩
  go_wp2_with fail
  have S0 : DivSt (w2.alloc (.cells #[.int .i64 (dig 1 0), .int .i64 (dig 1 1), .int .i64 (dig 1 2), .int .i64 (dig 1 3), .int .i64 (dig 1 4), .int .i64 (dig 1 5), .int .i64 (dig 1 6), .int .i64 (dig 1 7)] 27 (0, 0))) w.heap.size w1.heap.size w2.heap.size a b 0 0 := by
    have a1 := (((((Box.made w 27 #[.int .i64 (dig a 0), .int .i64 (dig a 1), .int .i64 (dig a 2), .int .i64 (dig a 3), .int .i64 (dig a 4), .int .i64 (dig a 5), .int .i64 (dig a 6), .int .i64 (dig a 7)]).alloc (.cells #[.int .i64 (dig 0 0), .int .i64 (dig 0 1), .int .i64 (dig 0 2), .int .i64 (dig 0 3), .int .i64 (dig 0 4), .int .i64 (dig 0 5), .int .i64 (dig 0 6), .int .i64 (dig 0 7)] 27 (0, 0))).alloc (.cells #[.int .i64 (dig 0 0), .int .i64 (dig 0 1), .int .i64 (dig 0 2), .int .i64 (dig 0 3), .int .i64 (dig 0 4), .int .i64 (dig 0 5), .int .i64 (dig 0 6), .int .i64 (dig 0 7)] 27 (0, 0))).alloc (.cells #[.int .i64 (dig 0 0), .int .i64 (dig 0 1), .int .i64 (dig 0 2), .int .i64 (dig 0 3), .int .i64 (dig 0 4), .int .i64 (dig 0 5), .int .i64 (dig 0 6), .int .i64 (dig 0 7)] 27 (0, 0))).alloc (.cells #[.int .i64 (dig 0 0), .int .i64 (dig 0 1), .int .i64 (dig 0 2), .int .i64 (dig 0 3), .int .i64 (dig 0 4), .int .i64 (dig 0 5), .int .i64 (dig 0 6), .int .i64 (dig 0 7)] 27 (0, 0))).new n1
    have a2 := ((((Box.made (w.alloc (.cells #[.int .i64 (dig a 0), .int .i64 (dig a 1), .int .i64 (dig a 2), .int .i64 (dig a 3), .int .i64 (dig a 4), .int .i64 (dig a 5), .int .i64 (dig a 6), .int .i64 (dig a 7)] 27 (0, 0))) 27 #[.int .i64 (dig 0 0), .int .i64 (dig 0 1), .int .i64 (dig 0 2), .int .i64 (dig 0 3), .int .i64 (dig 0 4), .int .i64 (dig 0 5), .int .i64 (dig 0 6), .int .i64 (dig 0 7)]).alloc (.cells #[.int .i64 (dig 0 0), .int .i64 (dig 0 1), .int .i64 (dig 0 2), .int .i64 (dig 0 3), .int .i64 (dig 0 4), .int .i64 (dig 0 5), .int .i64 (dig 0 6), .int .i64 (dig 0 7)] 27 (0, 0))).alloc (.cells #[.int .i64 (dig 0 0), .int .i64 (dig 0 1), .int .i64 (dig 0 2), .int .i64 (dig 0 3), .int .i64 (dig 0 4), .int .i64 (dig 0 5), .int .i64 (dig 0 6), .int .i64 (dig 0 7)] 27 (0, 0))).alloc (.cells #[.int .i64 (dig 0 0), .int .i64 (dig 0 1), .int .i64 (dig 0 2), .int .i64 (dig 0 3), .int .i64 (dig 0 4), .int .i64 (dig 0 5), .int .i64 (dig 0 6), .int .i64 (dig 0 7)] 27 (0, 0))).new n1
    have a3 := (((Box.made ((w.alloc (.cells #[.int .i64 (dig a 0), .int .i64 (dig a 1), .int .i64 (dig a 2), .int .i64 (dig a 3), .int .i64 (dig a 4), .int .i64 (dig a 5), .int .i64 (dig a 6), .int .i64 (dig a 7)] 27 (0, 0))).alloc (.cells #[.int .i64 (dig 0 0), .int .i64 (dig 0 1), .int .i64 (dig 0 2), .int .i64 (dig 0 3), .int .i64 (dig 0 4), .int .i64 (dig 0 5), .int .i64 (dig 0 6), .int .i64 (dig 0 7)] 27 (0, 0))) 27 #[.int .i64 (dig 0 0), .int .i64 (dig 0 1), .int .i64 (dig 0 2), .int .i64 (dig 0 3), .int .i64 (dig 0 4), .int .i64 (dig 0 5), .int .i64 (dig 0 6), .int .i64 (dig 0 7)]).alloc (.cells #[.int .i64 (dig 0 0), .int .i64 (dig 0 1), .int .i64 (dig 0 2), .int .i64 (dig 0 3), .int .i64 (dig 0 4), .int .i64 (dig 0 5), .int .i64 (dig 0 6), .int .i64 (dig 0 7)] 27 (0, 0))).alloc (.cells #[.int .i64 (dig 0 0), .int .i64 (dig 0 1), .int .i64 (dig 0 2), .int .i64 (dig 0 3), .int .i64 (dig 0 4), .int .i64 (dig 0 5), .int .i64 (dig 0 6), .int .i64 (dig 0 7)] 27 (0, 0))).new n1
    have a4 := ((Box.made (((w.alloc (.cells #[.int .i64 (dig a 0), .int .i64 (dig a 1), .int .i64 (dig a 2), .int .i64 (dig a 3), .int .i64 (dig a 4), .int .i64 (dig a 5), .int .i64 (dig a 6), .int .i64 (dig a 7)] 27 (0, 0))).alloc (.cells #[.int .i64 (dig 0 0), .int .i64 (dig 0 1), .int .i64 (dig 0 2), .int .i64 (dig 0 3), .int .i64 (dig 0 4), .int .i64 (dig 0 5), .int .i64 (dig 0 6), .int .i64 (dig 0 7)] 27 (0, 0))).alloc (.cells #[.int .i64 (dig 0 0), .int .i64 (dig 0 1), .int .i64 (dig 0 2), .int .i64 (dig 0 3), .int .i64 (dig 0 4), .int .i64 (dig 0 5), .int .i64 (dig 0 6), .int .i64 (dig 0 7)] 27 (0, 0))) 27 #[.int .i64 (dig 0 0), .int .i64 (dig 0 1), .int .i64 (dig 0 2), .int .i64 (dig 0 3), .int .i64 (dig 0 4), .int .i64 (dig 0 5), .int .i64 (dig 0 6), .int .i64 (dig 0 7)]).alloc (.cells #[.int .i64 (dig 0 0), .int .i64 (dig 0 1), .int .i64 (dig 0 2), .int .i64 (dig 0 3), .int .i64 (dig 0 4), .int .i64 (dig 0 5), .int .i64 (dig 0 6), .int .i64 (dig 0 7)] 27 (0, 0))).new n1
    have a5 := (Box.made ((((w.alloc (.cells #[.int .i64 (dig a 0), .int .i64 (dig a 1), .int .i64 (dig a 2), .int .i64 (dig a 3), .int .i64 (dig a 4), .int .i64 (dig a 5), .int .i64 (dig a 6), .int .i64 (dig a 7)] 27 (0, 0))).alloc (.cells #[.int .i64 (dig 0 0), .int .i64 (dig 0 1), .int .i64 (dig 0 2), .int .i64 (dig 0 3), .int .i64 (dig 0 4), .int .i64 (dig 0 5), .int .i64 (dig 0 6), .int .i64 (dig 0 7)] 27 (0, 0))).alloc (.cells #[.int .i64 (dig 0 0), .int .i64 (dig 0 1), .int .i64 (dig 0 2), .int .i64 (dig 0 3), .int .i64 (dig 0 4), .int .i64 (dig 0 5), .int .i64 (dig 0 6), .int .i64 (dig 0 7)] 27 (0, 0))).alloc (.cells #[.int .i64 (dig 0 0), .int .i64 (dig 0 1), .int .i64 (dig 0 2), .int .i64 (dig 0 3), .int .i64 (dig 0 4), .int .i64 (dig 0 5), .int .i64 (dig 0 6), .int .i64 (dig 0 7)] 27 (0, 0))) 27 #[.int .i64 (dig 0 0), .int .i64 (dig 0 1), .int .i64 (dig 0 2), .int .i64 (dig 0 3), .int .i64 (dig 0 4), .int .i64 (dig 0 5), .int .i64 (dig 0 6), .int .i64 (dig 0 7)]).new n1
    have a6 := (Box.made w1 27 #[.int .i64 (dig b 0), .int .i64 (dig b 1), .int .i64 (dig b 2), .int .i64 (dig b 3), .int .i64 (dig b 4), .int .i64 (dig b 5), .int .i64 (dig b 6), .int .i64 (dig b 7)]).new n2
    simp at a2 a3 a4 a5
    exact ⟨(a1.new ((New.refl _).alloc _ |>.trans n2)).alloc _, (a2.new ((New.refl _).alloc _ |>.trans n2)).alloc _, (a3.new ((New.refl _).alloc _ |>.trans n2)).alloc _, (a4.new ((New.refl _).alloc _ |>.trans n2)).alloc _, (a5.new ((New.refl _).alloc _ |>.trans n2)).alloc _, a6.alloc _, Box.made w2 27 _, Box.lt a5, Box.lt a6⟩
  have N2 : New w w2 := (((((((New.refl w).alloc _).alloc _).alloc _).alloc _).alloc _).trans n1).alloc _ |>.trans n2
  have N0 := N2.alloc (.cells #[.int .i64 (dig 1 0), .int .i64 (dig 1 1), .int .i64 (dig 1 2), .int .i64 (dig 1 3), .int .i64 (dig 1 4), .int .i64 (dig 1 5), .int .i64 (dig 1 6), .int .i64 (dig 1 7)] 27 (0, 0))
  have l1 : w.heap.size + 1 + 1 + 1 + 1 < w1.heap.size := S0.l1
  have l2 : w1.heap.size < w2.heap.size := S0.l2
  clear n1 n2 HX HY N2
  go_loopg [10] 128 (fun n k wr => ∃ j : Int, k = .int .i64 j ∧ -1 ≤ j ∧ j ≤ 127 ∧ (n : Int) = j + 1 ∧ DivSt wr w.heap.size w1.heap.size w2.heap.size a b (a / 2 ^ n / b) (a / 2 ^ n % b) ∧ New w wr)
  case atStart =>
    refine ⟨127, rfl, by omega, by omega, rfl, ?_, N0⟩
    rw [q0, z1, z2]
    exact S0
  case round =>
    obtain ⟨j, rfl, hj1, hj2, hn, S, hnw⟩ := hrel
    clear q0 z1 z2 S0 N0
    by_cases hj : 0 ≤ j
    · obtain ⟨k, rfl⟩ : ∃ k : Nat, j = k := ⟨j.toNat, by omega⟩
      have hk : gk = k + 1 := by omega
      subst hk
      have hk2 : k < 128 := by omega
      have hge : (k : Int) ≥ 0 := by omega
      have hb2 : a / 2 ^ k % 2 < 2 := Nat.mod_lt _ (by decide)
      have ds := Lib.hid (ds.out k (a / 2 ^ k % 2) (hf.out k) (by omega))
      have rl0 := rl.out (k + 1)
      clear rl
      generalize hQ : a / 2 ^ k / b = Q' at *
      generalize hR : a / 2 ^ k % b = R' at *
      generalize a / 2 ^ (k + 1) / b = q at *
      generalize a / 2 ^ (k + 1) % b = r at *
      have rl := Lib.hid rl0
      clear rl0
      clear e0 hf
      have pq := S.Q
      have pc0 := Digs.at_ pq 0 (by decide)
      have pc1 := Digs.at_ pq 1 (by decide)
      have pc2 := Digs.at_ pq 2 (by decide)
      have pc3 := Digs.at_ pq 3 (by decide)
      have pc4 := Digs.at_ pq 4 (by decide)
      have pc5 := Digs.at_ pq 5 (by decide)
      have pc6 := Digs.at_ pq 6 (by decide)
      have pc7 := Digs.at_ pq 7 (by decide)
      go_wp2_with fail
      refine (HA.out q q _).mono ?_
      rintro e w3 ⟨rfl, n3⟩
      have S3 := S.new n3
      have N3 := hnw.trans n3
      clear pc0 pc1 pc2 pc3 pc4 pc5 pc6 pc7
      clear pq S hnw n3
      have pq := S3.Q
      have pc0 := Digs.at_ pq 0 (by decide)
      have pf0 : (w3).frozen? ⟨w.heap.size + 1 + 1 + 1, 0, none⟩ = false := Box.frozen pq 0
      have pc1 := Digs.at_ pq 1 (by decide)
      have pf1 : (w3).frozen? ⟨w.heap.size + 1 + 1 + 1, 1, none⟩ = false := Box.frozen pq 1
      have pc2 := Digs.at_ pq 2 (by decide)
      have pf2 : (w3).frozen? ⟨w.heap.size + 1 + 1 + 1, 2, none⟩ = false := Box.frozen pq 2
      have pc3 := Digs.at_ pq 3 (by decide)
      have pf3 : (w3).frozen? ⟨w.heap.size + 1 + 1 + 1, 3, none⟩ = false := Box.frozen pq 3
      have pc4 := Digs.at_ pq 4 (by decide)
      have pf4 : (w3).frozen? ⟨w.heap.size + 1 + 1 + 1, 4, none⟩ = false := Box.frozen pq 4
      have pc5 := Digs.at_ pq 5 (by decide)
      have pf5 : (w3).frozen? ⟨w.heap.size + 1 + 1 + 1, 5, none⟩ = false := Box.frozen pq 5
      have pc6 := Digs.at_ pq 6 (by decide)
      have pf6 : (w3).frozen? ⟨w.heap.size + 1 + 1 + 1, 6, none⟩ = false := Box.frozen pq 6
      have pc7 := Digs.at_ pq 7 (by decide)
      have pf7 : (w3).frozen? ⟨w.heap.size + 1 + 1 + 1, 7, none⟩ = false := Box.frozen pq 7
      have pr := S3.R
      have rc0 := Digs.at_ pr 0 (by decide)
      have rc1 := Digs.at_ pr 1 (by decide)
      have rc2 := Digs.at_ pr 2 (by decide)
      have rc3 := Digs.at_ pr 3 (by decide)
      have rc4 := Digs.at_ pr 4 (by decide)
      have rc5 := Digs.at_ pr 5 (by decide)
      have rc6 := Digs.at_ pr 6 (by decide)
      have rc7 := Digs.at_ pr 7 (by decide)
      go_wp2_with fail
      refine (HA.out r r _).mono ?_
      rintro e w4 ⟨rfl, n4⟩
      have S4 := (S3.putq (q + q)).new n4
      have N4 := (N3.set8 (show w.heap.size ≤ w.heap.size + 1 + 1 + 1 by omega) (dig (q + q))).trans n4
      clear pc0 pc1 pc2 pc3 pc4 pc5 pc6 pc7 pf0 pf1 pf2 pf3 pf4 pf5 pf6 pf7
      clear rc0 rc1 rc2 rc3 rc4 rc5 rc6 rc7
      clear pq pr S3 N3 n4
      have pr := S4.R
      have rc0 := Digs.at_ pr 0 (by decide)
      have rf0 : (w4).frozen? ⟨w.heap.size + 1 + 1 + 1 + 1, 0, none⟩ = false := Box.frozen pr 0
      have rc1 := Digs.at_ pr 1 (by decide)
      have rf1 : (w4).frozen? ⟨w.heap.size + 1 + 1 + 1 + 1, 1, none⟩ = false := Box.frozen pr 1
      have rc2 := Digs.at_ pr 2 (by decide)
      have rf2 : (w4).frozen? ⟨w.heap.size + 1 + 1 + 1 + 1, 2, none⟩ = false := Box.frozen pr 2
      have rc3 := Digs.at_ pr 3 (by decide)
      have rf3 : (w4).frozen? ⟨w.heap.size + 1 + 1 + 1 + 1, 3, none⟩ = false := Box.frozen pr 3
      have rc4 := Digs.at_ pr 4 (by decide)
      have rf4 : (w4).frozen? ⟨w.heap.size + 1 + 1 + 1 + 1, 4, none⟩ = false := Box.frozen pr 4
      have rc5 := Digs.at_ pr 5 (by decide)
      have rf5 : (w4).frozen? ⟨w.heap.size + 1 + 1 + 1 + 1, 5, none⟩ = false := Box.frozen pr 5
      have rc6 := Digs.at_ pr 6 (by decide)
      have rf6 : (w4).frozen? ⟨w.heap.size + 1 + 1 + 1 + 1, 6, none⟩ = false := Box.frozen pr 6
      have rc7 := Digs.at_ pr 7 (by decide)
      have rf7 : (w4).frozen? ⟨w.heap.size + 1 + 1 + 1 + 1, 7, none⟩ = false := Box.frozen pr 7
      have pa := S4.A
      have ac0 := Digs.at_ pa 0 (by decide)
      have ac1 := Digs.at_ pa 1 (by decide)
      have ac2 := Digs.at_ pa 2 (by decide)
      have ac3 := Digs.at_ pa 3 (by decide)
      have ac4 := Digs.at_ pa 4 (by decide)
      have ac5 := Digs.at_ pa 5 (by decide)
      have ac6 := Digs.at_ pa 6 (by decide)
      have ac7 := Digs.at_ pa 7 (by decide)
      go_wp2_with fail
      refine (HB.out k hk2 _).mono ?_
      rintro e w5 ⟨rfl, n5⟩
      have S5 := (S4.putr (r + r)).new n5
      have N5 := (N4.set8 (show w.heap.size ≤ w.heap.size + 1 + 1 + 1 + 1 by omega) (dig (r + r))).trans n5
      clear rc0 rc1 rc2 rc3 rc4 rc5 rc6 rc7 rf0 rf1 rf2 rf3 rf4 rf5 rf6 rf7
      clear ac0 ac1 ac2 ac3 ac4 ac5 ac6 ac7
      clear pr pa S4 N4 n5 HB
      generalize a / 2 ^ k % 2 = bit at *
      by_cases hb : bit = 1
      · subst hb
        have po := S5.O
        have oc0 := Digs.at_ po 0 (by decide)
        have oc1 := Digs.at_ po 1 (by decide)
        have oc2 := Digs.at_ po 2 (by decide)
        have oc3 := Digs.at_ po 3 (by decide)
        have oc4 := Digs.at_ po 4 (by decide)
        have oc5 := Digs.at_ po 5 (by decide)
        have oc6 := Digs.at_ po 6 (by decide)
        have oc7 := Digs.at_ po 7 (by decide)
        have pr := S5.R
        have rc0 := Digs.at_ pr 0 (by decide)
        have rc1 := Digs.at_ pr 1 (by decide)
        have rc2 := Digs.at_ pr 2 (by decide)
        have rc3 := Digs.at_ pr 3 (by decide)
        have rc4 := Digs.at_ pr 4 (by decide)
        have rc5 := Digs.at_ pr 5 (by decide)
        have rc6 := Digs.at_ pr 6 (by decide)
        have rc7 := Digs.at_ pr 7 (by decide)
        go_wp2_with fail
        refine (HA.out (r + r) 1 _).mono ?_
        rintro e w6 ⟨rfl, n6⟩
        have S6 := S5.new n6
        have N6 := N5.trans n6
        clear rc0 rc1 rc2 rc3 rc4 rc5 rc6 rc7
        clear oc0 oc1 oc2 oc3 oc4 oc5 oc6 oc7
        clear pr po S5 N5 n6
        have pr := S6.R
        have rc0 := Digs.at_ pr 0 (by decide)
        have rf0 : (w6).frozen? ⟨w.heap.size + 1 + 1 + 1 + 1, 0, none⟩ = false := Box.frozen pr 0
        have rc1 := Digs.at_ pr 1 (by decide)
        have rf1 : (w6).frozen? ⟨w.heap.size + 1 + 1 + 1 + 1, 1, none⟩ = false := Box.frozen pr 1
        have rc2 := Digs.at_ pr 2 (by decide)
        have rf2 : (w6).frozen? ⟨w.heap.size + 1 + 1 + 1 + 1, 2, none⟩ = false := Box.frozen pr 2
        have rc3 := Digs.at_ pr 3 (by decide)
        have rf3 : (w6).frozen? ⟨w.heap.size + 1 + 1 + 1 + 1, 3, none⟩ = false := Box.frozen pr 3
        have rc4 := Digs.at_ pr 4 (by decide)
        have rf4 : (w6).frozen? ⟨w.heap.size + 1 + 1 + 1 + 1, 4, none⟩ = false := Box.frozen pr 4
        have rc5 := Digs.at_ pr 5 (by decide)
        have rf5 : (w6).frozen? ⟨w.heap.size + 1 + 1 + 1 + 1, 5, none⟩ = false := Box.frozen pr 5
        have rc6 := Digs.at_ pr 6 (by decide)
        have rf6 : (w6).frozen? ⟨w.heap.size + 1 + 1 + 1 + 1, 6, none⟩ = false := Box.frozen pr 6
        have rc7 := Digs.at_ pr 7 (by decide)
        have rf7 : (w6).frozen? ⟨w.heap.size + 1 + 1 + 1 + 1, 7, none⟩ = false := Box.frozen pr 7
        have pb := S6.B
        have bc0 := Digs.at_ pb 0 (by decide)
        have bc1 := Digs.at_ pb 1 (by decide)
        have bc2 := Digs.at_ pb 2 (by decide)
        have bc3 := Digs.at_ pb 3 (by decide)
        have bc4 := Digs.at_ pb 4 (by decide)
        have bc5 := Digs.at_ pb 5 (by decide)
        have bc6 := Digs.at_ pb 6 (by decide)
        have bc7 := Digs.at_ pb 7 (by decide)
        have hlt : Hid ((r + r + 1) < WW) := by have := rl; unfold Hid at *; unfold WW; omega
        go_wp2_with fail
        refine (HC.out (r + r + 1) hlt.out _).mono ?_
        rintro e w7 ⟨rfl, n7⟩
        have S7 := (S6.putr (r + r + 1)).new n7
        have N7 := (N6.set8 (show w.heap.size ≤ w.heap.size + 1 + 1 + 1 + 1 by omega) (dig (r + r + 1))).trans n7
        clear rc0 rc1 rc2 rc3 rc4 rc5 rc6 rc7 rf0 rf1 rf2 rf3 rf4 rf5 rf6 rf7
        clear bc0 bc1 bc2 bc3 bc4 bc5 bc6 bc7
        clear pr pb S6 N6 n7
        have ds := ds.out
        by_cases hle : b ≤ (r + r + 1)
        · have hcv := cmpv_ge hle
          generalize cmpv (r + r + 1) b = cv at hcv ⊢
          rw [if_pos hle, if_pos hle] at ds
          obtain ⟨hq0, hr0⟩ := ds
          have hl := Lib.hid hle
          have hq := Lib.hid hq0
          have hr := Lib.hid hr0
          clear hq0 hr0 hle
          have pr := S7.R
          have rc0 := Digs.at_ pr 0 (by decide)
          have rc1 := Digs.at_ pr 1 (by decide)
          have rc2 := Digs.at_ pr 2 (by decide)
          have rc3 := Digs.at_ pr 3 (by decide)
          have rc4 := Digs.at_ pr 4 (by decide)
          have rc5 := Digs.at_ pr 5 (by decide)
          have rc6 := Digs.at_ pr 6 (by decide)
          have rc7 := Digs.at_ pr 7 (by decide)
          have pb := S7.B
          have bc0 := Digs.at_ pb 0 (by decide)
          have bc1 := Digs.at_ pb 1 (by decide)
          have bc2 := Digs.at_ pb 2 (by decide)
          have bc3 := Digs.at_ pb 3 (by decide)
          have bc4 := Digs.at_ pb 4 (by decide)
          have bc5 := Digs.at_ pb 5 (by decide)
          have bc6 := Digs.at_ pb 6 (by decide)
          have bc7 := Digs.at_ pb 7 (by decide)
          go_wp2_with fail
          refine (HS.out (r + r + 1) hl.out _).mono ?_
          rintro e w8 ⟨rfl, n8⟩
          have S8 := S7.new n8
          have N8 := N7.trans n8
          clear rc0 rc1 rc2 rc3 rc4 rc5 rc6 rc7
          clear bc0 bc1 bc2 bc3 bc4 bc5 bc6 bc7
          clear pr pb S7 N7 n8
          rw [← hr.out]
          have pr := S8.R
          have rc0 := Digs.at_ pr 0 (by decide)
          have rf0 : (w8).frozen? ⟨w.heap.size + 1 + 1 + 1 + 1, 0, none⟩ = false := Box.frozen pr 0
          have rc1 := Digs.at_ pr 1 (by decide)
          have rf1 : (w8).frozen? ⟨w.heap.size + 1 + 1 + 1 + 1, 1, none⟩ = false := Box.frozen pr 1
          have rc2 := Digs.at_ pr 2 (by decide)
          have rf2 : (w8).frozen? ⟨w.heap.size + 1 + 1 + 1 + 1, 2, none⟩ = false := Box.frozen pr 2
          have rc3 := Digs.at_ pr 3 (by decide)
          have rf3 : (w8).frozen? ⟨w.heap.size + 1 + 1 + 1 + 1, 3, none⟩ = false := Box.frozen pr 3
          have rc4 := Digs.at_ pr 4 (by decide)
          have rf4 : (w8).frozen? ⟨w.heap.size + 1 + 1 + 1 + 1, 4, none⟩ = false := Box.frozen pr 4
          have rc5 := Digs.at_ pr 5 (by decide)
          have rf5 : (w8).frozen? ⟨w.heap.size + 1 + 1 + 1 + 1, 5, none⟩ = false := Box.frozen pr 5
          have rc6 := Digs.at_ pr 6 (by decide)
          have rf6 : (w8).frozen? ⟨w.heap.size + 1 + 1 + 1 + 1, 6, none⟩ = false := Box.frozen pr 6
          have rc7 := Digs.at_ pr 7 (by decide)
          have rf7 : (w8).frozen? ⟨w.heap.size + 1 + 1 + 1 + 1, 7, none⟩ = false := Box.frozen pr 7
          have pq := S8.Q
          have pc0 := Digs.at_ pq 0 (by decide)
          have pc1 := Digs.at_ pq 1 (by decide)
          have pc2 := Digs.at_ pq 2 (by decide)
          have pc3 := Digs.at_ pq 3 (by decide)
          have pc4 := Digs.at_ pq 4 (by decide)
          have pc5 := Digs.at_ pq 5 (by decide)
          have pc6 := Digs.at_ pq 6 (by decide)
          have pc7 := Digs.at_ pq 7 (by decide)
          have po := S8.O
          have oc0 := Digs.at_ po 0 (by decide)
          have oc1 := Digs.at_ po 1 (by decide)
          have oc2 := Digs.at_ po 2 (by decide)
          have oc3 := Digs.at_ po 3 (by decide)
          have oc4 := Digs.at_ po 4 (by decide)
          have oc5 := Digs.at_ po 5 (by decide)
          have oc6 := Digs.at_ po 6 (by decide)
          have oc7 := Digs.at_ po 7 (by decide)
          go_wp2_with fail
          refine (HA.out (q + q) 1 _).mono ?_
          rintro e w9 ⟨rfl, n9⟩
          have S9 := (S8.putr R').new n9
          have N9 := (N8.set8 (show w.heap.size ≤ w.heap.size + 1 + 1 + 1 + 1 by omega) (dig R')).trans n9
          clear rc0 rc1 rc2 rc3 rc4 rc5 rc6 rc7 rf0 rf1 rf2 rf3 rf4 rf5 rf6 rf7
          clear pc0 pc1 pc2 pc3 pc4 pc5 pc6 pc7
          clear oc0 oc1 oc2 oc3 oc4 oc5 oc6 oc7
          clear pr pq po S8 N8 n9
          rw [← hq.out]
          have pq := S9.Q
          have pc0 := Digs.at_ pq 0 (by decide)
          have pf0 : (w9).frozen? ⟨w.heap.size + 1 + 1 + 1, 0, none⟩ = false := Box.frozen pq 0
          have pc1 := Digs.at_ pq 1 (by decide)
          have pf1 : (w9).frozen? ⟨w.heap.size + 1 + 1 + 1, 1, none⟩ = false := Box.frozen pq 1
          have pc2 := Digs.at_ pq 2 (by decide)
          have pf2 : (w9).frozen? ⟨w.heap.size + 1 + 1 + 1, 2, none⟩ = false := Box.frozen pq 2
          have pc3 := Digs.at_ pq 3 (by decide)
          have pf3 : (w9).frozen? ⟨w.heap.size + 1 + 1 + 1, 3, none⟩ = false := Box.frozen pq 3
          have pc4 := Digs.at_ pq 4 (by decide)
          have pf4 : (w9).frozen? ⟨w.heap.size + 1 + 1 + 1, 4, none⟩ = false := Box.frozen pq 4
          have pc5 := Digs.at_ pq 5 (by decide)
          have pf5 : (w9).frozen? ⟨w.heap.size + 1 + 1 + 1, 5, none⟩ = false := Box.frozen pq 5
          have pc6 := Digs.at_ pq 6 (by decide)
          have pf6 : (w9).frozen? ⟨w.heap.size + 1 + 1 + 1, 6, none⟩ = false := Box.frozen pq 6
          have pc7 := Digs.at_ pq 7 (by decide)
          have pf7 : (w9).frozen? ⟨w.heap.size + 1 + 1 + 1, 7, none⟩ = false := Box.frozen pq 7
          go_wp2_with fail
          go_roundg k
          case rel =>
            refine ⟨(k : Int) - 1, by simp, by omega, by omega, by omega, ?_, ?_⟩
            · rw [hQ, hR]; exact S9.putq Q'
            · exact N9.set8 (show w.heap.size ≤ w.heap.size + 1 + 1 + 1 by omega) (dig Q')
          case measure => omega
        · have hcv := cmpv_lt (Nat.lt_of_not_le hle)
          rw [if_neg hle, if_neg hle] at ds
          obtain ⟨hq, hr⟩ := ds
          rw [Nat.add_zero] at hq
          rw [← hq] at S7
          rw [← hr] at S7
          clear hle hq hr
          rw [hcv]
          clear hcv
          go_wp2_with fail
          go_roundg k
          case rel => exact ⟨(k : Int) - 1, by simp, by omega, by omega, by omega, by rw [hQ, hR]; exact S7, N7⟩
          case measure => omega
      · have hb0 : bit = 0 := by omega
        subst hb0
        have pr := S5.R
        have rc0 := Digs.at_ pr 0 (by decide)
        have rc1 := Digs.at_ pr 1 (by decide)
        have rc2 := Digs.at_ pr 2 (by decide)
        have rc3 := Digs.at_ pr 3 (by decide)
        have rc4 := Digs.at_ pr 4 (by decide)
        have rc5 := Digs.at_ pr 5 (by decide)
        have rc6 := Digs.at_ pr 6 (by decide)
        have rc7 := Digs.at_ pr 7 (by decide)
        have pb := S5.B
        have bc0 := Digs.at_ pb 0 (by decide)
        have bc1 := Digs.at_ pb 1 (by decide)
        have bc2 := Digs.at_ pb 2 (by decide)
        have bc3 := Digs.at_ pb 3 (by decide)
        have bc4 := Digs.at_ pb 4 (by decide)
        have bc5 := Digs.at_ pb 5 (by decide)
        have bc6 := Digs.at_ pb 6 (by decide)
        have bc7 := Digs.at_ pb 7 (by decide)
        rw [Nat.add_zero] at ds
        have hlt : Hid ((r + r) < WW) := by have := rl; unfold Hid at *; unfold WW; omega
        go_wp2_with fail
        refine (HC.out (r + r) hlt.out _).mono ?_
        rintro e w7 ⟨rfl, n7⟩
        have S7 := S5.new n7
        have N7 := N5.trans n7
        clear rc0 rc1 rc2 rc3 rc4 rc5 rc6 rc7
        clear bc0 bc1 bc2 bc3 bc4 bc5 bc6 bc7
        clear pr pb S5 N5 n7
        have ds := ds.out
        by_cases hle : b ≤ (r + r)
        · have hcv := cmpv_ge hle
          generalize cmpv (r + r) b = cv at hcv ⊢
          rw [if_pos hle, if_pos hle] at ds
          obtain ⟨hq0, hr0⟩ := ds
          have hl := Lib.hid hle
          have hq := Lib.hid hq0
          have hr := Lib.hid hr0
          clear hq0 hr0 hle
          have pr := S7.R
          have rc0 := Digs.at_ pr 0 (by decide)
          have rc1 := Digs.at_ pr 1 (by decide)
          have rc2 := Digs.at_ pr 2 (by decide)
          have rc3 := Digs.at_ pr 3 (by decide)
          have rc4 := Digs.at_ pr 4 (by decide)
          have rc5 := Digs.at_ pr 5 (by decide)
          have rc6 := Digs.at_ pr 6 (by decide)
          have rc7 := Digs.at_ pr 7 (by decide)
          have pb := S7.B
          have bc0 := Digs.at_ pb 0 (by decide)
          have bc1 := Digs.at_ pb 1 (by decide)
          have bc2 := Digs.at_ pb 2 (by decide)
          have bc3 := Digs.at_ pb 3 (by decide)
          have bc4 := Digs.at_ pb 4 (by decide)
          have bc5 := Digs.at_ pb 5 (by decide)
          have bc6 := Digs.at_ pb 6 (by decide)
          have bc7 := Digs.at_ pb 7 (by decide)
          go_wp2_with fail
          refine (HS.out (r + r) hl.out _).mono ?_
          rintro e w8 ⟨rfl, n8⟩
          have S8 := S7.new n8
          have N8 := N7.trans n8
          clear rc0 rc1 rc2 rc3 rc4 rc5 rc6 rc7
          clear bc0 bc1 bc2 bc3 bc4 bc5 bc6 bc7
          clear pr pb S7 N7 n8
          rw [← hr.out]
          have pr := S8.R
          have rc0 := Digs.at_ pr 0 (by decide)
          have rf0 : (w8).frozen? ⟨w.heap.size + 1 + 1 + 1 + 1, 0, none⟩ = false := Box.frozen pr 0
          have rc1 := Digs.at_ pr 1 (by decide)
          have rf1 : (w8).frozen? ⟨w.heap.size + 1 + 1 + 1 + 1, 1, none⟩ = false := Box.frozen pr 1
          have rc2 := Digs.at_ pr 2 (by decide)
          have rf2 : (w8).frozen? ⟨w.heap.size + 1 + 1 + 1 + 1, 2, none⟩ = false := Box.frozen pr 2
          have rc3 := Digs.at_ pr 3 (by decide)
          have rf3 : (w8).frozen? ⟨w.heap.size + 1 + 1 + 1 + 1, 3, none⟩ = false := Box.frozen pr 3
          have rc4 := Digs.at_ pr 4 (by decide)
          have rf4 : (w8).frozen? ⟨w.heap.size + 1 + 1 + 1 + 1, 4, none⟩ = false := Box.frozen pr 4
          have rc5 := Digs.at_ pr 5 (by decide)
          have rf5 : (w8).frozen? ⟨w.heap.size + 1 + 1 + 1 + 1, 5, none⟩ = false := Box.frozen pr 5
          have rc6 := Digs.at_ pr 6 (by decide)
          have rf6 : (w8).frozen? ⟨w.heap.size + 1 + 1 + 1 + 1, 6, none⟩ = false := Box.frozen pr 6
          have rc7 := Digs.at_ pr 7 (by decide)
          have rf7 : (w8).frozen? ⟨w.heap.size + 1 + 1 + 1 + 1, 7, none⟩ = false := Box.frozen pr 7
          have pq := S8.Q
          have pc0 := Digs.at_ pq 0 (by decide)
          have pc1 := Digs.at_ pq 1 (by decide)
          have pc2 := Digs.at_ pq 2 (by decide)
          have pc3 := Digs.at_ pq 3 (by decide)
          have pc4 := Digs.at_ pq 4 (by decide)
          have pc5 := Digs.at_ pq 5 (by decide)
          have pc6 := Digs.at_ pq 6 (by decide)
          have pc7 := Digs.at_ pq 7 (by decide)
          have po := S8.O
          have oc0 := Digs.at_ po 0 (by decide)
          have oc1 := Digs.at_ po 1 (by decide)
          have oc2 := Digs.at_ po 2 (by decide)
          have oc3 := Digs.at_ po 3 (by decide)
          have oc4 := Digs.at_ po 4 (by decide)
          have oc5 := Digs.at_ po 5 (by decide)
          have oc6 := Digs.at_ po 6 (by decide)
          have oc7 := Digs.at_ po 7 (by decide)
          go_wp2_with fail
          refine (HA.out (q + q) 1 _).mono ?_
          rintro e w9 ⟨rfl, n9⟩
          have S9 := (S8.putr R').new n9
          have N9 := (N8.set8 (show w.heap.size ≤ w.heap.size + 1 + 1 + 1 + 1 by omega) (dig R')).trans n9
          clear rc0 rc1 rc2 rc3 rc4 rc5 rc6 rc7 rf0 rf1 rf2 rf3 rf4 rf5 rf6 rf7
          clear pc0 pc1 pc2 pc3 pc4 pc5 pc6 pc7
          clear oc0 oc1 oc2 oc3 oc4 oc5 oc6 oc7
          clear pr pq po S8 N8 n9
          rw [← hq.out]
          have pq := S9.Q
          have pc0 := Digs.at_ pq 0 (by decide)
          have pf0 : (w9).frozen? ⟨w.heap.size + 1 + 1 + 1, 0, none⟩ = false := Box.frozen pq 0
          have pc1 := Digs.at_ pq 1 (by decide)
          have pf1 : (w9).frozen? ⟨w.heap.size + 1 + 1 + 1, 1, none⟩ = false := Box.frozen pq 1
          have pc2 := Digs.at_ pq 2 (by decide)
          have pf2 : (w9).frozen? ⟨w.heap.size + 1 + 1 + 1, 2, none⟩ = false := Box.frozen pq 2
          have pc3 := Digs.at_ pq 3 (by decide)
          have pf3 : (w9).frozen? ⟨w.heap.size + 1 + 1 + 1, 3, none⟩ = false := Box.frozen pq 3
          have pc4 := Digs.at_ pq 4 (by decide)
          have pf4 : (w9).frozen? ⟨w.heap.size + 1 + 1 + 1, 4, none⟩ = false := Box.frozen pq 4
          have pc5 := Digs.at_ pq 5 (by decide)
          have pf5 : (w9).frozen? ⟨w.heap.size + 1 + 1 + 1, 5, none⟩ = false := Box.frozen pq 5
          have pc6 := Digs.at_ pq 6 (by decide)
          have pf6 : (w9).frozen? ⟨w.heap.size + 1 + 1 + 1, 6, none⟩ = false := Box.frozen pq 6
          have pc7 := Digs.at_ pq 7 (by decide)
          have pf7 : (w9).frozen? ⟨w.heap.size + 1 + 1 + 1, 7, none⟩ = false := Box.frozen pq 7
          go_wp2_with fail
          go_roundg k
          case rel =>
            refine ⟨(k : Int) - 1, by simp, by omega, by omega, by omega, ?_, ?_⟩
            · rw [hQ, hR]; exact S9.putq Q'
            · exact N9.set8 (show w.heap.size ≤ w.heap.size + 1 + 1 + 1 by omega) (dig Q')
          case measure => omega
        · have hcv := cmpv_lt (Nat.lt_of_not_le hle)
          rw [if_neg hle, if_neg hle] at ds
          obtain ⟨hq, hr⟩ := ds
          rw [Nat.add_zero] at hq
          rw [← hq] at S7
          rw [← hr] at S7
          clear hle hq hr
          rw [hcv]
          clear hcv
          go_wp2_with fail
          go_roundg k
          case rel => exact ⟨(k : Int) - 1, by simp, by omega, by omega, by omega, by rw [hQ, hR]; exact S7, N7⟩
          case measure => omega
    · have hje : j = -1 := by omega
      subst hje
      have hk : gk = 0 := by omega
      subst hk
      rw [e0, hqq, hrr] at S
      clear e0 ds hf HA HB HS HC rl hqq hrr
      have pq := S.Q
      have pc0 := Digs.at_ pq 0 (by decide)
      have pc1 := Digs.at_ pq 1 (by decide)
      have pc2 := Digs.at_ pq 2 (by decide)
      have pc3 := Digs.at_ pq 3 (by decide)
      have pc4 := Digs.at_ pq 4 (by decide)
      have pc5 := Digs.at_ pq 5 (by decide)
      have pc6 := Digs.at_ pq 6 (by decide)
      have pc7 := Digs.at_ pq 7 (by decide)
      have pr := S.R
      have rc0 := Digs.at_ pr 0 (by decide)
      have rc1 := Digs.at_ pr 1 (by decide)
      have rc2 := Digs.at_ pr 2 (by decide)
      have rc3 := Digs.at_ pr 3 (by decide)
      have rc4 := Digs.at_ pr 4 (by decide)
      have rc5 := Digs.at_ pr 5 (by decide)
      have rc6 := Digs.at_ pr 6 (by decide)
      have rc7 := Digs.at_ pr 7 (by decide)
      have s1 := S.R1
      have sc0 := Digs.at_ s1 0 (by decide)
      have sf0 : (wr).frozen? ⟨w.heap.size + 1, 0, none⟩ = false := Box.frozen s1 0
      have sc1 := Digs.at_ s1 1 (by decide)
      have sf1 : (wr).frozen? ⟨w.heap.size + 1, 1, none⟩ = false := Box.frozen s1 1
      have sc2 := Digs.at_ s1 2 (by decide)
      have sf2 : (wr).frozen? ⟨w.heap.size + 1, 2, none⟩ = false := Box.frozen s1 2
      have sc3 := Digs.at_ s1 3 (by decide)
      have sf3 : (wr).frozen? ⟨w.heap.size + 1, 3, none⟩ = false := Box.frozen s1 3
      have sc4 := Digs.at_ s1 4 (by decide)
      have sf4 : (wr).frozen? ⟨w.heap.size + 1, 4, none⟩ = false := Box.frozen s1 4
      have sc5 := Digs.at_ s1 5 (by decide)
      have sf5 : (wr).frozen? ⟨w.heap.size + 1, 5, none⟩ = false := Box.frozen s1 5
      have sc6 := Digs.at_ s1 6 (by decide)
      have sf6 : (wr).frozen? ⟨w.heap.size + 1, 6, none⟩ = false := Box.frozen s1 6
      have sc7 := Digs.at_ s1 7 (by decide)
      have sf7 : (wr).frozen? ⟨w.heap.size + 1, 7, none⟩ = false := Box.frozen s1 7
      have s2 := S.R2
      have tc0 := Digs.at_ s2 0 (by decide)
      have tf0 : (wr).frozen? ⟨w.heap.size + 1 + 1, 0, none⟩ = false := Box.frozen s2 0
      have tc1 := Digs.at_ s2 1 (by decide)
      have tf1 : (wr).frozen? ⟨w.heap.size + 1 + 1, 1, none⟩ = false := Box.frozen s2 1
      have tc2 := Digs.at_ s2 2 (by decide)
      have tf2 : (wr).frozen? ⟨w.heap.size + 1 + 1, 2, none⟩ = false := Box.frozen s2 2
      have tc3 := Digs.at_ s2 3 (by decide)
      have tf3 : (wr).frozen? ⟨w.heap.size + 1 + 1, 3, none⟩ = false := Box.frozen s2 3
      have tc4 := Digs.at_ s2 4 (by decide)
      have tf4 : (wr).frozen? ⟨w.heap.size + 1 + 1, 4, none⟩ = false := Box.frozen s2 4
      have tc5 := Digs.at_ s2 5 (by decide)
      have tf5 : (wr).frozen? ⟨w.heap.size + 1 + 1, 5, none⟩ = false := Box.frozen s2 5
      have tc6 := Digs.at_ s2 6 (by decide)
      have tf6 : (wr).frozen? ⟨w.heap.size + 1 + 1, 6, none⟩ = false := Box.frozen s2 6
      have tc7 := Digs.at_ s2 7 (by decide)
      have tf7 : (wr).frozen? ⟨w.heap.size + 1 + 1, 7, none⟩ = false := Box.frozen s2 7
      go_wp2
      go_region
      all_goals go_wp2
      refine bodyPost_ret (v := .tuple #[.agg #[.int .i64 (dig qq 0), .int .i64 (dig qq 1), .int .i64 (dig qq 2), .int .i64 (dig qq 3), .int .i64 (dig qq 4), .int .i64 (dig qq 5), .int .i64 (dig qq 6), .int .i64 (dig qq 7)], .agg #[.int .i64 (dig rr 0), .int .i64 (dig rr 1), .int .i64 (dig rr 2), .int .i64 (dig rr 3), .int .i64 (dig rr 4), .int .i64 (dig rr 5), .int .i64 (dig rr 6), .int .i64 (dig rr 7)]]) ?_ rfl ⟨rfl, ?_⟩
      · simp [results, Try.results22, go_sem, sc0, sc1, sc2, sc3, sc4, sc5, sc6, sc7, tc0, tc1, tc2, tc3, tc4, tc5, tc6, tc7]
      refine New.drew ?_
      exact (hnw.set8 (show w.heap.size ≤ w.heap.size + 1 by omega) (dig qq)).set8 (show w.heap.size ≤ w.heap.size + 1 + 1 by omega) (dig rr)
end Go.Proofs.Ytoiadefffmhibaa
