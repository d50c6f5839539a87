/- Contracts: fact.Prime, and of the reference Prime, Primes, Times. -/
import Derived.Test.YtikfeinhdfjjhaaFac
import Derived.Test.YtikfeinhdfjjhaaNumb
namespace Go.Proofs.Ytikfeinhdfjjhaa
open Go.RowKit
set_option linter.unusedVariables false

theorem Try.info3 : (Try.prog.info? 3).map (fun i => (i.zero, i.size, i.bytes)) = some (some (.int .i64 0), 1, 8) := by kernel_rfl

/-- a list of numbers as the cells of a row -/
def nums (l : List Nat) : List Value := l.map fun x : Nat => Value.int .i64 (x : Int)

theorem nums_snoc (l : List Nat) (p : Nat) : nums (l ++ [p]) = nums l ++ [.int .i64 p] := by simp [nums]

theorem pows_at : ∀ (l : List (Nat × Nat)) (i : Nat) (x : Nat × Nat), l[i]? = some x → (pows l)[i * 2]? = some (.int .i64 x.1) ∧ (pows l)[i * 2 + 1]? = some (.int .i64 x.2) := by
  intro l
  induction l with
  | nil => intro i x h; simp at h
  | cons y l ih =>
    intro i x h
    cases i with
    | zero => simp at h; subst h; exact ⟨rfl, rfl⟩
    | succ i =>
      obtain ⟨h1, h2⟩ := ih i x (by simpa using h)
      have e1 : (i + 1) * 2 = i * 2 + 1 + 1 := by omega
      rw [e1]
      exact ⟨h1, h2⟩

set_option maxHeartbeats 400000 in
theorem prime_any (n : Int) (w : World) : Calls Try.prog 11 #[.int .i64 n] w fun e w' => e = .returned (.bool (prB n)) ∧ New w w' := by
  by_cases h : 1 ≤ n ∧ n ≤ 16777216
  · obtain ⟨k, rfl⟩ := Int.eq_ofNat_of_zero_le (show 0 ≤ n by omega)
    have HF := Lib.hid (factors_yes k w (by omega) (by omega))
    rw [prB_in (n := k) (by omega) (by omega)]
    clear h
    generalize facs k = l at *
    match l, HF with
    | [], HF =>
      rw [show isOne [] = false from rfl]
      go_enter Try.func11, Try.ntmps11
      go_wp2_with fail
      refine HF.out.mono ?_
      rintro e w1 ⟨v, rfl, hown, hnew⟩
      obtain ⟨ad, cap, rfl, hcap, hrow⟩ := own_slice hown
      clear hrow hown
      go_wp2
      go_ret
      exact ⟨rfl, hnew⟩
    | [x], HF =>
      rw [show isOne [x] = ((x.2 : Int) == 1) by simp only [isOne]; rw [Bool.eq_iff_iff]; simp; omega]
      go_enter Try.func11, Try.ntmps11
      go_wp2_with fail
      refine HF.out.mono ?_
      rintro e w1 ⟨v, rfl, hown, hnew⟩
      obtain ⟨ad, cap, rfl, hcap, hrow⟩ := own_slice hown
      obtain ⟨g, rfl, hg1, hg2, hcell⟩ := hrow (by simp)
      have c1 : w1.cell? ⟨g, 1, none⟩ = some (.int .i64 x.2) := hcell 1 (by simp)
      clear hcell hrow hown
      go_wp2
      go_ret
      exact ⟨rfl, hnew⟩
    | x :: y :: l, HF =>
      rw [show isOne (x :: y :: l) = false from rfl]
      have hl : (((l.length : Int) + 1 + 1) == 1) = false := by simp; omega
      go_enter Try.func11, Try.ntmps11
      go_wp2_with fail
      refine HF.out.mono ?_
      rintro e w1 ⟨v, rfl, hown, hnew⟩
      obtain ⟨ad, cap, rfl, hcap, hrow⟩ := own_slice hown
      clear hrow hown
      go_wp2
      go_ret
      exact ⟨rfl, hnew⟩
  · rw [prB_out h]
    have HF := Lib.hid (factors_no n w h)
    clear h
    go_enter Try.func11, Try.ntmps11
    go_wp2_with fail
    refine HF.out.mono ?_
    rintro e w1 ⟨rfl, rfl⟩
    go_wp2
    go_ret
    exact ⟨rfl, New.refl _⟩

set_option maxHeartbeats 400000 in
theorem refprime_any (n : Int) (w : World) : Calls Try.prog 12 #[.int .i64 n] w fun e w' => e = .returned (.bool (prB n)) ∧ w = w' := by
  by_cases h2 : n < 2
  · have HP : Hid (prB n = false) := by
      by_cases h0 : 0 ≤ n
      · obtain ⟨k, rfl⟩ := Int.eq_ofNat_of_zero_le h0
        exact prB_no fun hp => by have := hp.1; omega
      · exact prB_out (by omega)
    have q0 : ¬ (4 : Int) ≤ n := by omega
    go_enter Try.func12, Try.ntmps12
    go_wp2
    refine wp_loop_rounds 1 ?_; rw [rounds_succ]
    go_wp2
    go_ret
    exact ⟨by rw [HP.out]; rfl, rfl⟩
  by_cases h3 : 16777216 < n
  · have HP := Lib.hid (prB_out (n := n) (by omega))
    have q0 : decide (n ≤ 16777216) = false := by simpa using h3
    go_enter Try.func12, Try.ntmps12
    go_wp2
    refine wp_loop_rounds 1 ?_; rw [rounds_succ]
    go_wp2
    go_ret
    exact ⟨by rw [HP.out]; rfl, rfl⟩
  obtain ⟨k, rfl⟩ := Int.eq_ofNat_of_zero_le (show 0 ≤ n by omega)
  go_enter Try.func12, Try.ntmps12
  go_wp2
  go_loopg [3] 5000 (fun g d wr => ∃ j : Nat, d = .int .i64 j ∧ 2 ≤ j ∧ j ≤ 4100 ∧ 5000 ≤ g + j ∧ Hid (Low j k) ∧ w = wr)
  case atStart => exact ⟨2, rfl, by omega, by omega, by omega, fun k h1 h2 => by omega, rfl⟩
  case round =>
    obtain ⟨j, rfl, hj2, hj, hg, hlow, rfl⟩ := hrel
    have q2 : (0 : Int) ≤ (j : Int) * (j : Int) := by exact_mod_cast Nat.zero_le _
    have q3 : (j : Int) * (j : Int) ≤ 16810000 := by
      have h' := Nat.mul_le_mul hj hj
      rw [← Int.natCast_mul]; omega
    by_cases hjk : j * j ≤ k
    · have hj' : j ≤ 4096 := by
        apply Nat.le_of_not_lt; intro hlt
        have := Nat.mul_le_mul (show 4097 ≤ j from hlt) (show 4097 ≤ j from hlt)
        omega
      have hlt : j < k := by
        have := Nat.mul_le_mul_left j hj2
        omega
      have q1 : (j : Int) * (j : Int) ≤ (k : Int) := by exact_mod_cast hjk
      by_cases hm : k % j = 0
      · have q4 : ((k : Int) % (j : Int) == 0) = true := by simp; omega
        have HP : Hid (prB k = false) := prB_no fun hp => hp.2 j hj2 hlt hm
        clear hm hjk
        go_wp2
        go_ret
        exact ⟨by rw [HP.out]; rfl, rfl⟩
      · have q4 : ((k : Int) % (j : Int) == 0) = false := by simp; omega
        have HL : Hid (Low (j + 1) k) := hlow.out.step hm
        clear hm hjk
        go_wp2
        go_roundg (gk - 1)
        case rel => exact ⟨j + 1, by simp, by omega, by omega, by omega, HL, rfl⟩
        case measure => omega
    · have q1 : ¬ (j : Int) * (j : Int) ≤ (k : Int) := by exact_mod_cast hjk
      have HP : Hid (prB k = true) := prB_yes (hlow.out.prime (by omega) (by omega)) (by omega)
      clear hjk
      go_wp2
      go_ret
      exact ⟨by rw [HP.out]; rfl, rfl⟩

set_option maxHeartbeats 400000 in
theorem times_any (d n : Nat) (w : World) (hd : 2 ≤ d) (hn : 1 ≤ n) (hd9 : d ≤ 16777216) (hn9 : n ≤ 16777216) :
    Calls Try.prog 16 #[.int .i64 d, .int .i64 n] w fun e w' => e = .returned (.int .i64 (times d n)) ∧ w = w' := by
  go_enter Try.func16, Try.ntmps16
  go_wp2
  go_loopg [1, 5] n (fun g s k wr => ∃ m t : Nat, s = .int .i64 m ∧ k = .int .i64 t ∧ m ≤ g ∧ 1 ≤ m ∧ m + t ≤ n ∧ Hid (times d n = times d m + t) ∧ w = wr)
  case atStart => exact ⟨n, 0, rfl, rfl, Nat.le_refl _, hn, by omega, rfl, rfl⟩
  case round =>
    obtain ⟨m, t, rfl, rfl, hg, hm1, hmt, HT, rfl⟩ := hrel
    by_cases hm : m % d = 0
    · have q4 : ((m : Int) % (d : Int) == 0) = true := by simp; omega
      have q5 : 1 ≤ m / d := div_pos_of_mod hd hm1 hm
      have q6 : m / d < m := Nat.div_lt_self (by omega) (by omega)
      have HT2 : Hid (times d n = times d (m / d) + (t + 1)) := by
        have := HT.out
        rw [times_yes hd hm1 hm] at this
        show _ = _
        omega
      clear hm HT
      go_wp2
      go_roundg (m / d)
      case rel => exact ⟨m / d, t + 1, by simp, by simp, Nat.le_refl _, q5, by omega, HT2, rfl⟩
      case measure => omega
    · have q4 : ((m : Int) % (d : Int) == 0) = false := by simp; omega
      have HT2 : Hid (times d n = t) := by
        have := HT.out
        rw [times_no hm] at this
        show _ = _
        omega
      clear hm HT
      go_wp2
      go_ret
      exact ⟨by rw [HT2.out]; rfl, rfl⟩

end Go.Proofs.Ytikfeinhdfjjhaa
