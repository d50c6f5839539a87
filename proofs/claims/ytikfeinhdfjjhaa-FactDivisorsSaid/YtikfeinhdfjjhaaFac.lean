/- The contract of fact.Factors: the prime powers of its argument, rising. -/
import Derived.Test.YtikfeinhdfjjhaaProg
import Derived.Test.YtikfeinhdfjjhaaKit
import Derived.Test.YtikfeinhdfjjhaaNum
import Derived.BigQuiet
import Derived.Deep.QuietTactic
import Derived.Deep.LoopGhost
import Derived.WalkMore
namespace Go.Proofs.Ytikfeinhdfjjhaa
set_option linter.unusedVariables false
open Go.RowKit

theorem Try.info31 : (Try.prog.info? 31).map (fun i => (i.zero, i.size, i.bytes)) = some (some (.agg #[.int .i64 0, .int .i64 0]), 2, 16) := by kernel_rfl

/-- a list of prime powers as the cells of a row -/
def pows (l : List (Nat × Nat)) : List Value := l.flatMap fun x => [.int .i64 x.1, .int .i64 x.2]

theorem pows_len (l : List (Nat × Nat)) : (pows l).length = l.length * 2 := by
  induction l with
  | nil => rfl
  | cons x l ih => simp [pows] at ih ⊢; omega
theorem pows_snoc (l : List (Nat × Nat)) (p e : Nat) : pows (l ++ [(p, e)]) = pows l ++ [.int .i64 p, .int .i64 e] := by
  simp [pows]

set_option maxHeartbeats 400000 in
theorem there_any (n : Int) (w : World) :
    Calls Try.prog 34 #[.int .i64 n] w fun e w' => e = .returned (.bool (decide (1 ≤ n ∧ n ≤ 16777216))) ∧ w = w' := by
  by_cases h1 : 1 ≤ n
  · by_cases h2 : n ≤ 16777216
    · go_enter Try.func34, Try.ntmps34
      go_wp2
      go_ret
      exact ⟨by simp [h1, h2], rfl⟩
    · go_enter Try.func34, Try.ntmps34
      go_wp2
      go_ret
      exact ⟨by simp [h2], rfl⟩
  · go_enter Try.func34, Try.ntmps34
    go_wp2
    go_ret
    exact ⟨by simp; omega, rfl⟩

set_option maxHeartbeats 400000 in
theorem factors_no (n : Int) (w : World) (h : ¬ (1 ≤ n ∧ n ≤ 16777216)) :
    Calls Try.prog 10 #[.int .i64 n] w fun e w' => e = .returned (.tuple #[.slice none 0 0, .int .i64 3]) ∧ w = w' := by
  have hd : decide (1 ≤ n ∧ n ≤ 16777216) = false := by simpa using h
  have H := Lib.hid hd
  clear hd h
  go_enter Try.func10, Try.ntmps10
  go_wp2; go_step3
  go_wp2_with (go_at_call 34; refine (there_any _ _).mono ?_; rintro e w' ⟨rfl, rfl⟩; rw [H.out])
  rw [Exit.noGoto_ret]
  go_ret2
  exact ⟨rfl, rfl⟩

set_option maxHeartbeats 1000000 in
theorem factors_yes (n : Nat) (w : World) (h1 : 1 ≤ n) (h2 : n ≤ 16777216) :
    Calls Try.prog 10 #[.int .i64 n] w fun e w' => ∃ v, e = .returned (.tuple #[v, .int .i64 0]) ∧ w'.ownsRow w.heap.size 31 2 v (facs n).length (pows (facs n)) ∧ New w w' := by
  have hd : decide (1 ≤ (n : Int) ∧ (n : Int) ≤ 16777216) = true := by simp; omega
  have H := Lib.hid hd
  clear hd
  obtain ⟨i0, hi, hz0, hz1, hz2⟩ := info_parts Try.info31
  go_enter Try.func10, Try.ntmps10
  go_wp2; go_step3
  go_wp2_with (go_at_call 34; refine (there_any _ _).mono ?_; rintro e w' ⟨rfl, rfl⟩; rw [H.out])
  clear H
  go_wp2; go_step3
  go_wp2
  go_loopg [0, 4, 5] 5000 (fun g s l d wr => ∃ (m k : Nat) (L : List (Nat × Nat)), s = .int .i64 m ∧ d = .int .i64 k ∧ 2 ≤ k ∧ k ≤ 4100 ∧ 1 ≤ m ∧ m ≤ 16777216 ∧ L.length ≤ k ∧ 5000 ≤ g + k ∧
      Hid (L ++ facF (4202 - k) k m = facs n) ∧ wr.ownsRow w.heap.size 31 2 l L.length (pows L) ∧ New w wr)
  case atStart => exact ⟨n, 2, [], rfl, rfl, by omega, by omega, by omega, by omega, by simp, by omega, rfl, World.ownsRow_nil _ _ _ _, New.refl _⟩
  case round =>
    obtain ⟨m, k, L, rfl, rfl, hk2, hk, hm1, hm, hL, hgk, hrest, hown, hnew⟩ := hrel
    by_cases hkm : k * k ≤ m
    · have hk' : k ≤ 4096 := by
        apply Nat.le_of_not_lt; intro hlt
        have := Nat.mul_le_mul (show 4097 ≤ k from hlt) (show 4097 ≤ k from hlt)
        omega
      have q1 : (k : Int) * (k : Int) ≤ (m : Int) := by exact_mod_cast hkm
      have q2 : (0 : Int) ≤ (k : Int) * (k : Int) := by exact_mod_cast Nat.zero_le _
      obtain ⟨go, rfl⟩ : ∃ go : Nat, go = gk := ⟨_, rfl⟩
      obtain ⟨wo, rfl⟩ : ∃ wo : World, wo = wr := ⟨_, rfl⟩
      obtain ⟨l, rfl⟩ : ∃ l : Value, l = u4 := ⟨_, rfl⟩
      go_wp2_with fail
      go_loopg [0] m (fun g s wi => ∃ (m' t : Nat), s = .int .i64 m' ∧ m' ≤ g ∧ 1 ≤ m' ∧ t + m' ≤ m ∧ Hid (m' * k ^ t = m) ∧ Box wi wo.heap.size 31 #[.int .i64 k, .int .i64 t] ∧ New wo wi)
      case atStart => exact ⟨m, 0, rfl, Nat.le_refl _, hm1, by omega, by simp [Hid], Box.made _ _ _, (New.refl _).alloc _⟩
      case round =>
        obtain ⟨m', t, rfl, hg', hm1', htm, hpow, hbox, hnw⟩ := hrel
        have c1 : wr.cell? ⟨wo.heap.size, 1, none⟩ = some (.int .i64 t) := hbox.cell 1
        have f1 : wr.frozen? ⟨wo.heap.size, 1, none⟩ = false := hbox.frozen 1
        by_cases hmod : m' % k = 0
        · have hq : ((m' : Int) % (k : Int) == 0) = true := by simp; omega
          have Hq : Hid (m' / k * k = m') := Nat.div_mul_cancel (Nat.dvd_of_mod_eq_zero hmod)
          have hq1 : 1 ≤ m' / k := div_pos_of_mod hk2 hm1' hmod
          have hq2 : m' / k < m' := Nat.div_lt_self (by omega) (by omega)
          clear hmod
          go_wp2
          go_roundg (m' / k)
          case rel =>
            refine ⟨m' / k, t + 1, by simp, Nat.le_refl _, hq1, by omega, ?_, ?_, hnw.setCell (by simp) _⟩
            · show m' / k * k ^ (t + 1) = m
              rw [Nat.pow_succ, Nat.mul_comm (k ^ t), ← Nat.mul_assoc, Hq.out, hpow.out]
            · simpa using hbox.put 1 (.int .i64 (t + 1))
          case measure => omega
        · have hq : ((m' : Int) % (k : Int) == 0) = false := by simp; omega
          have c0 : wr.cell? ⟨wo.heap.size, 0, none⟩ = some (.int .i64 k) := hbox.cell 0
          have HR : Hid (facF (4202 - k) k m = (if t = 0 then [] else [(k, t)]) ++ facF (4202 - (k + 1)) (k + 1) m') := facF_round hk2 hk hkm hpow.out.symm hmod
          have hown1 := own_new hown hnw
          have hnew1 := hnew.trans hnw
          have hBl : w.heap.size ≤ wr.heap.size := hnew1.size
          clear hpow hmod hkm hown hnew q2
          by_cases ht : t = 0
          · subst ht
            go_wp2
            go_roundg (go - 1)
            case rel => exact ⟨m', k + 1, L, rfl, by simp, by omega, by omega, by omega, by omega, by omega, by omega, by have := hrest.out; rw [HR.out] at this; simpa [Hid] using this, hown1, hnew1⟩
            case measure => omega
          · have ht' : ((t : Int) == 0) = false := by simp; omega
            go_wp2_with (at_builtin; refine wpList_append_own _ rfl _ _ 22 rfl w.heap.size 31 i0 (.agg #[.int .i64 0, .int .i64 0]) 2 16 Try.underlying22 hi hz0 hz1 hz2 rfl (by decide) _ _ _ rfl (hown1.alloc _) ⟨wr.heap.size, 0, none⟩ 1 1 [.int .i64 k, .int .i64 t] rfl rfl (news2 _ _ _ _) (ones2 _ _ _) (by unfold maxLen; omega) (by omega) (by simp; omega) ?_)
            intro v' w1 hown2 hgrow _
            have hnew2 := grown_own hnew1 hown1 hgrow
            clear hgrow hown1 hnew1
            go_wp2
            go_roundg (go - 1)
            case rel => exact ⟨m', k + 1, L ++ [(k, t)], rfl, by simp, by omega, by omega, by omega, by omega, by simp; omega, by omega, by have := hrest.out; rw [HR.out, if_neg ht] at this; simpa [Hid] using this, by rw [pows_snoc]; simpa using hown2, hnew2⟩
            case measure => omega
    · have q1 : ¬ (k : Int) * (k : Int) ≤ (m : Int) := by exact_mod_cast hkm
      have q2 : (0 : Int) ≤ (k : Int) * (k : Int) := by exact_mod_cast Nat.zero_le _
      have q3 : (k : Int) * (k : Int) ≤ 16810000 := by
        have h' := Nat.mul_le_mul hk hk
        rw [← Int.natCast_mul]; omega
      by_cases hm2 : 1 < m
      · have HR : Hid (facF (4202 - k) k m = [(m, 1)]) := by
          rw [show 4202 - k = (4201 - k) + 1 by omega]; exact facF_last (by omega) hm2
        clear hkm
        go_wp2_with (at_builtin; refine wpList_append_own _ rfl _ _ 22 rfl w.heap.size 31 i0 (.agg #[.int .i64 0, .int .i64 0]) 2 16 Try.underlying22 hi hz0 hz1 hz2 rfl (by decide) _ _ _ rfl (hown.alloc _) ⟨wr.heap.size, 0, none⟩ 1 1 [.int .i64 m, .int .i64 1] rfl rfl (news2 _ _ _ _) (ones2 _ _ _) (by unfold maxLen; omega) (by omega) (by have := hnew.size; simp; omega) ?_)
        intro v' w1 hown2 hgrow _
        have hnew2 := grown_own hnew hown hgrow
        go_wp2
        try rw [Exit.noGoto_ret]
        go_ret2
        refine ⟨v', rfl, ?_, hnew2⟩
        have := hrest.out
        rw [HR.out] at this
        rw [← this, pows_snoc]; simpa using hown2
      · have HR : Hid (facF (4202 - k) k m = []) := by
          rw [show 4202 - k = (4201 - k) + 1 by omega]; exact facF_end (by omega) (by omega)
        clear hkm
        go_wp2
        try rw [Exit.noGoto_ret]
        go_ret2
        refine ⟨_, rfl, ?_, hnew⟩
        have := hrest.out
        rw [HR.out] at this
        rw [← this]; simpa using hown

end Go.Proofs.Ytikfeinhdfjjhaa
