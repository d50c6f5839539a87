/- The contract of the reference's Primes. -/
import Derived.Test.YtikfeinhdfjjhaaPri
namespace Go.Proofs.Ytikfeinhdfjjhaa
open Go.RowKit
set_option linter.unusedVariables false

theorem tnz_of {k m m' t : Nat} (hk : 2 ≤ k) (h0 : m % k = 0) (h : m' * k ^ t = m) (h1 : m' % k ≠ 0) : t ≠ 0 := by
  rintro rfl
  simp at h
  subst h
  exact h1 h0
theorem tz_of {k m m' t : Nat} (h0 : m % k ≠ 0) (h : m' * k ^ t = m) : t = 0 := by
  apply Nat.eq_zero_of_not_pos
  intro ht
  apply h0
  obtain ⟨s, rfl⟩ : ∃ s, t = s + 1 := ⟨t - 1, by omega⟩
  apply Nat.mod_eq_zero_of_dvd
  rw [← h, Nat.pow_succ, ← Nat.mul_assoc]
  exact Nat.dvd_mul_left k _

set_option maxHeartbeats 1000000 in
theorem primes_any (n : Nat) (w : World) (h1 : 1 ≤ n) (h2 : n ≤ 16777216) :
    Calls Try.prog 15 #[.int .i64 n] w fun e w' => ∃ v, e = .returned v ∧ w'.ownsRow w.heap.size 3 1 v (facs n).length (nums ((facs n).map (·.1))) ∧ New w w' := by
  have HLEN : Hid ((facs n).length = ((facs n).map (·.1)).length) := by simp [Hid]
  obtain ⟨i0, hi, hz0, hz1, hz2⟩ := info_parts Try.info3
  go_enter Try.func15, Try.ntmps15
  go_wp2
  go_loopg [0, 3, 4] 5000 (fun g s l d wr => ∃ (m k : Nat) (L : List Nat), s = .int .i64 m ∧ d = .int .i64 k ∧ 2 ≤ k ∧ k ≤ 4100 ∧ 1 ≤ m ∧ m ≤ 16777216 ∧ L.length ≤ k ∧ 5000 ≤ g + k ∧
      Hid (L ++ (facF (4202 - k) k m).map (·.1) = (facs n).map (·.1)) ∧ wr.ownsRow w.heap.size 3 1 l L.length (nums L) ∧ New w wr)
  case atStart => exact ⟨n, 2, [], rfl, rfl, by omega, by omega, by omega, by omega, by simp, by omega, rfl, World.ownsRow_nil _ _ _ _, New.refl _⟩
  case round =>
    obtain ⟨m, k, L, rfl, rfl, hk2, hk, hm1, hm, hL, hgk, hrest, hown, hnew⟩ := hrel
    obtain ⟨l, rfl⟩ : ∃ l : Value, l = u3 := ⟨_, rfl⟩
    have q2 : (0 : Int) ≤ (k : Int) * (k : Int) := by exact_mod_cast Nat.zero_le _
    have q3 : (k : Int) * (k : Int) ≤ 16810000 := by
      have h' := Nat.mul_le_mul hk hk
      rw [← Int.natCast_mul]; omega
    by_cases hm2 : 1 < m
    · by_cases hkm : k * k ≤ m
      · have hk' : k ≤ 4096 := by
          apply Nat.le_of_not_lt; intro hlt
          have := Nat.mul_le_mul (show 4097 ≤ k from hlt) (show 4097 ≤ k from hlt)
          omega
        have q1 : (k : Int) * (k : Int) ≤ (m : Int) := by exact_mod_cast hkm
        have HKM := Lib.hid hkm
        clear hkm
        by_cases hmk : m % k = 0
        · have hq0 : ((m : Int) % (k : Int) == 0) = true := by simp; omega
          have HM0 := Lib.hid hmk
          clear hmk
          go_wp2_with (at_builtin; refine wpList_append_own _ rfl _ _ 28 rfl w.heap.size 3 i0 (.int .i64 0) 1 8 Try.underlying28 hi hz0 hz1 hz2 rfl (by decide) _ _ _ rfl (hown.alloc _) ⟨wr.heap.size, 0, none⟩ 1 1 [.int .i64 k] rfl rfl (news1 _ _ _) (ones1 _ _) (by unfold maxLen; omega) (by omega) (by have := hnew.size; simp; omega) ?_)
          intro v' w1 hown2 hgrow _
          have hnew2 := grown_own hnew hown hgrow
          clear hgrow hown hnew
          go_wp2
          obtain ⟨go, rfl⟩ : ∃ go : Nat, go = gk := ⟨_, rfl⟩
          obtain ⟨wo, rfl⟩ : ∃ wo : World, wo = w1 := ⟨_, rfl⟩
          go_loopg [0] m (fun g s wi => ∃ (m' t : Nat), s = .int .i64 m' ∧ m' ≤ g ∧ 1 ≤ m' ∧ t + m' ≤ m ∧ Hid (m' * k ^ t = m) ∧ wo = wi)
          case atStart => exact ⟨m, 0, rfl, Nat.le_refl _, hm1, by omega, by simp [Hid], rfl⟩
          case round =>
            obtain ⟨m', t, rfl, hg', hm1', htm, hpow, rfl⟩ := hrel
            by_cases hmod : m' % k = 0
            · have hq : ((m' : Int) % (k : Int) == 0) = true := by simp; omega
              have Hq : Hid (m' / k * k = m') := Nat.div_mul_cancel (Nat.dvd_of_mod_eq_zero hmod)
              have hq1 : 1 ≤ m' / k := div_pos_of_mod hk2 hm1' hmod
              have hq2 : m' / k < m' := Nat.div_lt_self (by omega) (by omega)
              clear hmod
              go_wp2
              go_roundg (m' / k)
              case rel =>
                refine ⟨m' / k, t + 1, by simp, Nat.le_refl _, hq1, by omega, ?_, rfl⟩
                show m' / k * k ^ (t + 1) = m
                rw [Nat.pow_succ, Nat.mul_comm (k ^ t), ← Nat.mul_assoc, Hq.out, hpow.out]
              case measure => omega
            · have hq : ((m' : Int) % (k : Int) == 0) = false := by simp; omega
              have HR : Hid (facF (4202 - k) k m = (if t = 0 then [] else [(k, t)]) ++ facF (4202 - (k + 1)) (k + 1) m') := facF_round hk2 (by omega) HKM.out hpow.out.symm hmod
              have HT : Hid (t ≠ 0) := tnz_of hk2 HM0.out hpow.out hmod
              clear hpow hmod
              go_wp2
              go_roundg (go - 1)
              case rel => exact ⟨m', k + 1, L ++ [k], rfl, by simp, by omega, by omega, by omega, by omega, by (first | omega | (simp; omega)), by omega, by have := hrest.out; rw [HR.out, if_neg HT.out] at this; simpa [Hid] using this, by rw [nums_snoc]; simpa using hown2, hnew2⟩
              case measure => omega
        · have hq0 : ((m : Int) % (k : Int) == 0) = false := by simp; omega
          have HM0 := Lib.hid hmk
          clear hmk
          go_wp2
          obtain ⟨go, rfl⟩ : ∃ go : Nat, go = gk := ⟨_, rfl⟩
          obtain ⟨wo, rfl⟩ : ∃ wo : World, wo = wr := ⟨_, rfl⟩
          go_loopg [0] m (fun g s wi => ∃ (m' t : Nat), s = .int .i64 m' ∧ m' ≤ g ∧ 1 ≤ m' ∧ t + m' ≤ m ∧ Hid (m' * k ^ t = m) ∧ wo = wi)
          case atStart => exact ⟨m, 0, rfl, Nat.le_refl _, hm1, by omega, by simp [Hid], rfl⟩
          case round =>
            obtain ⟨m', t, rfl, hg', hm1', htm, hpow, rfl⟩ := hrel
            by_cases hmod : m' % k = 0
            · have hq : ((m' : Int) % (k : Int) == 0) = true := by simp; omega
              have Hq : Hid (m' / k * k = m') := Nat.div_mul_cancel (Nat.dvd_of_mod_eq_zero hmod)
              have hq1 : 1 ≤ m' / k := div_pos_of_mod hk2 hm1' hmod
              have hq2 : m' / k < m' := Nat.div_lt_self (by omega) (by omega)
              clear hmod
              go_wp2
              go_roundg (m' / k)
              case rel =>
                refine ⟨m' / k, t + 1, by simp, Nat.le_refl _, hq1, by omega, ?_, rfl⟩
                show m' / k * k ^ (t + 1) = m
                rw [Nat.pow_succ, Nat.mul_comm (k ^ t), ← Nat.mul_assoc, Hq.out, hpow.out]
              case measure => omega
            · have hq : ((m' : Int) % (k : Int) == 0) = false := by simp; omega
              have HR : Hid (facF (4202 - k) k m = (if t = 0 then [] else [(k, t)]) ++ facF (4202 - (k + 1)) (k + 1) m') := facF_round hk2 (by omega) HKM.out hpow.out.symm hmod
              have HT : Hid (t = 0) := tz_of HM0.out hpow.out
              clear hpow hmod
              go_wp2
              go_roundg (go - 1)
              case rel => exact ⟨m', k + 1, L, rfl, by simp, by omega, by omega, by omega, by omega, by (first | omega | (simp; omega)), by omega, by have := hrest.out; rw [HR.out, if_pos HT.out] at this; simpa [Hid] using this, hown, hnew⟩
              case measure => omega
      · have q1 : ¬ (k : Int) * (k : Int) ≤ (m : Int) := by exact_mod_cast hkm
        have q1' : (m : Int) < (k : Int) * (k : Int) := by omega
        have HR : Hid (facF (4202 - k) k m = [(m, 1)]) := by
          rw [show 4202 - k = (4201 - k) + 1 by omega]; exact facF_last (by omega) hm2
        clear hkm
        go_wp2_with (at_builtin; refine wpList_append_own _ rfl _ _ 28 rfl w.heap.size 3 i0 (.int .i64 0) 1 8 Try.underlying28 hi hz0 hz1 hz2 rfl (by decide) _ _ _ rfl (hown.alloc _) ⟨wr.heap.size, 0, none⟩ 1 1 [.int .i64 m] rfl rfl (news1 _ _ _) (ones1 _ _) (by unfold maxLen; omega) (by omega) (by have := hnew.size; simp; omega) ?_)
        intro v' w1 hown2 hgrow _
        have hnew2 := grown_own hnew hown hgrow
        go_wp2
        go_ret
        refine ⟨v', rfl, ?_, hnew2⟩
        have := hrest.out
        rw [HR.out] at this
        rw [HLEN.out, ← this]
        simpa [nums] using hown2
    · have HR : Hid (facF (4202 - k) k m = []) := by
        rw [show 4202 - k = (4201 - k) + 1 by omega]
        have := Nat.mul_le_mul hk2 hk2
        exact facF_end (by omega) (by omega)
      go_wp2
      go_ret
      refine ⟨_, rfl, ?_, hnew⟩
      have := hrest.out
      rw [HR.out] at this
      rw [HLEN.out, ← this]; simpa using hown

end Go.Proofs.Ytikfeinhdfjjhaa
