/- Contracts: fact.Phi, fact.Above, and the reference's Above. -/
import Derived.Test.YtikfeinhdfjjhaaPris
import Derived.Test.YtikfeinhdfjjhaaPhin
import Derived.Test.YtikfeinhdfjjhaaShelf
namespace Go.Proofs.Ytikfeinhdfjjhaa
open Go.RowKit
set_option linter.unusedVariables false

set_option maxHeartbeats 400000 in
theorem phi_no (n : Int) (w : World) (h : ¬ (1 ≤ n ∧ n ≤ 16777216)) :
    Calls Try.prog 19 #[.int .i64 n] w fun e w' => e = .returned (.tuple #[.int .i64 0, .int .i64 3]) ∧ w = w' := by
  have HF := Lib.hid (factors_no n w h)
  clear h
  go_enter Try.func19, Try.ntmps19
  go_wp2_with fail
  refine HF.out.mono ?_
  rintro e w1 ⟨rfl, rfl⟩
  go_wp2
  go_ret2
  exact ⟨rfl, rfl⟩

/-- Phi's loop goes down -/
theorem phi_step_le (m p : Nat) (hp : 1 ≤ p) : m / p * (p - 1) ≤ m := by
  have h1 : m / p * (p - 1) ≤ m / p * p := Nat.mul_le_mul_left _ (by omega)
  have h2 := Nat.div_mul_le_self m p
  omega

set_option maxHeartbeats 400000 in
theorem phi_yes (n : Nat) (w : World) (h1 : 1 ≤ n) (h2 : n ≤ 16777216) :
    Calls Try.prog 19 #[.int .i64 n] w fun e w' => e = .returned (.tuple #[.int .i64 (phi (facs n) n), .int .i64 0]) ∧ New w w' := by
  have HF := Lib.hid (factors_yes n w h1 h2)
  have HA := Lib.hid (facs_spec h1 h2)
  generalize facs n = l at *
  go_enter Try.func19, Try.ntmps19
  go_wp2_with fail
  refine HF.out.mono ?_
  rintro e w1 ⟨v, rfl, hown, hn1⟩
  have hlen := own_len hown
  obtain ⟨ad, cap, rfl, hcap, hrow⟩ := own_slice hown
  clear hown HF
  go_wp2_with fail
  go_loopg [0, 18] l.length (fun g s i wr => ∃ k m : Nat, s = .int .i64 m ∧ i = .int .i64 k ∧ k ≤ l.length ∧ l.length ≤ g + k ∧ m ≤ 16777216 ∧ Hid (m = phi (l.take k) n) ∧ New w1 wr)
  case atStart => exact ⟨0, n, rfl, rfl, by omega, by omega, h2, by simp [Hid, phi], New.refl _⟩
  case round =>
    obtain ⟨k, m, rfl, rfl, hk, hgk, hm, HM, hnr⟩ := hrel
    by_cases hkl : k < l.length
    · obtain ⟨x, hx⟩ : ∃ x, l[k]? = some x := ⟨_, List.getElem?_eq_getElem hkl⟩
      obtain ⟨a1, a2, a3, a4, a5, a6, a7, a8⟩ := HA.out.at_ hx
      obtain ⟨p1, p2⟩ := pows_at l k x hx
      obtain ⟨g, rfl, hg1, hg2, hcell⟩ := hrow (by omega)
      have c1 : wr.cell? ⟨g, k * 2, none⟩ = some (.int .i64 x.1) := ((hnr.cell hg2).trans (hcell (k * 2) (by omega))).trans p1
      have c2 : wr.cell? ⟨g, k * 2 + 1, none⟩ = some (.int .i64 x.2) := ((hnr.cell hg2).trans (hcell (k * 2 + 1) (by omega))).trans p2
      have hkl' : (k : Int) < (l.length : Int) := by omega
      have HM2 : Hid (m / x.1 * (x.1 - 1) = phi (l.take (k + 1)) n) := by
        show _ = _
        rw [List.take_add_one, hx]
        simp only [phi, Option.toList_some, List.foldl_append, List.foldl_cons, List.foldl_nil]
        rw [HM.out]; rfl
      have hle := phi_step_le m x.1 (by omega)
      clear hcell hrow hx a1 a4 a5 p1 p2 HM
      have hq1 : (0 : Int) ≤ (m : Int) / (x.1 : Int) * ((x.1 : Int) - 1) := by
        have : (0 : Int) ≤ ((m / x.1 * (x.1 - 1) : Nat) : Int) := by omega
        rw [Int.natCast_mul, Int.natCast_ediv, Int.natCast_sub (by omega)] at this
        exact this
      have hq2 : (m : Int) / (x.1 : Int) * ((x.1 : Int) - 1) ≤ 16777216 := by
        have : ((m / x.1 * (x.1 - 1) : Nat) : Int) ≤ 16777216 := by omega
        rw [Int.natCast_mul, Int.natCast_ediv, Int.natCast_sub (by omega)] at this
        exact this
      have hq3 : -9223372036854775808 ≤ (m : Int) / (x.1 : Int) ∧ (m : Int) / (x.1 : Int) ≤ 9223372036854775807 := by
        have := Nat.div_le_self m x.1
        rw [← Int.natCast_ediv]
        generalize m / x.1 = q at this
        omega
      go_wp2
      go_quiet (fail)
      go_wp2
      go_roundg (gk - 1)
      case rel => exact ⟨k + 1, m / x.1 * (x.1 - 1), by rw [Int.natCast_mul, Int.natCast_ediv, Int.natCast_sub (by omega)]; rfl, by simp, by omega, by omega, by omega, HM2, (hnr.alloc _).draws _⟩
      case measure => omega
    · have hke : k = l.length := by omega
      have HE : Hid (m = phi l n) := by rw [HM.out, hke, List.take_length]; rfl
      clear hke HM hrow
      go_wp2
      go_ret2
      exact ⟨by rw [HE.out]; rfl, hn1.trans hnr⟩

/-- the least power of two that is not below n -/
def abv (n : Nat) : Nat := 2 ^ Lib.bitLen (n - 1)

theorem bitLenAux_bounds : ∀ f x, x < 2 ^ f → x < 2 ^ Lib.bitLenAux f x ∧ (1 ≤ x → 2 ^ (Lib.bitLenAux f x - 1) ≤ x ∧ 1 ≤ Lib.bitLenAux f x) := by
  intro f
  induction f with
  | zero => intro x h; simp at h; subst h; simp [Lib.bitLenAux]
  | succ f ih =>
    intro x h
    by_cases h0 : x = 0
    · subst h0; simp [Lib.bitLenAux]
    · simp only [Lib.bitLenAux, if_neg h0]
      rw [Nat.pow_succ] at h
      obtain ⟨i1, i2⟩ := ih (x / 2) (by omega)
      have e : 1 + Lib.bitLenAux f (x / 2) = Lib.bitLenAux f (x / 2) + 1 := by omega
      rw [e, Nat.pow_succ]
      refine ⟨by omega, fun _ => ⟨?_, by omega⟩⟩
      simp only [Nat.add_sub_cancel]
      by_cases h1 : x / 2 = 0
      · rw [h1]
        have : Lib.bitLenAux f 0 = 0 := by cases f <;> simp [Lib.bitLenAux]
        rw [this]; omega
      · obtain ⟨j1, j2⟩ := i2 (by omega)
        obtain ⟨s, hs⟩ : ∃ s, Lib.bitLenAux f (x / 2) = s + 1 := ⟨Lib.bitLenAux f (x / 2) - 1, by omega⟩
        rw [hs] at j1 ⊢
        simp only [Nat.add_sub_cancel] at j1
        rw [Nat.pow_succ]
        omega

theorem abv_spec {n : Nat} (h1 : 1 ≤ n) (h2 : n ≤ 16777216) : n ≤ abv n ∧ ∀ k, 2 ^ k < n → 2 ^ (k + 1) ≤ abv n := by
  obtain ⟨i1, i2⟩ := bitLenAux_bounds 64 (n - 1) (by omega)
  unfold abv Lib.bitLen
  refine ⟨by omega, fun k hk => ?_⟩
  apply Nat.pow_le_pow_right (by omega)
  apply Nat.succ_le_of_lt
  have : 2 ^ k < 2 ^ Lib.bitLenAux 64 (n - 1) := by omega
  exact (Nat.pow_lt_pow_iff_right (by omega)).1 this

theorem abv_up {n : Nat} (h1 : 1 ≤ n) (h2 : n ≤ 16777216) {k : Nat} (hk : 2 ^ k ≤ abv n) (hn : n ≤ 2 ^ k) : 2 ^ k = abv n := by
  obtain ⟨i1, i2⟩ := bitLenAux_bounds 64 (n - 1) (by omega)
  unfold abv Lib.bitLen at hk ⊢
  have hle := (Nat.pow_le_pow_iff_right (show 1 < 2 by omega)).1 hk
  by_cases he : k = Lib.bitLenAux 64 (n - 1)
  · rw [he]
  · exfalso
    by_cases h0 : n = 1
    · subst h0
      have : Lib.bitLenAux 64 (1 - 1) = 0 := by simp [Lib.bitLenAux]
      omega
    · have j := (i2 (by omega)).1
      have : 2 ^ k ≤ 2 ^ (Lib.bitLenAux 64 (n - 1) - 1) := Nat.pow_le_pow_right (by omega) (by omega)
      omega

theorem abv_small {n : Nat} (h1 : 1 ≤ n) (h2 : n ≤ 16777216) : Lib.bitLen (n - 1) ≤ 24 ∧ abv n ≤ 16777216 := by
  obtain ⟨i1, i2⟩ := bitLenAux_bounds 64 (n - 1) (by omega)
  have h : Lib.bitLen (n - 1) ≤ 24 := by
    unfold Lib.bitLen
    apply Nat.le_of_not_lt
    intro hlt
    have hpos : 1 ≤ n - 1 := by
      rcases Nat.eq_zero_or_pos (n - 1) with e | e
      · rw [e] at hlt; simp [Lib.bitLenAux] at hlt
      · exact e
    have j := (i2 hpos).1
    have : 2 ^ 24 ≤ 2 ^ (Lib.bitLenAux 64 (n - 1) - 1) := Nat.pow_le_pow_right (by omega) (by omega)
    omega
  refine ⟨h, ?_⟩
  have : abv n ≤ 2 ^ 24 := Nat.pow_le_pow_right (by omega) h
  omega

set_option maxHeartbeats 400000 in
theorem above_no (n : Int) (w : World) (h : ¬ (1 ≤ n ∧ n ≤ 16777216)) :
    Calls Try.prog 20 #[.int .i64 n] w fun e w' => e = .returned (.tuple #[.int .i64 0, .int .i64 3]) ∧ w = w' := by
  have hd : decide (1 ≤ n ∧ n ≤ 16777216) = false := by simpa using h
  have H : Hid (∀ W, Calls Try.prog 34 #[.int .i64 n] W fun e w' => e = .returned (.bool false) ∧ W = w') := fun W => by
    have := there_any n W
    rwa [hd] at this
  clear hd h
  go_enter Try.func20, Try.ntmps20
  go_wp2_with fail
  refine (H.out _).mono ?_
  rintro e w1 ⟨rfl, rfl⟩
  go_wp2
  go_ret2
  exact ⟨rfl, rfl⟩

set_option maxHeartbeats 400000 in
theorem above_yes (n : Nat) (w : World) (h1 : 1 ≤ n) (h2 : n ≤ 16777216) :
    Calls Try.prog 20 #[.int .i64 n] w fun e w' => e = .returned (.tuple #[.int .i64 (abv n), .int .i64 0]) ∧ w = w' := by
  have H : Hid (∀ W, Calls Try.prog 34 #[.int .i64 n] W fun e w' => e = .returned (.bool true) ∧ W = w') := fun W => by
    have := there_any n W
    rwa [decide_eq_true (by omega)] at this
  have HB : Hid (∀ W, Calls Try.prog 35 #[.int .u64 ((n : Int) - 1)] W fun e w' => e = .returned (.int .i64 (Lib.bitLen (n - 1))) ∧ w' = W) := fun W => by
    have := Try.bits_Len ((n : Int) - 1) W (by omega) (by omega)
    rwa [show ((n : Int) - 1).toNat = n - 1 by omega] at this
  have hs := (abv_small h1 h2).1
  have hs2 := (abv_small h1 h2).2
  have HV : Hid (abv n = 2 ^ Lib.bitLen (n - 1)) := rfl
  generalize Lib.bitLen (n - 1) = b at *
  generalize abv n = v at *
  go_enter Try.func20, Try.ntmps20
  go_wp2_with fail
  refine (H.out _).mono ?_
  rintro e w1 ⟨rfl, rfl⟩
  go_wp2_with fail
  refine (HB.out _).mono ?_
  rintro e w1 ⟨rfl, rfl⟩
  go_wp2
  go_ret2
  refine ⟨?_, rfl⟩
  have e : (2 : Int) ^ b = (v : Int) := by rw [HV.out, Int.natCast_pow]; rfl
  show Ending.returned (.tuple #[.int .i64 (wrap64 (2 ^ b)), .int .i64 0]) = _
  rw [e, IntWalk.wrap64_in _ ⟨by omega, by omega⟩]

set_option maxHeartbeats 400000 in
theorem refabove_any (n : Nat) (w : World) (h1 : 1 ≤ n) (h2 : n ≤ 16777216) :
    Calls Try.prog 21 #[.int .i64 n] w fun e w' => e = .returned (.int .i64 (abv n)) ∧ w = w' := by
  have HS := Lib.hid (abv_spec h1 h2)
  have HU := Lib.hid fun k => abv_up (k := k) h1 h2
  have hv := (abv_small h1 h2).2
  generalize abv n = v at *
  go_enter Try.func21, Try.ntmps21
  go_wp2
  go_loopg [3] v (fun g s wr => ∃ k p : Nat, s = .int .i64 p ∧ Hid (p = 2 ^ k) ∧ p ≤ v ∧ 1 ≤ p ∧ v ≤ g + p ∧ w = wr)
  case atStart => exact ⟨0, 1, rfl, rfl, by have := HS.out.1; omega, by omega, by omega, rfl⟩
  case round =>
    obtain ⟨k, p, rfl, HP, hp, hp1, hg, rfl⟩ := hrel
    by_cases hpn : p < n
    · have h3 : 2 * p ≤ v := by
        have := HS.out.2 k (by rw [← HP.out]; exact hpn)
        rw [Nat.pow_succ, ← HP.out] at this
        omega
      have HP2 : Hid (2 * p = 2 ^ (k + 1)) := by
        show _ = _
        rw [Nat.pow_succ, ← HP.out]; omega
      go_wp2
      go_roundg (gk - p)
      case rel => exact ⟨k + 1, 2 * p, by simp, HP2, h3, by omega, by omega, rfl⟩
      case measure => omega
    · have HE : Hid (p = v) := by
        have := HU.out k (by rw [← HP.out]; exact hp) (by rw [← HP.out]; omega)
        rw [← HP.out] at this
        exact this
      go_wp2
      go_ret
      exact ⟨by rw [HE.out]; rfl, rfl⟩

end Go.Proofs.Ytikfeinhdfjjhaa
