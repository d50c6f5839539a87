/- Contracts of the layer gen: there, power, Gen, Order; of its reference Is, Order, Gen. -/
import Derived.Test.YtikfeinhdfjjhaaGenn
import Derived.Test.YtikfeinhdfjjhaaPri
import Derived.Test.YtikfeinhdfjjhaaRow
import Derived.Test.YtikfeinhdfjjhaaPhin
namespace Go.Proofs.Ytikfeinhdfjjhaa
open Go.RowKit
set_option linter.unusedVariables false

set_option maxHeartbeats 400000 in
theorem gthere_any (q : Int) (w : World) : Calls Try.prog 36 #[.int .i64 q] w fun e w' => e = .returned (.bool (isB q)) ∧ New w w' := by
  have HP := Lib.hid fun W => prime_any q W
  by_cases h : q ≤ 131072
  · rw [isB_small h]
    generalize prB q = b at *
    go_enter Try.func36, Try.ntmps36
    go_wp2_with fail
    refine (HP.out _).mono ?_
    rintro e w1 ⟨rfl, hn⟩
    go_wp2
    go_ret
    exact ⟨rfl, hn⟩
  · rw [isB_big (by omega)]
    have h' : decide (q ≤ 131072) = false := by simpa using h
    go_enter Try.func36, Try.ntmps36
    go_wp2
    go_ret
    exact ⟨rfl, New.refl _⟩

set_option maxHeartbeats 400000 in
theorem refis_any (q : Int) (w : World) : Calls Try.prog 25 #[.int .i64 q] w fun e w' => e = .returned (.bool (isB q)) ∧ w = w' := by
  have HP := Lib.hid fun W => refprime_any q W
  by_cases h : q ≤ 131072
  · rw [isB_small h]
    generalize prB q = b at *
    go_enter Try.func25, Try.ntmps25
    go_wp2_with fail
    refine (HP.out _).mono ?_
    rintro e w1 ⟨rfl, rfl⟩
    go_wp2
    go_ret
    exact ⟨rfl, rfl⟩
  · rw [isB_big (by omega)]
    have h' : decide (q ≤ 131072) = false := by simpa using h
    go_enter Try.func25, Try.ntmps25
    go_wp2
    go_ret
    exact ⟨rfl, rfl⟩

theorem mul_small {x y : Nat} (hx : x ≤ 131072) (hy : y ≤ 131072) : (0 : Int) ≤ (x : Int) * (y : Int) ∧ (x : Int) * (y : Int) ≤ 17179869184 := by
  have h := Nat.mul_le_mul hx hy
  rw [← Int.natCast_mul]
  omega

set_option maxHeartbeats 400000 in
theorem power_any (a n q : Nat) (w : World) (hq : 2 ≤ q) (hq2 : q ≤ 131072) (ha : a < q) (hn : n ≤ 16777216) :
    Calls Try.prog 37 #[.int .i64 a, .int .i64 n, .int .i64 q] w fun e w' => e = .returned (.int .i64 (a ^ n % q : Nat)) ∧ w = w' := by
  have H1 : (1 : Int) % (q : Int) = 1 := Int.emod_eq_of_lt (by omega) (by omega)
  have HV : Hid (∀ p : Nat, p < q → p * 1 % q = a ^ n % q → p = a ^ n % q) := by
    intro p hp h
    rw [Nat.mul_one, Nat.mod_eq_of_lt hp] at h
    exact h
  have HI : Hid (1 * a ^ n % q = a ^ n % q) := by show _ = _; rw [Nat.one_mul]
  obtain ⟨v, hv⟩ : ∃ v : Nat, v = a ^ n % q := ⟨_, rfl⟩
  rw [← hv] at HV HI
  rw [← hv]
  have HVV := Lib.hid hv
  clear hv
  go_enter Try.func37, Try.ntmps37
  go_wp2
  go_loopg [0, 1, 7] n (fun g x k p wr => ∃ x' k' p' : Nat, x = .int .i64 x' ∧ k = .int .i64 k' ∧ p = .int .i64 p' ∧ x' < q ∧ p' < q ∧ k' ≤ g ∧ k' ≤ 16777216 ∧ Hid (p' * x' ^ k' % q = v) ∧ w = wr)
  case atStart => exact ⟨a, n, 1, rfl, rfl, by rw [H1]; rfl, ha, by omega, Nat.le_refl _, hn, HI.out, rfl⟩
  case round =>
    obtain ⟨x, k, p, rfl, rfl, rfl, hx, hp, hkg, hk, HK, rfl⟩ := hrel
    by_cases h0 : k = 0
    · subst h0
      have HE : Hid (p = v) := HV.out p hp (by have := HK.out; rwa [Nat.pow_zero] at this)
      rw [HE.out]
      go_wp2
      go_ret
      exact ⟨rfl, rfl⟩
    · have hk0 : (0 : Int) < (k : Int) := by omega
      obtain ⟨b1, b2⟩ := mul_small (x := p) (y := x) (by omega) (by omega)
      obtain ⟨b3, b4⟩ := mul_small (x := x) (y := x) (by omega) (by omega)
      have l1 := Nat.mod_lt (x * x) (show 0 < q by omega)
      have l2 := Nat.mod_lt (p * x) (show 0 < q by omega)
      by_cases hodd : k % 2 = 1
      · have e1 : ((k : Int) % 2 == 1) = true := by simp; omega
        have HK2 : Hid ((p * x % q) * (x * x % q) ^ (k / 2) % q = v) := by
          rw [HVV.out]; exact mpow_odd p x k a n (HK.out.trans HVV.out) hodd
        clear HK hodd
        go_wp2
        go_roundg (k / 2)
        case rel => exact ⟨x * x % q, k / 2, p * x % q, by simp, by simp, by simp, l1, l2, Nat.le_refl _, by omega, HK2, rfl⟩
        case measure => omega
      · have e1 : ((k : Int) % 2 == 1) = false := by simp; omega
        have HK2 : Hid (p * (x * x % q) ^ (k / 2) % q = v) := by
          rw [HVV.out]; exact mpow_even p x k a n (HK.out.trans HVV.out) (by omega)
        clear HK hodd
        go_wp2
        go_roundg (k / 2)
        case rel => exact ⟨x * x % q, k / 2, p, by simp, by simp, rfl, l1, hp, Nat.le_refl _, by omega, HK2, rfl⟩
        case measure => omega

set_option maxHeartbeats 400000 in
theorem reforder_any (q a : Nat) (w : World) (hq : Pr q) (hq2 : q ≤ 131072) (h1 : 1 ≤ a) (h2 : a < q) :
    Calls Try.prog 31 #[.int .i64 q, .int .i64 a] w fun e w' => (∃ k : Nat, e = .returned (.int .i64 k) ∧ IsOrd q a k) ∧ w = w' := by
  obtain ⟨k, hk, hkle⟩ := exists_ord (show 1 ≤ q - 1 by have := hq.1; omega) (fermat hq (not_dvd_small h1 h2))
  have HK := Lib.hid hk
  have hq1 := hq.1
  have hk1 := hk.pos
  clear hk hq
  go_enter Try.func31, Try.ntmps31
  go_wp2
  go_loopg [5, 6] k (fun g p m wr => ∃ m' p' : Nat, m = .int .i64 m' ∧ p = .int .i64 p' ∧ 1 ≤ m' ∧ m' + g = k + 1 ∧ m' ≤ k ∧ p' < q ∧ Hid (p' = a ^ m' % q) ∧ w = wr)
  case atStart => exact ⟨1, a % q, rfl, by simp, by omega, by omega, hk1, Nat.mod_lt _ (by omega), by show _ = _; rw [Nat.pow_one], rfl⟩
  case round =>
    obtain ⟨m, p, rfl, rfl, hm1, hmg, hmk, hp, HP, rfl⟩ := hrel
    by_cases hp1 : p = 1
    · have HM : Hid (m = k) := by
        apply Classical.byContradiction
        intro hne
        have hne' : m ≠ k := hne
        exact HK.out.least m hm1 (by omega) (by rw [← HP.out]; exact hp1)
      subst hp1
      go_wp2
      go_ret
      exact ⟨⟨m, rfl, by rw [HM.out]; exact HK.out⟩, rfl⟩
    · have e1 : ((p : Int) != 1) = true := by simp; omega
      have hmk' : m < k := by
        apply Nat.lt_of_le_of_ne hmk
        rintro rfl
        exact hp1 (by rw [HP.out]; exact HK.out.one)
      obtain ⟨b1, b2⟩ := mul_small (x := p) (y := a) (by omega) (by omega)
      have l1 := Nat.mod_lt (p * a) (show 0 < q by omega)
      have HP2 : Hid (p * a % q = a ^ (m + 1) % q) := by
        show _ = _
        rw [HP.out, Nat.pow_succ, Nat.mod_mul_mod]
      clear hp1 HP
      go_wp2
      go_roundg (gk - 1)
      case rel => exact ⟨m + 1, p * a % q, by simp, by simp, by omega, by omega, by omega, l1, HP2, rfl⟩
      case measure => omega

set_option maxHeartbeats 400000 in
theorem refgen_any (q : Nat) (w : World) (hq : Pr q) (hq2 : q ≤ 131072) :
    Calls Try.prog 27 #[.int .i64 q] w fun e w' => (∃ g : Nat, e = .returned (.int .i64 g) ∧ IsGen q g) ∧ w = w' := by
  have hq1 := hq.1
  obtain ⟨u, hu1, hu2, hu⟩ := exists_gen hq (facs_spec (n := q - 1) (by omega) (by omega))
  have HU := Lib.hid hu
  have HO := Lib.hid fun (a : Nat) W h1 h2 => reforder_any q a W hq hq2 h1 h2
  clear hq hu
  go_enter Try.func27, Try.ntmps27
  go_wp2
  go_loopg [3] u (fun n g wr => ∃ x : Nat, g = .int .i64 x ∧ 1 ≤ x ∧ x + n = u + 1 ∧ x ≤ u ∧ Hid (∀ h, 1 ≤ h → h < x → ¬ IsOrd q h (q - 1)) ∧ w = wr)
  case atStart => exact ⟨1, rfl, by omega, by omega, hu1, fun h h1 h2 => by omega, rfl⟩
  case round =>
    obtain ⟨x, rfl, hx1, hxn, hxu, HX, rfl⟩ := hrel
    have O1 := Lib.hid fun W => HO.out x W hx1 (by omega)
    go_wp2_with fail
    refine (O1.out _).mono ?_
    rintro e w1 ⟨⟨k, rfl, hk⟩, rfl⟩
    have HKK := Lib.hid hk
    clear hk
    by_cases hkq : k = q - 1
    · have e1 : ((k : Int) != (q : Int) - 1) = false := by simp; omega
      have HG : Hid (IsGen q x) := ⟨hx1, by omega, by rw [← hkq]; exact HKK.out, HX.out⟩
      clear hkq
      go_wp2
      go_ret
      exact ⟨⟨x, rfl, HG.out⟩, rfl⟩
    · have e1 : ((k : Int) != (q : Int) - 1) = true := by simp; omega
      have hxu' : x < u := by
        apply Nat.lt_of_le_of_ne hxu
        rintro rfl
        exact hkq (HKK.out.uniq HU.out)
      have HX2 : Hid (∀ h, 1 ≤ h → h < x + 1 → ¬ IsOrd q h (q - 1)) := by
        intro h h1 h2
        by_cases he : h = x
        · subst he; exact fun ho => hkq (HKK.out.uniq ho)
        · exact HX.out h h1 (by omega)
      clear hkq
      go_wp2
      go_roundg (gk - 1)
      case rel => exact ⟨x + 1, by simp, by omega, by omega, by omega, HX2, rfl⟩
      case measure => omega

end Go.Proofs.Ytikfeinhdfjjhaa
