/- FactTells, the walk: for all n the law answers true. -/
import Derived.Test.YtikfeinhdfjjhaaLive
import Derived.Test.YtikfeinhdfjjhaaPris
import Derived.OpenShut
namespace Go.Proofs.Ytikfeinhdfjjhaa
open Go.RowKit
set_option linter.unusedVariables false

set_option maxHeartbeats 400000 in
theorem tells_no (n : Int) (w : World) (h : ¬ (1 ≤ n ∧ n ≤ 16777216)) :
    Calls Try.prog 3 #[.int .i64 n] w fun e w' => e = .returned (.bool true) ∧ New w w' := by
  have HF := Lib.hid fun W => factors_no n W h
  have HP := Lib.hid fun W => prime_any n W
  have HR := Lib.hid fun W => refprime_any n W
  have HI : Hid (∀ W, Calls Try.prog 13 #[.int .i64 n] W fun e w' => e = .returned (.bool false) ∧ W = w') := fun W => by
    have := is_any n W
    rwa [decide_eq_false h] at this
  generalize prB n = b at *
  clear h
  go_enter Try.func3, Try.ntmps3
  go_wp2_with fail
  refine (HF.out _).mono ?_
  rintro e w1 ⟨rfl, rfl⟩
  go_wp2_with fail
  refine (HP.out _).mono ?_
  rintro e w1 ⟨rfl, hn1⟩
  go_wp2_with fail
  refine (HR.out _).mono ?_
  rintro e w2 ⟨rfl, rfl⟩
  go_wp2_with fail
  refine (HI.out _).mono ?_
  rintro e w2 ⟨rfl, rfl⟩
  go_wp2_with fail
  refine (live_any _).mono ?_
  rintro e w3 ⟨rfl, hn⟩
  go_wp2
  go_ret
  exact ⟨rfl, hn1.trans hn⟩

set_option maxHeartbeats 1000000 in
theorem tells_yes (n : Nat) (w : World) (h1 : 1 ≤ n) (h2 : n ≤ 16777216) :
    Calls Try.prog 3 #[.int .i64 n] w fun e w' => e = .returned (.bool true) ∧ New w w' := by
  have HF := Lib.hid fun W => factors_yes n W h1 h2
  have HP := Lib.hid fun W => prime_any n W
  have HR := Lib.hid fun W => refprime_any n W
  have HS := Lib.hid fun W => primes_any n W h1 h2
  have HI : Hid (∀ W, Calls Try.prog 13 #[.int .i64 n] W fun e w' => e = .returned (.bool true) ∧ W = w') := fun W => by
    have := is_any n W
    rwa [decide_eq_true (by omega)] at this
  have HT := Lib.hid fun d W => times_any d n W
  have HA := Lib.hid (facs_spec h1 h2)
  generalize prB n = b at *
  generalize facs n = l at *
  go_enter Try.func3, Try.ntmps3
  go_wp2_with fail
  refine (HF.out _).mono ?_
  rintro e w1 ⟨v, rfl, hown, hn1⟩
  go_wp2_with fail
  refine (HP.out _).mono ?_
  rintro e w2 ⟨rfl, hn2⟩
  go_wp2_with fail
  refine (HR.out _).mono ?_
  rintro e w3 ⟨rfl, rfl⟩
  go_wp2_with fail
  refine (HI.out _).mono ?_
  rintro e w3 ⟨rfl, rfl⟩
  go_wp2_with fail
  refine (HS.out _).mono ?_
  rintro e w3 ⟨u, rfl, hown2, hn3⟩
  have hown' := own_new (own_new hown hn2) hn3
  have hnew := (hn1.trans hn2).trans hn3
  obtain ⟨ad, cap, rfl, hcap, hrow⟩ := own_slice hown'
  obtain ⟨ad2, cap2, rfl, hcap2, hrow2⟩ := own_slice hown2
  have hlen := own_len hown2
  clear hown hown2 hown' hn1 hn2 hn3 HF HP HR HI HS
  go_wp2_with fail
  go_loopg [6, 7] l.length (fun g m i wr => ∃ k : Nat, i = .int .i64 k ∧ k ≤ l.length ∧ l.length ≤ g + k ∧ m = .int .i64 (prodF (l.take k)) ∧ New w3 wr)
  case atStart => exact ⟨0, rfl, by omega, by omega, rfl, New.refl _⟩
  case round =>
    obtain ⟨k, rfl, hk, hgk, rfl, hnr⟩ := hrel
    by_cases hkl : k < l.length
    · obtain ⟨x, hx⟩ : ∃ x, l[k]? = some x := ⟨_, List.getElem?_eq_getElem hkl⟩
      obtain ⟨a1, a2, a3, a4, a5, a6, a7, a8⟩ := HA.out.at_ hx
      obtain ⟨p1, p2⟩ := pows_at l k x hx
      obtain ⟨g, rfl, hg1, hg2, hcell⟩ := hrow (by omega)
      obtain ⟨g', rfl, hg1', hg2', hcell'⟩ := hrow2 (by omega)
      have c1 : wr.cell? ⟨g, k * 2, none⟩ = some (.int .i64 x.1) := ((hnr.cell hg2).trans (hcell (k * 2) (by omega))).trans p1
      have c2 : wr.cell? ⟨g, k * 2 + 1, none⟩ = some (.int .i64 x.2) := ((hnr.cell hg2).trans (hcell (k * 2 + 1) (by omega))).trans p2
      have c3 : wr.cell? ⟨g', k, none⟩ = some (.int .i64 x.1) := ((hnr.cell hg2').trans (hcell' k (by omega))).trans (by simp [nums, hx])
      have HX := Lib.hid hx
      have HT1 : Hid (∀ W, Calls Try.prog 16 #[.int .i64 x.1, .int .i64 n] W fun e w' => e = .returned (.int .i64 x.2) ∧ W = w') := fun W => by
        have := HT.out x.1 W a2 h1 (by omega) h2
        rwa [a1] at this
      have HA5 := Lib.hid a5
      have HA4 := Lib.hid a4
      have hkl' : (k : Int) < (l.length : Int) := by omega
      clear hcell hcell' hrow hrow2 hx a1 a4 a5 p1 p2 HT
      go_wp2
      go_quiet ((go_at_call 16; exact Calls.quiet_of_same ((HT1.out _).mono fun _ _ h => ⟨h.1, h.2.symm⟩)))
      go_wp2
      obtain ⟨go, rfl⟩ : ∃ go : Nat, go = gk := ⟨_, rfl⟩
      obtain ⟨wo, rfl⟩ : ∃ wo : World, wo = wr := ⟨_, rfl⟩
      go_loopg [6, 8] x.2 (fun g m j wi => ∃ t M : Nat, j = .int .i64 t ∧ t ≤ x.2 ∧ x.2 ≤ g + t ∧ m = .int .i64 M ∧ Hid (M = prodF (l.take k) * x.1 ^ t) ∧ wo.drewN nq = wi)
      case atStart => exact ⟨0, _, rfl, by omega, by omega, rfl, by simp [Hid], rfl⟩
      case round =>
        obtain ⟨t, M, rfl, ht, hgt, rfl, HM, rfl⟩ := hrel
        by_cases htx : t < x.2
        · have hb : M * x.1 ≤ n := by
            rw [HM.out, Nat.mul_assoc, ← Nat.pow_succ]
            exact Nat.le_trans (Nat.mul_le_mul_left _ (Nat.pow_le_pow_right (by omega) htx)) HA4.out
          have hb1 : (M : Int) * (x.1 : Int) ≤ 16777216 := by rw [← Int.natCast_mul]; omega
          have hb2 : (0 : Int) ≤ (M : Int) * (x.1 : Int) := by rw [← Int.natCast_mul]; omega
          have HM2 : Hid (M * x.1 = prodF (l.take k) * x.1 ^ (t + 1)) := by
            rw [HM.out, Nat.mul_assoc, ← Nat.pow_succ]; rfl
          clear hb HM
          go_wp2
          go_roundg (gk - 1)
          case rel => exact ⟨t + 1, M * x.1, by simp, by omega, by omega, by simp, HM2, rfl⟩
          case measure => omega
        · have hte : t = x.2 := by omega
          have HM2 : Hid (M = prodF (l.take (k + 1))) := by rw [HM.out, hte, ← HA5.out]; rfl
          clear HM hte
          go_wp2
          go_roundg (go - 1)
          case rel => exact ⟨k + 1, by simp, by omega, by omega, by rw [HM2.out], hnr.draws nq⟩
          case measure => omega
    · have hke : k = l.length := by omega
      have HE : Hid (prodF (l.take k) = n) := by rw [hke, List.take_length]; exact HA.out.prod
      clear hke
      rw [HE.out]
      go_wp2_with fail
      refine (live_any _).mono ?_
      rintro e w4 ⟨rfl, hn⟩
      go_wp2
      go_ret
      exact ⟨rfl, (hnew.trans hnr).trans hn⟩

theorem tells_walk (a : Int) (wa : (Lit.int .i64 a).wf = true) (w : World) :
    Calls Try.prog 3 #[.int .i64 a] w fun e w' => e = .returned (.bool true) ∧ New w w' := by
  by_cases h : 1 ≤ a ∧ a ≤ 16777216
  · obtain ⟨n, rfl⟩ := Int.eq_ofNat_of_zero_le (show 0 ≤ a by omega)
    exact tells_yes n w (by omega) (by omega)
  · exact tells_no a w h
end Go.Proofs.Ytikfeinhdfjjhaa
