/- Contract of gen.Order. -/
import Derived.Test.YtikfeinhdfjjhaaGenx
namespace Go.Proofs.Ytikfeinhdfjjhaa
open Go.RowKit
set_option linter.unusedVariables false

set_option maxHeartbeats 400000 in
theorem gorder_no (q a : Int) (w : World) (h : isB q = false) : Calls Try.prog 30 #[.int .i64 q, .int .i64 a] w fun e w' => e = .returned (.tuple #[.int .i64 0, .int .i64 2]) ∧ New w w' := by
  have HT := Lib.hid fun W => gthere_any q W
  rw [h] at HT
  clear h
  go_enter Try.func30, Try.ntmps30
  go_wp2_with fail
  refine (HT.out _).mono ?_
  rintro e w1 ⟨rfl, hn⟩
  go_wp2
  go_ret2
  exact ⟨rfl, hn⟩

set_option maxHeartbeats 400000 in
theorem gorder_out (q : Nat) (a : Int) (w : World) (hq : Pr q) (hq2 : q ≤ 131072) (h : a < 1 ∨ (q : Int) ≤ a) : Calls Try.prog 30 #[.int .i64 q, .int .i64 a] w fun e w' => e = .returned (.tuple #[.int .i64 0, .int .i64 3]) ∧ New w w' := by
  have HT : Hid (∀ W, Calls Try.prog 36 #[.int .i64 q] W fun e w' => e = .returned (.bool true) ∧ New W w') := fun W => by
    have := gthere_any q W
    rwa [isB_of hq hq2] at this
  clear hq
  by_cases h1 : a < 1
  · clear h
    go_enter Try.func30, Try.ntmps30
    go_wp2_with fail
    refine (HT.out _).mono ?_
    rintro e w1 ⟨rfl, hn⟩
    go_wp2
    go_ret2
    exact ⟨rfl, hn⟩
  · have h2 : (q : Int) ≤ a := by omega
    clear h
    go_enter Try.func30, Try.ntmps30
    go_wp2_with fail
    refine (HT.out _).mono ?_
    rintro e w1 ⟨rfl, hn⟩
    go_wp2
    go_ret2
    exact ⟨rfl, hn⟩

set_option maxHeartbeats 1000000 in
theorem gorder_yes (q a : Nat) (w : World) (hq : Pr q) (hq2 : q ≤ 131072) (ha1 : 1 ≤ a) (ha2 : a < q) :
    Calls Try.prog 30 #[.int .i64 q, .int .i64 a] w fun e w' => (∃ k : Nat, e = .returned (.tuple #[.int .i64 k, .int .i64 0]) ∧ IsOrd q a k) ∧ New w w' := by
  have hq1 := hq.1
  have HT : Hid (∀ W, Calls Try.prog 36 #[.int .i64 q] W fun e w' => e = .returned (.bool true) ∧ New W w') := fun W => by
    have := gthere_any q W
    rwa [isB_of hq hq2] at this
  have e1 : ((q : Int) - 1) = ((q - 1 : Nat) : Int) := by omega
  have HF : Hid (∀ W, Calls Try.prog 10 #[.int .i64 ((q : Int) - 1)] W fun e w' => ∃ v, e = .returned (.tuple #[v, .int .i64 0]) ∧ w'.ownsRow W.heap.size 31 2 v (facs (q - 1)).length (pows (facs (q - 1))) ∧ New W w') := fun W => by
    rw [e1]; exact factors_yes (q - 1) W (by omega) (by omega)
  have HA := Lib.hid (facs_spec (n := q - 1) (by omega) (by omega))
  have HFE := Lib.hid (fermat hq (not_dvd_small ha1 ha2))
  have HPR := Lib.hid hq
  have HP := Lib.hid fun (n : Nat) (m : Int) (hm : m = (n : Int)) W hn => power_at a n q (a : Int) rfl m hm W hq1 hq2 ha2 hn
  have HE1 := Lib.hid e1
  clear e1 hq
  generalize facs (q - 1) = l at *
  go_enter Try.func30, Try.ntmps30
  go_wp2_with fail
  refine (HT.out _).mono ?_
  rintro e w0 ⟨rfl, hn0⟩
  go_wp2_with fail
  refine (HF.out _).mono ?_
  rintro e w1 ⟨v, rfl, hown, hn1⟩
  have hlen := own_len hown
  obtain ⟨ad, cap, rfl, hcap, hrow⟩ := own_slice hown
  clear hown HT HF
  have hnew := hn0.trans hn1
  clear hn0 hn1
  go_wp2_with fail
  go_loopg [6, 32] l.length (fun n s i wr => ∃ k x : Nat, i = .int .i64 k ∧ s = .int .i64 x ∧ k ≤ l.length ∧ l.length ≤ n + k ∧ 1 ≤ x ∧ x ≤ 131072 ∧ Hid (x ∣ q - 1 ∧ a ^ x % q = 1 ∧ ∀ (i : Nat) y, i < k → l[i]? = some y → x % y.1 = 0 → a ^ (x / y.1) % q ≠ 1) ∧ New w1 wr)
  case atStart => exact ⟨0, q - 1, rfl, by rw [HE1.out], by omega, by omega, by omega, by omega, ⟨Nat.dvd_refl _, HFE.out, fun i y h => by omega⟩, New.refl _⟩
  case round =>
    obtain ⟨k, x, rfl, rfl, hk, hkn, hx1, hx, HK, hnr⟩ := hrel
    by_cases hkl : k < l.length
    · obtain ⟨y, hy⟩ : ∃ y, l[k]? = some y := ⟨_, List.getElem?_eq_getElem hkl⟩
      obtain ⟨a1, a2, a3, a4, a5, a6, a7, a8⟩ := HA.out.at_ hy
      obtain ⟨p1, p2⟩ := pows_at l k y hy
      obtain ⟨g, rfl, hg1, hg2, hcell⟩ := hrow (by omega)
      have c1 : wr.cell? ⟨g, k * 2, none⟩ = some (.int .i64 y.1) := ((hnr.cell hg2).trans (hcell (k * 2) (by omega))).trans p1
      have c2 : wr.cell? ⟨g, k * 2 + 1, none⟩ = some (.int .i64 y.2) := ((hnr.cell hg2).trans (hcell (k * 2 + 1) (by omega))).trans p2
      have hkl' : (k : Int) < (l.length : Int) := by omega
      have HY := Lib.hid hy
      have HYP : Hid (∀ (i : Nat) z, l[i]? = some z → 2 ≤ z.1) := fun i z hz => (HA.out.prime z (List.mem_of_getElem? hz)).1
      clear hcell hrow hy a1 a4 a5 a6 a7 a8 p1 p2
      obtain ⟨go, rfl⟩ : ∃ go : Nat, go = gk := ⟨_, rfl⟩
      obtain ⟨wo, rfl⟩ : ∃ wo : World, wo = wr := ⟨_, rfl⟩
      go_wp2_with fail
      go_loopg [6] x (fun n s wi => ∃ z : Nat, s = .int .i64 z ∧ z ≤ n ∧ 1 ≤ z ∧ z ≤ 131072 ∧ Hid (z ∣ q - 1 ∧ a ^ z % q = 1 ∧ ∀ (i : Nat) y, i < k → l[i]? = some y → z % y.1 = 0 → a ^ (z / y.1) % q ≠ 1) ∧ Box wi wo.heap.size 31 #[.int .i64 y.1, .int .i64 y.2] ∧ New wo wi)
      case atStart => exact ⟨x, rfl, Nat.le_refl _, hx1, hx, HK.out, Box.made _ _ _, (New.refl _).alloc _⟩
      case round =>
        obtain ⟨z, rfl, hzn, hz1, hz9, HZ, hbox, hni⟩ := hrel
        have d1 : wr.cell? ⟨wo.heap.size, 0, none⟩ = some (.int .i64 y.1) := hbox.cell 0
        by_cases hm : z % y.1 = 0
        · have q1 : ((z : Int) % (y.1 : Int) == 0) = true := by simp; omega
          obtain ⟨b1, b2⟩ := quo_bounds z y.1 hz9
          have em : (z : Int) / (y.1 : Int) = ((z / y.1 : Nat) : Int) := by rw [Int.natCast_ediv]
          have P1 := Lib.hid fun W => HP.out (z / y.1) ((z : Int) / (y.1 : Int)) em W (Nat.le_trans (Nat.div_le_self _ _) (by omega))
          clear em
          have hd1 : 1 ≤ z / y.1 := div_pos_of_mod a2 hz1 hm
          have hd2 : z / y.1 < z := Nat.div_lt_self (by omega) (by omega)
          by_cases hv : a ^ (z / y.1) % q = 1
          · have HN : Hid (z / y.1 ∣ q - 1 ∧ a ^ (z / y.1) % q = 1 ∧ ∀ (i : Nat) y', i < k → l[i]? = some y' → (z / y.1) % y'.1 = 0 → a ^ (z / y.1 / y'.1) % q ≠ 1) := by
              obtain ⟨k1, k2, k3⟩ := HZ.out
              refine ⟨Nat.dvd_trans (Nat.div_dvd_of_dvd (Nat.dvd_of_mod_eq_zero hm)) k1, hv, fun i y' hi hy' => take_keeps hq1 (by omega) (by have := HYP.out i y' hy'; omega) hm (k3 i y' hi hy')⟩
            rw [hv] at P1
            clear hv hm
            go_wp2_with fail
            refine (P1.out _).mono ?_
            rintro e w2 ⟨rfl, rfl⟩
            go_wp2
            go_roundg (z / y.1)
            case rel => exact ⟨z / y.1, by simp, Nat.le_refl _, hd1, by omega, HN, hbox, hni⟩
            case measure => omega
          · have HN : Hid (z ∣ q - 1 ∧ a ^ z % q = 1 ∧ ∀ (i : Nat) y', i < k + 1 → l[i]? = some y' → z % y'.1 = 0 → a ^ (z / y'.1) % q ≠ 1) := by
              obtain ⟨k1, k2, k3⟩ := HZ.out
              refine ⟨k1, k2, fun i y' hi hy' => ?_⟩
              by_cases hij : i = k
              · subst hij
                have : y' = y := Option.some.inj (hy'.symm.trans HY.out)
                subst this
                exact fun _ => hv
              · exact k3 i y' (by omega) hy'
            generalize a ^ (z / y.1) % q = u at *
            have e2 : ((u : Int) == 1) = false := by simp; omega
            clear hv hm
            go_wp2_with fail
            refine (P1.out _).mono ?_
            rintro e w2 ⟨rfl, rfl⟩
            go_wp2
            go_roundg (go - 1)
            case rel => exact ⟨k + 1, z, by simp, rfl, by omega, by omega, hz1, hz9, HN, hnr.trans hni⟩
            case measure => omega
        · have q1 : ((z : Int) % (y.1 : Int) == 0) = false := by simp; omega
          have HN : Hid (z ∣ q - 1 ∧ a ^ z % q = 1 ∧ ∀ (i : Nat) y', i < k + 1 → l[i]? = some y' → z % y'.1 = 0 → a ^ (z / y'.1) % q ≠ 1) := by
            obtain ⟨k1, k2, k3⟩ := HZ.out
            refine ⟨k1, k2, fun i y' hi hy' => ?_⟩
            by_cases hij : i = k
            · subst hij
              have : y' = y := Option.some.inj (hy'.symm.trans HY.out)
              subst this
              exact fun h => absurd h hm
            · exact k3 i y' (by omega) hy'
          clear hm
          go_wp2
          go_roundg (go - 1)
          case rel => exact ⟨k + 1, z, by simp, rfl, by omega, by omega, hz1, hz9, HN, hnr.trans hni⟩
          case measure => omega
    · have hke : k = l.length := by omega
      have HR : Hid (IsOrd q a x) := by
        obtain ⟨k1, k2, k3⟩ := HK.out
        refine ord_of_primes hq1 hx1 k2 fun p hp hd => ?_
        have hd2 : p ∣ prodF l := by rw [HA.out.prod]; exact Nat.dvd_trans hd k1
        obtain ⟨y, hy, e⟩ := hp.dvd_prodF l HA.out.prime hd2
        obtain ⟨i, hi, e'⟩ := List.getElem_of_mem hy
        rw [← e] at hd ⊢
        exact k3 i y (by omega) (by rw [List.getElem?_eq_getElem hi, e']) (Nat.mod_eq_zero_of_dvd hd)
      clear hke
      go_wp2
      go_ret2
      exact ⟨⟨x, rfl, HR.out⟩, hnew.trans hnr⟩
end Go.Proofs.Ytikfeinhdfjjhaa
