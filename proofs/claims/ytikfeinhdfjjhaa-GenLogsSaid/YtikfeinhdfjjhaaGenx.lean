/- Contract of gen.Gen. -/
import Derived.Test.YtikfeinhdfjjhaaGen
namespace Go.Proofs.Ytikfeinhdfjjhaa
open Go.RowKit
set_option linter.unusedVariables false

set_option maxHeartbeats 400000 in
theorem gen_no (q : Int) (w : World) (h : isB q = false) : Calls Try.prog 22 #[.int .i64 q] w fun e w' => e = .returned (.tuple #[.int .i64 0, .int .i64 2]) ∧ New w w' := by
  have HT := Lib.hid fun W => gthere_any q W
  rw [h] at HT
  clear h
  go_enter Try.func22, Try.ntmps22
  go_wp2; go_step3
  go_wp2_with fail
  refine (HT.out _).mono ?_
  rintro e w1 ⟨rfl, hn⟩
  go_wp2
  try rw [Exit.noGoto_ret]
  go_ret2
  exact ⟨rfl, hn⟩

theorem cast_pred {q : Nat} (h : 1 ≤ q) : ((q - 1 : Nat) : Int) = (q : Int) - 1 := by omega

theorem quo_bounds (a b : Nat) (h : a ≤ 131072) : (0 : Int) ≤ ((a : Int)) / (b : Int) ∧ (a : Int) / (b : Int) ≤ 131072 := by
  have := Nat.div_le_self a b
  rw [← Int.natCast_ediv]
  generalize a / b = x at this
  omega

/-- a call of power, in the spelling of gen.Gen and gen.Order -/
theorem power_at (a n q : Nat) (b : Int) (hb : b = (a : Int)) (m : Int) (hm : m = (n : Int)) (w : World) (hq : 2 ≤ q) (hq2 : q ≤ 131072) (ha : a < q) (hn : n ≤ 16777216) :
    Calls Try.prog 37 #[.int .i64 b, .int .i64 m, .int .i64 q] w fun e w' => e = .returned (.int .i64 (a ^ n % q : Nat)) ∧ w = w' := by
  rw [hb, hm]; exact power_any a n q w hq hq2 ha hn

set_option maxHeartbeats 1000000 in
theorem gen_yes (q : Nat) (w : World) (hq : Pr q) (hq2 : q ≤ 131072) :
    Calls Try.prog 22 #[.int .i64 q] w fun e w' => (∃ g : Nat, e = .returned (.tuple #[.int .i64 g, .int .i64 0]) ∧ IsGen q g) ∧ New w w' := by
  have hq1 := hq.1
  have HT : Hid (∀ W, Calls Try.prog 36 #[.int .i64 q] W fun e w' => e = .returned (.bool true) ∧ New W w') := fun W => by
    have := gthere_any q W
    rwa [isB_of hq hq2] at this
  have e1 : ((q : Int) - 1) = ((q - 1 : Nat) : Int) := by omega
  have HF : Hid (∀ W, Calls Try.prog 10 #[.int .i64 ((q : Int) - 1)] W fun e w' => ∃ v, e = .returned (.tuple #[v, .int .i64 0]) ∧ w'.ownsRow W.heap.size 31 2 v (facs (q - 1)).length (pows (facs (q - 1))) ∧ New W w') := fun W => by
    rw [e1]; exact factors_yes (q - 1) W (by omega) (by omega)
  have HA := Lib.hid (facs_spec (n := q - 1) (by omega) (by omega))
  have HE := Lib.hid (exists_gen hq (facs_spec (n := q - 1) (by omega) (by omega)))
  have HPR := Lib.hid hq
  clear e1 hq
  generalize facs (q - 1) = l at *
  go_enter Try.func22, Try.ntmps22
  go_wp2; go_step3
  go_wp2_with fail
  refine (HT.out _).mono ?_
  rintro e w0 ⟨rfl, hn0⟩
  go_wp2_with fail
  refine (HF.out _).mono ?_
  rintro e w1 ⟨v, rfl, hown, hn1⟩
  have hlen := own_len hown
  obtain ⟨ad, cap, rfl, hcap, hrow⟩ := own_slice hown
  clear hown HT HF
  have hnew := hn0.trans hn1
  clear hn0 hn1
  go_wp2; go_step3; go_wp2
  go_loopg [6] (q - 1) (fun n g wr => ∃ x : Nat, g = .int .i64 x ∧ x + n = q - 1 ∧ Hid (∀ h, 1 ≤ h → h ≤ x → ¬ IsOrd q h (q - 1)) ∧ New w1 wr)
  case atStart => exact ⟨0, rfl, by omega, fun h h1 h2 => by omega, New.refl _⟩
  case round =>
    obtain ⟨x, rfl, hxn, HX, hnr⟩ := hrel
    by_cases hx : x < q - 1
    · have hx' : (x : Int) < (q : Int) - 1 := by omega
      obtain ⟨go, rfl⟩ : ∃ go : Nat, go = gk := ⟨_, rfl⟩
      obtain ⟨wo, rfl⟩ : ∃ wo : World, wo = wr := ⟨_, rfl⟩
      have HXN := Lib.hid hxn
      clear hxn
      go_wp2_with fail
      go_loopg [26] l.length (fun n i wi => ∃ k : Nat, i = .int .i64 k ∧ k ≤ l.length ∧ l.length ≤ n + k ∧ Hid (∀ (i : Nat) y, i < k → l[i]? = some y → (x + 1) ^ ((q - 1) / y.1) % q ≠ 1) ∧ New w1 wi)
      case atStart => exact ⟨0, rfl, by omega, by omega, fun i y h => by omega, hnr⟩
      case round =>
        obtain ⟨k, rfl, hk, hkn, HK, hni⟩ := hrel
        by_cases hkl : k < l.length
        · obtain ⟨y, hy⟩ : ∃ y, l[k]? = some y := ⟨_, List.getElem?_eq_getElem hkl⟩
          obtain ⟨a1, a2, a3, a4, a5, a6, a7, a8⟩ := HA.out.at_ hy
          obtain ⟨p1, p2⟩ := pows_at l k y hy
          obtain ⟨g, rfl, hg1, hg2, hcell⟩ := hrow (by omega)
          have c1 : wr.cell? ⟨g, k * 2, none⟩ = some (.int .i64 y.1) := ((hni.cell hg2).trans (hcell (k * 2) (by omega))).trans p1
          have c2 : wr.cell? ⟨g, k * 2 + 1, none⟩ = some (.int .i64 y.2) := ((hni.cell hg2).trans (hcell (k * 2 + 1) (by omega))).trans p2
          have hkl' : (k : Int) < (l.length : Int) := by omega
          have HY := Lib.hid hy
          obtain ⟨b1, b2⟩ := quo_bounds (q - 1) y.1 (by omega)
          have eq1 : ((q - 1 : Nat) : Int) = (q : Int) - 1 := cast_pred (Nat.le_of_lt hq1)
          rw [eq1] at b1 b2
          have em : ((q : Int) - 1) / (y.1 : Int) = (((q - 1) / y.1 : Nat) : Int) := by rw [Int.natCast_ediv, eq1]
          have ex : ((x : Int) + 1) = ((x + 1 : Nat) : Int) := by simp
          have hxq : x + 1 < q := by omega
          have hdn : (q - 1) / y.1 ≤ 16777216 := Nat.le_trans (Nat.div_le_self _ _) (by omega)
          have HP := Lib.hid fun W => power_at (x + 1) ((q - 1) / y.1) q ((x : Int) + 1) ex (((q : Int) - 1) / (y.1 : Int)) em W hq1 hq2 hxq hdn
          clear eq1 em ex hxq hdn
          have hdvd : Hid (y.1 ∣ q - 1) := by
            rw [← HA.out.prod]
            exact dvd_prodF_of_mem l y (List.mem_of_getElem? hy) a3
          clear hcell hrow hy a1 a4 a5 a6 a7 a8 p1 p2
          by_cases hv : (x + 1) ^ ((q - 1) / y.1) % q = 1
          · have HN : Hid (∀ h, 1 ≤ h → h ≤ x + 1 → ¬ IsOrd q h (q - 1)) := by
              intro h h1 h2
              by_cases he : h = x + 1
              · subst he; exact ord_not hdvd.out a2 hq1 hv
              · exact HX.out h h1 (by omega)
            rw [hv] at HP
            clear hv
            go_wp2_with fail
            refine (HP.out _).mono ?_
            rintro e w2 ⟨rfl, rfl⟩
            go_wp2
            go_roundg (go - 1)
            case rel => exact ⟨x + 1, by simp, by have := HXN.out; omega, HN, hni.alloc _⟩
            case measure => have := HXN.out; omega
          · have HN : Hid (∀ (i : Nat) z, i < k + 1 → l[i]? = some z → (x + 1) ^ ((q - 1) / z.1) % q ≠ 1) := by
              intro i z hi hz
              by_cases he : i = k
              · subst he
                have : z = y := Option.some.inj (hz.symm.trans HY.out)
                subst this; exact hv
              · exact HK.out i z (by omega) hz
            generalize (x + 1) ^ ((q - 1) / y.1) % q = u at *
            have e2 : ((u : Int) == 1) = false := by simp; omega
            clear hv
            go_wp2_with fail
            refine (HP.out _).mono ?_
            rintro e w2 ⟨rfl, rfl⟩
            go_wp2
            go_roundg (gk - 1)
            case rel => exact ⟨k + 1, by simp, by omega, by omega, HN, hni.alloc _⟩
            case measure => omega
        · have hke : k = l.length := by omega
          have HG : Hid (IsGen q (x + 1)) := by
            refine ⟨by omega, by omega, ord_iff HPR.out (by omega) (by omega) HA.out fun y hy => ?_, fun h h1 h2 => HX.out h h1 (by omega)⟩
            obtain ⟨i, hi, e⟩ := List.getElem_of_mem hy
            exact HK.out i y (by omega) (by rw [List.getElem?_eq_getElem hi, e])
          clear hke
          go_wp2
          try rw [Exit.noGoto_ret]
          go_ret2
          exact ⟨⟨x + 1, rfl, HG.out⟩, hnew.trans hni⟩
    · exfalso
      obtain ⟨u, h1, h2, h3⟩ := HE.out
      exact HX.out u h1 (by omega) h3
end Go.Proofs.Ytikfeinhdfjjhaa
