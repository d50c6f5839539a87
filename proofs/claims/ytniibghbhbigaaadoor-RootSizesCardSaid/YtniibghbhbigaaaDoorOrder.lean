/- Contract: root.Order. RootOrders, the walk. -/
import Derived.Test.YtniibghbhbigaaaDoorLst
import Derived.Test.YtniibghbhbigaaaDoorRred
import Derived.Test.YtniibghbhbigaaaDoorOrd
import Derived.OpenShut
namespace Go.Proofs.YtniibghbhbigaaaDoor
open Go.RowKit
set_option linter.unusedVariables false

/-- the package's table of primes holds them -/
def Table (w : World) : Prop :=
  w.cell? ⟨0, 0, none⟩ = some (.int .u64 2) ∧ w.cell? ⟨0, 1, none⟩ = some (.int .u64 3) ∧ w.cell? ⟨0, 2, none⟩ = some (.int .u64 5) ∧
  w.cell? ⟨0, 3, none⟩ = some (.int .u64 17) ∧ w.cell? ⟨0, 4, none⟩ = some (.int .u64 257) ∧ w.cell? ⟨0, 5, none⟩ = some (.int .u64 65537)

set_option maxHeartbeats 400000 in
theorem order_no (a : Nat) (w : World) (ha : a < 18446744073709551616) (h : redP a = 0) :
    Calls Tryd.prog 5 #[.int .u64 a] w fun e w' => e = .returned (.tuple #[.int .u64 0, .int .i64 2]) ∧ w = w' := by
  have RD := Lib.hid fun W => red_any a W ha
  rw [h] at RD
  clear h ha
  go_enter Tryd.func5, Tryd.ntmps5
  go_wp2_with fail
  refine (RD.out _).mono ?_
  rintro e w1 ⟨rfl, rfl⟩
  go_wp2
  go_ret2
  exact ⟨rfl, rfl⟩

set_option maxRecDepth 100000 in
set_option maxHeartbeats 1000000 in
theorem order_yes (a : Nat) (w : World) (ha : a < 18446744073709551616) (h : redP a ≠ 0) (hT : Table w) :
    Calls Tryd.prog 5 #[.int .u64 a] w fun e w' => (∃ k : Nat, e = .returned (.tuple #[.int .u64 k, .int .i64 0]) ∧ 1 ≤ k ∧ k < 18446744073709551616 ∧ PM % k = 0 ∧ powP a k = 1 ∧ ∀ q, q ∈ qs → k % q = 0 → powP a (k / q) ≠ 1) ∧ w = w' := by
  have RD := Lib.hid fun W => red_any a W ha
  have PW := Lib.hid fun (n : Nat) W (hn : n < 18446744073709551616) => pow_any a n W ha hn
  have HALL := Lib.hid (powP_all h)
  have hr0 : ((redP a : Int) == 0) = false := by simp; omega
  generalize redP a = r at *
  obtain ⟨c0, c1, c2, c3, c4, c5⟩ := hT
  clear h ha
  go_enter Tryd.func5, Tryd.ntmps5
  go_wp2_with fail
  refine (RD.out _).mono ?_
  rintro e w1 ⟨rfl, rfl⟩
  go_wp2_with fail
  go_loopg [4, 11] 6 (fun g k i wr => ∃ j x : Nat, i = .int .i64 j ∧ j + g = 6 ∧ k = .int .u64 x ∧ 1 ≤ x ∧ Hid (x < 18446744073709551616) ∧ Hid (PM % x = 0 ∧ powP a x = 1 ∧ ∀ (i q : Nat), i < j → qs[i]? = some q → x % q = 0 → powP a (x / q) ≠ 1) ∧ w = wr)
  case atStart => exact ⟨0, 18446744069414584320, rfl, rfl, rfl, by omega, by show _ < _; decide, ⟨by decide, HALL.out, fun i q hi => by omega⟩, rfl⟩
  case round =>
    obtain ⟨j, x, rfl, hjg, rfl, hx1, HX, HK, rfl⟩ := hrel
    by_cases hj : j < 6
    · obtain ⟨q, hq0, hq2, hq9, hidx⟩ : ∃ q : Nat, qs[j]? = some q ∧ 2 ≤ q ∧ q ≤ 65537 ∧ ∀ w, (Instr.index 33 (.agg #[.int .u64 2, .int .u64 3, .int .u64 5, .int .u64 17, .int .u64 257, .int .u64 65537]) (.int .i64 j)).run Tryd.prog w = .ok (.int .u64 q) w := by
        match j, hj with
        | 0, _ => exact ⟨2, rfl, by decide, by decide, fun _ => by kernel_rfl⟩
        | 1, _ => exact ⟨3, rfl, by decide, by decide, fun _ => by kernel_rfl⟩
        | 2, _ => exact ⟨5, rfl, by decide, by decide, fun _ => by kernel_rfl⟩
        | 3, _ => exact ⟨17, rfl, by decide, by decide, fun _ => by kernel_rfl⟩
        | 4, _ => exact ⟨257, rfl, by decide, by decide, fun _ => by kernel_rfl⟩
        | 5, _ => exact ⟨65537, rfl, by decide, by decide, fun _ => by kernel_rfl⟩
      have hj' : (j : Int) < 6 := by omega
      have HQ0 := Lib.hid hq0
      have HJG := Lib.hid hjg
      clear hq0 hjg
      obtain ⟨go, rfl⟩ : ∃ go : Nat, go = gk := ⟨_, rfl⟩
      go_wp2_with fail
      clear hidx
      go_loopg [4] x (fun g k wi => ∃ y : Nat, k = .int .u64 y ∧ y ≤ g ∧ 1 ≤ y ∧ Hid (y ≤ x) ∧ Hid (PM % y = 0 ∧ powP a y = 1 ∧ ∀ (i q : Nat), i < j → qs[i]? = some q → y % q = 0 → powP a (y / q) ≠ 1) ∧ w = wi)
      case atStart => exact ⟨x, rfl, Nat.le_refl _, hx1, Nat.le_refl _, HK.out, rfl⟩
      case round =>
        obtain ⟨y, rfl, hyg, hy1, HY, HKY, rfl⟩ := hrel
        have hq1 : ∀ (i q : Nat), qs[i]? = some q → 2 ≤ q := by
          intro i q h
          have : q ∈ qs := List.mem_of_getElem? h
          simp only [qs, List.mem_cons, List.not_mem_nil, or_false] at this
          omega
        have HQ1 := Lib.hid hq1
        clear hq1
        by_cases hm : y % q = 0
        · have e1 : ((y : Int) % (q : Int) == 0) = true := by simp; omega
          have hdl := Nat.div_le_self y q
          have hylt : Hid (y < 18446744073709551616) := by show _ < _; have := HX.out; have := HY.out; omega
          have hqq : (0 : Int) ≤ (y : Int) / (q : Int) ∧ (y : Int) / (q : Int) ≤ 18446744073709551615 := by
            rw [← Int.natCast_ediv]
            have := hylt.out
            generalize y / q = z at *
            omega
          obtain ⟨hqa, hqb⟩ := hqq
          have P1 : Hid (∀ W, Calls Tryd.prog 13 #[.int .u64 a, .int .u64 ((y : Int) / (q : Int))] W fun e w' => e = .returned (.int .u64 (powP a (y / q))) ∧ W = w') := fun W => by
            rw [← Int.natCast_ediv]
            refine PW.out (y / q) W ?_
            have := hylt.out
            generalize y / q = z at *
            omega
          have hd1 : 1 ≤ y / q := by
            rcases Nat.eq_zero_or_pos (y / q) with h0 | h0
            · have := Nat.div_mul_cancel (Nat.dvd_of_mod_eq_zero hm)
              rw [h0] at this; omega
            · exact h0
          have hd2 : y / q < y := Nat.div_lt_self (by omega) (by omega)
          by_cases hp : powP a (y / q) = 1
          · rw [hp] at P1
            have HKZ : Hid (PM % (y / q) = 0 ∧ powP a (y / q) = 1 ∧ ∀ (i q' : Nat), i < j → qs[i]? = some q' → (y / q) % q' = 0 → powP a (y / q / q') ≠ 1) := by
              obtain ⟨k1, k2, k3⟩ := HKY.out
              refine ⟨?_, hp, fun i q' hi hq' => take_keeps hy1 (by omega) (by have := HQ1.out i q' hq'; omega) hm (k3 i q' hi hq')⟩
              apply Nat.mod_eq_zero_of_dvd
              exact Nat.dvd_trans (Nat.div_dvd_of_dvd (Nat.dvd_of_mod_eq_zero hm)) (Nat.dvd_of_mod_eq_zero k1)
            have HYZ : Hid (y / q ≤ x) := by show _ ≤ _; have := HY.out; omega
            clear hp hm hdl
            go_wp2_with fail
            refine (P1.out _).mono ?_
            rintro e w1 ⟨rfl, rfl⟩
            go_wp2
            go_roundg (y / q)
            case rel => exact ⟨y / q, by simp, Nat.le_refl _, hd1, HYZ, HKZ, rfl⟩
            case measure => omega
          · have HN := Lib.hid hp
            have HD := Lib.hid hd1
            have HKZ : Hid (PM % y = 0 ∧ powP a y = 1 ∧ ∀ (i q' : Nat), i < j + 1 → qs[i]? = some q' → y % q' = 0 → powP a (y / q') ≠ 1) := by
              obtain ⟨k1, k2, k3⟩ := HKY.out
              refine ⟨k1, k2, fun i q' hi hq' => ?_⟩
              by_cases hij : i = j
              · subst hij
                have : q' = q := Option.some.inj (hq'.symm.trans HQ0.out)
                subst this
                exact fun _ => hp
              · exact k3 i q' (by omega) hq'
            generalize powP a (y / q) = v at *
            have e2 : ((v : Int) == 1) = false := by simp; omega
            clear hp hm hdl hd1 hd2
            go_wp2_with fail
            refine (P1.out _).mono ?_
            rintro e w1 ⟨rfl, rfl⟩
            go_wp2
            go_roundg (go - 1)
            case rel => exact ⟨j + 1, y, by simp, by have := HJG.out; omega, rfl, hy1, hylt, HKZ, rfl⟩
            case measure => have := HJG.out; omega
        · have e1 : ((y : Int) % (q : Int) == 0) = false := by simp; omega
          have hylt : Hid (y < 18446744073709551616) := by show _ < _; have := HX.out; have := HY.out; omega
          have HKZ : Hid (PM % y = 0 ∧ powP a y = 1 ∧ ∀ (i q' : Nat), i < j + 1 → qs[i]? = some q' → y % q' = 0 → powP a (y / q') ≠ 1) := by
            obtain ⟨k1, k2, k3⟩ := HKY.out
            refine ⟨k1, k2, fun i q' hi hq' => ?_⟩
            by_cases hij : i = j
            · subst hij
              have : q' = q := Option.some.inj (hq'.symm.trans HQ0.out)
              subst this
              exact fun h => absurd h hm
            · exact k3 i q' (by omega) hq'
          clear hm
          go_wp2
          go_roundg (go - 1)
          case rel => exact ⟨j + 1, y, by simp, by have := HJG.out; omega, rfl, hy1, hylt, HKZ, rfl⟩
          case measure => have := HJG.out; omega
    · have hje : j = 6 := by omega
      subst hje
      obtain ⟨k1, k2, k3⟩ := HK.out
      have HR : Hid (PM % x = 0 ∧ powP a x = 1 ∧ ∀ q, q ∈ qs → x % q = 0 → powP a (x / q) ≠ 1) := by
        refine ⟨k1, k2, fun q hq => ?_⟩
        obtain ⟨i, hi, e⟩ := List.getElem_of_mem hq
        exact k3 i q (by simp [qs] at hi; omega) (by rw [List.getElem?_eq_getElem hi, e])
      clear hjg k1 k2 k3 HK
      go_wp2
      go_ret2
      exact ⟨⟨x, rfl, hx1, HX.out, HR.out.1, HR.out.2.1, HR.out.2.2⟩, rfl⟩

set_option maxHeartbeats 400000 in
theorem orders_any (a : Nat) (w : World) (ha : a < 18446744073709551616) (hT : Table w) :
    Calls Tryd.prog 3 #[.int .u64 a] w fun e w' => e = .returned (.bool true) ∧ New w w' := by
  have LV := Lib.hid fun W => live_any W
  have RR := Lib.hid fun W => refred_any a W ha
  by_cases h : redP a = 0
  · have OD := Lib.hid (order_no a w ha h)
    rw [h] at RR
    clear h ha hT
    go_enter Tryd.func3, Tryd.ntmps3
    go_wp2_with fail
    refine OD.out.mono ?_
    rintro e w1 ⟨rfl, rfl⟩
    go_wp2_with fail
    refine (RR.out _).mono ?_
    rintro e w1 ⟨rfl, rfl⟩
    go_wp2_with fail
    refine (LV.out _).mono ?_
    rintro e w1 ⟨rfl, rfl⟩
    go_wp2
    go_ret
    exact ⟨rfl, New.refl _⟩
  · have OD := Lib.hid (order_yes a w ha h hT)
    have LE : Hid (∀ (k : Nat) W, (1 ≤ k ∧ k < 18446744073709551616 ∧ PM % k = 0 ∧ powP a k = 1 ∧ ∀ q, q ∈ qs → k % q = 0 → powP a (k / q) ≠ 1) → Calls Tryd.prog 8 #[.int .u64 (redP a), .int .u64 k] W fun e w' => e = .returned (.bool true) ∧ New W w') := fun k W ⟨h1, h2, h3, h4, h5⟩ =>
      least_yes (redP a) k W (redP_lt a) h1 h2 h3 (by rw [powP_red]; exact h4) (fun q hq hm => by rw [powP_red]; exact h5 q hq hm)
    have hr0 : ((redP a : Int) == 0) = false := by simp; omega
    generalize redP a = r at *
    clear h ha hT
    go_enter Tryd.func3, Tryd.ntmps3
    go_wp2_with fail
    refine OD.out.mono ?_
    rintro e w1 ⟨⟨k, rfl, hk⟩, rfl⟩
    have L1 := Lib.hid fun W => LE.out k W hk
    clear hk LE
    go_wp2_with fail
    refine (RR.out _).mono ?_
    rintro e w1 ⟨rfl, rfl⟩
    go_wp2_with fail
    refine (RR.out _).mono ?_
    rintro e w1 ⟨rfl, rfl⟩
    go_wp2_with fail
    refine (L1.out _).mono ?_
    rintro e w1 ⟨rfl, hn⟩
    go_wp2_with fail
    refine (LV.out _).mono ?_
    rintro e w2 ⟨rfl, rfl⟩
    go_wp2
    go_ret
    exact ⟨rfl, hn⟩

theorem orders_walk (a : Int) (wa : (Lit.int .u64 a).wf = true) (w : World) (hT : Table w) :
    Calls Tryd.prog 3 #[.int .u64 a] w fun e w' => e = .returned (.bool true) ∧ New w w' := by
  have h := bounds_u64 wa
  obtain ⟨k, rfl⟩ := Int.eq_ofNat_of_zero_le h.1
  exact orders_any k w (by omega) hT
end Go.Proofs.YtniibghbhbigaaaDoor
