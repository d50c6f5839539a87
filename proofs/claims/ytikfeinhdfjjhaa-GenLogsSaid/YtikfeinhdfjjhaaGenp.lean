/- Contracts: gen.Powers, the reference's Powers and Same, the page's example of layer 9. -/
import Derived.Test.YtikfeinhdfjjhaaGenx
namespace Go.Proofs.Ytikfeinhdfjjhaa
open Go.RowKit
set_option linter.unusedVariables false

/-- what a power leaves -/
def gpw (g q i : Nat) : Nat := g ^ i % q
theorem gpw_lt {g q i : Nat} (hq : 2 ≤ q) : gpw g q i < q := Nat.mod_lt _ (by omega)
theorem gpw_zero {g q : Nat} (hq : 2 ≤ q) : gpw g q 0 = 1 := by unfold gpw; rw [Nat.pow_zero]; exact Nat.mod_eq_of_lt hq
theorem gpw_succ (g q i : Nat) : gpw g q i * g % q = gpw g q (i + 1) := by unfold gpw; rw [Nat.pow_succ, Nat.mod_mul_mod]

set_option maxHeartbeats 400000 in
theorem gpowers_no (q : Int) (w : World) (h : isB q = false) : Calls Try.prog 23 #[.int .i64 q] w fun e w' => e = .returned (.tuple #[.slice none 0 0, .int .i64 2]) ∧ New w w' := by
  have HT := Lib.hid fun W => gen_no q W h
  clear h
  go_enter Try.func23, Try.ntmps23
  go_wp2_with fail
  refine (HT.out _).mono ?_
  rintro e w1 ⟨rfl, hn⟩
  go_wp2
  go_ret2
  exact ⟨rfl, hn⟩

set_option maxHeartbeats 1000000 in
theorem gpowers_yes (q : Nat) (w : World) (hq : Pr q) (hq2 : q ≤ 131072) :
    Calls Try.prog 23 #[.int .i64 q] w fun e w' => ∃ g v, e = .returned (.tuple #[v, .int .i64 0]) ∧ IsGen q g ∧ w'.ownsRow w.heap.size 3 1 v (q - 1) (firstv .i64 (gpw g q) (q - 1)) ∧ New w w' := by
  have hq1 := hq.1
  have HT := Lib.hid fun W => gen_yes q W hq hq2
  obtain ⟨i0, hi, hz0, hz1, hz2⟩ := info_parts Try.info3
  clear hq
  go_enter Try.func23, Try.ntmps23
  go_wp2_with fail
  refine (HT.out _).mono ?_
  rintro e w0 ⟨⟨g, rfl, hg⟩, hn0⟩
  have HG := Lib.hid hg
  have hgq := hg.lt
  clear hg
  go_wp2_with (at_make; refine wpList_make_full _ rfl _ _ 28 rfl w.heap.size 3 i0 (.int .i64 0) 1 Try.underlying28 hi hz0 hz1 _ _ _ _ (q - 1) rfl rfl (by omega) (by omega) (by rw [hz2]; omega) (by unfold maxLen; omega) hn0.lt ?_)
  intro w1 hown hgrow
  have hnew := hn0.grown hgrow (by intro k hk; cases hk)
  have hown1 : w1.ownsRow w.heap.size 3 1 (.slice (some ⟨w0.heap.size, 0, none⟩) (q - 1) (q - 1)) (q - 1) (fillv .i64 (gpw g q) (q - 1) 0) := by
    rw [← fillv_zero, ← toList_madeCells_one]
    exact hown
  have hbs := hn0.lt
  clear hown hgrow hn0
  go_wp2
  go_loopg [7, 8, 22] (q - 1) (fun n p x i wr => ∃ j p' : Nat, p = .int .i64 p' ∧ p' < q ∧ Hid (p' = gpw g q j) ∧ i = .int .i64 j ∧ j ≤ q - 1 ∧ q - 1 ≤ n + j ∧ wr.ownsRow w.heap.size 3 1 (.slice (some ⟨w0.heap.size, 0, none⟩) (q - 1) (q - 1)) (q - 1) (fillv .i64 (gpw g q) (q - 1) j) ∧ New w wr)
  case atStart => exact ⟨0, 1, rfl, by omega, (gpw_zero hq1).symm, rfl, by omega, by omega, hown1, hnew⟩
  case round =>
    obtain ⟨j, p, rfl, hp, HPP, rfl, hj, hjn, hownj, hnj⟩ := hrel
    by_cases hjq : j < q - 1
    · have hjq' : (j : Int) < (q : Int) - 1 := by omega
      have hjq2 : (j : Int) < ((q - 1 : Nat) : Int) := by omega
      have hc : wr.cell? ⟨w0.heap.size, j, none⟩ = some (.int .i64 0) := by
        rw [hownj.cellAt j (by omega), fillv_at .i64 _ (q - 1) j j hjq, if_neg (by omega)]; rfl
      have hf : wr.frozen? ⟨w0.heap.size, j, none⟩ = false := hownj.frozenAt j
      have hst := (hownj.stored j (.int .i64 (gpw g q j))).1
      rw [fillv_set .i64 _ (q - 1) j hjq, ← HPP.out] at hst
      have hns := hnj.setCell (p := ⟨w0.heap.size, j, none⟩) hbs (.int .i64 p)
      have HE : Hid (p * g % q = gpw g q (j + 1)) := by rw [HPP.out]; exact gpw_succ g q j
      have l1 : p * g % q < q := Nat.mod_lt _ (by omega)
      obtain ⟨b1, b2⟩ := mul_small (x := p) (y := g) (by omega) (by omega)
      clear hownj hnj
      go_wp2
      go_roundg (gk - 1)
      case rel => exact ⟨j + 1, p * g % q, by simp, l1, HE, by simp, by omega, by omega, hst, hns⟩
      case measure => omega
    · have hje : j = q - 1 := by omega
      subst hje
      rw [fillv_firstv] at hownj
      go_wp2
      go_ret2
      exact ⟨g, _, rfl, HG.out, hownj, hnj⟩

set_option maxHeartbeats 1000000 in
theorem refgpowers_any (q : Nat) (w : World) (hq : Pr q) (hq2 : q ≤ 131072) :
    Calls Try.prog 29 #[.int .i64 q] w fun e w' => ∃ g v, e = .returned v ∧ IsGen q g ∧ w'.ownsRow w.heap.size 3 1 v (q - 1) (firstv .i64 (gpw g q) (q - 1)) ∧ New w w' := by
  have hq1 := hq.1
  have HT := Lib.hid fun W => refgen_any q W hq hq2
  obtain ⟨i0, hi, hz0, hz1, hz2⟩ := info_parts Try.info3
  clear hq
  go_enter Try.func29, Try.ntmps29
  go_wp2_with fail
  refine (HT.out _).mono ?_
  rintro e w0 ⟨⟨g, rfl, hg⟩, rfl⟩
  have HG := Lib.hid hg
  have hgq := hg.lt
  clear hg
  go_wp2
  go_loopg [3, 5, 6] (q - 1) (fun n l p i wr => ∃ j p' : Nat, p = .int .i64 p' ∧ p' < q ∧ Hid (p' = gpw g q j) ∧ i = .int .i64 j ∧ j ≤ q - 1 ∧ q - 1 ≤ n + j ∧ wr.ownsRow w.heap.size 3 1 l j (firstv .i64 (gpw g q) j) ∧ New w wr)
  case atStart => exact ⟨0, 1, rfl, by omega, (gpw_zero hq1).symm, rfl, by omega, by omega, World.ownsRow_nil _ _ _ _, New.refl _⟩
  case round =>
    obtain ⟨j, p, rfl, hp, HPP, rfl, hj, hjn, hownj, hnj⟩ := hrel
    obtain ⟨l, rfl⟩ : ∃ l : Value, l = u3 := ⟨_, rfl⟩
    by_cases hjq : j < q - 1
    · have hjq' : (j : Int) < (q : Int) - 1 := by omega
      have HE : Hid (p * g % q = gpw g q (j + 1)) := by rw [HPP.out]; exact gpw_succ g q j
      have HS : Hid (firstv .i64 (gpw g q) (j + 1) = firstv .i64 (gpw g q) j ++ [.int .i64 p]) := by rw [HPP.out]; exact firstv_snoc .i64 _ j
      have l1 : p * g % q < q := Nat.mod_lt _ (by omega)
      obtain ⟨b1, b2⟩ := mul_small (x := p) (y := g) (by omega) (by omega)
      go_wp2_with (at_builtin; refine wpList_append_own _ rfl _ _ 28 rfl w.heap.size 3 i0 (.int .i64 0) 1 8 Try.underlying28 hi hz0 hz1 hz2 rfl (by decide) _ _ _ rfl (hownj.alloc _) ⟨wr.heap.size, 0, none⟩ 1 1 [.int .i64 p] rfl rfl (news1 _ _ _) (ones1 _ _) (by unfold maxLen; omega) (by omega) (by have := hnj.size; simp; omega) ?_)
      intro v' w1 hown2 hgrow _
      have hnew2 := grown_own hnj hownj hgrow
      rw [← HS.out] at hown2
      clear hgrow hownj hnj
      go_wp2
      go_roundg (gk - 1)
      case rel => exact ⟨j + 1, p * g % q, by simp, l1, HE, by simp, by omega, by omega, hown2, hnew2⟩
      case measure => omega
    · have hje : j = q - 1 := by omega
      subst hje
      have hjq3 : ¬ ((q - 1 : Nat) : Int) < (q : Int) - 1 := by omega
      go_wp2
      go_ret
      exact ⟨g, _, rfl, HG.out, hownj, hnj⟩

set_option maxHeartbeats 400000 in
theorem same_yes (A1 A2 : Option Addr) (n c1 c2 : Nat) (f : Nat → Nat) (w : World) (h1 : ReadsF w .i64 A1 n f) (h2 : ReadsF w .i64 A2 n f) :
    Calls Try.prog 28 #[.slice A1 n c1, .slice A2 n c2] w fun e w' => e = .returned (.bool true) ∧ New w w' := by
  have hn := h1.1
  go_enter Try.func28, Try.ntmps28
  go_wp2_with fail
  go_loopg [5] n (fun g i wr => ∃ j : Nat, i = .int .i64 j ∧ j ≤ n ∧ n ≤ g + j ∧ New w wr)
  case atStart => exact ⟨0, rfl, by omega, by omega, New.refl _⟩
  case round =>
    obtain ⟨j, rfl, hj, hg, hnj⟩ := hrel
    by_cases hjn : j < n
    · have hjn' : (j : Int) < (n : Int) := by omega
      obtain ⟨g1, rfl, hl1, k1⟩ := (h1.new hnj).2 (by omega)
      obtain ⟨g2, rfl, hl2, k2⟩ := (h2.new hnj).2 (by omega)
      have d1 := k1 j hjn
      have d2 := k2 j hjn
      clear k1 k2 h1 h2
      go_wp2
      go_quiet (fail)
      go_wp2
      go_roundg (gk - 1)
      case rel => exact ⟨j + 1, by simp, by omega, by omega, hnj.draws _⟩
      case measure => omega
    · have hje : j = n := by omega
      subst hje
      clear h1 h2
      go_wp2
      go_ret
      exact ⟨rfl, hnj⟩

set_option maxHeartbeats 400000 in
theorem live9_any (w : World) : Calls Try.prog 26 #[] w fun e w' => e = .returned (.bool true) ∧ New w w' := by
  have HG := Lib.hid fun W => gen_yes 7 W pr7 (by decide)
  have HP := Lib.hid fun W => gpowers_yes 7 W pr7 (by decide)
  go_enter Try.func26, Try.ntmps26
  go_wp2_with fail
  refine (HG.out _).mono ?_
  rintro e w1 ⟨⟨g, rfl, hg⟩, hn1⟩
  obtain rfl : g = 3 := hg.uniq isGen7
  clear hg
  go_wp2_with fail
  refine (HP.out _).mono ?_
  rintro e w2 ⟨g, v, rfl, hg, hown, hn2⟩
  obtain rfl : g = 3 := hg.uniq isGen7
  obtain ⟨A1, c1, rfl, r1⟩ := readsF_own hown
  clear hg hown
  go_wp2_with fail
  have r1' := r1.new ((New.refl w2).alloc (.cells #[.int .i64 1, .int .i64 3, .int .i64 2, .int .i64 6, .int .i64 4, .int .i64 5] 3))
  have r2 : ReadsF (w2.alloc (.cells #[.int .i64 1, .int .i64 3, .int .i64 2, .int .i64 6, .int .i64 4, .int .i64 5] 3)) .i64 (some ⟨w2.heap.size, 0, none⟩) (7 - 1) (gpw 3 7) := by
    refine ⟨by decide, fun _ => ⟨_, rfl, by simp, fun j hj => ?_⟩⟩
    rw [(Box.made w2 3 #[.int .i64 1, .int .i64 3, .int .i64 2, .int .i64 6, .int .i64 4, .int .i64 5]).cell j]
    have : j = 0 ∨ j = 1 ∨ j = 2 ∨ j = 3 ∨ j = 4 ∨ j = 5 := by omega
    rcases this with rfl | rfl | rfl | rfl | rfl | rfl <;> rfl
  refine (same_yes A1 (some ⟨w2.heap.size, 0, none⟩) (7 - 1) c1 6 _ _ r1' r2).mono ?_
  rintro e w3 ⟨rfl, hn3⟩
  go_wp2
  go_ret
  exact ⟨rfl, ((hn1.trans hn2).alloc _).trans hn3⟩
end Go.Proofs.Ytikfeinhdfjjhaa
