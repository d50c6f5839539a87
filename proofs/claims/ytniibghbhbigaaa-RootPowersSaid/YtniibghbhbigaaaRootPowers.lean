/- Contracts: root.Powers, and of the references Red, Powers, Same. RootPowers, the walk. -/
import Derived.Test.YtniibghbhbigaaaRoot
import Derived.Test.YtniibghbhbigaaaRow
import Derived.OpenShut
namespace Go.Proofs.Ytniibghbhbigaaa
open Go.RowKit
set_option linter.unusedVariables false

theorem Try.info24 : (Try.prog.info? 24).map (fun i => (i.zero, i.size, i.bytes)) = some (some (.int .u64 0), 1, 8) := by kernel_rfl

/-- the powers of a, one by one -/
def psP (a : Nat) : Nat → Nat
  | 0 => 1
  | i + 1 => mulP (psP a i) a
theorem psP_lt (a i : Nat) : psP a i < 18446744069414584321 := by
  cases i with
  | zero => show 1 < 18446744069414584321; decide
  | succ i => exact mulP_lt _ _
theorem psP_red (a i : Nat) : psP (redP a) i = psP a i := by
  induction i with
  | zero => rfl
  | succ i ih =>
    show mulP (psP (redP a) i) (redP a) = mulP (psP a i) a
    rw [ih]; unfold mulP redP
    rw [Nat.mul_mod, Nat.mod_mod, ← Nat.mul_mod]

theorem refred_any (a : Nat) (w : World) (ha : a < 18446744073709551616) :
    Calls Try.prog 18 #[.int .u64 a] w fun e w' => e = .returned (.int .u64 (redP a)) ∧ w = w' := by
  obtain ⟨r, hr⟩ : ∃ r : Nat, r = redP a := ⟨_, rfl⟩
  rw [← hr]
  have e : (a : Int) % 18446744069414584321 = (r : Int) := by rw [hr]; unfold redP PP; omega
  clear hr ha
  go_enter Try.func18, Try.ntmps18
  have E := Lib.hid e
  clear e
  go_wp2
  go_ret
  refine ⟨?_, rfl⟩
  show Ending.returned (.int .u64 ((a : Int) % 18446744069414584321)) = _
  rw [E.out]

set_option maxHeartbeats 400000 in
theorem powers_no (a n : Int) (w : World) (h : ¬ (0 ≤ n ∧ n ≤ 16777216)) :
    Calls Try.prog 15 #[.int .u64 a, .int .i64 n] w fun e w' => e = .returned (.tuple #[.slice none 0 0, .int .i64 3]) ∧ w = w' := by
  by_cases h1 : n < 0
  · go_enter Try.func15, Try.ntmps15
    go_wp2
    go_ret2
    exact ⟨rfl, rfl⟩
  · have h2 : 16777216 < n := by omega
    go_enter Try.func15, Try.ntmps15
    go_wp2
    go_ret2
    exact ⟨rfl, rfl⟩

set_option maxHeartbeats 1000000 in
theorem powers_yes (a n : Nat) (w : World) (ha : a < 18446744073709551616) (hn : n ≤ 16777216) :
    Calls Try.prog 15 #[.int .u64 a, .int .i64 n] w fun e w' => ∃ v, e = .returned (.tuple #[v, .int .i64 0]) ∧ w'.ownsRow w.heap.size 24 1 v n (firstv .u64 (psP a) n) ∧ New w w' := by
  have MUL := Lib.hid fun (p : Nat) W (hp : p < 18446744069414584321) => mul_any p a W (by omega) ha
  obtain ⟨i0, hi, hz0, hz1, hz2⟩ := info_parts Try.info24
  clear ha
  go_enter Try.func15, Try.ntmps15
  go_wp2_with (at_make; refine wpList_make_full _ rfl _ _ 32 rfl w.heap.size 24 i0 (.int .u64 0) 1 Try.underlying32 hi hz0 hz1 _ _ _ _ n rfl rfl (by omega) (by omega) (by rw [hz2]; omega) (by unfold maxLen; omega) (Nat.le_refl _) ?_)
  intro w1 hown hgrow
  have hnew := (New.refl w).grown hgrow (by intro k hk; cases hk)
  have hown1 : w1.ownsRow w.heap.size 24 1 (.slice (some ⟨w.heap.size, 0, none⟩) n n) n (fillv .u64 (psP a) n 0) := by
    rw [← fillv_zero, ← toList_madeCells_one]
    exact hown
  clear hown hgrow
  go_wp2
  go_loopg [7, 8, 19] n (fun g p x i wr => ∃ j : Nat, p = .int .u64 (psP a j) ∧ i = .int .i64 j ∧ j ≤ n ∧ n ≤ g + j ∧ wr.ownsRow w.heap.size 24 1 (.slice (some ⟨w.heap.size, 0, none⟩) n n) n (fillv .u64 (psP a) n j) ∧ New w wr)
  case atStart => exact ⟨0, rfl, rfl, by omega, by omega, hown1, hnew⟩
  case round =>
    obtain ⟨j, rfl, rfl, hj, hg, hownj, hnj⟩ := hrel
    by_cases hjn : j < n
    · have hjn' : (j : Int) < (n : Int) := by omega
      have hc : wr.cell? ⟨w.heap.size, j, none⟩ = some (.int .u64 0) := by
        rw [hownj.cellAt j (by omega), fillv_at .u64 _ n j j hjn, if_neg (by omega)]; rfl
      have hf : wr.frozen? ⟨w.heap.size, j, none⟩ = false := hownj.frozenAt j
      have M1 := Lib.hid fun W => MUL.out (psP a j) W (psP_lt a j)
      have hst := (hownj.stored j (.int .u64 (psP a j))).1
      rw [fillv_set .u64 _ n j hjn] at hst
      have hns := hnj.setCell (p := ⟨w.heap.size, j, none⟩) (Nat.le_refl _) (.int .u64 (psP a j))
      have HE : Hid (mulP (psP a j) a = psP a (j + 1)) := rfl
      rw [HE.out] at M1
      generalize psP a j = p at *
      clear hownj hnj
      go_wp2_with fail
      refine (M1.out _).mono ?_
      rintro e w2 ⟨rfl, rfl⟩
      go_wp2
      go_roundg (gk - 1)
      case rel => exact ⟨j + 1, rfl, by simp, by omega, by omega, hst, hns⟩
      case measure => omega
    · have hje : j = n := by omega
      subst hje
      rw [fillv_firstv] at hownj
      go_wp2
      go_ret2
      exact ⟨_, rfl, hownj, hnj⟩

set_option maxHeartbeats 1000000 in
theorem refpowers_any (a n : Nat) (w : World) (ha : a < 18446744069414584321) (hn : n ≤ 16777216) :
    Calls Try.prog 17 #[.int .u64 a, .int .i64 n] w fun e w' => ∃ v, e = .returned v ∧ w'.ownsRow w.heap.size 24 1 v n (firstv .u64 (psP a) n) ∧ New w w' := by
  have MUL := Lib.hid fun (p : Nat) W (hp : p < 18446744069414584321) => refmul_any p a W (by omega) ha
  obtain ⟨i0, hi, hz0, hz1, hz2⟩ := info_parts Try.info24
  clear ha
  go_enter Try.func17, Try.ntmps17
  go_wp2
  go_loopg [5, 6, 7] n (fun g l p i wr => ∃ j : Nat, p = .int .u64 (psP a j) ∧ i = .int .i64 j ∧ j ≤ n ∧ n ≤ g + j ∧ wr.ownsRow w.heap.size 24 1 l j (firstv .u64 (psP a) j) ∧ New w wr)
  case atStart => exact ⟨0, rfl, rfl, by omega, by omega, World.ownsRow_nil _ _ _ _, New.refl _⟩
  case round =>
    obtain ⟨j, rfl, rfl, hj, hg, hownj, hnj⟩ := hrel
    by_cases hjn : j < n
    · have hjn' : (j : Int) < (n : Int) := by omega
      have M1 := Lib.hid fun W => MUL.out (psP a j) W (psP_lt a j)
      have HE : Hid (mulP (psP a j) a = psP a (j + 1)) := rfl
      have HS := Lib.hid (firstv_snoc .u64 (psP a) j)
      rw [HE.out] at M1
      generalize psP a j = p at *
      go_wp2_with (at_builtin; refine wpList_append_own _ rfl _ _ 32 rfl w.heap.size 24 i0 (.int .u64 0) 1 8 Try.underlying32 hi hz0 hz1 hz2 rfl (by decide) _ _ _ rfl (hownj.alloc _) ⟨wr.heap.size, 0, none⟩ 1 1 [.int .u64 p] rfl rfl (news1 _ _ _) (ones1 _ _) (by unfold maxLen; omega) (by omega) (by have := hnj.size; simp; omega) ?_)
      intro v' w1 hown2 hgrow _
      have hnew2 := grown_own hnj hownj hgrow
      rw [← HS.out] at hown2
      clear hgrow hownj hnj
      go_wp2_with fail
      refine (M1.out _).mono ?_
      rintro e w2 ⟨rfl, rfl⟩
      go_wp2
      go_roundg (gk - 1)
      case rel => exact ⟨j + 1, rfl, by simp, by omega, by omega, hown2, hnew2⟩
      case measure => omega
    · have hje : j = n := by omega
      subst hje
      go_wp2
      go_ret
      exact ⟨_, rfl, hownj, hnj⟩

set_option maxHeartbeats 400000 in
theorem same_yes (A1 A2 : Option Addr) (n c1 c2 : Nat) (f : Nat → Nat) (w : World) (h1 : ReadsF w .u64 A1 n f) (h2 : ReadsF w .u64 A2 n f) :
    Calls Try.prog 16 #[.slice A1 n c1, .slice A2 n c2] w fun e w' => e = .returned (.bool true) ∧ New w w' := by
  have hn := h1.1
  go_enter Try.func16, Try.ntmps16
  go_wp2_with fail
  go_loopg [5] n (fun g i wr => ∃ j : Nat, i = .int .i64 j ∧ j ≤ n ∧ n ≤ g + j ∧ New w wr)
  case atStart => exact ⟨0, rfl, by omega, by omega, New.refl _⟩
  case round =>
    obtain ⟨j, rfl, hj, hg, hnj⟩ := hrel
    by_cases hjn : j < n
    · have hjn' : (j : Int) < (n : Int) := by omega
      obtain ⟨g1, rfl, hl1, k1⟩ := (h1.new hnj).2 (by omega)
      obtain ⟨g2, rfl, hl2, k2⟩ := (h2.new hnj).2 (by omega)
      have d1 := k1 j hjn
      have d2 := k2 j hjn
      clear k1 k2 h1 h2
      go_wp2
      go_quiet (fail)
      go_wp2
      go_roundg (gk - 1)
      case rel => exact ⟨j + 1, by simp, by omega, by omega, hnj.draws _⟩
      case measure => omega
    · have hje : j = n := by omega
      subst hje
      clear h1 h2
      go_wp2
      go_ret
      exact ⟨rfl, hnj⟩

set_option maxHeartbeats 1000000 in
theorem rpowers_any (a : Nat) (n : Int) (w : World) (ha : a < 18446744073709551616) :
    Calls Try.prog 5 #[.int .u64 a, .int .i64 n] w fun e w' => e = .returned (.bool true) ∧ New w w' := by
  have LV := Lib.hid fun W => live_any W
  by_cases h1 : 300 < n ∧ n ≤ 16777216
  · obtain ⟨h1a, h1b⟩ := h1
    clear ha
    go_enter Try.func5, Try.ntmps5
    go_wp2_with fail
    refine (LV.out _).mono ?_
    rintro e w1 ⟨rfl, rfl⟩
    go_wp2
    go_ret
    exact ⟨rfl, New.refl _⟩
  by_cases h2 : 0 ≤ n ∧ n ≤ 16777216
  · obtain ⟨k, rfl⟩ := Int.eq_ofNat_of_zero_le h2.1
    have hk : k ≤ 300 := by omega
    have PY := Lib.hid fun W => powers_yes a k W ha (by omega)
    have RD := Lib.hid fun W => refred_any a W ha
    have RP := Lib.hid fun W => refpowers_any (redP a) k W (redP_lt a) (by omega)
    rw [show psP (redP a) = psP a from funext (psP_red a)] at RP
    generalize redP a = r at *
    clear ha h1 h2
    go_enter Try.func5, Try.ntmps5
    go_wp2_with fail
    refine (PY.out _).mono ?_
    rintro e w1 ⟨v, rfl, hown, hn1⟩
    obtain ⟨A1, c1, rfl, r1⟩ := readsF_own hown
    go_wp2_with fail
    refine (RD.out _).mono ?_
    rintro e w2 ⟨rfl, rfl⟩
    go_wp2_with fail
    refine (RP.out _).mono ?_
    rintro e w2 ⟨v2, rfl, hown2, hn2⟩
    obtain ⟨A2, c2, rfl, r2⟩ := readsF_own hown2
    have r1' := r1.new hn2
    clear r1 hown hown2
    go_wp2_with fail
    refine (same_yes A1 A2 k c1 c2 _ _ r1' r2).mono ?_
    rintro e w3 ⟨rfl, hn3⟩
    go_wp2_with fail
    refine (LV.out _).mono ?_
    rintro e w4 ⟨rfl, rfl⟩
    go_wp2
    go_ret
    exact ⟨rfl, (hn1.trans hn2).trans hn3⟩
  · have PN := Lib.hid fun W => powers_no a n W h2
    by_cases h3 : n < 0
    · clear ha h1 h2
      go_enter Try.func5, Try.ntmps5
      go_wp2_with fail
      refine (PN.out _).mono ?_
      rintro e w1 ⟨rfl, rfl⟩
      go_wp2_with fail
      refine (LV.out _).mono ?_
      rintro e w2 ⟨rfl, rfl⟩
      go_wp2
      go_ret
      exact ⟨rfl, New.refl _⟩
    · have h4 : 16777216 < n := by omega
      clear ha h1 h2
      go_enter Try.func5, Try.ntmps5
      go_wp2_with fail
      refine (PN.out _).mono ?_
      rintro e w1 ⟨rfl, rfl⟩
      go_wp2_with fail
      refine (LV.out _).mono ?_
      rintro e w2 ⟨rfl, rfl⟩
      go_wp2
      go_ret
      exact ⟨rfl, New.refl _⟩

theorem rpowers_walk (a b : Int) (wa : (Lit.int .u64 a).wf = true) (wb : (Lit.int .i64 b).wf = true) (w : World) :
    Calls Try.prog 5 #[.int .u64 a, .int .i64 b] w fun e w' => e = .returned (.bool true) ∧ New w w' := by
  have h := bounds_u64 wa
  obtain ⟨k, rfl⟩ := Int.eq_ofNat_of_zero_le h.1
  exact rpowers_any k b w (by omega)
end Go.Proofs.Ytniibghbhbigaaa
