/- Contracts of the reference of layer wide: Cmp. -/
import Derived.Test.YtoiadefffmhibaaProg
import Derived.Test.YtoiadefffmhibaaDigs
import Derived.Test.YtoiadefffmhibaaWadd
import Derived.BigQuiet
import Derived.Deep.QuietTactic
import Derived.Deep.LoopGhost
import Derived.WalkMore
namespace Go.Proofs.Ytoiadefffmhibaa
open Go.RowKit
set_option linter.unusedVariables false

set_option maxRecDepth 100000 in
set_option maxHeartbeats 1000000 in
theorem refcmp_any (a b : Nat) (ha : a < WW) (hb : b < WW) (w : World) :
    Calls Try.prog 17 #[.agg #[.int .i64 (dig a 0), .int .i64 (dig a 1), .int .i64 (dig a 2), .int .i64 (dig a 3), .int .i64 (dig a 4), .int .i64 (dig a 5), .int .i64 (dig a 6), .int .i64 (dig a 7)], .agg #[.int .i64 (dig b 0), .int .i64 (dig b 1), .int .i64 (dig b 2), .int .i64 (dig b 3), .int .i64 (dig b 4), .int .i64 (dig b 5), .int .i64 (dig b 6), .int .i64 (dig b 7)]] w fun e w' => e = .returned (.int .i64 (cmpv a b)) ∧ New w w' := by
  have c1 := fun i => @cmp_lt a b i
  have c2 := fun i => @cmp_gt a b i
  have c3 : a / 65536 ^ 0 = b / 65536 ^ 0 → cmpv a b = 0 := by
    intro h; simp at h; subst h; simp [cmpv]
  have c0 : a / 65536 ^ 8 = b / 65536 ^ 8 := by
    exact (Nat.div_eq_of_lt ha).trans (Nat.div_eq_of_lt hb).symm
  clear ha hb
  generalize cmpv a b = m at c1 c2 c3 ⊢
  go_enter Try.func17, Try.ntmps17
  go_wp2_with fail
  go_loopg [5] 8 (fun n i wr => ∃ j : Int, i = .int .i64 j ∧ -1 ≤ j ∧ j ≤ 7 ∧ (n : Int) = j + 1 ∧ a / 65536 ^ n = b / 65536 ^ n ∧ Digs wr w.heap.size (dig a) ∧ Digs wr (w.heap.size + 1) (dig b) ∧ New w wr)
  case atStart => 
    refine ⟨7, rfl, by omega, by omega, ?_, c0, ?_, ?_, ?_⟩
    · rfl
    · exact (Box.made w 27 _).alloc _
    · exact box_at (by simp) (Box.made _ 27 _)
    · exact ((New.refl _).alloc _).alloc _
  case round =>
    obtain ⟨j, rfl, hj1, hj2, hn, he, hA, hB, hnw⟩ := hrel
    clear c0
    by_cases hj : 0 ≤ j
    · obtain ⟨k, rfl⟩ : ∃ k : Nat, j = k := ⟨j.toNat, by omega⟩
      have hk : gk = k + 1 := by omega
      subst hk
      have cA := hA.at_ k (by omega)
      have cB := hB.at_ k (by omega)
      have l1 := dig_lt a k
      have l2 := dig_lt b k
      have hj' : (k : Int) < 8 := by omega
      rcases Nat.lt_trichotomy (dig a k) (dig b k) with h | h | h
      · have hm := c1 k he h
        clear c1 c2 c3
        have h' : (dig a k : Int) < (dig b k : Int) := by omega
        subst hm
        go_wp2
        go_quiet (fail)
        go_wp2
        exact bodyPost_ret (by simp [results, Try.results17, go_sem]) rfl ⟨rfl, hnw.draws _⟩
      · have hd := cmp_down he h
        clear c1 c2
        have h' : ¬ (dig a k : Int) < (dig b k : Int) := by omega
        have h'' : ¬ (dig a k : Int) > (dig b k : Int) := by omega
        go_wp2
        go_quiet (fail)
        go_wp2
        go_quiet (fail)
        go_wp2
        go_roundg k
        case rel =>
          exact ⟨(k : Int) - 1, by simp, by omega, by omega, by omega, hd, hA, hB, hnw.draws _⟩
        case measure => omega
      · have hm := c2 k he h
        clear c1 c2 c3
        have h' : ¬ (dig a k : Int) < (dig b k : Int) := by omega
        have h'' : (dig a k : Int) > (dig b k : Int) := by omega
        subst hm
        go_wp2
        go_quiet (fail)
        go_wp2
        go_quiet (fail)
        go_wp2
        exact bodyPost_ret (by simp [results, Try.results17, go_sem]) rfl ⟨rfl, (hnw.draws _).draws _⟩
    · have hje : j = -1 := by omega
      subst hje
      have hk : gk = 0 := by omega
      subst hk
      have hm := c3 he
      clear c1 c2 c3
      subst hm
      go_wp2
      exact bodyPost_ret (by simp [results, Try.results17, go_sem]) rfl ⟨rfl, hnw⟩
end Go.Proofs.Ytoiadefffmhibaa
