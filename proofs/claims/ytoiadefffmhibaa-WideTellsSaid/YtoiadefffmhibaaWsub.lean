/- Contracts of the reference of layer wide: Sub. -/
import Derived.Test.YtoiadefffmhibaaProg
import Derived.Test.YtoiadefffmhibaaDigs
import Derived.Test.YtoiadefffmhibaaWadd
import Derived.BigQuiet
import Derived.Deep.QuietTactic
import Derived.Deep.LoopGhost
import Derived.WalkMore
namespace Go.Proofs.Ytoiadefffmhibaa
open Go.RowKit
set_option linter.unusedVariables false

set_option maxRecDepth 100000 in
set_option maxHeartbeats 1000000 in
theorem refsub_any (a b : Nat) (hb : b < WW) (w : World) :
    Calls Try.prog 15 #[.agg #[.int .i64 (dig a 0), .int .i64 (dig a 1), .int .i64 (dig a 2), .int .i64 (dig a 3), .int .i64 (dig a 4), .int .i64 (dig a 5), .int .i64 (dig a 6), .int .i64 (dig a 7)], .agg #[.int .i64 (dig b 0), .int .i64 (dig b 1), .int .i64 (dig b 2), .int .i64 (dig b 3), .int .i64 (dig b 4), .int .i64 (dig b 5), .int .i64 (dig b 6), .int .i64 (dig b 7)]] w fun e w' => e = .returned (.agg #[.int .i64 (dig (a + WW - b) 0), .int .i64 (dig (a + WW - b) 1), .int .i64 (dig (a + WW - b) 2), .int .i64 (dig (a + WW - b) 3), .int .i64 (dig (a + WW - b) 4), .int .i64 (dig (a + WW - b) 5), .int .i64 (dig (a + WW - b) 6), .int .i64 (dig (a + WW - b) 7)]) ∧ New w w' := by
  have sst := fun i (hi : i < 8) => sub_step a b i hb hi
  clear hb
  generalize a + WW - b = m at sst ⊢
  go_enter Try.func15, Try.ntmps15
  go_wp2_with fail
  go_loopg [6, 7] 8 (fun n c i wr => ∃ j : Nat, i = .int .i64 j ∧ j + n = 8 ∧ c = .int .i64 (borrowAt a b j) ∧ Digs wr w.heap.size (dig a) ∧ Digs wr (w.heap.size + 1) (dig b) ∧ Digs wr (w.heap.size + 1 + 1) (fun _ => 0) ∧ Digs wr (w.heap.size + 1 + 1 + 1) (fun i => if i < j then dig m i else 0) ∧ New w wr)
  case atStart => 
    refine ⟨0, rfl, rfl, by rw [borrow_zero]; rfl, ?_, ?_, ?_, ?_, ?_⟩
    · exact (((Box.made w 27 _).alloc _).alloc _).alloc _
    · exact box_at (by simp) (((Box.made _ 27 _).alloc _).alloc _)
    · exact box_at (by simp) ((Box.made _ 27 _).alloc _)
    · exact box_at (by simp) (Box.made _ 27 _)
    · exact ((((New.refl _).alloc _).alloc _).alloc _).alloc _
  case round =>
    obtain ⟨j, rfl, hjn, rfl, hA, hB, hR, hD, hnw⟩ := hrel
    by_cases hj : j < 8
    · have cA := hA.at_ j hj
      have cB := hB.at_ j hj
      have cD := hD.at_ j hj
      have fD : wr.frozen? ⟨w.heap.size + 1 + 1 + 1, j, none⟩ = false := Box.frozen hD j
      have hj' : (j : Int) < 8 := by omega
      have s1 := sst j hj
      have s2 := borrow_succ a b j
      clear sst
      have l1 := dig_lt a j
      have l2 := dig_lt b j
      have l3 := borrow_le a b j
      have fin : ∀ x : Nat, x = dig m j → Digs (wr.setCell ⟨w.heap.size + 1 + 1 + 1, j, none⟩ (.int .i64 x)) (w.heap.size + 1 + 1 + 1) (fun i => if i < j + 1 then dig m i else 0) := by
        intro x hx
        subst hx
        have h := hD.put j hj (dig m j)
        have e2 : (fun i => if i = j then dig m j else if i < j then dig m i else 0) = fun i => if i < j + 1 then dig m i else 0 := by
          funext i
          by_cases h1 : i = j
          · subst h1; simp
          · rw [if_neg h1]
            by_cases h2 : i < j
            · rw [if_pos h2, if_pos (by omega)]
            · rw [if_neg h2, if_neg (by omega)]
        rw [e2] at h
        exact h
      by_cases hc : dig a j < dig b j + borrowAt a b j
      · rw [if_pos hc] at s1 s2
        have hc' : (dig a j : Int) - (dig b j : Int) - (borrowAt a b j : Int) < 0 := by omega
        go_wp2
        go_quiet (fail)
        go_wp2
        go_roundg (gk - 1)
        case rel =>
          refine ⟨j + 1, by simp, by omega, by rw [s2]; rfl, ?_, ?_, ?_, ?_, ?_⟩
          · exact Box.off hA (by simp; omega) _
          · exact Box.off hB (by simp) _
          · exact Box.off hR (by simp) _
          · have e : ((dig m j : Nat) : Int) = (dig a j : Int) - (dig b j : Int) - (borrowAt a b j : Int) + 65536 := by omega
            have h := fin _ rfl
            rw [e] at h
            exact h
          · exact (hnw.draws nq).setCell (by show w.heap.size ≤ w.heap.size + 1 + 1 + 1; omega) _
        case measure => omega
      · rw [if_neg hc] at s1 s2
        have hc' : ¬ (dig a j : Int) - (dig b j : Int) - (borrowAt a b j : Int) < 0 := by omega
        go_wp2
        go_quiet (fail)
        go_wp2
        go_roundg (gk - 1)
        case rel =>
          refine ⟨j + 1, by simp, by omega, by rw [s2]; rfl, ?_, ?_, ?_, ?_, ?_⟩
          · exact Box.off hA (by simp; omega) _
          · exact Box.off hB (by simp) _
          · exact Box.off hR (by simp) _
          · have e : ((dig m j : Nat) : Int) = (dig a j : Int) - (dig b j : Int) - (borrowAt a b j : Int) := by omega
            have h := fin _ rfl
            rw [e] at h
            exact h
          · exact (hnw.draws nq).setCell (by show w.heap.size ≤ w.heap.size + 1 + 1 + 1; omega) _
        case measure => omega
    · have hje : j = 8 := by omega
      subst hje
      clear sst
      have d0 := hD.at_ 0 (by omega)
      have d1 := hD.at_ 1 (by omega)
      have d2 := hD.at_ 2 (by omega)
      have d3 := hD.at_ 3 (by omega)
      have d4 := hD.at_ 4 (by omega)
      have d5 := hD.at_ 5 (by omega)
      have d6 := hD.at_ 6 (by omega)
      have d7 := hD.at_ 7 (by omega)
      simp at d0 d1 d2 d3 d4 d5 d6 d7
      have r0 := hR.at_ 0 (by omega)
      have r1 := hR.at_ 1 (by omega)
      have r2 := hR.at_ 2 (by omega)
      have r3 := hR.at_ 3 (by omega)
      have r4 := hR.at_ 4 (by omega)
      have r5 := hR.at_ 5 (by omega)
      have r6 := hR.at_ 6 (by omega)
      have r7 := hR.at_ 7 (by omega)
      have f0 : wr.frozen? ⟨w.heap.size + 1 + 1, 0, none⟩ = false := Box.frozen hR 0
      have f1 : wr.frozen? ⟨w.heap.size + 1 + 1, 1, none⟩ = false := Box.frozen hR 1
      have f2 : wr.frozen? ⟨w.heap.size + 1 + 1, 2, none⟩ = false := Box.frozen hR 2
      have f3 : wr.frozen? ⟨w.heap.size + 1 + 1, 3, none⟩ = false := Box.frozen hR 3
      have f4 : wr.frozen? ⟨w.heap.size + 1 + 1, 4, none⟩ = false := Box.frozen hR 4
      have f5 : wr.frozen? ⟨w.heap.size + 1 + 1, 5, none⟩ = false := Box.frozen hR 5
      have f6 : wr.frozen? ⟨w.heap.size + 1 + 1, 6, none⟩ = false := Box.frozen hR 6
      have f7 : wr.frozen? ⟨w.heap.size + 1 + 1, 7, none⟩ = false := Box.frozen hR 7
      go_wp2
      refine bodyPost_ret (v := .agg #[.int .i64 (dig m 0), .int .i64 (dig m 1), .int .i64 (dig m 2), .int .i64 (dig m 3), .int .i64 (dig m 4), .int .i64 (dig m 5), .int .i64 (dig m 6), .int .i64 (dig m 7)]) (by simp [results, Try.results15, go_sem, r0, r1, r2, r3, r4, r5, r6, r7]) rfl ⟨rfl, ?_⟩
      repeat (refine New.setCell ?_ (by show w.heap.size ≤ w.heap.size + 1 + 1; omega) _)
      exact hnw
end Go.Proofs.Ytoiadefffmhibaa
