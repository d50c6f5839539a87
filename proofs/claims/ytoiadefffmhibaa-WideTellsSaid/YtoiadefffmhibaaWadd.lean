/- Contracts of the reference of layer wide: Add. -/
import Derived.Test.YtoiadefffmhibaaProg
import Derived.Test.YtoiadefffmhibaaDig
import Derived.BigQuiet
import Derived.Deep.QuietTactic
import Derived.Deep.LoopGhost
import Derived.WalkMore
namespace Go.Proofs.Ytoiadefffmhibaa
open Go.RowKit
set_option linter.unusedVariables false

/-- a block of eight cells that holds the digits f -/
def Digs (w : World) (g : Nat) (f : Nat → Nat) : Prop := Box w g 27 #[.int .i64 (f 0), .int .i64 (f 1), .int .i64 (f 2), .int .i64 (f 3), .int .i64 (f 4), .int .i64 (f 5), .int .i64 (f 6), .int .i64 (f 7)]
theorem Digs.at_ {w : World} {g : Nat} {f : Nat → Nat} (h : Digs w g f) (j : Nat) (hj : j < 8) : w.cell? ⟨g, j, none⟩ = some (.int .i64 (f j)) := by
  rw [Box.cell h j]
  match j, hj with
  | 0, _ => rfl
  | 1, _ => rfl
  | 2, _ => rfl
  | 3, _ => rfl
  | 4, _ => rfl
  | 5, _ => rfl
  | 6, _ => rfl
  | 7, _ => rfl
theorem Digs.put {w : World} {g : Nat} {f : Nat → Nat} (h : Digs w g f) (j : Nat) (hj : j < 8) (x : Nat) : Digs (w.setCell ⟨g, j, none⟩ (.int .i64 x)) g (fun i => if i = j then x else f i) := by
  have := Box.put h j (.int .i64 x)
  unfold Digs
  match j, hj with
  | 0, _ => simpa using this
  | 1, _ => simpa using this
  | 2, _ => simpa using this
  | 3, _ => simpa using this
  | 4, _ => simpa using this
  | 5, _ => simpa using this
  | 6, _ => simpa using this
  | 7, _ => simpa using this

theorem box_at {w : World} {g g' : Nat} {t : TypeId} {cs : Array Value} (h : g = g') (k : Box w g t cs) : Box w g' t cs := h ▸ k

set_option maxRecDepth 100000 in
set_option maxHeartbeats 1000000 in
theorem refadd_any (a b : Nat) (w : World) :
    Calls Try.prog 13 #[.agg #[.int .i64 (dig a 0), .int .i64 (dig a 1), .int .i64 (dig a 2), .int .i64 (dig a 3), .int .i64 (dig a 4), .int .i64 (dig a 5), .int .i64 (dig a 6), .int .i64 (dig a 7)], .agg #[.int .i64 (dig b 0), .int .i64 (dig b 1), .int .i64 (dig b 2), .int .i64 (dig b 3), .int .i64 (dig b 4), .int .i64 (dig b 5), .int .i64 (dig b 6), .int .i64 (dig b 7)]] w fun e w' => e = .returned (.agg #[.int .i64 (dig (a + b) 0), .int .i64 (dig (a + b) 1), .int .i64 (dig (a + b) 2), .int .i64 (dig (a + b) 3), .int .i64 (dig (a + b) 4), .int .i64 (dig (a + b) 5), .int .i64 (dig (a + b) 6), .int .i64 (dig (a + b) 7)]) ∧ New w w' := by
  go_enter Try.func13, Try.ntmps13
  go_wp2_with fail
  go_loopg [6, 7] 8 (fun n c i wr => ∃ j : Nat, i = .int .i64 j ∧ j + n = 8 ∧ c = .int .i64 (carryAt a b j) ∧ Digs wr w.heap.size (dig a) ∧ Digs wr (w.heap.size + 1) (dig b) ∧ Digs wr (w.heap.size + 1 + 1) (fun _ => 0) ∧ Digs wr (w.heap.size + 1 + 1 + 1) (fun i => if i < j then dig (a + b) i else 0) ∧ New w wr)
  case atStart => 
    refine ⟨0, rfl, rfl, by rw [carry_zero]; rfl, ?_, ?_, ?_, ?_, ?_⟩
    · exact (((Box.made w 27 _).alloc _).alloc _).alloc _
    · exact box_at (by simp) (((Box.made _ 27 _).alloc _).alloc _)
    · exact box_at (by simp) ((Box.made _ 27 _).alloc _)
    · exact box_at (by simp) (Box.made _ 27 _)
    · exact ((((New.refl _).alloc _).alloc _).alloc _).alloc _
  case round =>
    obtain ⟨j, rfl, hjn, rfl, hA, hB, hR, hD, hnw⟩ := hrel
    by_cases hj : j < 8
    · have cA := hA.at_ j hj
      have cB := hB.at_ j hj
      have cD := hD.at_ j hj
      have fD : wr.frozen? ⟨w.heap.size + 1 + 1 + 1, j, none⟩ = false := Box.frozen hD j
      have hj' : (j : Int) < 8 := by omega
      obtain ⟨s1, s2⟩ := add_step a b j
      have l1 := dig_lt a j
      have l2 := dig_lt b j
      have l3 := carry_le a b j
      go_wp2
      go_quiet (fail)
      go_wp2
      go_roundg (gk - 1)
      case rel =>
        refine ⟨j + 1, by simp, by omega, by rw [← s2]; simp, ?_, ?_, ?_, ?_, ?_⟩
        · exact Box.off hA (by simp; omega) _
        · exact Box.off hB (by simp) _
        · exact Box.off hR (by simp) _
        · have h := hD.put j hj (dig (a + b) j)
          have e : (((dig (a + b) j : Nat) : Int)) = ((dig a j : Int) + (dig b j : Int) + (carryAt a b j : Int)) % 65536 := by rw [← s1]; simp
          rw [e] at h
          have e2 : (fun i => if i = j then dig (a + b) j else if i < j then dig (a + b) i else 0) = fun i => if i < j + 1 then dig (a + b) i else 0 := by
            funext i
            by_cases h1 : i = j
            · subst h1; simp
            · rw [if_neg h1]
              by_cases h2 : i < j
              · rw [if_pos h2, if_pos (by omega)]
              · rw [if_neg h2, if_neg (by omega)]
          rw [e2] at h
          exact h
        · exact (hnw.draws nq).setCell (by show w.heap.size ≤ w.heap.size + 1 + 1 + 1; omega) _
      case measure => omega
    · have hje : j = 8 := by omega
      subst hje
      have d0 := hD.at_ 0 (by omega)
      have d1 := hD.at_ 1 (by omega)
      have d2 := hD.at_ 2 (by omega)
      have d3 := hD.at_ 3 (by omega)
      have d4 := hD.at_ 4 (by omega)
      have d5 := hD.at_ 5 (by omega)
      have d6 := hD.at_ 6 (by omega)
      have d7 := hD.at_ 7 (by omega)
      simp at d0 d1 d2 d3 d4 d5 d6 d7
      have r0 := hR.at_ 0 (by omega)
      have r1 := hR.at_ 1 (by omega)
      have r2 := hR.at_ 2 (by omega)
      have r3 := hR.at_ 3 (by omega)
      have r4 := hR.at_ 4 (by omega)
      have r5 := hR.at_ 5 (by omega)
      have r6 := hR.at_ 6 (by omega)
      have r7 := hR.at_ 7 (by omega)
      have f0 : wr.frozen? ⟨w.heap.size + 1 + 1, 0, none⟩ = false := Box.frozen hR 0
      have f1 : wr.frozen? ⟨w.heap.size + 1 + 1, 1, none⟩ = false := Box.frozen hR 1
      have f2 : wr.frozen? ⟨w.heap.size + 1 + 1, 2, none⟩ = false := Box.frozen hR 2
      have f3 : wr.frozen? ⟨w.heap.size + 1 + 1, 3, none⟩ = false := Box.frozen hR 3
      have f4 : wr.frozen? ⟨w.heap.size + 1 + 1, 4, none⟩ = false := Box.frozen hR 4
      have f5 : wr.frozen? ⟨w.heap.size + 1 + 1, 5, none⟩ = false := Box.frozen hR 5
      have f6 : wr.frozen? ⟨w.heap.size + 1 + 1, 6, none⟩ = false := Box.frozen hR 6
      have f7 : wr.frozen? ⟨w.heap.size + 1 + 1, 7, none⟩ = false := Box.frozen hR 7
      go_wp2
      refine bodyPost_ret (v := .agg #[.int .i64 (dig (a + b) 0), .int .i64 (dig (a + b) 1), .int .i64 (dig (a + b) 2), .int .i64 (dig (a + b) 3), .int .i64 (dig (a + b) 4), .int .i64 (dig (a + b) 5), .int .i64 (dig (a + b) 6), .int .i64 (dig (a + b) 7)]) (by simp [results, Try.results13, go_sem, r0, r1, r2, r3, r4, r5, r6, r7]) rfl ⟨rfl, ?_⟩
      repeat (refine New.setCell ?_ (by show w.heap.size ≤ w.heap.size + 1 + 1; omega) _)
      exact hnw
end Go.Proofs.Ytoiadefffmhibaa
