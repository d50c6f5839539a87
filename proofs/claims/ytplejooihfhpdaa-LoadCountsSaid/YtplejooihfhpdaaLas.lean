/- How long a call lasted. -/
import Derived.Test.YtplejooihfhpdaaHits
namespace Go.Proofs.Ytplejooihfhpdaa
open Go.RowKit
set_option linter.unusedVariables false

def lasI (fr to : Int) : Int := if to ≤ fr then 0 else if to - fr < 1152921504606846976 then to - fr else 1152921504606846976
def las (z : Nm) : Int := lasI z.fr z.to
theorem lasI_bd (fr to : Int) : 0 ≤ lasI fr to ∧ lasI fr to ≤ 1152921504606846976 := by unfold lasI; split; (omega); (split <;> omega)
theorem lasI_a {fr to : Int} (h : to ≤ fr) : lasI fr to = 0 := by unfold lasI; rw [if_pos h]
theorem lasI_b {fr to : Int} (h : ¬ to ≤ fr) (h2 : to - fr < 1152921504606846976) : lasI fr to = to - fr := by unfold lasI; rw [if_neg h, if_pos h2]
theorem lasI_c {fr to : Int} (h : ¬ to ≤ fr) (h2 : ¬ to - fr < 1152921504606846976) : lasI fr to = 1152921504606846976 := by unfold lasI; rw [if_neg h, if_neg h2]
set_option maxHeartbeats 1000000 in
theorem las_any (o : Array Value) (z : Nm) (h : Reads5 o z) (w : World) : Calls Try.prog 20 #[.agg o] w fun e w' => e = .returned (.int .i64 (las z)) ∧ New w w' := by
  obtain ⟨hio, hok, h0, h2, h9, h17, h18⟩ := h
  obtain ⟨-, -, -, f1, t1⟩ := hok
  unfold i64 at f1 t1
  obtain ⟨f1, f2⟩ := f1
  obtain ⟨t1, t2⟩ := t1
  unfold las
  generalize z.fr = fr at *
  generalize z.to = to at *
  clear h0 h2 h9 hio
  by_cases hA : to ≤ fr
  · have q := Lib.hid (⟨f1, f2, t1, t2⟩ : _ ∧ _ ∧ _ ∧ _)
    rw [lasI_a hA]
    go_enter Try.func20, Try.ntmps20
    go_wp2_with fail
    exact bodyPost_ret (v := .int .i64 0) (by simp [results, Try.results20, go_sem]) rfl ⟨rfl, (New.refl _).alloc _⟩
  · by_cases hB : 0 ≤ fr
    · have w1 : wrap64 (to - fr) = to - fr := by unfold wrap64; omega
      by_cases hC : to - fr < 1152921504606846976
      · rw [lasI_b hA hC]
        go_enter Try.func20, Try.ntmps20
        go_wp2_with fail
        exact bodyPost_ret (v := .int .i64 (to - fr)) (by simp [results, Try.results20, go_sem]) rfl ⟨rfl, (New.refl _).alloc _⟩
      · rw [lasI_c hA hC]
        go_enter Try.func20, Try.ntmps20
        go_wp2_with fail
        exact bodyPost_ret (v := .int .i64 1152921504606846976) (by simp [results, Try.results20, go_sem]) rfl ⟨rfl, (New.refl _).alloc _⟩
    · by_cases hC : to < 1152921504606846976 + fr
      · rw [lasI_b hA (by omega)]
        go_enter Try.func20, Try.ntmps20
        go_wp2_with fail
        exact bodyPost_ret (v := .int .i64 (to - fr)) (by simp [results, Try.results20, go_sem]) rfl ⟨rfl, (New.refl _).alloc _⟩
      · rw [lasI_c hA (by omega)]
        go_enter Try.func20, Try.ntmps20
        go_wp2_with fail
        exact bodyPost_ret (v := .int .i64 1152921504606846976) (by simp [results, Try.results20, go_sem]) rfl ⟨rfl, (New.refl _).alloc _⟩
/-- the load of the first n -/
def ofL (z : Nat → Nm) : Nat → Ld
  | 0 => ⟨0, 0, 0, 0⟩
  | n + 1 => let s := ofL z n
    if (z n).to = -1 then ⟨s.c + 1, s.e, s.n, s.l⟩ else ⟨s.c + 1, if (z n).er = 0 then s.e else s.e + 1, s.n + 1, if s.l < las (z n) then las (z n) else s.l⟩
theorem ofL_bd (z : Nat → Nm) : ∀ n : Nat, ((ofL z n).c = n) ∧ (0 ≤ (ofL z n).e ∧ (ofL z n).e ≤ n) ∧ (0 ≤ (ofL z n).n ∧ (ofL z n).n ≤ n) ∧ (0 ≤ (ofL z n).l ∧ (ofL z n).l ≤ 1152921504606846976)
  | 0 => by simp [ofL]
  | n + 1 => by
    have ih := ofL_bd z n
    have b := lasI_bd (z n).fr (z n).to
    have hl : las (z n) = lasI (z n).fr (z n).to := rfl
    unfold ofL
    simp only
    split
    · refine ⟨?_, ?_, ?_, ?_⟩ <;> simp only [] <;> omega
    · refine ⟨?_, ?_, ?_, ?_⟩
      · simp only []; omega
      · simp only []; split <;> omega
      · simp only []; omega
      · simp only []; split <;> omega
theorem ofL_open {z : Nat → Nm} {n : Nat} (h : (z n).to = -1) : ofL z (n + 1) = ⟨(ofL z n).c + 1, (ofL z n).e, (ofL z n).n, (ofL z n).l⟩ := by
  show (if (z n).to = -1 then _ else _) = _
  rw [if_pos h]
theorem ofL_end {z : Nat → Nm} {n : Nat} (h : (z n).to ≠ -1) : ofL z (n + 1) = ⟨(ofL z n).c + 1, if (z n).er = 0 then (ofL z n).e else (ofL z n).e + 1, (ofL z n).n + 1, if (ofL z n).l < las (z n) then las (z n) else (ofL z n).l⟩ := by
  show (if (z n).to = -1 then _ else _) = _
  rw [if_neg h]
end Go.Proofs.Ytplejooihfhpdaa
