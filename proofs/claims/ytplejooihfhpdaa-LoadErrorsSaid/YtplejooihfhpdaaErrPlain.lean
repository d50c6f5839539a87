/- What the statement on errors compares, told in numbers: Lookups told from the chosen row; the errors' sum. -/
import Derived.Test.YtplejooihfhpdaaErrs
import Derived.Test.YtplejooihfhpdaaOf
import Derived.Test.YtplejooihfhpdaaKind
namespace Go.Proofs.Ytplejooihfhpdaa
open Go.RowKit
set_option linter.unusedVariables false

theorem told_congr {z z' : Nat → Nm} (e : Int) : ∀ n, (∀ j, j < n → z j = z' j) → told z e n = told z' e n
  | 0, _ => rfl
  | n + 1, h => by
    have ih := told_congr e n (fun j hj => h j (by omega))
    show told z e n + _ = told z' e n + _
    rw [ih, h n (by omega)]
theorem told_snoc {z : Nat → Nm} {e : Int} {m : Nat} {x : Nm} (h : z m = x) : told z e (m + 1) = told z e m + if x.to ≠ -1 ∧ x.er = e then 1 else 0 := by
  subst h; rfl
theorem told_sel (z : Nat → Nm) (P : Nat → Bool) (e : Int) (f : Nat → Nat) (h0 : f 0 = 0) (hs : ∀ n, f (n + 1) = f n + if P n = true ∧ (z n).to ≠ -1 ∧ (z n).er = e then 1 else 0) : ∀ n, told (fun j => z ((sel P n).getD j 0)) e (sel P n).length = f n
  | 0 => by rw [h0]; rfl
  | n + 1 => by
    have ih := told_sel z P e f h0 hs n
    rw [hs]
    by_cases hp : P n = true
    · rw [sel_yes hp, List.length_append, List.length_singleton]
      rw [told_snoc (x := z n) (by show z _ = z n; congr 1; simp [List.getD]), told_congr (z' := fun j => z ((sel P n).getD j 0)) e _ (fun j hj => by
        show z _ = z _
        congr 1
        simp [List.getD, List.getElem?_append_left hj]), ih]
      simp [hp]
    · rw [sel_no (by simpa using hp), ih, if_neg (fun q => hp q.1), Nat.add_zero]
theorem hit_sel (z : Nat → Nm) (e : Int) (n : Nat) : told (fun j => z ((sel (fun i => knd (z i) == 2) n).getD j 0)) e (sel (fun i => knd (z i) == 2) n).length = hit z e n := by
  refine told_sel z _ e (hit z e) rfl (fun m => ?_) n
  show hit z e m + _ = _
  congr 1
  have hk : knd (z m) = 2 ↔ (z m).kd = 2 := by unfold knd; split <;> omega
  by_cases h : (z m).kd = 2
  · simp [hk.2 h, h]
  · have : ¬ knd (z m) = 2 := fun q => h (hk.1 q)
    simp [this, h]
theorem ofL_errs (z : Nat → Nm) : ∀ n, (ofL z n).e = (errs z n : Nat)
  | 0 => rfl
  | n + 1 => by
    have ih := ofL_errs z n
    have he : errs z (n + 1) = errs z n + if (z n).to ≠ -1 ∧ (z n).er ≠ 0 then 1 else 0 := rfl
    by_cases h1 : (z n).to = -1
    · rw [ofL_open h1, he, if_neg (fun q => q.1 h1)]
      exact ih
    · have hx : (ofL z (n + 1)).e = if (z n).er = 0 then (ofL z n).e else (ofL z n).e + 1 := by rw [ofL_end h1]
      rw [hx, he]
      by_cases h2 : (z n).er = 0
      · rw [if_pos h2, if_neg (fun (q : (z n).to ≠ -1 ∧ (z n).er ≠ 0) => q.2 h2)]
        omega
      · rw [if_neg h2, if_pos (show (z n).to ≠ -1 ∧ (z n).er ≠ 0 from ⟨h1, h2⟩)]
        omega
/-- the sum of the counts at the first ones is the count of errors -/
theorem sum_is (z : Nat → Nm) (n : Nat) : ((sumF z (cntF z n) n : Nat) : Int) = (ofL z n).e := by
  rw [ofL_errs]
  congr 1
  rw [sumF_congr z (G := fun e => told z e n) (fun e he => by unfold cntF; rw [if_neg he])]
  exact sumF_errs z n n (Nat.le_refl _)
theorem told2_any (A : Option Addr) (n cap : Nat) (o : Nat → Array Value) (z : Nat → Nm) (e : Int) (hn : n ≤ 60) (w : World)
    (hL : Ops w A (sel (fun i => knd (z i) == 2) n).length (fun j => o ((sel (fun i => knd (z i) == 2) n).getD j 0)) (fun j => z ((sel (fun i => knd (z i) == 2) n).getD j 0))) :
    Calls Try.prog 9 #[.slice A (sel (fun i => knd (z i) == 2) n).length cap, .int .i64 e] w fun x w' => x = .returned (.int .i64 (hit z e n)) ∧ New w w' := by
  rw [← hit_sel z e n]
  exact told_any A _ cap _ _ e (Nat.le_trans (sel_len _ _) hn) w hL
end Go.Proofs.Ytplejooihfhpdaa
