/- Equality of two rows of numbers: slices.Equal and the reference's Same. -/
import Derived.Test.YtplaicdbcfnjbaaCmp
import Derived.Test.YtplaicdbcfnjbaaRow
namespace Go.Proofs.Ytplaicdbcfnjbaa
open Go.RowKit
set_option linter.unusedVariables false

/-- two rows of numbers are the same -/
def eqR (n m : Nat) (f g : Nat → Nat) : Bool := decide (n = m ∧ ∀ j, j < n → f j = g j)
theorem eqR_len {n m : Nat} {f g : Nat → Nat} (h : n ≠ m) : eqR n m f g = false := by simp [eqR, h]
theorem eqR_no {n : Nat} {f g : Nat → Nat} (j : Nat) (hj : j < n) (h : f j ≠ g j) : eqR n n f g = false := by
  simp only [eqR, decide_eq_false_iff_not]
  exact fun q => h (q.2 j hj)
theorem eqR_yes {n : Nat} {f g : Nat → Nat} (h : ∀ j, j < n → f j = g j) : eqR n n f g = true := by
  simp only [eqR, decide_eq_true_eq]
  exact ⟨trivial, h⟩
set_option maxRecDepth 100000 in
set_option maxHeartbeats 1000000 in
theorem eq_any (n m : Nat) (f g : Nat → Nat) (A : Option Addr) (ca : Nat) (B : Option Addr) (cb : Nat) (w : World) (hA : ReadsF w .u64 A n f) (hB : ReadsF w .u64 B m g) :
    Calls Try.prog 25 #[.slice A n ca, .slice B m cb] w fun e w' => e = .returned (.bool (eqR n m f g)) ∧ New w w' := by
  have h1 := hA.1
  have h2 := hB.1
  have HA := Lib.hid hA.2
  have HB := Lib.hid hB.2
  clear hA hB
  by_cases hnm : n = m
  · subst hnm
    have HN := Lib.hid (fun j (hj : j < n) h => eqR_no (f := f) (g := g) j hj h)
    have HY := Lib.hid (fun h => eqR_yes (n := n) (f := f) (g := g) h)
    generalize eqR n n f g = R at *
    go_enter Try.func25, Try.ntmps25
    go_wp2_with fail
    go_loopg [13] n (fun q i wr => ∃ k : Nat, k + q = n ∧ i = .int .i64 k ∧ (∀ j, j < k → f j = g j) ∧ New w wr)
    case atStart => exact ⟨0, by omega, rfl, fun j hj => absurd hj (by omega), New.refl w⟩
    case round =>
      obtain ⟨k, hk, rfl, he, nw⟩ := hrel
      by_cases hkn : k < n
      · obtain ⟨ga, rfl, la, ca'⟩ := HA.out (by omega)
        obtain ⟨gb, rfl, lb, cb'⟩ := HB.out (by omega)
        have c1 := (nw.cell (p := ga.add k) (by rw [add_blk]; exact la)).trans (ca' k hkn)
        have c2 := (nw.cell (p := gb.add k) (by rw [add_blk]; exact lb)).trans (cb' k hkn)
        have hkn' : (k : Int) < n := by omega
        have hkk : (k : Int) ≤ 9223372036854775806 := by omega
        clear ca' cb' la lb
        have HE := Lib.hid he
        clear he
        by_cases hfg : f k = g k
        · have HE2 := Lib.hid (show ∀ j, j < k + 1 → f j = g j from fun j hj => by
            rcases Nat.lt_or_ge j k with h | h
            · exact HE.out j h
            · obtain rfl : j = k := by omega
              exact hfg)
          have t : ((f k : Int) != (g k : Int)) = false := by simp [hfg]
          clear hfg
          go_wp2
          go_quiet (fail)
          go_wp2
          go_roundg (gk - 1)
          case rel => exact ⟨k + 1, by omega, by simp, HE2.out, nw.draws _⟩
          case measure => omega
        · have hr := HN.out k hkn hfg
          have t : ((f k : Int) != (g k : Int)) = true := by
            simp only [bne_iff_ne, ne_eq]; omega
          clear hfg
          subst hr
          go_wp2
          go_quiet (fail)
          go_wp2
          exact bodyPost_ret (by simp [results, Try.results25, go_sem]) rfl ⟨rfl, nw.draws _⟩
      · obtain rfl : k = n := by omega
        have hr := HY.out he
        subst hr
        clear he
        go_wp2
        go_ret
        exact ⟨rfl, nw⟩
  · have hr := eqR_len (f := f) (g := g) hnm
    rw [hr]
    have t : ((n : Int) != (m : Int)) = true := by
      simp only [bne_iff_ne, ne_eq]; omega
    clear hnm hr
    go_enter Try.func25, Try.ntmps25
    go_wp2
    go_ret
    exact ⟨rfl, New.refl w⟩
end Go.Proofs.Ytplaicdbcfnjbaa
