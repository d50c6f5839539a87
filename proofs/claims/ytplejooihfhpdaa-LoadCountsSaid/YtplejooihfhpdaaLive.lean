/- live of the load statements: its closed walk over two calls, from 1 to 4, and from 2 on. -/
import Derived.Test.YtplejooihfhpdaaOpr
import Derived.Test.YtplejooihfhpdaaShelf
import Derived.Sort.OwnSortedInts
import Derived.Laws.AppendOwn
import Derived.OwnWalk
namespace Go.Proofs.Ytplejooihfhpdaa
open Go.RowKit
set_option linter.unusedVariables false

/-- the two calls -/
def IsA (o : Array Value) : Prop := IsOp o ∧ o[17]? = some (.int .i64 1) ∧ o[18]? = some (.int .i64 4)
def IsB (o : Array Value) : Prop := IsOp o ∧ o[17]? = some (.int .i64 2) ∧ o[18]? = some (.int .i64 (-1))

theorem under_ab (o : Array Value) (hB : IsB o) (g : Nat) (w : World) (hg : g < w.heap.size) (hc : w.cell? ⟨g, 18, none⟩ = some (.int .i64 4)) :
    Calls Try.prog 22 #[.agg o, .pointer (some ⟨g, 0, none⟩)] w fun e w' => e = .returned (.bool true) ∧ New w w' := by
  obtain ⟨ho, h17, h18⟩ := hB
  have hg' : g ≠ w.heap.size := by omega
  have HE := Lib.hid (ended_no o h18)
  have OA := OpAt.made w o ho
  go_enter Try.func22, Try.ntmps22
  go_wp2_with (first | (refine wpl_load rfl rfl OA rfl ?_) | (go_at_call 19; refine (HE.out _).mono ?_; rintro e w1 ⟨rfl, n1⟩))
  exact bodyPost_ret (by simp [results, Try.results22, go_sem]) rfl ⟨rfl, ((New.refl _).alloc _).trans n1⟩

/-- where the first two of the row lie -/
def Row2 (w : World) (g : Nat) (a b : Array Value) : Prop := OpAt w ⟨g, 0, none⟩ a ∧ OpAt w ⟨g, 19, none⟩ b ∧ IsA a ∧ IsB b
theorem Row2.new {w w' : World} {g : Nat} {a b : Array Value} (h : Row2 w g a b) (n : New w w') : Row2 w' g a b := ⟨h.1.new n, h.2.1.new n, h.2.2⟩

theorem index_two (g c : Nat) (a b : Array Value) (w : World) (hR : Row2 w g a b) (hc : c < w.heap.size) (h4 : w.cell? ⟨c, 18, none⟩ = some (.int .i64 4)) :
    Calls Try.prog 27 #[.slice (some ⟨g, 0, none⟩) 2 2, .func (.func 22) #[] #[.pointer (some ⟨c, 0, none⟩)]] w fun e w' => e = .returned (.int .i64 1) ∧ New w w' := by
  go_enter Try.func27, Try.ntmps27
  go_wp2_with fail
  go_loopg [8] 2 (fun n i wr => ∃ k : Nat, k + n = 2 ∧ k < 2 ∧ i = .int .i64 k ∧ New w wr)
  case atStart => exact ⟨0, rfl, by omega, rfl, New.refl _⟩
  case round =>
    obtain ⟨k, hk, hk2, rfl, nw⟩ := hrel
    have OA := (hR.new nw).1
    have OB := (hR.new nw).2.1
    have c4 := (nw.cell (p := ⟨c, 18, none⟩) hc).trans h4
    have cl := Nat.lt_of_lt_of_le hc nw.lt
    have UA := Lib.hid (under_aa a hR.2.2.1.1 hR.2.2.1.2.1 hR.2.2.1.2.2 c wr cl c4)
    have UB := Lib.hid (under_ab b hR.2.2.2 c wr cl c4)
    have HR := Lib.hid hR
    clear hR
    clear c4 cl h4
    obtain rfl | rfl : k = 0 ∨ k = 1 := by omega
    · go_wp2_with (first | (refine wpl_load rfl rfl OA rfl ?_) | (go_at_call 22; refine UA.out.mono ?_; rintro e w1 ⟨rfl, n1⟩))
      go_roundg 1
      case rel => exact ⟨1, rfl, by omega, by go_num, nw.trans n1⟩
      case measure => omega
    · go_wp2_with (first | (refine wpl_load rfl rfl OB rfl ?_) | (go_at_call 22; refine UB.out.mono ?_; rintro e w1 ⟨rfl, n1⟩))
      go_ret
      exact ⟨rfl, nw.trans n1⟩
theorem index_one (g c : Nat) (a b : Array Value) (w : World) (hR : Row2 w g a b) (hc : c < w.heap.size) (h4 : w.cell? ⟨c, 18, none⟩ = some (.int .i64 4)) :
    Calls Try.prog 27 #[.slice (some ⟨g, 0, none⟩) 1 2, .func (.func 22) #[] #[.pointer (some ⟨c, 0, none⟩)]] w fun e w' => e = .returned (.int .i64 (-1)) ∧ New w w' := by
  go_enter Try.func27, Try.ntmps27
  go_wp2_with fail
  go_loopg [8] 1 (fun n i wr => ∃ k : Nat, k + n = 1 ∧ i = .int .i64 k ∧ New w wr)
  case atStart => exact ⟨0, rfl, rfl, New.refl _⟩
  case round =>
    obtain ⟨k, hk, rfl, nw⟩ := hrel
    have OA := (hR.new nw).1
    have c4 := (nw.cell (p := ⟨c, 18, none⟩) hc).trans h4
    have cl := Nat.lt_of_lt_of_le hc nw.lt
    have UA := Lib.hid (under_aa a hR.2.2.1.1 hR.2.2.1.2.1 hR.2.2.1.2.2 c wr cl c4)
    have HR := Lib.hid hR
    clear hR
    clear c4 cl h4
    obtain rfl | rfl : k = 0 ∨ k = 1 := by omega
    · go_wp2_with (first | (refine wpl_load rfl rfl OA rfl ?_) | (go_at_call 22; refine UA.out.mono ?_; rintro e w1 ⟨rfl, n1⟩))
      go_roundg 0
      case rel => exact ⟨1, rfl, by go_num, nw.trans n1⟩
      case measure => omega
    · go_wp2_with fail
      go_ret
      exact ⟨rfl, nw⟩
theorem cont_two (g c : Nat) (a b : Array Value) (w : World) (hR : Row2 w g a b) (hc : c < w.heap.size) (h4 : w.cell? ⟨c, 18, none⟩ = some (.int .i64 4)) :
    Calls Try.prog 23 #[.slice (some ⟨g, 0, none⟩) 2 2, .func (.func 22) #[] #[.pointer (some ⟨c, 0, none⟩)]] w fun e w' => e = .returned (.bool true) ∧ New w w' := by
  have HI := Lib.hid (index_two g c a b w hR hc h4)
  clear hR hc h4
  go_enter Try.func23, Try.ntmps23
  go_wp2_with (go_at_call 27; refine HI.out.mono ?_; rintro e w1 ⟨rfl, n1⟩)
  go_ret
  exact ⟨rfl, n1⟩
theorem cont_one (g c : Nat) (a b : Array Value) (w : World) (hR : Row2 w g a b) (hc : c < w.heap.size) (h4 : w.cell? ⟨c, 18, none⟩ = some (.int .i64 4)) :
    Calls Try.prog 23 #[.slice (some ⟨g, 0, none⟩) 1 2, .func (.func 22) #[] #[.pointer (some ⟨c, 0, none⟩)]] w fun e w' => e = .returned (.bool false) ∧ New w w' := by
  have HI := Lib.hid (index_one g c a b w hR hc h4)
  clear hR hc h4
  go_enter Try.func23, Try.ntmps23
  go_wp2_with (go_at_call 27; refine HI.out.mono ?_; rintro e w1 ⟨rfl, n1⟩)
  go_ret
  exact ⟨rfl, n1⟩
end Go.Proofs.Ytplejooihfhpdaa
