/- Span of live's two calls; live. -/
import Derived.Test.YtplejooihfhpdaaQuiet
namespace Go.Proofs.Ytplejooihfhpdaa
open Go.RowKit
set_option linter.unusedVariables false

set_option maxRecDepth 100000 in
set_option maxHeartbeats 1000000 in
theorem span_two (g : Nat) (a b : Array Value) (w : World) (hR : Row2 w g a b) :
    Calls Try.prog 17 #[.slice (some ⟨g, 0, none⟩) 2 2] w fun e w' => e = .returned (.tuple #[.int .i64 1, .int .i64 4, .bool true]) ∧ New w w' := by
  go_enter Try.func17, Try.ntmps17
  go_wp2_with fail
  go_loopg [2, 3, 10] 2 (fun n s t i wr => ∃ k : Nat, k + n = 2 ∧ i = .int .i64 k ∧ s = .int .i64 (if k = 0 then 0 else 1) ∧ t = .int .i64 (if k = 0 then 0 else 4) ∧ New w wr)
  case atStart => exact ⟨0, rfl, rfl, rfl, rfl, New.refl _⟩
  case round =>
    obtain ⟨k, hk, rfl, rfl, rfl, nw⟩ := hrel
    have hA := hR.2.2.1
    have hB := hR.2.2.2
    have LA := (hR.new nw).1
    have LB := (hR.new nw).2.1
    have OA := OpAt.made wr a hA.1
    have OB := OpAt.made wr b hB.1
    have HR := Lib.hid hR
    clear hR
    obtain rfl | rfl | rfl : k = 0 ∨ k = 1 ∨ k = 2 := by omega
    · have EA := Lib.hid (ended_yes a 4 hA.2.2 (by decide))
      have C17 := Lib.hid (fun w1 (n1 : New (wr.alloc (.cells a 45)) w1) => (n1.cell (p := ⟨wr.heap.size, 17, none⟩) (by simp)).trans (((Box.made wr 45 _).cell 17).trans hA.2.1))
      have C18 := Lib.hid (fun w1 (n1 : New (wr.alloc (.cells a 45)) w1) => (n1.cell (p := ⟨wr.heap.size, 18, none⟩) (by simp)).trans (((Box.made wr 45 _).cell 18).trans hA.2.2))
      have IA := Lib.hid hA.1
      have h17 := hA.2.1
      have h18 := hA.2.2
      clear hB OB LB
      clear hA
      simp only [if_true]
      go_wp2_with (first | (refine wpl_load rfl rfl LA rfl ?_) | (refine wpl_store rfl rfl rfl rfl IA.out rfl ?_) | (refine wpl_load rfl rfl OA rfl ?_) | (go_at_call 19; refine (EA.out _).mono ?_; rintro e w1 ⟨rfl, n1⟩; have c17 := C17.out _ n1; have c18 := C18.out _ n1))
      go_roundg 1
      case rel => exact ⟨1, rfl, by go_num, rfl, rfl, (nw.alloc _).trans n1⟩
      case measure => omega
    · have EB := Lib.hid (ended_no b hB.2.2)
      have C17 := Lib.hid (fun w1 (n1 : New (wr.alloc (.cells b 45)) w1) => (n1.cell (p := ⟨wr.heap.size, 17, none⟩) (by simp)).trans (((Box.made wr 45 _).cell 17).trans hB.2.1))
      have IB := Lib.hid hB.1
      have h17 := hB.2.1
      clear hA OA LA
      clear hB
      simp only [show ¬ (1 = 0) by decide, if_false]
      go_wp2_with (first | (refine wpl_load rfl rfl LB rfl ?_) | (refine wpl_store rfl rfl rfl rfl IB.out rfl ?_) | (refine wpl_load rfl rfl OB rfl ?_) | (go_at_call 19; refine (EB.out _).mono ?_; rintro e w1 ⟨rfl, n1⟩; have c17 := C17.out _ n1))
      go_roundg 0
      case rel => exact ⟨2, rfl, by go_num, rfl, rfl, (nw.alloc _).trans n1⟩
      case measure => omega
    · clear hA hB OA OB LA LB
      simp only [show ¬ (2 = 0) by decide, if_false]
      go_wp2_with fail
      go_ret3
      exact ⟨rfl, nw⟩

def rowA : Array Value := #[.int .i64 0, .int .i64 0, .int .i64 0, .int .i64 0, .int .i64 0, .string ⟨#[]⟩, .int .i64 0, .int .i64 0, .slice none 0 0, .int .i64 0, .int .i64 0, .int .i64 0, .slice none 0 0, .int .i64 0, .int .i64 0, .string ⟨#[]⟩, .slice none 0 0, .int .i64 1, .int .i64 4]
def rowB : Array Value := #[.int .i64 0, .int .i64 0, .int .i64 0, .int .i64 0, .int .i64 0, .string ⟨#[]⟩, .int .i64 0, .int .i64 0, .slice none 0 0, .int .i64 0, .int .i64 0, .int .i64 0, .slice none 0 0, .int .i64 0, .int .i64 0, .string ⟨#[]⟩, .slice none 0 0, .int .i64 2, .int .i64 (-1)]
theorem row2_made (w : World) (C : Array Value) (hC : C = rowA ++ rowB) : Row2 (w.alloc (.cells C 45)) w.heap.size rowA rowB := by
  subst hC
  have hb := Box.made w 45 (rowA ++ rowB)
  refine ⟨⟨⟨rfl, by decide +kernel⟩, by simp, fun j v hv => ?_⟩, ⟨⟨rfl, by decide +kernel⟩, by simp, fun j v hv => ?_⟩, ⟨⟨rfl, by decide +kernel⟩, rfl, rfl⟩, ⟨⟨rfl, by decide +kernel⟩, rfl, rfl⟩⟩
  · rw [Addr.add_mid, Nat.zero_add, hb.cell j, Array.getElem?_append_left (Array.getElem?_eq_some_iff.1 hv).1]
    exact hv
  · rw [Addr.add_mid, hb.cell (19 + j), Array.getElem?_append_right (by show (19 : Nat) ≤ 19 + j; omega)]
    rw [show 19 + j - rowA.size = j by show 19 + j - 19 = j; omega]
    exact hv

def rowC : Array Value := #[.int .i64 0, .int .i64 0, .int .i64 0, .int .i64 0, .int .i64 0, .string ⟨#[]⟩, .int .i64 0, .int .i64 0, .slice none 0 0, .int .i64 0, .int .i64 0, .int .i64 0, .slice none 0 0, .int .i64 0, .int .i64 0, .string ⟨#[]⟩, .slice none 0 0, .int .i64 1, .int .i64 4, .int .i64 0, .int .i64 0, .int .i64 0, .int .i64 0, .int .i64 0, .string ⟨#[]⟩, .int .i64 0, .int .i64 0, .slice none 0 0, .int .i64 0, .int .i64 0, .int .i64 0, .slice none 0 0, .int .i64 0, .int .i64 0, .string ⟨#[]⟩, .slice none 0 0, .int .i64 2, .int .i64 (-1)]
theorem rowC_eq : rowC = rowA ++ rowB := rfl
set_option maxRecDepth 100000 in
set_option maxHeartbeats 1000000 in
theorem live_any (w : World) : Calls Try.prog 6 #[] w fun e w' => e = .returned (.bool true) ∧ New w w' := by
  have RR := row2_made w rowC rowC_eq
  have HS0 := span_two w.heap.size rowA rowB _ RR
  have HQ0 := (fun w1 (n1 : New (w.alloc (.cells rowC 45)) w1) => quiet_two w.heap.size rowA rowB w1 (RR.new n1))
  have HO0 := (fun w1 (n1 : New (w.alloc (.cells rowC 45)) w1) => quiet_one w.heap.size rowA rowB w1 (RR.new n1))
  simp only [rowC] at HS0 HQ0 HO0
  have HS := Lib.hid HS0
  have HQ := Lib.hid HQ0
  have HO := Lib.hid HO0
  clear HS0 HQ0 HO0
  clear RR
  go_enter Try.func6, Try.ntmps6
  go_wp2_with (first | (go_at_call 17; refine HS.out.mono ?_; rintro e w1 ⟨rfl, n1⟩) | (go_at_call 18; (with_reducible refine (HQ.out _ n1).mono ?_); rintro e w2 ⟨A, cap, rfl, n2⟩) | (go_at_call 18; (with_reducible refine (HO.out _ (n1.trans n2)).mono ?_); rintro e w3 ⟨A3, cap3, rfl, n3⟩))
  go_ret
  exact ⟨rfl, ((((New.refl _).alloc _).trans n1).trans n2).trans n3⟩
end Go.Proofs.Ytplejooihfhpdaa
