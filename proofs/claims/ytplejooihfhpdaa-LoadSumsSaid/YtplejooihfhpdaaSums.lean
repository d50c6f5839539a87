/- The walk of LoadSums. -/
import Derived.Test.YtplejooihfhpdaaSum
import Derived.Test.YtplejooihfhpdaaLiv
import Derived.Deep.RegionHeld3
namespace Go.Proofs.Ytplejooihfhpdaa
open Go.RowKit
set_option linter.unusedVariables false

theorem sums_great (A : Option Addr) (n cap : Nat) (hn : 60 < n) (w : World) :
    Calls Try.prog 3 #[.slice A n cap] w fun e w' => e = .returned (.bool true) ∧ New w w' := by
  have HL := Lib.hid live_any
  go_enter Try.func3, Try.ntmps3
  go_wp2_with (go_at_call 6; refine (HL.out _).mono ?_; rintro e w1 ⟨rfl, n1⟩)
  go_ret
  exact ⟨rfl, n1⟩

set_option maxHeartbeats 2000000 in
theorem sums_walk (A : Option Addr) (n cap : Nat) (z : Nat → Ld) (hn : n ≤ 60) (w : World) (hL : Loads w A n z) :
    Calls Try.prog 3 #[.slice A n cap] w fun e w' => e = .returned (.bool true) ∧ New w w' := by
  have HL := Lib.hid live_any
  have HS := Lib.hid (fun w' (m : New w w') => sum_any A n cap z hn w' (hL.new m))
  go_enter Try.func3, Try.ntmps3
  go_wp2_with fail
  go_loopg [4] n (fun g i wr => ∃ k : Nat, k + g = n ∧ i = .int .i64 k ∧ New w wr ∧ Box wr w.heap.size 25 #[.int .i64 (sumL z k).c, .int .i64 (sumL z k).e, .int .i64 (sumL z k).n, .int .i64 (sumL z k).l])
  case atStart => exact ⟨0, by omega, rfl, (New.refl _).alloc _, by simpa [sumL] using Box.made w 25 #[.int .i64 0, .int .i64 0, .int .i64 0, .int .i64 0]⟩
  case round =>
    obtain ⟨k, hk, rfl, nw, bx⟩ := hrel
    have b0 := bx.cell 0
    have b1 := bx.cell 1
    have b2 := bx.cell 2
    have b3 := bx.cell 3
    have f0 := bx.frozen 0
    have f1 := bx.frozen 1
    have f2 := bx.frozen 2
    have f3 := bx.frozen 3
    simp only [List.getElem?_toArray, List.getElem?_cons_zero, List.getElem?_cons_succ] at b0 b1 b2 b3
    by_cases hlt : k < n
    · obtain ⟨ad, rfl, hc⟩ := hL.2 (by omega)
      obtain ⟨hp, c0, c1, c2, c3⟩ := (hc k hlt).new nw
      have hs : sumL z (k + 1) = addL (sumL z k) (z k) := rfl
      have HC := Lib.hid (⟨hc, hL, hs⟩ : _ ∧ _ ∧ _)
      clear hc hL hs
      generalize z k = y at *
      generalize sumL z k = s at *
      obtain ⟨yc, ye, yn, yl⟩ := y
      obtain ⟨sc, se, sn, sl⟩ := s
      simp only at c0 c1 c2 c3 b0 b1 b2 b3
      have hlt' : (k : Int) < (n : Int) := by omega
      by_cases hm : sl < yl
      · have mx : max sl yl = yl := by omega
        have HM := Lib.hid mx
        clear mx
        go_wp2_with fail
        go_still_tail 33, (by kernel_rfl)
        go_wp2_with fail
        go_roundg (gk - 1)
        case rel =>
          refine ⟨k + 1, by omega, by go_num, ?_, ?_⟩
          · exact ((((nw.setCell (by simp) _).setCell (by simp) _).setCell (by simp) _).setCell (by simp) _).drew
          · rw [HC.out.2.2]
            simp only [addL, HM.out]
            exact (((((bx.put 0 _).put 1 _).put 2 _).put 3 _)).draws 1
        case measure => omega
      · have mx : max sl yl = sl := by omega
        have HM := Lib.hid mx
        clear mx
        go_wp2_with fail
        go_still_tail 33, (by kernel_rfl)
        go_wp2_with fail
        go_roundg (gk - 1)
        case rel =>
          refine ⟨k + 1, by omega, by go_num, ?_, ?_⟩
          · exact ((((nw.setCell (by simp) _).setCell (by simp) _).setCell (by simp) _).setCell (by simp) _).drew
          · rw [HC.out.2.2]
            simp only [addL, HM.out]
            exact (((((bx.put 0 _).put 1 _).put 2 _).put 3 _)).draws 1
        case measure => omega
    · have hke : k = n := by omega
      subst hke
      have bl := bx.lt
      have SU := HS.out wr nw
      have KS0 : ∀ v, New wr v → New wr v ∧ v.cell? ⟨w.heap.size, 0, none⟩ = some (.int .i64 (sumL z k).c) ∧ v.cell? ⟨w.heap.size, 1, none⟩ = some (.int .i64 (sumL z k).e) ∧ v.cell? ⟨w.heap.size, 2, none⟩ = some (.int .i64 (sumL z k).n) ∧ v.cell? ⟨w.heap.size, 3, none⟩ = some (.int .i64 (sumL z k).l) :=
        fun v n => ⟨n, (n.cell bl).trans b0, (n.cell bl).trans b1, (n.cell bl).trans b2, (n.cell bl).trans b3⟩
      have KS := Lib.hid KS0
      have HT := Lib.hid (fun v (n : New wr v) => HS.out v (nw.trans n))
      clear KS0 SU hL b0 b1 b2 b3 f0 f1 f2 f3 bx bl
      generalize sumL z k = s at *
      obtain ⟨sc, se, sn, sl⟩ := s
      simp only [Ld.agg] at HT KS
      go_wp2_with fail
      go_region_held3 (fun w' => New wr w' ∧ w'.cell? ⟨w.heap.size, 0, none⟩ = some (.int .i64 sc) ∧ w'.cell? ⟨w.heap.size, 1, none⟩ = some (.int .i64 se) ∧ w'.cell? ⟨w.heap.size, 2, none⟩ = some (.int .i64 sn) ∧ w'.cell? ⟨w.heap.size, 3, none⟩ = some (.int .i64 sl))
        (first | exact KS.out _ (New.refl _).drew | exact KS.out _ (New.trans (And.left (by assumption)) nn))
        (first
          | (go_at_call 7; refine (HT.out _ (And.left (by assumption))).mono ?_; rintro e w' ⟨rfl, nn⟩)
          | (go_at_call 6; refine (HL.out _).mono ?_; rintro e w' ⟨rfl, nn⟩))
      go_wp2_with fail
      exact bodyPost_ret (v := .bool true) (by simp [results, Try.results3, go_sem]) rfl ⟨rfl, nw.trans (And.left (by assumption))⟩
end Go.Proofs.Ytplejooihfhpdaa
