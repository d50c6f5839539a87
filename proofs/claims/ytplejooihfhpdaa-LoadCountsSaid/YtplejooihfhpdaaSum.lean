/- Contracts of layer load: Sum; and the row of loads that it reads. -/
import Derived.Test.YtplejooihfhpdaaProg
import Derived.Test.YtplejooihfhpdaaKit
import Derived.BigQuiet
import Derived.BigRegion
import Derived.Deep.QuietTactic
import Derived.Deep.LoopGhost
import Derived.StillTailTactics
import Derived.WalkMore
namespace Go.Proofs.Ytplejooihfhpdaa
open Go.RowKit
set_option linter.unusedVariables false

/-- a load: calls, errors, ended, longest -/
structure Ld where
  c : Int
  e : Int
  n : Int
  l : Int
def Ld.agg (z : Ld) : Value := .agg #[.int .i64 z.c, .int .i64 z.e, .int .i64 z.n, .int .i64 z.l]
def i64 (n : Int) : Prop := -9223372036854775808 ≤ n ∧ n ≤ 9223372036854775807
def Ld.ok (z : Ld) : Prop := i64 z.c ∧ i64 z.e ∧ i64 z.n ∧ i64 z.l
/-- what is added up to k -/
def addL (s z : Ld) : Ld := ⟨wrap64 (s.c + z.c), wrap64 (s.e + z.e), wrap64 (s.n + z.n), max s.l z.l⟩
def sumL (z : Nat → Ld) : Nat → Ld
  | 0 => ⟨0, 0, 0, 0⟩
  | k + 1 => addL (sumL z k) (z k)

/-- the four cells of a load at an address -/
def At4 (w : World) (p : Addr) (z : Ld) : Prop := p.block < w.heap.size ∧ w.cell? p = some (.int .i64 z.c) ∧ w.cell? ⟨p.block, p.off + 1, none⟩ = some (.int .i64 z.e) ∧ w.cell? ⟨p.block, p.off + 2, none⟩ = some (.int .i64 z.n) ∧ w.cell? ⟨p.block, p.off + 3, none⟩ = some (.int .i64 z.l)
theorem At4.new {w w' : World} {p : Addr} {z : Ld} (h : At4 w p z) (n : New w w') : At4 w' p z :=
  ⟨Nat.lt_of_lt_of_le h.1 n.lt, (n.cell h.1).trans h.2.1, (n.cell (p := ⟨p.block, p.off + 1, none⟩) h.1).trans h.2.2.1, (n.cell (p := ⟨p.block, p.off + 2, none⟩) h.1).trans h.2.2.2.1, (n.cell (p := ⟨p.block, p.off + 3, none⟩) h.1).trans h.2.2.2.2⟩
/-- a slice of n loads -/
def Loads (w : World) (A : Option Addr) (n : Nat) (z : Nat → Ld) : Prop :=
  (∀ i, i < n → (z i).ok) ∧ (0 < n → ∃ ad : Addr, A = some ad ∧ ∀ i, i < n → At4 w (ad.add (i * 4)) (z i))
theorem Loads.new {w w' : World} {A : Option Addr} {n : Nat} {z : Nat → Ld} (h : Loads w A n z) (m : New w w') : Loads w' A n z := by
  refine ⟨h.1, fun h0 => ?_⟩
  obtain ⟨ad, e, hc⟩ := h.2 h0
  exact ⟨ad, e, fun i hi => (hc i hi).new m⟩

theorem wrap_in (x : Int) : i64 (wrap64 x) := by unfold i64 wrap64; omega
theorem sum_ok {z : Nat → Ld} {n : Nat} (h : ∀ i, i < n → (z i).ok) : ∀ k, k ≤ n → (sumL z k).ok ∧ 0 ≤ (sumL z k).l
  | 0, _ => by simp [sumL, Ld.ok, i64]
  | k + 1, hk => by
    obtain ⟨⟨a, b, c, d⟩, e⟩ := sum_ok h k (by omega)
    obtain ⟨_, _, _, f⟩ := h k (by omega)
    refine ⟨⟨wrap_in _, wrap_in _, wrap_in _, ?_⟩, ?_⟩
    · simp only [sumL, addL, i64] at *; omega
    · simp only [sumL, addL] at *; omega
theorem wrap_id {x : Int} (h : i64 x) : wrap64 x = x := by unfold i64 at h; unfold wrap64; omega
/-- a load of nothing adds nothing -/
theorem add_none {s z : Ld} (h : s.ok) (h0 : 0 ≤ s.l) (hz : z.c = 0 ∧ z.e = 0 ∧ z.n = 0 ∧ z.l = 0) : addL s z = s := by
  obtain ⟨a, b, c, d⟩ := h
  obtain ⟨z1, z2, z3, z4⟩ := hz
  simp only [addL, z1, z2, z3, z4, Int.add_zero, wrap_id a, wrap_id b, wrap_id c]
  rw [Int.max_eq_left h0]

theorem eql_none (z : Ld) (h : ¬ (z.c = 0 ∧ z.e = 0 ∧ z.n = 0 ∧ z.l = 0)) (w : World) :
    (binOp .eql 25 (.agg #[.int .i64 z.c, .int .i64 z.e, .int .i64 z.n, .int .i64 z.l]) (.agg #[.int .i64 0, .int .i64 0, .int .i64 0, .int .i64 0])).run Try.prog w = .ok (.bool false) w := by
  obtain ⟨a, b, c, d⟩ := z
  simp only at h ⊢
  by_cases h1 : a = 0
  · subst h1
    by_cases h2 : b = 0
    · subst h2
      by_cases h3 : c = 0
      · subst h3
        have h4 : d ≠ 0 := fun e => h ⟨rfl, rfl, rfl, e⟩
        go_simp
      · go_simp
    · go_simp
  · go_simp

set_option maxHeartbeats 1000000 in
theorem sum_any (A : Option Addr) (n cap : Nat) (z : Nat → Ld) (hn : n ≤ 60) (w : World) (hL : Loads w A n z) :
    Calls Try.prog 7 #[.slice A n cap] w fun e w' => e = .returned (sumL z n).agg ∧ New w w' := by
  go_enter Try.func7, Try.ntmps7
  go_wp2_with fail
  go_loopg [8] n (fun g i wr => ∃ k : Nat, k + g = n ∧ i = .int .i64 k ∧ New w wr ∧ Box wr w.heap.size 25 #[.int .i64 0, .int .i64 0, .int .i64 0, .int .i64 0] ∧ Box wr (w.heap.size + 1) 25 #[.int .i64 (sumL z k).c, .int .i64 (sumL z k).e, .int .i64 (sumL z k).n, .int .i64 (sumL z k).l])
  case atStart => exact ⟨0, by omega, rfl, ((New.refl _).alloc _).alloc _, (Box.made w 25 _).alloc _, by simpa [sumL] using Box.made (w.alloc (.cells #[.int .i64 0, .int .i64 0, .int .i64 0, .int .i64 0] 25)) 25 #[.int .i64 0, .int .i64 0, .int .i64 0, .int .i64 0]⟩
  case round =>
    obtain ⟨k, hk, rfl, nw, br, bx⟩ := hrel
    by_cases hlt : k < n
    · obtain ⟨ad, rfl, hc⟩ := hL.2 (by omega)
      obtain ⟨hp, c0, c1, c2, c3⟩ := (hc k hlt).new nw
      have so := sum_ok hL.1 k (by omega)
      have zo := hL.1 k hlt
      have b0 := bx.cell 0
      have b1 := bx.cell 1
      have b2 := bx.cell 2
      have b3 := bx.cell 3
      have f0 := bx.frozen 0
      have f1 := bx.frozen 1
      have f2 := bx.frozen 2
      have f3 := bx.frozen 3
      have bl := bx.lt
      simp only [List.getElem?_toArray, List.getElem?_cons_zero, List.getElem?_cons_succ] at b0 b1 b2 b3
      have hs : sumL z (k + 1) = addL (sumL z k) (z k) := rfl
      have HC := Lib.hid (⟨hc, hL, so, zo, hs⟩ : _ ∧ _ ∧ _ ∧ _ ∧ _)
      clear hc hL so zo hs
      generalize z k = y at *
      generalize sumL z k = s at *
      obtain ⟨yc, ye, yn, yl⟩ := y
      obtain ⟨sc, se, sn, sl⟩ := s
      simp only at c0 c1 c2 c3 b0 b1 b2 b3
      by_cases hz : yc = 0 ∧ ye = 0 ∧ yn = 0 ∧ yl = 0
      · obtain ⟨rfl, rfl, rfl, rfl⟩ := hz
        have he : addL ⟨sc, se, sn, sl⟩ ⟨0, 0, 0, 0⟩ = ⟨sc, se, sn, sl⟩ := add_none HC.out.2.2.1.1 HC.out.2.2.1.2 ⟨rfl, rfl, rfl, rfl⟩
        have HE := Lib.hid he
        clear he
        go_wp2_with fail
        go_roundg (gk - 1)
        case rel => exact ⟨k + 1, by omega, by go_num, nw.alloc _, br.alloc _, by rw [HC.out.2.2.2.2, HE.out]; exact bx.alloc _⟩
        case measure => omega
      · have he := fun w => eql_none ⟨yc, ye, yn, yl⟩ hz w
        simp only at he
        by_cases hm : sl < yl
        · have mx : max sl yl = yl := by omega
          have HM := Lib.hid mx
          clear mx hz
          go_wp2_with fail
          go_roundg (gk - 1)
          case rel =>
            refine ⟨k + 1, by omega, by go_num, ((((nw.setCell (by simp) _).setCell (by simp) _).setCell (by simp) _).setCell (by simp) _).alloc _, ((((br.off (by simp) _).off (by simp) _).off (by simp) _).off (by simp) _).alloc _, ?_⟩
            rw [HC.out.2.2.2.2]
            simp only [addL, HM.out]
            exact (((((bx.put 0 _).put 1 _).put 2 _).put 3 _)).alloc _
          case measure => omega
        · have mx : max sl yl = sl := by omega
          have HM := Lib.hid mx
          clear mx hz
          go_wp2_with fail
          go_roundg (gk - 1)
          case rel =>
            refine ⟨k + 1, by omega, by go_num, ((((nw.setCell (by simp) _).setCell (by simp) _).setCell (by simp) _).setCell (by simp) _).alloc _, ((((br.off (by simp) _).off (by simp) _).off (by simp) _).off (by simp) _).alloc _, ?_⟩
            rw [HC.out.2.2.2.2]
            simp only [addL, HM.out]
            exact (((((bx.put 0 _).put 1 _).put 2 _).put 3 _)).alloc _
          case measure => omega
    · have hke : k = n := by omega
      subst hke
      have b0 := bx.cell 0
      have b1 := bx.cell 1
      have b2 := bx.cell 2
      have b3 := bx.cell 3
      have bl := bx.lt
      have r0 := br.cell 0
      have r1 := br.cell 1
      have r2 := br.cell 2
      have r3 := br.cell 3
      have f0 := br.frozen 0
      have f1 := br.frozen 1
      have f2 := br.frozen 2
      have f3 := br.frozen 3
      simp only [List.getElem?_toArray, List.getElem?_cons_zero, List.getElem?_cons_succ] at b0 b1 b2 b3 r0 r1 r2 r3
      clear hL
      go_wp2_with fail
      refine bodyPost_ret (v := (sumL z k).agg) (by simp [results, Try.results7, go_sem, Ld.agg, r0, r1, r2, r3]) rfl ⟨rfl, ?_⟩
      exact (((nw.setCell (by simp) _).setCell (by simp) _).setCell (by simp) _).setCell (by simp) _
end Go.Proofs.Ytplejooihfhpdaa
