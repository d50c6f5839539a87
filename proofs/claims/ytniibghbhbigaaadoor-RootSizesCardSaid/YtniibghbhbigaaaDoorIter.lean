/- The iterator over the sizes: all and its function. -/
import Derived.RangeFuncNested
import Derived.RangeFuncBound
import Derived.RangeFuncCalls
import Derived.RangeFuncLeaves
import Derived.Shelf.Abstract
import Derived.Shelf.RegionOpen
import Derived.WalkKit
import Derived.OwnWalkIn
import Derived.TacticsInMore
import Derived.LoopNIn
import Derived.LoopIn
import Derived.Maps.AppendAt
import Derived.Test.YtniibghbhbigaaaDoorSzp
import Derived.Test.YtniibghbhbigaaaDoorOrder
namespace Go.Proofs.YtniibghbhbigaaaDoor
open Go.RowKit Go.Shelf
set_option linter.unusedVariables false

theorem Table.below {n₀ : Nat} {a b : World} (h : Table a) (hb : Below n₀ a b) (h0 : 0 < n₀) : Table b := by
  obtain ⟨c0, c1, c2, c3, c4, c5⟩ := h
  exact ⟨(hb.cell (p := ⟨0, 0, none⟩) h0).trans c0, (hb.cell (p := ⟨0, 1, none⟩) h0).trans c1, (hb.cell (p := ⟨0, 2, none⟩) h0).trans c2, (hb.cell (p := ⟨0, 3, none⟩) h0).trans c3, (hb.cell (p := ⟨0, 4, none⟩) h0).trans c4, (hb.cell (p := ⟨0, 5, none⟩) h0).trans c5⟩
/-- what the loop's body keeps for the iterator: all that lay, and the iterator's own box -/
def Kq (n₀ Bn : Nat) (A B : World) : Prop := Below n₀ A B ∧ Bn < A.heap.size ∧ B.heap[Bn]? = A.heap[Bn]?
theorem Kq.refl {n₀ Bn : Nat} (A : World) (h : Bn < A.heap.size) : Kq n₀ Bn A A := ⟨Below.refl _ _, h, rfl⟩
theorem Kq.trans {n₀ Bn : Nat} {A B C : World} (h : Kq n₀ Bn A B) (k : Kq n₀ Bn B C) : Kq n₀ Bn A C := ⟨h.1.trans k.1, h.2.1, k.2.2.trans h.2.2⟩
theorem Kq.cell {n₀ Bn : Nat} {A B : World} (h : Kq n₀ Bn A B) {v : Value} (hc : A.cell? ⟨Bn, 0, none⟩ = some v) : B.cell? ⟨Bn, 0, none⟩ = some v := by
  unfold World.cell? at hc ⊢
  dsimp only at hc ⊢
  rw [h.2.2]
  exact hc
theorem bit0 : ∀ k : Nat, k < 32 → (bits BinOp.and IntKind.i64 (k : Int) 1 == 1) = decide (k / 2 ^ 0 % 2 = 1) := by decide +kernel
theorem bit1 : ∀ k : Nat, k < 32 → (bits BinOp.and IntKind.i64 ((k : Int) / 2) 1 == 1) = decide (k / 2 ^ 1 % 2 = 1) := by decide +kernel
theorem bit2 : ∀ k : Nat, k < 32 → (bits BinOp.and IntKind.i64 ((k : Int) / 4) 1 == 1) = decide (k / 2 ^ 2 % 2 = 1) := by decide +kernel
theorem bit3 : ∀ k : Nat, k < 32 → (bits BinOp.and IntKind.i64 ((k : Int) / 8) 1 == 1) = decide (k / 2 ^ 3 % 2 = 1) := by decide +kernel
theorem bit4 : ∀ k : Nat, k < 32 → (bits BinOp.and IntKind.i64 ((k : Int) / 16) 1 == 1) = decide (k / 2 ^ 4 % 2 = 1) := by decide +kernel
set_option maxRecDepth 100000 in
set_option maxHeartbeats 2000000 in
theorem all1_in (F : Fence) (n : Nat) (h6 : F.fn 21) (hro : F.round = none) (hn : 1 ≤ n) (l Bn n₀ : Nat) (M : Int) (m : Nat) (hM : M.toNat = m) (hm : m ≤ 16777216) (h0n : 0 < n₀) (J Jx : List Nat → World → Prop)
    (hY : ∀ pre x W, J pre W → pre.length < (szs m).length → YieldAt F (n - 1) Tryd.prog l #[.int .i64 (x : Nat)] W fun e W' =>
      (e = .returned (.bool true) ∧ J (pre ++ [x]) W' ∧ Kq n₀ Bn W W') ∨ (e = .returned (.bool false) ∧ Jx (pre ++ [x]) W'))
    (W : World) (hBn : W.cell? ⟨Bn, 0, none⟩ = some (.int .i64 M)) (hB : Bn < W.heap.size) (hT : Table W) (h0 : J [] W) :
    CallsIn F n Tryd.prog 21 #[.func (.yield l) #[] #[], .pointer (some ⟨Bn, 0, none⟩)] W fun e W' => (∃ v, e = .returned v) ∧
      ((∃ ys, ys = szs m ∧ J ys W') ∨ (∃ pre, pre <+: szs m ∧ Jx pre W')) := by
  refine callsIn_of_wp Tryd.func21 rfl h6 ?_ hro
  simp only [Tryd.ntmps21, List.size_toArray, List.length_cons, List.length_nil, Nat.reduceAdd, Nat.reduceSub, Array.replicate_succ, Array.replicate_zero, List.push_toArray, List.append_toArray, List.nil_append, List.cons_append]
  gi_wp2
  gi_loopw [8] (fun c wr => ∃ (k : Nat) (pre : List Nat), c = .int .i64 (k : Nat) ∧ k ≤ 32 ∧ szs m = pre ++ tailM m (32 - k) ∧ J pre wr ∧ Kq n₀ Bn W wr)
    (fun c wr => 32 - (intOf c).toNat)
  case atStart => exact ⟨0, [], rfl, by decide, rfl, h0, Kq.refl _ hB⟩
  case round =>
    obtain ⟨k, pre, rfl, hk, hx, hJs, hbl⟩ := hrel
    by_cases hlt : k < 32
    · have hlt' : (k : Int) < 32 := by omega
      obtain ⟨-, c1, c2, c3, c4, c5⟩ := hT.below hbl.1 h0n
      have hcB := hbl.cell hBn
      gi_wp2
      gi_loopw [4, 13] (fun d c wq => ∃ i : Nat, c = .int .i64 (i : Nat) ∧ d = .int .i64 (oddP i k : Nat) ∧ i ≤ 5 ∧ wq = wr) (fun d c wq => 5 - (intOf c).toNat)
      case atStart => exact ⟨0, rfl, rfl, by decide, rfl⟩
      case round =>
        obtain ⟨i, rfl, rfl, hi, rfl⟩ := hrel
        by_cases hi5 : i < 5
        · rcases (show i = 0 ∨ i = 1 ∨ i = 2 ∨ i = 3 ∨ i = 4 by omega) with rfl | rfl | rfl | rfl | rfl
          · have tb := bit0 k hlt
            have hs : oddP 1 k = if k / 2 ^ 0 % 2 = 1 then oddP 0 k * 3 else oddP 0 k := rfl
            have hbd := (odd_bd k hlt 1 (by decide)).2
            by_cases hb : k / 2 ^ 0 % 2 = 1
            · rw [decide_eq_true hb] at tb
              rw [if_pos hb] at hs
              have hw : wrap64 ((oddP 0 k : Int) * 3) = (oddP 0 k : Int) * 3 := by unfold wrap64; omega
              have HS := Lib.hid hs
              clear hb hs hbd
              gi_wp2
              go_roundw
              case rel => exact ⟨1, rfl, by rw [HS.out]; go_num, by decide, trivial⟩
              case measure => simp [intOf]
            · rw [decide_eq_false hb] at tb
              rw [if_neg hb] at hs
              have HS := Lib.hid hs
              clear hb hs hbd
              gi_wp2
              go_roundw
              case rel => exact ⟨1, rfl, by rw [HS.out], by decide, trivial⟩
              case measure => simp [intOf]
          · have tb := bit1 k hlt
            have hs : oddP 2 k = if k / 2 ^ 1 % 2 = 1 then oddP 1 k * 5 else oddP 1 k := rfl
            have hbd := (odd_bd k hlt 2 (by decide)).2
            by_cases hb : k / 2 ^ 1 % 2 = 1
            · rw [decide_eq_true hb] at tb
              rw [if_pos hb] at hs
              have hw : wrap64 ((oddP 1 k : Int) * 5) = (oddP 1 k : Int) * 5 := by unfold wrap64; omega
              have HS := Lib.hid hs
              clear hb hs hbd
              gi_wp2
              go_roundw
              case rel => exact ⟨2, rfl, by rw [HS.out]; go_num, by decide, trivial⟩
              case measure => simp [intOf]
            · rw [decide_eq_false hb] at tb
              rw [if_neg hb] at hs
              have HS := Lib.hid hs
              clear hb hs hbd
              gi_wp2
              go_roundw
              case rel => exact ⟨2, rfl, by rw [HS.out], by decide, trivial⟩
              case measure => simp [intOf]
          · have tb := bit2 k hlt
            have hs : oddP 3 k = if k / 2 ^ 2 % 2 = 1 then oddP 2 k * 17 else oddP 2 k := rfl
            have hbd := (odd_bd k hlt 3 (by decide)).2
            by_cases hb : k / 2 ^ 2 % 2 = 1
            · rw [decide_eq_true hb] at tb
              rw [if_pos hb] at hs
              have hw : wrap64 ((oddP 2 k : Int) * 17) = (oddP 2 k : Int) * 17 := by unfold wrap64; omega
              have HS := Lib.hid hs
              clear hb hs hbd
              gi_wp2
              go_roundw
              case rel => exact ⟨3, rfl, by rw [HS.out]; go_num, by decide, trivial⟩
              case measure => simp [intOf]
            · rw [decide_eq_false hb] at tb
              rw [if_neg hb] at hs
              have HS := Lib.hid hs
              clear hb hs hbd
              gi_wp2
              go_roundw
              case rel => exact ⟨3, rfl, by rw [HS.out], by decide, trivial⟩
              case measure => simp [intOf]
          · have tb := bit3 k hlt
            have hs : oddP 4 k = if k / 2 ^ 3 % 2 = 1 then oddP 3 k * 257 else oddP 3 k := rfl
            have hbd := (odd_bd k hlt 4 (by decide)).2
            by_cases hb : k / 2 ^ 3 % 2 = 1
            · rw [decide_eq_true hb] at tb
              rw [if_pos hb] at hs
              have hw : wrap64 ((oddP 3 k : Int) * 257) = (oddP 3 k : Int) * 257 := by unfold wrap64; omega
              have HS := Lib.hid hs
              clear hb hs hbd
              gi_wp2
              go_roundw
              case rel => exact ⟨4, rfl, by rw [HS.out]; go_num, by decide, trivial⟩
              case measure => simp [intOf]
            · rw [decide_eq_false hb] at tb
              rw [if_neg hb] at hs
              have HS := Lib.hid hs
              clear hb hs hbd
              gi_wp2
              go_roundw
              case rel => exact ⟨4, rfl, by rw [HS.out], by decide, trivial⟩
              case measure => simp [intOf]
          · have tb := bit4 k hlt
            have hs : oddP 5 k = if k / 2 ^ 4 % 2 = 1 then oddP 4 k * 65537 else oddP 4 k := rfl
            have hbd := (odd_bd k hlt 5 (by decide)).2
            by_cases hb : k / 2 ^ 4 % 2 = 1
            · rw [decide_eq_true hb] at tb
              rw [if_pos hb] at hs
              have hw : wrap64 ((oddP 4 k : Int) * 65537) = (oddP 4 k : Int) * 65537 := by unfold wrap64; omega
              have HS := Lib.hid hs
              clear hb hs hbd
              gi_wp2
              go_roundw
              case rel => exact ⟨5, rfl, by rw [HS.out]; go_num, by decide, trivial⟩
              case measure => simp [intOf]
            · rw [decide_eq_false hb] at tb
              rw [if_neg hb] at hs
              have HS := Lib.hid hs
              clear hb hs hbd
              gi_wp2
              go_roundw
              case rel => exact ⟨5, rfl, by rw [HS.out], by decide, trivial⟩
              case measure => simp [intOf]
        · obtain rfl : i = 5 := by omega
          have htl : tailM m (32 - k) = segF m 33 (oddP 5 k) ++ tailM m (31 - k) := by
            rw [show 32 - k = (31 - k) + 1 by omega]
            show segF m 33 (oddP 5 (31 - (31 - k))) ++ _ = _
            rw [show 31 - (31 - k) = k by omega]
          rw [htl] at hx
          have hob := odd_pos k hlt
          clear c1 c2 c3 c4 c5 htl
          gi_wp2
          gi_loopw [4, 7] (fun d c wq => ∃ (j nn : Nat) (pr : List Nat), c = .int .i64 (j : Nat) ∧ d = .int .i64 (nn : Nat) ∧ j ≤ 33 ∧ 1 ≤ nn ∧ nn ≤ 4294967295 ∧ szs m = pr ++ (segF m (33 - j) nn ++ tailM m (31 - k)) ∧ J pr wq ∧ Kq n₀ Bn W wq) (fun d c wq => 33 - (intOf c).toNat)
          case atStart => exact ⟨0, oddP 5 k, pre, rfl, rfl, by decide, hob.1, hob.2, hx, hJs, hbl⟩
          case round =>
            clear hbl hJs hx hcB
            obtain ⟨j, nn, pr, rfl, rfl, hj, hn1, hn2, hx, hJs, hbl⟩ := hrel
            have hcB := hbl.cell hBn
            by_cases hj2 : j < 33
            · have hj3 : (j : Int) ≤ 32 := by omega
              have hsg : segF m (33 - j) nn = if nn ≤ m then nn :: segF m (33 - (j + 1)) (nn * 2) else [] := by
                rw [show 33 - j = (33 - (j + 1)) + 1 by omega]; rfl
              by_cases hle : nn ≤ m
              · have hle' : (nn : Int) ≤ M := by omega
                rw [hsg, if_pos hle] at hx
                have hlen : pr.length < (szs m).length := by rw [hx]; simp
                have hx2 : szs m = (pr ++ [nn]) ++ (segF m (33 - (j + 1)) (nn * 2) ++ tailM m (31 - k)) := by rw [hx]; simp
                have HX := Lib.hid hx2
                have hw : wrap64 ((nn : Int) * 2) = (nn : Int) * 2 := by unfold wrap64; omega
                obtain ⟨fn, tmps, assign, body, hy, hR⟩ := hY pr nn wr hJs hlen
                clear hx hsg hx2 hlen
                gi_wp2
                refine hR.mono ?_
                rintro e W3 (⟨rfl, hJ3, hk3⟩ | ⟨rfl, hJx3⟩)
                · gi_wp2
                  go_roundw
                  case rel => exact ⟨_, _, _, _, _, _, _, _, _, _, _, _, _, _, _, _, _, ⟨j + 1, nn * 2, pr ++ [nn], by go_num, by go_num, by omega, by omega, by omega, HX.out, hJ3, hbl.trans hk3⟩, rfl⟩
                  case measure => simp [intOf]; omega
                · gi_wp2
                  refine bodyPost_ret (results_none rfl _ _ _) rfl ?_
                  exact ⟨⟨_, rfl⟩, .inr ⟨pr ++ [nn], ⟨_, HX.out.symm⟩, hJx3⟩⟩
              · have hle' : ¬ (nn : Int) ≤ M := by omega
                rw [hsg, if_neg hle] at hx
                have HX := Lib.hid hx
                clear hx hsg
                gi_wp2
                go_roundw
                case rel => exact ⟨k + 1, pr, by go_num, by omega, by rw [show 32 - (k + 1) = 31 - k by omega]; simpa using HX.out, hJs, hbl⟩
                case measure => simp [intOf]; omega
            · obtain rfl : j = 33 := by omega
              have HX := Lib.hid hx
              clear hx
              gi_wp2
              go_roundw
              case rel => exact ⟨k + 1, pr, by go_num, by omega, by rw [show 32 - (k + 1) = 31 - k by omega]; simpa [segF] using HX.out, hJs, hbl⟩
              case measure => simp [intOf]; omega
    · obtain rfl : k = 32 := by omega
      gi_wp2
      go_end0
      exact ⟨⟨_, rfl⟩, .inl ⟨pre, by simpa [tailM] using hx.symm, hJs⟩⟩
set_option maxHeartbeats 1000000 in
theorem all_in (F : Fence) (n : Nat) (h5 : F.fn 17) (hro : F.round = none) (M : Int) (w : World) :
    CallsIn F n Tryd.prog 17 #[.int .i64 M] w fun e w' => e = .returned (.func (.func 21) #[] #[.pointer (some ⟨w.heap.size, 0, none⟩)]) ∧ w' = w.alloc (.cells #[.int .i64 M] 3) := by
  refine callsIn_of_wp Tryd.func17 rfl h5 ?_ hro
  simp only [Tryd.ntmps17, List.size_toArray, List.length_cons, List.length_nil, Nat.reduceAdd, Nat.reduceSub, Array.replicate_succ, Array.replicate_zero, List.push_toArray, List.append_toArray, List.nil_append, List.cons_append]
  gi_wp2
  go_ret
  exact ⟨rfl, rfl⟩
theorem all_stops (F : Fence) (n : Nat) (h6 : F.fn 21) (hro : F.round = none) (hn : 1 ≤ n) (Bn n₀ : Nat) (M : Int) (m : Nat) (hM : M.toNat = m) (hm : m ≤ 16777216) (w : World) (hBn : Bn < w.heap.size) (h0n : 0 < n₀)
    (hc : w.cell? ⟨Bn, 0, none⟩ = some (.int .i64 M)) (hT : Table w) (h0w : 0 < w.heap.size) :
    SeqStopsK F n Tryd.prog 21 #[.pointer (some ⟨Bn, 0, none⟩)] (fun x : Nat => #[Value.int .i64 (x : Nat)]) (Kq n₀ Bn) (fun ys => ys = szs m) (fun pre => pre <+: szs m) (szs m).length w := fun l J Jx W hW _ _ hY h0 =>
  all1_in F n h6 hro hn l Bn n₀ M m hM hm h0n J Jx hY W ((hW.cell (p := ⟨Bn, 0, none⟩) hBn).trans hc) (Nat.lt_of_lt_of_le hBn hW.size) (hT.below hW h0w) h0
end Go.Proofs.YtniibghbhbigaaaDoor
