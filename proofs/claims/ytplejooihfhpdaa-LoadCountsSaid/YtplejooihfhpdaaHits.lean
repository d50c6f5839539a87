/- Hits of Lookups. -/
import Derived.Test.YtplejooihfhpdaaOps
namespace Go.Proofs.Ytplejooihfhpdaa
open Go.RowKit
set_option linter.unusedVariables false

/-- how many Lookups of the first n that have ended told e -/
def hit (z : Nat → Nm) (e : Int) : Nat → Nat
  | 0 => 0
  | n + 1 => hit z e n + if (z n).kd = 2 ∧ (z n).to ≠ -1 ∧ (z n).er = e then 1 else 0
theorem hit_le (z : Nat → Nm) (e : Int) : ∀ n, hit z e n ≤ n
  | 0 => Nat.le_refl _
  | n + 1 => by have := hit_le z e n; unfold hit; split <;> omega
theorem hit_no {z : Nat → Nm} {e : Int} {n : Nat} (h : ¬ ((z n).kd = 2 ∧ (z n).to ≠ -1 ∧ (z n).er = e)) : hit z e (n + 1) = hit z e n := by
  show hit z e n + _ = _
  rw [if_neg h, Nat.add_zero]
theorem hit_yes {z : Nat → Nm} {e : Int} {n : Nat} (h : (z n).kd = 2 ∧ (z n).to ≠ -1 ∧ (z n).er = e) : hit z e (n + 1) = hit z e n + 1 := by
  show hit z e n + _ = _
  rw [if_pos h]

set_option maxRecDepth 100000 in
set_option maxHeartbeats 2000000 in
theorem hits_any (A : Option Addr) (n cap : Nat) (o : Nat → Array Value) (z : Nat → Nm) (hn : n ≤ 60) (w : World) (hL : Ops w A n o z) :
    Calls Try.prog 10 #[.slice A n cap] w fun x w' => x = .returned (.tuple #[.int .i64 (hit z 0 n), .int .i64 (hit z 7 n)]) ∧ New w w' := by
  go_enter Try.func10, Try.ntmps10
  go_wp2_with fail
  go_loopg [2, 3, 8] n (fun g s t i wr => ∃ k : Nat, k + g = n ∧ i = .int .i64 k ∧ s = .int .i64 (hit z 0 k : Nat) ∧ t = .int .i64 (hit z 7 k : Nat) ∧ New w wr)
  case atStart => exact ⟨0, by omega, rfl, rfl, rfl, New.refl _⟩
  case round =>
    obtain ⟨k, hk, rfl, rfl, rfl, nw⟩ := hrel
    by_cases hlt : k < n
    · obtain ⟨ad, rfl, hc⟩ := hL.2 (by omega)
      obtain ⟨hi, hok, h0, h2, h9, h17, h18⟩ := hL.1 k hlt
      have LA := (hc k hlt).new nw
      have OA := OpAt.made wr (o k) hi
      have IA := Lib.hid hi
      have EY := Lib.hid (fun h w => ended_yes (o k) (z k).to h18 h w)
      have EN := Lib.hid (fun (h : (z k).to = -1) w => ended_no (o k) (by rw [h18, h]) w)
      have C2 := Lib.hid (fun w1 (n1 : New (wr.alloc (.cells (o k) 45)) w1) => (n1.cell (p := ⟨wr.heap.size, 9, none⟩) (by simp)).trans (((Box.made wr 45 _).cell 9).trans h9))
      have b0 := hit_le z 0 k
      have b7 := hit_le z 7 k
      have HL := Lib.hid (⟨hL, hc, hok, h0, h17, hi⟩ : _ ∧ _ ∧ _ ∧ _ ∧ _ ∧ _)
      clear hL hc hok h0 h17 hi
      generalize o k = oo at *
      have n0 := fun h => hit_no (z := z) (e := 0) (n := k) h
      have n7 := fun h => hit_no (z := z) (e := 7) (n := k) h
      have y0 := fun h => hit_yes (z := z) (e := 0) (n := k) h
      have y7 := fun h => hit_yes (z := z) (e := 7) (n := k) h
      by_cases hk2 : (z k).kd = 2
      · by_cases ht : (z k).to = -1
        · have HH := Lib.hid (⟨n0 (fun h => h.2.1 ht), n7 (fun h => h.2.1 ht)⟩ : _ ∧ _)
          have t2 : (((z k).kd) != 2) = false := by simpa using hk2
          have HT := Lib.hid ht
          clear n0 n7 y0 y7 ht hk2 h18
          generalize (z k).kd = kd at *
          generalize (z k).er = er at *
          generalize hit z 0 k = q0 at *
          generalize hit z 7 k = q7 at *
          go_wp2_with (first | (refine wpl_load rfl rfl LA rfl ?_) | (refine wpl_store rfl rfl rfl rfl IA.out rfl ?_) | (refine wpl_load rfl rfl OA rfl ?_) | (go_at_call 19; refine (EN.out HT.out _).mono ?_; rintro e w1 ⟨rfl, n1⟩))
          go_roundg (gk - 1)
          case rel => exact ⟨k + 1, by omega, by go_num, by rw [HH.out.1], by rw [HH.out.2], (nw.alloc _).trans n1⟩
          case measure => omega
        · by_cases e0 : (z k).er = 0
          · have e7 : (z k).er ≠ 7 := by omega
            have HH := Lib.hid (⟨y0 ⟨hk2, ht, e0⟩, n7 (fun h => e7 h.2.2)⟩ : _ ∧ _)
            have t2 : (((z k).kd) != 2) = false := by simpa using hk2
            have t3 : (((z k).er) == 0) = true := by simpa using e0
            have HT := Lib.hid ht
            clear n0 n7 y0 y7 ht hk2 h18 e0 e7
            generalize (z k).kd = kd at *
            generalize (z k).er = er at *
            generalize hit z 0 k = q0 at *
            generalize hit z 7 k = q7 at *
            go_wp2_with (first | (refine wpl_load rfl rfl LA rfl ?_) | (refine wpl_store rfl rfl rfl rfl IA.out rfl ?_) | (refine wpl_load rfl rfl OA rfl ?_) | (go_at_call 19; refine (EY.out HT.out _).mono ?_; rintro e w1 ⟨rfl, n1⟩; have c9 := C2.out _ n1))
            go_roundg (gk - 1)
            case rel => exact ⟨k + 1, by omega, by go_num, by rw [HH.out.1]; go_num, by rw [HH.out.2], (nw.alloc _).trans n1⟩
            case measure => omega
          · by_cases e7 : (z k).er = 7
            · have t3 : (((z k).er) == 0) = false := by simpa using e0
              have HH := Lib.hid (⟨n0 (fun h => e0 h.2.2), y7 ⟨hk2, ht, e7⟩⟩ : _ ∧ _)
              have t2 : (((z k).kd) != 2) = false := by simpa using hk2
              have t4 : (((z k).er) == 7) = true := by simpa using e7
              have HT := Lib.hid ht
              clear n0 n7 y0 y7 ht hk2 h18 e0 e7
              generalize (z k).kd = kd at *
              generalize (z k).er = er at *
              generalize hit z 0 k = q0 at *
              generalize hit z 7 k = q7 at *
              go_wp2_with (first | (refine wpl_load rfl rfl LA rfl ?_) | (refine wpl_store rfl rfl rfl rfl IA.out rfl ?_) | (refine wpl_load rfl rfl OA rfl ?_) | (go_at_call 19; refine (EY.out HT.out _).mono ?_; rintro e w1 ⟨rfl, n1⟩; have c9 := C2.out _ n1))
              go_roundg (gk - 1)
              case rel => exact ⟨k + 1, by omega, by go_num, by rw [HH.out.1], by rw [HH.out.2]; go_num, (nw.alloc _).trans n1⟩
              case measure => omega
            · have t3 : (((z k).er) == 0) = false := by simpa using e0
              have HH := Lib.hid (⟨n0 (fun h => e0 h.2.2), n7 (fun h => e7 h.2.2)⟩ : _ ∧ _)
              have t2 : (((z k).kd) != 2) = false := by simpa using hk2
              have t4 : (((z k).er) == 7) = false := by simpa using e7
              have HT := Lib.hid ht
              clear n0 n7 y0 y7 ht hk2 h18 e0 e7
              generalize (z k).kd = kd at *
              generalize (z k).er = er at *
              generalize hit z 0 k = q0 at *
              generalize hit z 7 k = q7 at *
              go_wp2_with (first | (refine wpl_load rfl rfl LA rfl ?_) | (refine wpl_store rfl rfl rfl rfl IA.out rfl ?_) | (refine wpl_load rfl rfl OA rfl ?_) | (go_at_call 19; refine (EY.out HT.out _).mono ?_; rintro e w1 ⟨rfl, n1⟩; have c9 := C2.out _ n1))
              go_roundg (gk - 1)
              case rel => exact ⟨k + 1, by omega, by go_num, by rw [HH.out.1], by rw [HH.out.2], (nw.alloc _).trans n1⟩
              case measure => omega
      · have HH := Lib.hid (⟨n0 (fun h => hk2 h.1), n7 (fun h => hk2 h.1)⟩ : _ ∧ _)
        have t2 : (((z k).kd) != 2) = true := by simpa using hk2
        clear n0 n7 y0 y7 hk2
        generalize (z k).kd = kd at *
        generalize (z k).er = er at *
        generalize (z k).to = to at *
        generalize hit z 0 k = q0 at *
        generalize hit z 7 k = q7 at *
        go_wp2_with (first | (refine wpl_load rfl rfl LA rfl ?_) | (refine wpl_store rfl rfl rfl rfl IA.out rfl ?_) | (refine wpl_load rfl rfl OA rfl ?_))
        go_roundg (gk - 1)
        case rel => exact ⟨k + 1, by omega, by go_num, by rw [HH.out.1], by rw [HH.out.2], nw.alloc _⟩
        case measure => omega
    · have hke : k = n := by omega
      subst hke
      clear hL
      go_wp2_with fail
      go_ret2
      exact ⟨rfl, nw⟩
end Go.Proofs.Ytplejooihfhpdaa
