/- Errors: a map from each error to how many calls told it. -/
import Derived.Test.YtplejooihfhpdaaMap
namespace Go.Proofs.Ytplejooihfhpdaa
open Go.RowKit
set_option linter.unusedVariables false

def ErrsMap (n : Nat) (z : Nat → Nm) (w : World) (e : Ending) (w' : World) : Prop :=
  ∃ b, e = .returned (.map (some b)) ∧ MapIs w' b n (cntF z n) (sumF z (fun _ => 1) n) ∧ New w w'
set_option maxRecDepth 100000 in
set_option maxHeartbeats 2000000 in
theorem errors_any (A : Option Addr) (n cap : Nat) (o : Nat → Array Value) (z : Nat → Nm) (hn : n ≤ 60) (w : World) (hL : Ops w A n o z) :
    Calls Try.prog 8 #[.slice A n cap] w (ErrsMap n z w) := by
  have hmm := @run_makeMap Try.prog
  go_enter Try.func8, Try.ntmps8
  go_wp2_with fail
  go_loopg [9] n (fun g i wr => ∃ k : Nat, k + g = n ∧ i = .int .i64 k ∧ New w wr ∧ MapIs wr w.heap.size k (cntF z k) (sumF z (fun _ => 1) k))
  case atStart => exact ⟨0, by omega, rfl, (New.refl _).alloc _, by
    have := MapIs.made w
    rw [show cntF z 0 = fun _ => 0 from funext fun e => by unfold cntF told; split <;> rfl]
    exact this⟩
  case round =>
    obtain ⟨k, hk, rfl, nw, hM⟩ := hrel
    by_cases hlt : k < n
    · obtain ⟨ad, rfl, hc⟩ := hL.2 (by omega)
      obtain ⟨hi, hok, h0, h2, h9, h17, h18⟩ := hL.1 k hlt
      have LA := (hc k hlt).new nw
      have OA := OpAt.made wr (o k) hi
      have IA := Lib.hid hi
      have EY := Lib.hid (fun h w => ended_yes (o k) (z k).to h18 h w)
      have EN := Lib.hid (fun (h : (z k).to = -1) w => ended_no (o k) (by rw [h18, h]) w)
      have C2 := Lib.hid (fun w1 (n1 : New (wr.alloc (.cells (o k) 45)) w1) => (n1.cell (p := ⟨wr.heap.size, 9, none⟩) (by simp)).trans (((Box.made wr 45 _).cell 9).trans h9))
      have LM := Lib.hid (fun w1 (n1 : New (wr.alloc (.cells (o k) 45)) w1) => hM.new (((New.refl wr).alloc _).trans n1))
      have NW := Lib.hid (fun w1 (n1 : New (wr.alloc (.cells (o k) 45)) w1) => (nw.alloc _).trans n1)
      have NG := Lib.hid (fun w1 w2 (n1 : New w w1) (g : w1.grownBy w2 (some w.heap.size)) => (n1.grown g (fun k hk => by cases hk; exact Nat.le_refl _) : New w w2))
      have HE := Lib.hid hok.2.2.1
      have le9 := Lib.hid (cntF_le z k (z k).er)
      have HL := Lib.hid (⟨hL, hc, hok, h0, h17, hi⟩ : _ ∧ _ ∧ _ ∧ _ ∧ _ ∧ _)
      clear hL hc hok h0 h17 hi
      have S1 := Lib.hid (fun h => cntF_skip (z := z) (k := k) h)
      have S2 := Lib.hid (fun h => kinds_skip (z := z) (k := k) (fun _ => 1) h)
      have S3 := Lib.hid (fun h => cntF_more (z := z) (k := k) h)
      have S4 := Lib.hid (fun h => kinds_step (z := z) (k := k) h)
      generalize o k = oo at *
      by_cases ht : (z k).to = -1
      · have HH := Lib.hid (⟨S1.out (fun h => h.1 ht), S2.out (fun h => h.1 ht)⟩ : _ ∧ _)
        have HT := Lib.hid ht
        have HM2 := Lib.hid hM
        clear ht h18 hM
        generalize (z k).er = er at *
        go_wp2_with (first | (refine wpl_load rfl rfl LA rfl ?_) | (refine wpl_store rfl rfl rfl rfl IA.out rfl ?_) | (refine wpl_load rfl rfl OA rfl ?_) | (go_at_call 19; refine (EN.out HT.out _).mono ?_; rintro e w1 ⟨rfl, n1⟩))
        go_roundg (gk - 1)
        case rel => exact ⟨k + 1, by omega, by go_num, NW.out _ n1, by rw [HH.out.1, HH.out.2]; exact (LM.out _ n1).mono (Nat.le_succ _)⟩
        case measure => omega
      · by_cases e0 : (z k).er = 0
        · have HH := Lib.hid (⟨S1.out (fun h => h.2 e0), S2.out (fun h => h.2.1 e0)⟩ : _ ∧ _)
          have t3 : (((z k).er) != 0) = false := by simpa using e0
          have HT := Lib.hid ht
          have HM2 := Lib.hid hM
          clear ht h18 hM e0
          generalize (z k).er = er at *
          go_wp2_with (first | (refine wpl_load rfl rfl LA rfl ?_) | (refine wpl_store rfl rfl rfl rfl IA.out rfl ?_) | (refine wpl_load rfl rfl OA rfl ?_) | (go_at_call 19; refine (EY.out HT.out _).mono ?_; rintro e w1 ⟨rfl, n1⟩; have c9 := C2.out _ n1))
          go_roundg (gk - 1)
          case rel => exact ⟨k + 1, by omega, by go_num, NW.out _ n1, by rw [HH.out.1, HH.out.2]; exact (LM.out _ n1).mono (Nat.le_succ _)⟩
          case measure => omega
        · have HH := Lib.hid (⟨S3.out ht e0, S4.out ht e0⟩ : _ ∧ _)
          have t3 : (((z k).er) != 0) = true := by simpa using e0
          have HT := Lib.hid ht
          have HM2 := Lib.hid hM
          clear ht h18 hM e0
          generalize (z k).er = er at *
          have wq : wrap64 (((cntF z k er : Nat) : Int) + 1) = ((cntF z k er : Nat) : Int) + 1 := by have := le9.out; unfold wrap64; omega
          generalize hq : cntF z k = q at *
          clear hq
          go_wp2_with (first | (refine wpl_load rfl rfl LA rfl ?_) | (refine wpl_store rfl rfl rfl rfl IA.out rfl ?_) | (refine wpl_load rfl rfl OA rfl ?_) | (go_at_call 19; refine (EY.out HT.out _).mono ?_; rintro e w1 ⟨rfl, n1⟩; have c9 := C2.out _ n1) | (refine wpl_look rfl rfl rfl (LM.out _ n1) HE.out rfl ?_) | (refine wpl_more rfl rfl rfl (congrArg (Value.int .i64) wq) (LM.out _ n1) HE.out (by unfold maxLen; omega) (by have := le9.out; omega) rfl ?_; intro w2 hM2 hg2; have M2 := Lib.hid hM2; have G2 := Lib.hid (NG.out _ _ (NW.out _ n1) hg2); clear hM2 hg2))
          go_roundg (gk - 1)
          case rel => exact ⟨k + 1, by omega, by go_num, G2.out, by rw [HH.out.1, HH.out.2]; exact M2.out⟩
          case measure => omega
    · have hke : k = n := by omega
      subst hke
      clear hL
      have HM2 := Lib.hid hM
      clear hM
      go_wp2_with fail
      go_ret
      exact ⟨_, rfl, HM2.out, nw⟩
end Go.Proofs.Ytplejooihfhpdaa
