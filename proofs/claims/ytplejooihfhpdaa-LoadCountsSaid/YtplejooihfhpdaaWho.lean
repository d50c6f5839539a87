/- The reference's Who: the calls of a client. -/
import Derived.Test.YtplejooihfhpdaaCop
import Derived.Laws.AppendOwn
import Derived.OwnWalk
namespace Go.Proofs.Ytplejooihfhpdaa
open Go.RowKit
set_option linter.unusedVariables false

set_option maxRecDepth 100000 in
set_option maxHeartbeats 2000000 in
theorem who_any (A : Option Addr) (n cap : Nat) (o : Nat → Array Value) (z : Nat → Nm) (q : Int) (hn : n ≤ 60) (w : World) (hL : Ops w A n o z) :
    Calls Try.prog 16 #[.slice A n cap, .int .i64 q] w (SomeOps n o z (wP z q) w) := by
  obtain ⟨i0, hi, hz0, hz1, hz2⟩ := info_parts info45
  have HP := Lib.hid (fun i => @sel_yes (wP z q) i)
  have HQ := Lib.hid (fun i => @sel_no (wP z q) i)
  have HS := Lib.hid (fun i => sel_len (wP z q) i)
  have HO := Lib.hid (fun w' v => @ops_own w' w.heap.size n v (wP z q) o z hL.1)
  have HF := Lib.hid (fun i => (show wP z q i = ((z i).who == q) from rfl))
  obtain ⟨P, eP⟩ : ∃ P : Nat → Bool, P = wP z q := ⟨_, rfl⟩
  rw [← eP] at HP HQ HS HO HF ⊢
  clear eP
  go_enter Try.func16, Try.ntmps16
  go_wp2_with fail
  go_loopg [5, 6] n (fun g s i wr => ∃ k : Nat, k + g = n ∧ i = .int .i64 k ∧ wr.ownsRow w.heap.size 45 19 s (sel P k).length (rowsOf o (sel P k)) ∧ New w wr)
  case atStart => exact ⟨0, by omega, rfl, World.ownsRow_nil _ _ _ _, New.refl _⟩
  case round =>
    obtain ⟨k, hk, rfl, own, nw⟩ := hrel
    by_cases hlt : k < n
    · obtain ⟨ad, rfl, hc⟩ := hL.2 (by omega)
      obtain ⟨hio, hok, h0, h2, h9, h17, h18⟩ := hL.1 k hlt
      have LA := (hc k hlt).new nw
      have c0 := LA.2.2 0 _ h0
      rw [show ((ad.add (k * 19)).add 0) = ad.add (k * 19) by unfold Addr.add; simp] at c0
      have hsl := HS.out k
      have hsz := hio.1
      have hall := hio.2
      have HIO := Lib.hid hio
      have HFK := Lib.hid (HF.out k)
      have OW := Lib.hid own
      have bw := nw.lt
      have HLL := Lib.hid (⟨hL, hc, hok, h2, h9, h17, h18, h0, hio⟩ : _ ∧ _ ∧ _ ∧ _ ∧ _ ∧ _ ∧ _ ∧ _ ∧ _)
      clear hL hc hok h2 h9 h17 h18 own hsz hall hio h0
      by_cases hq : (z k).who = q
      · have HPK := Lib.hid (HP.out k (by rw [HFK.out]; simpa using hq))
        have t1 : ((z k).who == q) = true := by simpa using hq
        clear hq
        generalize (z k).who = kd at *
        go_wp2_with (first | (refine wpl_load rfl rfl LA rfl ?_) | (refine wpl_build rfl rfl HIO.out rfl hi hz0 hz1 ?_) | (at_builtin; refine wpList_append_own _ rfl _ _ 28 rfl w.heap.size 45 i0 _ 19 216 Try.underlying28 hi hz0 hz1 hz2 rfl (by decide) _ _ _ rfl (OW.out.alloc _) ⟨wr.heap.size, 0, none⟩ 1 1 (o k).toList rfl (by have := HIO.out.1; simpa using this) (fun j u hj => by rw [Addr.add_mid, Nat.zero_add]; exact ((Box.made wr 45 (o k)).cell j).trans (by simpa using hj)) (fun u hu => (Array.all_eq_true_iff_forall_mem.1 HIO.out.2) u (by simpa using hu)) (by unfold maxLen; omega) (by omega) (by simp; omega) ?_))
        intro v' w1 own1 hgr _
        have N1 : New w w1 := grown_own nw OW.out hgr
        have O1 : w1.ownsRow w.heap.size 45 19 v' (sel P (k + 1)).length (rowsOf o (sel P (k + 1))) := by
          rw [HPK.out, rowsOf_snoc, List.length_append]
          exact own1
        have OO := Lib.hid O1
        clear hgr own1 O1
        go_wp2_with fail
        go_roundg (gk - 1)
        case rel => exact ⟨k + 1, by omega, by go_num, OO.out, N1⟩
        case measure => omega
      · have HNK := Lib.hid (HQ.out k (by rw [HFK.out]; simpa using hq))
        have t1 : ((z k).who == q) = false := by simpa using hq
        clear hq
        generalize (z k).who = kd at *
        go_wp2_with (first | (refine wpl_load rfl rfl LA rfl ?_))
        go_roundg (gk - 1)
        case rel => exact ⟨k + 1, by omega, by go_num, by rw [HNK.out]; exact OW.out, nw⟩
        case measure => omega
    · have hke : k = n := by omega
      subst hke
      obtain ⟨A1, cap1, rfl, OO⟩ := HO.out _ _ own
      have HOO := Lib.hid OO
      clear hL own OO
      go_wp2_with fail
      exact bodyPost_ret (v := .slice A1 _ cap1) (by simp [results, Try.results16, go_sem]) rfl ⟨A1, cap1, rfl, HOO.out, nw⟩
end Go.Proofs.Ytplejooihfhpdaa
