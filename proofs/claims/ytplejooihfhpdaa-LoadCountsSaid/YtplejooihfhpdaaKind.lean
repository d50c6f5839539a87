/- The reference's Kind: the calls of a kind. -/
import Derived.Test.YtplejooihfhpdaaHits
import Derived.Test.YtplejooihfhpdaaBld
import Derived.Laws.AppendOwn
import Derived.OwnWalk
namespace Go.Proofs.Ytplejooihfhpdaa
open Go.RowKit
set_option linter.unusedVariables false

/-- which of the first n -/
def sel (P : Nat → Bool) (n : Nat) : List Nat := (List.range n).filter P
theorem sel_yes {P : Nat → Bool} {n : Nat} (h : P n = true) : sel P (n + 1) = sel P n ++ [n] := by simp [sel, List.range_succ, List.filter_append, h]
theorem sel_no {P : Nat → Bool} {n : Nat} (h : P n = false) : sel P (n + 1) = sel P n := by simp [sel, List.range_succ, List.filter_append, h]
theorem sel_len (P : Nat → Bool) (n : Nat) : (sel P n).length ≤ n := by
  unfold sel
  exact Nat.le_trans (List.length_filter_le _ _) (by simp)
theorem sel_lt {P : Nat → Bool} {n j : Nat} (h : j < (sel P n).length) : (sel P n).getD j 0 < n ∧ P ((sel P n).getD j 0) = true := by
  have hm : (sel P n).getD j 0 ∈ sel P n := by simp [List.getD, List.getElem?_eq_getElem h]
  have := List.mem_filter.1 hm
  exact ⟨List.mem_range.1 this.1, this.2⟩
/-- the cells of chosen rows -/
def rowsOf (o : Nat → Array Value) (s : List Nat) : List Value := s.flatMap fun i => (o i).toList
theorem rowsOf_snoc (o : Nat → Array Value) (s : List Nat) (i : Nat) : rowsOf o (s ++ [i]) = rowsOf o s ++ (o i).toList := by simp [rowsOf]
theorem rowsOf_at {o : Nat → Array Value} : ∀ (s : List Nat), (∀ i, i ∈ s → (o i).size = 19) → ∀ j t v, j < s.length → (o (s.getD j 0))[t]? = some v → (rowsOf o s)[j * 19 + t]? = some v
  | [], _, j, _, _, h, _ => absurd h (by simp)
  | i :: s, hs, j, t, v, h, hv => by
    have h0 := hs i (by simp)
    have e : rowsOf o (i :: s) = (o i).toList ++ rowsOf o s := by simp [rowsOf]
    rw [e]
    match j with
    | 0 =>
      simp only [List.getD_cons_zero] at hv
      have ht : t < (o i).size := (Array.getElem?_eq_some_iff.1 hv).1
      rw [List.getElem?_append_left (by simp; omega)]
      simpa using hv
    | j + 1 =>
      simp only [List.getD_cons_succ] at hv
      rw [List.getElem?_append_right (by simp; omega)]
      have := rowsOf_at s (fun i hi => hs i (by simp [hi])) j t v (by simpa using h) hv
      rw [← this]
      congr 1
      simp
      omega
theorem rowsOf_len {o : Nat → Array Value} : ∀ (s : List Nat), (∀ i, i ∈ s → (o i).size = 19) → (rowsOf o s).length = s.length * 19
  | [], _ => rfl
  | i :: s, h => by
    have e : rowsOf o (i :: s) = (o i).toList ++ rowsOf o s := by simp [rowsOf]
    rw [e, List.length_append, rowsOf_len s (fun i hi => h i (by simp [hi]))]
    have := h i (by simp)
    simp
    omega
/-- a row of the call's own reads as the chosen calls -/
theorem ops_own {w : World} {base n : Nat} {v : Value} {P : Nat → Bool} {o : Nat → Array Value} {z : Nat → Nm} (ho : ∀ i, i < n → Reads5 (o i) (z i)) (h : w.ownsRow base 45 19 v (sel P n).length (rowsOf o (sel P n))) :
    ∃ A cap, v = .slice A (sel P n).length cap ∧ Ops w A (sel P n).length (fun j => o ((sel P n).getD j 0)) (fun j => z ((sel P n).getD j 0)) := by
  obtain ⟨A, cap, e1, h2, h3⟩ := own_slice h
  refine ⟨A, cap, e1, fun j hj => ho _ (sel_lt hj).1, fun h0 => ?_⟩
  obtain ⟨g, e2, _, h5, h6⟩ := h3 h0
  refine ⟨⟨g, 0, none⟩, e2, fun j hj => ⟨(ho _ (sel_lt hj).1).1, by rw [Addr.add_mid]; exact h5, fun t u hu => ?_⟩⟩
  have ht : t < 19 := by
    have h9 : (o ((sel P n).getD j 0)).size = 19 := (ho _ (sel_lt hj).1).1.1
    have h8 : t < (o ((sel P n).getD j 0)).size := (Array.getElem?_eq_some_iff.1 hu).1
    omega
  rw [Addr.add_mid, Addr.add_mid]
  have := h6 (j * 19 + t) (by
    have : j + 1 ≤ (sel P n).length := hj
    have := Nat.mul_le_mul_right 19 this
    omega)
  rw [show 0 + j * 19 + t = j * 19 + t by omega, this]
  exact rowsOf_at _ (fun i hi => (ho i (List.mem_range.1 (List.mem_filter.1 hi).1)).1.1) j t u hj hu

theorem info45 : (Try.prog.info? 45).map (fun i => (i.zero, i.size, i.bytes)) = some (some (.agg #[.int .i64 0, .int .i64 0, .int .i64 0, .int .i64 0, .int .i64 0, .string ⟨#[]⟩, .int .i64 0, .int .i64 0, .slice none 0 0, .int .i64 0, .int .i64 0, .int .i64 0, .slice none 0 0, .int .i64 0, .int .i64 0, .string ⟨#[]⟩, .slice none 0 0, .int .i64 0, .int .i64 0]), 19, 216) := by kernel_rfl

def SomeOps (n : Nat) (o : Nat → Array Value) (z : Nat → Nm) (P : Nat → Bool) (w : World) (e : Ending) (w' : World) : Prop :=
  ∃ A cap, e = .returned (.slice A (sel P n).length cap) ∧ Ops w' A (sel P n).length (fun j => o ((sel P n).getD j 0)) (fun j => z ((sel P n).getD j 0)) ∧ New w w'
/-- a kind that there is, or 0 -/
def knd (z : Nm) : Int := if z.kd < 1 ∨ 7 < z.kd then 0 else z.kd

set_option maxRecDepth 100000 in
set_option maxHeartbeats 2000000 in
theorem kind_any (A : Option Addr) (n cap : Nat) (o : Nat → Array Value) (z : Nat → Nm) (q : Int) (hn : n ≤ 60) (w : World) (hL : Ops w A n o z) :
    Calls Try.prog 11 #[.slice A n cap, .int .i64 q] w (SomeOps n o z (fun i => knd (z i) == q) w) := by
  obtain ⟨i0, hi, hz0, hz1, hz2⟩ := info_parts info45
  have HP := Lib.hid (fun i => @sel_yes (fun i => knd (z i) == q) i)
  have HQ := Lib.hid (fun i => @sel_no (fun i => knd (z i) == q) i)
  have HS := Lib.hid (fun i => sel_len (fun i => knd (z i) == q) i)
  have HO := Lib.hid (fun w' v => @ops_own w' w.heap.size n v (fun i => knd (z i) == q) o z hL.1)
  have HF := Lib.hid (fun i => (show (fun i => knd (z i) == q) i = (knd (z i) == q) from rfl))
  obtain ⟨P, eP⟩ : ∃ P : Nat → Bool, P = fun i => knd (z i) == q := ⟨_, rfl⟩
  rw [← eP] at HP HQ HS HO HF ⊢
  clear eP
  go_enter Try.func11, Try.ntmps11
  go_wp2_with fail
  go_loopg [5, 6] n (fun g s i wr => ∃ k : Nat, k + g = n ∧ i = .int .i64 k ∧ wr.ownsRow w.heap.size 45 19 s (sel P k).length (rowsOf o (sel P k)) ∧ New w wr)
  case atStart => exact ⟨0, by omega, rfl, World.ownsRow_nil _ _ _ _, New.refl _⟩
  case round =>
    obtain ⟨k, hk, rfl, own, nw⟩ := hrel
    by_cases hlt : k < n
    · obtain ⟨ad, rfl, hc⟩ := hL.2 (by omega)
      obtain ⟨hio, hok, h0, h2, h9, h17, h18⟩ := hL.1 k hlt
      have LA := (hc k hlt).new nw
      have c2 := LA.field 2 (by decide) h2
      have hsl := HS.out k
      have hsz := hio.1
      have hall := hio.2
      have HIO := Lib.hid hio
      have HFK := Lib.hid (HF.out k)
      have OW := Lib.hid own
      have bw := nw.lt
      have hkn : knd (z k) = if (z k).kd < 1 ∨ 7 < (z k).kd then 0 else (z k).kd := rfl
      have HK := Lib.hid hkn
      have HLL := Lib.hid (⟨hL, hc, hok, h0, h9, h17, h18, h2, hio⟩ : _ ∧ _ ∧ _ ∧ _ ∧ _ ∧ _ ∧ _ ∧ _ ∧ _)
      clear hL hc hok h0 h9 h17 h18 own hsz hall hkn hio h2
      by_cases hq : knd (z k) = q
      · have HPK := Lib.hid (HP.out k (by simpa using hq))
        by_cases hr : (z k).kd < 1 ∨ 7 < (z k).kd
        · have hq0 : q = 0 := by rw [← hq]; unfold knd; rw [if_pos hr]
          subst hq0
          by_cases h1 : (z k).kd < 1
          · have HR := Lib.hid hr
            clear hq hr
            generalize (z k).kd = kd at *
            go_wp2_with (first | (refine wpl_load rfl rfl LA rfl ?_) | (refine wpl_build rfl rfl HIO.out rfl hi hz0 hz1 ?_) | (at_builtin; refine wpList_append_own _ rfl _ _ 28 rfl w.heap.size 45 i0 _ 19 216 Try.underlying28 hi hz0 hz1 hz2 rfl (by decide) _ _ _ rfl (OW.out.alloc _) ⟨wr.heap.size, 0, none⟩ 1 1 (o k).toList rfl (by have := HIO.out.1; simpa using this) (fun j u hj => by rw [Addr.add_mid, Nat.zero_add]; exact ((Box.made wr 45 (o k)).cell j).trans (by simpa using hj)) (fun u hu => (Array.all_eq_true_iff_forall_mem.1 HIO.out.2) u (by simpa using hu)) (by unfold maxLen; omega) (by omega) (by simp; omega) ?_))
            intro v' w1 own1 hgr _
            have N1 : New w w1 := grown_own nw OW.out hgr
            have O1 : w1.ownsRow w.heap.size 45 19 v' (sel P (k + 1)).length (rowsOf o (sel P (k + 1))) := by
              rw [HPK.out, rowsOf_snoc, List.length_append]
              exact own1
            have OO := Lib.hid O1
            clear hgr own1 O1
            go_wp2_with fail
            go_roundg (gk - 1)
            case rel => exact ⟨k + 1, by omega, by go_num, OO.out, N1⟩
            case measure => omega
          · have h7 : 7 < (z k).kd := by omega
            have HR := Lib.hid hr
            clear hq hr
            generalize (z k).kd = kd at *
            go_wp2_with (first | (refine wpl_load rfl rfl LA rfl ?_) | (refine wpl_build rfl rfl HIO.out rfl hi hz0 hz1 ?_) | (at_builtin; refine wpList_append_own _ rfl _ _ 28 rfl w.heap.size 45 i0 _ 19 216 Try.underlying28 hi hz0 hz1 hz2 rfl (by decide) _ _ _ rfl (OW.out.alloc _) ⟨wr.heap.size, 0, none⟩ 1 1 (o k).toList rfl (by have := HIO.out.1; simpa using this) (fun j u hj => by rw [Addr.add_mid, Nat.zero_add]; exact ((Box.made wr 45 (o k)).cell j).trans (by simpa using hj)) (fun u hu => (Array.all_eq_true_iff_forall_mem.1 HIO.out.2) u (by simpa using hu)) (by unfold maxLen; omega) (by omega) (by simp; omega) ?_))
            intro v' w1 own1 hgr _
            have N1 : New w w1 := grown_own nw OW.out hgr
            have O1 : w1.ownsRow w.heap.size 45 19 v' (sel P (k + 1)).length (rowsOf o (sel P (k + 1))) := by
              rw [HPK.out, rowsOf_snoc, List.length_append]
              exact own1
            have OO := Lib.hid O1
            clear hgr own1 O1
            go_wp2_with fail
            go_roundg (gk - 1)
            case rel => exact ⟨k + 1, by omega, by go_num, OO.out, N1⟩
            case measure => omega
        · have hqk : (z k).kd = q := by rw [← hq]; unfold knd; rw [if_neg hr]
          have h1 : ¬ (z k).kd < 1 := by omega
          have h7 : ¬ 7 < (z k).kd := by omega
          rw [hqk] at c2 h1 h7
          clear hqk
          clear hq hr
          generalize (z k).kd = kd at *
          go_wp2_with (first | (refine wpl_load rfl rfl LA rfl ?_) | (refine wpl_build rfl rfl HIO.out rfl hi hz0 hz1 ?_) | (at_builtin; refine wpList_append_own _ rfl _ _ 28 rfl w.heap.size 45 i0 _ 19 216 Try.underlying28 hi hz0 hz1 hz2 rfl (by decide) _ _ _ rfl (OW.out.alloc _) ⟨wr.heap.size, 0, none⟩ 1 1 (o k).toList rfl (by have := HIO.out.1; simpa using this) (fun j u hj => by rw [Addr.add_mid, Nat.zero_add]; exact ((Box.made wr 45 (o k)).cell j).trans (by simpa using hj)) (fun u hu => (Array.all_eq_true_iff_forall_mem.1 HIO.out.2) u (by simpa using hu)) (by unfold maxLen; omega) (by omega) (by simp; omega) ?_))
          intro v' w1 own1 hgr _
          have N1 : New w w1 := grown_own nw OW.out hgr
          have O1 : w1.ownsRow w.heap.size 45 19 v' (sel P (k + 1)).length (rowsOf o (sel P (k + 1))) := by
            rw [HPK.out, rowsOf_snoc, List.length_append]
            exact own1
          have OO := Lib.hid O1
          clear hgr own1 O1
          go_wp2_with fail
          go_roundg (gk - 1)
          case rel => exact ⟨k + 1, by omega, by go_num, OO.out, N1⟩
          case measure => omega
      · have HNK := Lib.hid (HQ.out k (by simpa using hq))
        by_cases hr : (z k).kd < 1 ∨ 7 < (z k).kd
        · have hq0 : ¬ (0 : Int) = q := by intro e; apply hq; unfold knd; rw [if_pos hr]; exact e
          have t1 : ((0 : Int) == q) = false := by simpa using hq0
          have t2 : ((0 : Int) != q) = true := by simpa using hq0
          clear hq0
          by_cases h1 : (z k).kd < 1
          · have HR := Lib.hid hr
            clear hq hr
            generalize (z k).kd = kd at *
            go_wp2_with (first | (refine wpl_load rfl rfl LA rfl ?_))
            go_roundg (gk - 1)
            case rel => exact ⟨k + 1, by omega, by go_num, by rw [HNK.out]; exact OW.out, nw⟩
            case measure => omega
          · have h7 : 7 < (z k).kd := by omega
            have HR := Lib.hid hr
            clear hq hr
            generalize (z k).kd = kd at *
            go_wp2_with (first | (refine wpl_load rfl rfl LA rfl ?_))
            go_roundg (gk - 1)
            case rel => exact ⟨k + 1, by omega, by go_num, by rw [HNK.out]; exact OW.out, nw⟩
            case measure => omega
        · have hqk : ¬ (z k).kd = q := by intro e; apply hq; unfold knd; rw [if_neg hr]; exact e
          have h1 : ¬ (z k).kd < 1 := by omega
          have h7 : ¬ 7 < (z k).kd := by omega
          have t1 : ((z k).kd == q) = false := by simpa using hqk
          have t2 : ((z k).kd != q) = true := by simpa using hqk
          clear hqk
          clear hq hr
          generalize (z k).kd = kd at *
          go_wp2_with (first | (refine wpl_load rfl rfl LA rfl ?_))
          go_roundg (gk - 1)
          case rel => exact ⟨k + 1, by omega, by go_num, by rw [HNK.out]; exact OW.out, nw⟩
          case measure => omega
    · have hke : k = n := by omega
      subst hke
      obtain ⟨A1, cap1, rfl, OO⟩ := HO.out _ _ own
      have HOO := Lib.hid OO
      clear hL own OO
      go_wp2_with fail
      exact bodyPost_ret (v := .slice A1 _ cap1) (by simp [results, Try.results11, go_sem]) rfl ⟨A1, cap1, rfl, HOO.out, nw⟩
end Go.Proofs.Ytplejooihfhpdaa
