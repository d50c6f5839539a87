/- The walk of FactDivisors. -/
import Derived.Test.YtikfeinhdfjjhaaDivx
import Derived.Test.YtikfeinhdfjjhaaDivr
import Derived.Test.YtikfeinhdfjjhaaLive
namespace Go.Proofs.Ytikfeinhdfjjhaa
open Go.RowKit
set_option linter.unusedVariables false

theorem exists_root : ∀ n : Nat, ∃ K, K * K ≤ n ∧ n < (K + 1) * (K + 1)
  | 0 => ⟨0, by simp, by simp⟩
  | n + 1 => by
    obtain ⟨K, h1, h2⟩ := exists_root n
    by_cases h : (K + 1) * (K + 1) ≤ n + 1
    · refine ⟨K + 1, h, ?_⟩
      have : (K + 1 + 1) * (K + 1 + 1) = (K + 1) * (K + 1) + 2 * (K + 1) + 1 := by rw [Nat.add_mul (K + 1) 1, Nat.mul_add (K + 1) (K + 1) 1]; omega
      omega
    · exact ⟨K, by omega, by omega⟩
theorem exists_root' (n : Nat) : ∃ K, ∀ x, x * x ≤ n ↔ x ≤ K := by
  obtain ⟨K, h1, h2⟩ := exists_root n
  refine ⟨K, fun x => ⟨fun h => ?_, fun h => ?_⟩⟩
  · apply Nat.le_of_not_lt
    intro hlt
    have := Nat.mul_le_mul (show K + 1 ≤ x from hlt) (show K + 1 ≤ x from hlt)
    omega
  · exact Nat.le_trans (Nat.mul_le_mul h h) h1
theorem both_len {n K : Nat} (h1 : 1 ≤ n) (h2 : n ≤ 16777216) (hK : ∀ x, x * x ≤ n ↔ x ≤ K) : (lowF n K ++ highF n K).length = manyF (facs n) := by
  rw [← dvs_len]
  have hp := List.mergeSort_perm (dvs (facs n)) (fun x y => decide (x ≤ y))
  have hs := List.pairwise_mergeSort (le := fun x y : Nat => decide (x ≤ y)) (by intro a b c; simp; omega) (by intro a b; simp; omega) (dvs (facs n))
  rw [← dvs_sorted h1 h2 hK hp (hs.imp (by intro a b h; simpa using h))]
  exact hp.length_eq
theorem nums_first (R : List Nat) : nums R = firstv .i64 (fun i => R.getD i 0) R.length := by
  apply List.ext_getElem
  · simp [nums, firstv]
  · intro j h1 h2
    have h : j < R.length := by simpa [nums] using h1
    simp [nums, firstv, List.getD, List.getElem?_eq_getElem h]

set_option maxHeartbeats 400000 in
theorem same_rows (A1 A2 : Option Addr) (n c1 c2 : Nat) (f : Nat → Nat) (w : World) (h1 : ReadsF w .i64 A1 n f) (h2 : ReadsF w .i64 A2 n f) :
    Calls Try.prog 28 #[.slice A1 n c1, .slice A2 n c2] w fun e w' => e = .returned (.bool true) ∧ New w w' := by
  have hn := h1.1
  go_enter Try.func28, Try.ntmps28
  go_wp2_with fail
  go_loopg [5] n (fun g i wr => ∃ j : Nat, i = .int .i64 j ∧ j ≤ n ∧ n ≤ g + j ∧ New w wr)
  case atStart => exact ⟨0, rfl, by omega, by omega, New.refl _⟩
  case round =>
    obtain ⟨j, rfl, hj, hg, hnj⟩ := hrel
    by_cases hjn : j < n
    · have hjn' : (j : Int) < (n : Int) := by omega
      obtain ⟨g1, rfl, hl1, k1⟩ := (h1.new hnj).2 (by omega)
      obtain ⟨g2, rfl, hl2, k2⟩ := (h2.new hnj).2 (by omega)
      have d1 := k1 j hjn
      have d2 := k2 j hjn
      clear k1 k2 h1 h2
      go_wp2
      go_quiet (fail)
      go_wp2
      go_roundg (gk - 1)
      case rel => exact ⟨j + 1, by simp, by omega, by omega, hnj.draws _⟩
      case measure => omega
    · have hje : j = n := by omega
      subst hje
      clear h1 h2
      go_wp2
      go_ret
      exact ⟨rfl, hnj⟩

set_option maxHeartbeats 1000000 in
theorem divisorsLaw_no (n : Int) (w : World) (h : ¬ (1 ≤ n ∧ n ≤ 16777216)) :
    Calls Try.prog 9 #[.int .i64 n] w fun e w' => e = .returned (.bool true) ∧ New w w' := by
  have HD := Lib.hid (fun w => divisors_no n w h)
  have HI := Lib.hid (fun W => is_any n W)
  rw [show decide (1 ≤ n ∧ n ≤ 16777216) = false by simpa using h] at HI
  have HV := Lib.hid live_any
  clear h
  go_enter Try.func9, Try.ntmps9
  go_wp2_with (first | (go_at_call 32; refine (HD.out _).mono ?_; rintro e w1 ⟨rfl, rfl⟩) | (go_at_call 13; refine (HI.out _).mono ?_; rintro e w1 ⟨rfl, rfl⟩) | (go_at_call 14; refine (HV.out _).mono ?_; rintro e w2 ⟨rfl, n2⟩))
  go_ret
  exact ⟨rfl, n2⟩

/-- how many, by the first k primes -/
def manyK (l : List (Nat × Nat)) (k : Nat) : Nat := manyF (l.take k)
theorem manyK_succ {l : List (Nat × Nat)} {k : Nat} {x : Nat × Nat} (h : l[k]? = some x) : manyK l (k + 1) = manyK l k * (x.2 + 1) := by
  unfold manyK manyF
  have hk : k < l.length := (List.getElem?_eq_some_iff.1 h).1
  rw [List.take_succ_eq_append_getElem hk, List.foldl_append, List.foldl_cons, List.foldl_nil, (List.getElem?_eq_some_iff.1 h).2]
theorem manyK_le {n : Nat} (h1 : 1 ≤ n) (h2 : n ≤ 16777216) (k : Nat) : manyK (facs n) k ≤ n := by
  have := (lk_facts h1 h2 k).2.1
  have e : (lk (facs n) k).length = manyK (facs n) k := dvs_len _
  omega

set_option maxRecDepth 100000 in
set_option maxHeartbeats 2000000 in
theorem divisorsLaw_yes (n : Nat) (w : World) (h1 : 1 ≤ n) (h2 : n ≤ 16777216) :
    Calls Try.prog 9 #[.int .i64 n] w fun e w' => e = .returned (.bool true) ∧ New w w' := by
  obtain ⟨K, hK⟩ := exists_root' n
  have HD := Lib.hid (fun w => divisors_yes n K w h1 h2 hK)
  have HR := Lib.hid (fun w => refdivisors_any n K w h1 h2 hK)
  have HF := Lib.hid (fun w => factors_yes n w h1 h2)
  have HI := Lib.hid (fun W => is_any n W)
  rw [show decide (1 ≤ (n : Int) ∧ (n : Int) ≤ 16777216) = true by simp; omega] at HI
  have HV := Lib.hid live_any
  have HB := Lib.hid (both_len h1 h2 hK)
  have HM := Lib.hid (manyK_le h1 h2)
  have HP := Lib.hid (facs_spec h1 h2)
  obtain ⟨l, el⟩ : ∃ l, l = facs n := ⟨_, rfl⟩
  rw [← el] at HF HB HM HP
  generalize lowF n K ++ highF n K = R at *
  have HN := Lib.hid (⟨h1, h2⟩ : _ ∧ _)
  clear el h1 h2 hK
  go_enter Try.func9, Try.ntmps9
  go_wp2_with (first | (go_at_call 32; refine (HD.out _).mono ?_; rintro e w1 ⟨v1, rfl, o1, n1⟩; obtain ⟨A1, c1, rfl, r1⟩ := readsF_own (by rw [nums_first] at o1; exact o1); have HR1 := Lib.hid r1; clear o1 r1) | (go_at_call 13; refine (HI.out _).mono ?_; rintro e w ⟨rfl, rfl⟩) | (go_at_call 10; refine (HF.out _).mono ?_; rintro e w2 ⟨v2, rfl, own0, n2⟩; obtain ⟨A, cap0, rfl, hcap0, hA⟩ := own_slice own0; have hl9 : l.length ≤ 9223372036854775807 := own_len own0; have HC := Lib.hid hA; clear hA own0))
  go_loopg [5, 8] l.length (fun G m i wr => ∃ k : Nat, i = .int .i64 (k : Int) ∧ k + G = l.length ∧ m = .int .i64 ((manyK l k : Nat) : Int) ∧ wr = w2)
  case atStart => exact ⟨0, rfl, by omega, rfl, rfl⟩
  case round =>
    obtain ⟨k, rfl, hk, rfl, rfl⟩ := hrel
    by_cases hkl : k < l.length
    · obtain ⟨ga, rfl, hga, hgl, hc⟩ := HC.out (by omega)
      have hx : l[k]? = some l[k] := List.getElem?_eq_getElem hkl
      obtain ⟨c0, q1⟩ := pows_at l k _ hx
      have d1 := (hc (k * 2 + 1) (by omega)).trans q1
      have hs := manyK_succ hx
      have hm := HM.out (k + 1)
      have hn := HN.out.2
      have hb : manyK l k ≤ n := HM.out k
      have he : l[k].2 + 1 ≤ manyK l (k + 1) := by
        rw [hs]
        have h0 : 1 ≤ manyK l k := by
          apply Nat.pos_of_ne_zero
          intro e0
          have : ∀ (l : List (Nat × Nat)) (m : Nat), 1 ≤ m → 1 ≤ l.foldl (fun m x => m * (x.2 + 1)) m := by
            intro l
            induction l with
            | nil => intro m h; exact h
            | cons x l ih => intro m h; exact ih _ (Nat.mul_pos h (by omega))
          have := this (l.take k) 1 (by decide)
          unfold manyK manyF at e0
          omega
        exact Nat.le_mul_of_pos_left _ h0
      have bm : manyK l (k + 1) ≤ 16777216 := by omega
      have be : l[k].2 ≤ 16777216 := by omega
      have bk : manyK l k ≤ 16777216 := by omega
      have pr : ((manyK l k : Nat) : Int) * ((l[k].2 : Int) + 1) = ((manyK l (k + 1) : Nat) : Int) := by rw [hs]; simp
      clear hc c0 q1 hx hs hm hb he hn
      obtain ⟨m', em⟩ : ∃ m' : Nat, m' = manyK l (k + 1) := ⟨_, rfl⟩
      rw [← em] at pr bm
      have EM := Lib.hid em
      clear em
      generalize manyK l k = m at *
      generalize l[k].2 = x at *
      go_wp2_with fail
      go_roundg (gk - 1)
      case rel => exact ⟨k + 1, by go_num, by omega, by rw [EM.out], rfl⟩
      case measure => omega
    · have hke : k = l.length := by omega
      subst hke
      have e : manyK l l.length = R.length := by rw [HB.out]; unfold manyK; rw [List.take_length]
      rw [e]
      clear e
      have R1 := Lib.hid (HR1.out.new n2)
      have HNW := Lib.hid (n1.trans n2)
      go_wp2_with (first | (go_at_call 33; refine (HR.out _).mono ?_; rintro e w3 ⟨v3, rfl, o3, n3⟩; obtain ⟨A3, c3, rfl, r3⟩ := readsF_own (by rw [nums_first] at o3; exact o3); have HR3 := Lib.hid r3; clear o3 r3) | (go_at_call 28; refine (same_rows _ _ _ _ _ _ _ (R1.out.new n3) HR3.out).mono ?_; rintro e w4 ⟨rfl, n4⟩) | (go_at_call 14; refine (HV.out _).mono ?_; rintro e w5 ⟨rfl, n5⟩))
      go_ret
      exact ⟨rfl, ((HNW.out.trans n3).trans n4).trans n5⟩

theorem divisorsLaw (n : Int) (w : World) : Calls Try.prog 9 #[.int .i64 n] w fun e w' => e = .returned (.bool true) ∧ New w w' := by
  by_cases h : 1 ≤ n ∧ n ≤ 16777216
  · obtain ⟨m, rfl⟩ : ∃ m : Nat, n = (m : Int) := ⟨n.toNat, by omega⟩
    exact divisorsLaw_yes m w (by omega) (by omega)
  · exact divisorsLaw_no n w h
end Go.Proofs.Ytikfeinhdfjjhaa
