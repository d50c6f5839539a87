/- The sizes, in numbers: the list that the iterator gives, and what is true of it sorted. No program is named here. -/
import Derived.Test.YtniibghbhbigaaaDoorRootn
namespace Go.Proofs.YtniibghbhbigaaaDoor
set_option linter.unusedVariables false

def sq : List Nat := [3, 5, 17, 257, 65537]
def oddP : Nat → Nat → Nat
  | 0, _ => 1
  | i + 1, k => if k / 2 ^ i % 2 = 1 then oddP i k * sq.getD i 1 else oddP i k
def segF (m : Nat) : Nat → Nat → List Nat
  | 0, _ => []
  | f + 1, n => if n ≤ m then n :: segF m f (n * 2) else []
def tailM (m : Nat) : Nat → List Nat
  | 0 => []
  | f + 1 => segF m 33 (oddP 5 (31 - f)) ++ tailM m f
/-- all sizes up to m, in the iterator's order -/
def szs (m : Nat) : List Nat := tailM m 32
theorem odd_pos : ∀ k, k < 32 → 1 ≤ oddP 5 k ∧ oddP 5 k ≤ 4294967295 := by decide +kernel
theorem odd_bd : ∀ k, k < 32 → ∀ i, i ≤ 5 → 1 ≤ oddP i k ∧ oddP i k ≤ 4294967295 := by decide +kernel
theorem seg_filter {m M : Nat} (h : m ≤ M) : ∀ f n, 1 ≤ n → segF m f n = (segF M f n).filter fun x => decide (x ≤ m)
  | 0, _, _ => rfl
  | f + 1, n, h1 => by
    have ih := seg_filter h f (n * 2) (by omega)
    by_cases hn : n ≤ m
    · have e1 : segF m (f + 1) n = n :: segF m f (n * 2) := if_pos hn
      have e2 : segF M (f + 1) n = n :: segF M f (n * 2) := if_pos (by omega)
      rw [e1, e2, List.filter_cons_of_pos (by simpa using hn), ih]
    · have e1 : segF m (f + 1) n = [] := if_neg hn
      rw [e1]
      symm
      have big : ∀ f n, m < n → (segF M f n).filter (fun x => decide (x ≤ m)) = [] := by
        intro f
        induction f with
        | zero => intro n _; rfl
        | succ f ih2 =>
          intro n hn
          unfold segF
          split
          · rw [List.filter_cons_of_neg (by simpa using hn)]
            exact ih2 _ (by omega)
          · rfl
      exact big _ _ (by omega)
theorem tail_filter {m M : Nat} (h : m ≤ M) : ∀ f, f ≤ 32 → tailM m f = (tailM M f).filter fun x => decide (x ≤ m)
  | 0, _ => rfl
  | f + 1, hf => by
    show segF m 33 _ ++ tailM m f = List.filter _ (segF M 33 _ ++ tailM M f)
    rw [List.filter_append, tail_filter h f (by omega), seg_filter h 33 _ (odd_pos _ (by omega)).1]
theorem szs_filter {m : Nat} (h : m ≤ 16777216) : szs m = (szs 16777216).filter fun x => decide (x ≤ m) := tail_filter h 32 (by omega)
theorem all_ok : (szs 16777216).all (fun x => decide (1 ≤ x) && decide (x ≤ 16777216) && (PM % x == 0)) = true := by decide +kernel
theorem all_len : (szs 16777216).length ≤ 1056 := by decide +kernel
def nodupB : List Nat → Bool
  | [] => true
  | x :: r => !r.contains x && nodupB r
theorem nodupB_spec : ∀ l, nodupB l = true → l.Nodup
  | [], _ => List.nodup_nil
  | x :: r, h => by
    simp only [nodupB, Bool.and_eq_true, Bool.not_eq_true', List.contains_eq_mem, decide_eq_false_iff_not] at h
    exact List.nodup_cons.2 ⟨h.1, nodupB_spec r h.2⟩
theorem all_nodup : (szs 16777216).Nodup := nodupB_spec _ (by decide +kernel)
theorem one_in : 1 ∈ szs 16777216 := by decide +kernel
def allN (p : Nat → Bool) : Nat → Bool
  | 0 => true
  | n + 1 => p n && allN p n
theorem allN_spec {p : Nat → Bool} : ∀ n, allN p n = true → ∀ i, i < n → p i = true
  | 0, _, i, h => absurd h (by omega)
  | n + 1, h, i, hi => by
    simp only [allN, Bool.and_eq_true] at h
    by_cases e : i = n
    · rw [e]; exact h.1
    · exact allN_spec n h.2 i (by omega)
theorem small_all : allN (fun a => allN (fun b => (a * 200 + b == 0) || !(PM % (a * 200 + b) == 0) || (szs 16777216).contains (a * 200 + b)) 200) 101 = true := by decide +kernel
theorem small_in {n : Nat} (h1 : 1 ≤ n) (h2 : n ≤ 20000) (h3 : PM % n = 0) : n ∈ szs 16777216 := by
  have h := allN_spec _ (allN_spec _ small_all (n / 200) (by omega)) (n % 200) (Nat.mod_lt _ (by decide))
  change ((n / 200 * 200 + n % 200 == 0) || !(PM % (n / 200 * 200 + n % 200) == 0) || (szs 16777216).contains (n / 200 * 200 + n % 200)) = true at h
  rw [show n / 200 * 200 + n % 200 = n by omega] at h
  have hn : (n == 0) = false := by simp; omega
  rw [hn, h3] at h
  simpa using h
theorem mem_szs {m x : Nat} (hm : m ≤ 16777216) (h : x ∈ szs m) : 1 ≤ x ∧ x ≤ m ∧ PM % x = 0 := by
  rw [szs_filter hm] at h
  obtain ⟨h1, h2⟩ := List.mem_filter.1 h
  have h3 := List.all_eq_true.1 all_ok x h1
  simp only [Bool.and_eq_true, decide_eq_true_eq, beq_iff_eq] at h3 h2
  exact ⟨h3.1.1, h2, h3.2⟩
theorem szs_nodup {m : Nat} (hm : m ≤ 16777216) : (szs m).Nodup := by
  rw [szs_filter hm]
  exact all_nodup.filter _
theorem szs_len {m : Nat} (hm : m ≤ 16777216) : (szs m).length ≤ 1056 := by
  rw [szs_filter hm]
  exact Nat.le_trans (List.length_filter_le _ _) all_len
/-- how many of 1 .. n are sizes -/
def cntH : Nat → Nat
  | 0 => 0
  | n + 1 => cntH n + if PM % (n + 1) = 0 then 1 else 0
theorem len_filter_succ : ∀ (l : List Nat), l.Nodup → ∀ n, (l.filter fun x => decide (x ≤ n + 1)).length = (l.filter fun x => decide (x ≤ n)).length + if n + 1 ∈ l then 1 else 0
  | [], _, n => by simp
  | x :: r, h, n => by
    obtain ⟨h1, h2⟩ := List.nodup_cons.1 h
    have ih := len_filter_succ r h2 n
    by_cases hx : x = n + 1
    · subst hx
      rw [List.filter_cons_of_pos (by simp), List.filter_cons_of_neg (by simp), List.length_cons, ih, if_neg h1, if_pos (by simp)]
    · by_cases hl : x ≤ n
      · rw [List.filter_cons_of_pos (by simp; omega), List.filter_cons_of_pos (by simpa using hl), List.length_cons, List.length_cons, ih]
        have : (n + 1 ∈ x :: r) ↔ n + 1 ∈ r := by simp [Ne.symm hx, eq_comm, hx]
        by_cases hm : n + 1 ∈ r
        · rw [if_pos hm, if_pos (this.2 hm)]
        · rw [if_neg hm, if_neg (fun q => hm (this.1 q))]
      · rw [List.filter_cons_of_neg (by simp; omega), List.filter_cons_of_neg (by simpa using hl), ih]
        have : (n + 1 ∈ x :: r) ↔ n + 1 ∈ r := by simp [Ne.symm hx, eq_comm, hx]
        by_cases hm : n + 1 ∈ r
        · rw [if_pos hm, if_pos (this.2 hm)]
        · rw [if_neg hm, if_neg (fun q => hm (this.1 q))]
theorem cnt_len : ∀ n, n ≤ 20000 → cntH n = (szs n).length
  | 0, _ => by decide +kernel
  | n + 1, h => by
    rw [szs_filter (show n + 1 ≤ 16777216 by omega), len_filter_succ _ all_nodup, ← szs_filter (by omega), ← cnt_len n (by omega)]
    show cntH n + _ = cntH n + _
    congr 1
    by_cases hp : PM % (n + 1) = 0
    · rw [if_pos hp, if_pos (small_in (by omega) h hp)]
    · rw [if_neg hp, if_neg (fun q => hp (mem_szs (Nat.le_refl _) q).2.2)]
/-- sorted -/
def sizesI (m : Nat) : List Int := ((szs m).map fun x : Nat => (x : Int)).mergeSort fun x y => decide (x ≤ y)
theorem sizesI_perm (m : Nat) : (sizesI m).Perm ((szs m).map fun x : Nat => (x : Int)) := List.mergeSort_perm _ _
theorem sizesI_len (m : Nat) : (sizesI m).length = (szs m).length := by rw [(sizesI_perm m).length_eq, List.length_map]
theorem sizesI_mem {m : Nat} (hm : m ≤ 16777216) {x : Int} (h : x ∈ sizesI m) : ∃ n : Nat, x = (n : Int) ∧ 1 ≤ n ∧ n ≤ m ∧ PM % n = 0 := by
  have := (sizesI_perm m).mem_iff.1 h
  obtain ⟨n, hn, rfl⟩ := List.mem_map.1 this
  exact ⟨n, rfl, mem_szs hm hn⟩
theorem sizesI_lt {m : Nat} (hm : m ≤ 16777216) : (sizesI m).Pairwise (· < ·) := by
  have h1 : (sizesI m).Pairwise (fun x y => decide (x ≤ y) = true) := List.pairwise_mergeSort (fun a b c h1 h2 => by simp at *; omega) (fun a b => by simp; omega) _
  have h2 : (sizesI m).Nodup := (sizesI_perm m).nodup_iff.2 (List.pairwise_map.2 ((szs_nodup hm).imp fun {a b} h e => h (Int.ofNat.inj e)))
  refine (h1.and h2).imp ?_
  rintro a b ⟨h3, h4⟩
  simp at h3
  omega
/-- the sizes, one by one -/
def sz (m i : Nat) : Nat := ((sizesI m).getD i 0).toNat
theorem getD_at {l : List Int} {i : Nat} (h : i < l.length) : l.getD i 0 = l[i] := by simp [List.getD, h]
theorem sz_at {m i : Nat} (hm : m ≤ 16777216) (hi : i < (szs m).length) : (sizesI m).getD i 0 = (sz m i : Int) ∧ 1 ≤ sz m i ∧ sz m i ≤ m ∧ PM % sz m i = 0 := by
  have hi' : i < (sizesI m).length := by rw [sizesI_len]; exact hi
  have hmem : (sizesI m).getD i 0 ∈ sizesI m := by rw [getD_at hi']; exact List.getElem_mem hi'
  obtain ⟨n, e, h1, h2, h3⟩ := sizesI_mem hm hmem
  have : sz m i = n := by unfold sz; rw [e]; simp
  rw [this]
  exact ⟨e, h1, h2, h3⟩
theorem sz_lt {m i : Nat} (hm : m ≤ 16777216) (hi : i + 1 < (szs m).length) : sz m i < sz m (i + 1) := by
  have h1 := (sz_at hm (show i < (szs m).length by omega)).1
  have h2 := (sz_at hm hi).1
  have hl := sizesI_len m
  have h3 := List.pairwise_iff_getElem.1 (sizesI_lt hm) i (i + 1) (by omega) (by omega) (by omega)
  rw [getD_at (by omega)] at h1 h2
  omega
end Go.Proofs.YtniibghbhbigaaaDoor
