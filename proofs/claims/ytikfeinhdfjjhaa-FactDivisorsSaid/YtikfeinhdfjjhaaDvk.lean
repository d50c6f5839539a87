/- Plain: the divisors of a number, prime by prime: how many, and how great. No program is named here. -/
import Derived.Test.YtikfeinhdfjjhaaDvs
namespace Go.Proofs.Ytikfeinhdfjjhaa
set_option linter.unusedVariables false

/-- behind k primes -/
def lk (l : List (Nat × Nat)) (k : Nat) : List Nat := (l.take k).foldl dvStep [1]
theorem lk_zero (l : List (Nat × Nat)) : lk l 0 = [1] := rfl
theorem lk_succ {l : List (Nat × Nat)} {k : Nat} {x : Nat × Nat} (h : l[k]? = some x) : lk l (k + 1) = dvStep (lk l k) x := by
  unfold lk
  have hk : k < l.length := (List.getElem?_eq_some_iff.1 h).1
  rw [List.take_succ_eq_append_getElem hk, List.foldl_append, List.foldl_cons, List.foldl_nil]
  rw [(List.getElem?_eq_some_iff.1 h).2]
theorem lk_all (l : List (Nat × Nat)) : lk l l.length = dvs l := by unfold lk dvs; rw [List.take_length]
theorem succ_le_pow {p : Nat} (hp : 2 ≤ p) : ∀ e, e + 1 ≤ p ^ e
  | 0 => by simp
  | e + 1 => by
    have ih := succ_le_pow hp e
    rw [Nat.pow_succ]
    have := Nat.mul_le_mul ih hp
    omega
theorem many_le : ∀ (l : List (Nat × Nat)) (m : Nat), (∀ x, x ∈ l → 2 ≤ x.1) → l.foldl (fun m x => m * (x.2 + 1)) m ≤ m * prodF l
  | [], m, _ => by simp [prodF]
  | x :: l, m, h => by
    rw [List.foldl_cons]
    refine Nat.le_trans (many_le l _ fun y hy => h y (by simp [hy])) ?_
    rw [show m * prodF (x :: l) = m * x.1 ^ x.2 * prodF l by simp [prodF, Nat.mul_assoc]]
    exact Nat.mul_le_mul_right _ (Nat.mul_le_mul_left _ (succ_le_pow (h x (by simp)) _))
theorem lk_facts {n : Nat} (h1 : 1 ≤ n) (h2 : n ≤ 16777216) (k : Nat) : (∀ d, d ∈ lk (facs n) k → d ≤ n) ∧ (lk (facs n) k).length ≤ n ∧ 1 ∈ lk (facs n) k := by
  have hf := facs_spec h1 h2
  have hp : prodF ((facs n).take k) * prodF ((facs n).drop k) = n := by rw [← prodF_append, List.take_append_drop, hf.prod]
  have hle : prodF ((facs n).take k) ≤ n := Nat.le_of_dvd (by omega) ⟨_, hp.symm⟩
  have hpos : 1 ≤ prodF ((facs n).take k) := prodF_pos _ fun y hy => hf.prime y (List.mem_of_mem_take hy)
  have hd := isDvs_fold ((facs n).take k) 1 [1] (by omega) (fun x hx => ⟨hf.prime x (List.mem_of_mem_take hx), fun hd => by have := (hf.prime x (List.mem_of_mem_take hx)).1; have := Nat.le_of_dvd (by omega) hd; omega⟩) (hf.rise.sublist (List.take_sublist _ _)) isDvs_one
  rw [Nat.one_mul] at hd
  refine ⟨fun d hm => ?_, ?_, (hd.2 1).2 (Nat.one_dvd _)⟩
  · have := Nat.le_of_dvd (by omega) ((hd.2 d).1 hm)
    omega
  · have e : (lk (facs n) k).length = manyF ((facs n).take k) := dvs_len _
    have := many_le ((facs n).take k) 1 fun x hx => (hf.prime x (List.mem_of_mem_take hx)).1
    rw [Nat.one_mul] at this
    rw [e]
    unfold manyF
    omega
theorem dvStep_zero (L : List Nat) (p : Nat) : dvStep L (p, 0) = L := by simp [dvStep]
theorem dvStep_succ (L : List Nat) (p j : Nat) : dvStep L (p, j + 1) = dvStep L (p, j) ++ L.map (· * p ^ (j + 1)) := by
  simp [dvStep, List.range_succ, List.flatMap_append]
theorem dvStep_le {L : List Nat} {p e j : Nat} {n : Nat} (hj : j ≤ e) (h : ∀ d, d ∈ dvStep L (p, e) → d ≤ n) (h1 : 1 ∈ L) : p ^ j ≤ n ∧ ∀ d, d ∈ L → d * p ^ j ≤ n := by
  have q : ∀ d, d ∈ L → d * p ^ j ≤ n := fun d hd => h _ (by
    simp only [dvStep, List.mem_flatMap, List.mem_range, List.mem_map]
    exact ⟨j, by omega, d, hd, rfl⟩)
  exact ⟨by simpa using q 1 h1, q⟩
theorem dvStep_room {L : List Nat} {p e j : Nat} (hj : j < e) : (dvStep L (p, j)).length + L.length ≤ (dvStep L (p, e)).length := by
  rw [dvStep_len, dvStep_len]
  have : (j + 1) * L.length + L.length = (j + 2) * L.length := by rw [show j + 2 = (j + 1) + 1 by omega, Nat.add_mul (j + 1) 1, Nat.one_mul]
  simp only
  rw [this]
  exact Nat.mul_le_mul_right _ (by omega)
theorem dvStep_prefix (L : List Nat) (p : Nat) : ∀ j, ∃ T, dvStep L (p, j) = L ++ T
  | 0 => ⟨[], by rw [dvStep_zero]; simp⟩
  | j + 1 => by
    obtain ⟨T, h⟩ := dvStep_prefix L p j
    exact ⟨T ++ L.map (· * p ^ (j + 1)), by rw [dvStep_succ, h, List.append_assoc]⟩
end Go.Proofs.Ytikfeinhdfjjhaa
