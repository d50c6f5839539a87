/- The contract of fact.Divisors. -/
import Derived.Test.YtikfeinhdfjjhaaDvk
import Derived.Test.YtikfeinhdfjjhaaPri
import Derived.Test.YtikfeinhdfjjhaaRow
import Derived.Test.YtikfeinhdfjjhaaShelf
import Derived.Sort.OwnSortedInts
import Derived.ArgAppend
import Derived.Laws.OwnMore
namespace Go.Proofs.Ytikfeinhdfjjhaa
open Go.RowKit
set_option linter.unusedVariables false

/-- one number is appended to a row of the call's own: what the old row held it holds -/
theorem wpl_push {ops : Array Oper} {rest : List Oper} {o : Oper} {a : Act} {w : World} {Q : Exit → Act → World → Prop} (hg : o.guard = none) (s x : Operand)
    (ho : o.op = .call { callee := .builtin .append, args := #[s, x], argTypes := #[28, 28] }) (base g n cap : Nat) (xs : List Value) (y : Value)
    (hs : a.eval s = .slice (some ⟨g, 0, none⟩) n cap) (hx : a.eval x = .slice (some ⟨w.heap.size, 0, none⟩) 1 1) (hown : w.ownsRow base 3 1 (.slice (some ⟨g, 0, none⟩) n cap) n xs)
    (hy : y.oneCell' = true) (hb : n ≤ 16777216) (hbase : base ≤ w.heap.size)
    (h : ∀ g' cap' w', w'.ownsRow base 3 1 (.slice (some ⟨g', 0, none⟩) (n + 1) cap') (n + 1) (xs ++ [y]) → (w.alloc (.cells #[y] 3)).grownBy w' (some g) → (∀ j, j < n → w'.cell? ⟨g, j, none⟩ = w.cell? ⟨g, j, none⟩) → wpList Try.prog ops Q rest (a.put o.dst (.slice (some ⟨g', 0, none⟩) (n + 1) cap')) w') :
    wpList Try.prog ops Q (o :: rest) a (w.alloc (.cells #[y] 3)) := by
  obtain ⟨i0, hi, hz0, hz1, hz2⟩ := info_parts Try.info3
  have hnews : ∀ j u, [y][j]? = some u → (w.alloc (.cells #[y] 3)).cell? ((⟨w.heap.size, 0, none⟩ : Addr).add j) = some u := news1 w y 3
  have hone : ∀ u ∈ [y], u.oneCell' = true := by intro u hu; simp at hu; rw [hu]; exact hy
  have hW := hown.alloc (.cells #[y] 3)
  have hlen : xs.length = n := by have := hown.1; omega
  have hcell : ∀ j, j < n → (w.alloc (.cells #[y] 3)).cell? ⟨g, j, none⟩ = w.cell? ⟨g, j, none⟩ := fun j hj => World.cell?_alloc_lt _ _ _ (hown.lt g rfl).2
  have hold : ∀ j, j < n → w.cell? ⟨g, j, none⟩ = xs[j]? := fun j hj => hown.cellAt j (by omega)
  refine wpList_plain hg fun K hK => ?_
  by_cases hr : n + 1 ≤ cap
  · obtain ⟨w', hrun, h1, h2⟩ := run_append_fits (P := Try.prog) (w.alloc (.cells #[y] 3)) base 28 o.type 3 i0 1 Try.underlying28 hi hz1 g n cap xs hW ⟨w.heap.size, 0, none⟩ 1 1 [y] rfl hnews hone hr
    unfold Oper.wp execOp
    simp only [ho, resolve, invoke, builtin, Sem.run_bind, Sem.run_pure, Result.andThen_ok, List.map_toArray, List.map_cons, List.map_nil, hs, hx, hrun]
    refine hK _ _ (h g cap w' h1 h2 fun j hj => ?_)
    rw [h1.cellAt j (by omega), List.getElem?_append_left (by omega), hold j hj]
  · obtain ⟨v', w', hrun, h1, h2⟩ := run_append_arg_grows (P := Try.prog) (w.alloc (.cells #[y] 3)) 28 o.type 3 i0 (.int .i64 0) 1 8 Try.underlying28 hi hz0 hz1 hz2 rfl (by decide) ⟨g, 0, none⟩ n cap xs (by omega)
      (fun j u hj => by
        have hj' : j < n := by have := (List.getElem?_eq_some_iff.1 hj).1; omega
        have e : (⟨g, 0, none⟩ : Addr).add j = ⟨g, j, none⟩ := by unfold Addr.add; split <;> simp_all
        rw [e, hcell j hj', hold j hj', hj]) ⟨w.heap.size, 0, none⟩ 1 1 [y] rfl hnews (by omega) (by unfold maxLen; omega) (by omega)
    obtain ⟨hl', ⟨h0, h0'⟩ | ⟨g', cap', cur, rfl, hb1, hb2, r⟩⟩ := h1
    · omega
    · unfold Oper.wp execOp
      simp only [ho, resolve, invoke, builtin, Sem.run_bind, Sem.run_pure, Result.andThen_ok, List.map_toArray, List.map_cons, List.map_nil, hs, hx, hrun]
      refine hK _ _ (h g' cap' w' ⟨hl', .inr ⟨g', cap', cur, rfl, by simp at hb1; omega, hb2, r⟩⟩ ⟨h2.os, h2.tape, h2.output, h2.size, fun k hk _ => h2.block k hk (by simp)⟩ fun j hj => ?_)
      rw [World.cell?_of_block (h2.block g (by have := (hown.lt g rfl).2; simp; omega) (by simp)), hcell j hj]

theorem nums_len (L : List Nat) : (nums L).length = L.length := by simp [nums]
theorem nums_get {L : List Nat} {j : Nat} (h : j < L.length) : (nums L)[j]? = some (.int .i64 (L.getD j 0 : Nat)) := by
  simp [nums, List.getElem?_eq_getElem h, List.getD]

theorem map_back (Z : List Int) (h : ∀ x, x ∈ Z → ∃ y : Nat, x = Int.ofNat y) : Z = (Z.map Int.toNat).map Int.ofNat := by
  induction Z with
  | nil => rfl
  | cons x Z ih =>
    obtain ⟨y, rfl⟩ := h x (by simp)
    rw [List.map_cons, List.map_cons, ← ih fun z hz => h z (by simp [hz])]
    rfl
/-- a row of numbers of the call's own, sorted by the library -/
theorem sort_nums (L R : List Nat) (hR : ∀ S : List Nat, S.Perm L → S.Pairwise (· ≤ ·) → S = R) (base g cap : Nat) (w : World) (own : w.ownsRow base 3 1 (.slice (some ⟨g, 0, none⟩) L.length cap) L.length (nums L)) (hl : L.length ≤ 16777216) :
    Calls Try.prog 38 #[.slice (some ⟨g, 0, none⟩) L.length cap] w fun e w' => e = .returned (.tuple #[]) ∧ w'.ownsRow base 3 1 (.slice (some ⟨g, 0, none⟩) L.length cap) R.length (nums R) ∧ w.grownBy w' (some g) := by
  rcases own.2 with ⟨h0, _⟩ | ⟨gb, cap', cur, hv, hbase, hb, h1, h2, h3, h4⟩
  · cases h0
  cases hv
  have hgb : g < w.heap.size := (Array.getElem?_eq_some_iff.1 hb).1
  have enum : ∀ Z : List Nat, nums Z = (Z.map Int.ofNat).map (Value.int .i64) := fun Z => by simp [nums]
  have elen : (L.map Int.ofNat).length = L.length := by simp
  have hH := holds_of_blockI (ss := L.map Int.ofNat) hb (by rw [elen, ← enum]; simpa using h4)
  have q := Try.slices_Sort_int g 0 cap (L.map Int.ofNat) w hH hgb (by rw [elen]; omega)
  rw [elen] at q
  refine q.mono ?_
  rintro e w' ⟨rfl, m, os, rfl⟩
  have hperm := List.mergeSort_perm (L.map Int.ofNat) (fun x y => decide (x ≤ y))
  have hsort := List.pairwise_mergeSort (le := fun x y : Int => decide (x ≤ y)) (by intro a b c; simp; omega) (by intro a b; simp; omega) (L.map Int.ofNat)
  generalize (L.map Int.ofNat).mergeSort (fun x y => decide (x ≤ y)) = Z at *
  have hZ := map_back Z fun x hx => by
    obtain ⟨y, _, rfl⟩ := List.mem_map.1 (hperm.mem_iff.1 hx)
    exact ⟨y, rfl⟩
  have hp : (Z.map Int.toNat).Perm L := by
    have := hperm.map Int.toNat
    rwa [List.map_map, show (Int.toNat ∘ Int.ofNat) = id from rfl, List.map_id] at this
  generalize Z.map Int.toNat = T at *
  subst hZ
  have hTR : T = R := by
    apply hR T hp
    rw [List.pairwise_map] at hsort
    exact hsort.imp (by intro a b h; simpa using h)
  subst hTR
  refine ⟨rfl, ?_, grownBy_sortedI _⟩
  have := ownsRow_sortedI (w := w) (base := base) (n := m) (os := os) (ss := L.map Int.ofNat) (ts := T.map Int.ofNat) (by simp [hp.length_eq]) hbase hb (by rw [elen]; exact h1) h2 h3
  rw [elen, ← enum] at this
  rw [hp.length_eq]
  exact this
end Go.Proofs.Ytikfeinhdfjjhaa
