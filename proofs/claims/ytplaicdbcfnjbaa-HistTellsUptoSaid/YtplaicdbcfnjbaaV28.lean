/- The reference's sort, as a list of places: one by one put behind all that are not behind it. No walk. -/
import Derived.Test.YtplaicdbcfnjbaaV26
import Derived.Test.YtplaicdbcfnjbaaV23
set_option linter.unusedSimpArgs false
set_option linter.unusedVariables false
namespace Go.Proofs.Ytplaicdbcfnjbaa
open Go.RowKit Go.Sort
set_option linter.unusedVariables false
def InsOk (s : Nat → Int) (k : Nat) (d : List Nat) : Prop := d.Perm (List.range k) ∧ d.Pairwise (fun a b => lx s b a = false)
theorem InsOk.zero (s : Nat → Int) : InsOk s 0 [] := ⟨List.Perm.refl _, List.Pairwise.nil⟩
theorem InsOk.len {s : Nat → Int} {k : Nat} {d : List Nat} (h : InsOk s k d) : d.length = k := by rw [h.1.length_eq, List.length_range]
theorem InsOk.ins {s : Nat → Int} {k p : Nat} {d : List Nat} (h : InsOk s k d) (hp : p ≤ k) (h1 : ∀ q, p ≤ q → q < k → s k < s (d.getD q 0)) (h2 : p = 0 ∨ ¬ s k < s (d.getD (p - 1) 0)) : InsOk s (k + 1) (d.take p ++ [k] ++ d.drop p) := by
  have hl := h.len
  have hm : ∀ x ∈ d, x < k := fun x hx => List.mem_range.1 (h.1.mem_iff.1 hx)
  rw [List.append_assoc]
  refine ⟨?_, ?_⟩
  · rw [List.range_succ]
    have : (d.take p ++ ([k] ++ d.drop p)).Perm (d ++ [k]) := by
      refine (List.perm_middle (a := k) (l₁ := d.take p) (l₂ := d.drop p)).trans ?_
      rw [List.take_append_drop]
      exact (List.perm_append_singleton k d).symm
    exact this.trans (h.1.append_right [k])
  · have hd : (d.take p ++ d.drop p).Pairwise (fun a b => lx s b a = false) := by rw [List.take_append_drop]; exact h.2
    rw [List.pairwise_append] at hd
    obtain ⟨d1, d2, d3⟩ := hd
    rw [List.pairwise_append]
    refine ⟨d1, ?_, fun a ha b hb => ?_⟩
    · show (k :: d.drop p).Pairwise _
      refine List.Pairwise.cons (fun b hb => ?_) d2
      obtain ⟨j, hj, e⟩ := List.getElem_of_mem hb
      rw [List.getElem_drop] at e
      have hj' : p + j < d.length := by rw [List.length_drop] at hj; omega
      have := h1 (p + j) (by omega) (by omega)
      rw [List.getD_eq_getElem?_getD, List.getElem?_eq_getElem hj'] at this
      rw [lx_not]
      left
      rw [← e]
      exact this
    · rcases List.mem_append.1 hb with hb | hb
      · rw [List.mem_singleton] at hb
        subst hb
        have hak := hm a (List.mem_of_mem_take ha)
        obtain ⟨j, hj, e⟩ := List.getElem_of_mem ha
        rw [List.length_take] at hj
        rw [List.getElem_take] at e
        rcases h2 with h2 | h2
        · omega
        · have hj' : j < d.length := by omega
          have hp1 : p - 1 < d.length := by omega
          rw [List.getD_eq_getElem?_getD, List.getElem?_eq_getElem hp1] at h2
          have h2' : ¬ s b < s d[p - 1] := h2
          have hsa : s a ≤ s d[p - 1] := by
            rcases Nat.lt_or_ge j (p - 1) with hh | hh
            · have := (List.pairwise_iff_getElem.1 h.2) j (p - 1) hj' hp1 hh
              rw [lx_not] at this
              rw [← e]
              omega
            · have hje : j = p - 1 := by omega
              subst hje
              rw [← e]
              exact Int.le_refl _
          rw [lx_not]
          omega
      · exact d3 a ha b hb
/-- there is one such order -/
theorem ins_unique {s : Nat → Int} {n : Nat} {d' : Array Nat} {d : List Nat} (hp : PermIn 0 n (Array.range n) d') (hs : SortedIn (lx s) 0 n d') (h : InsOk s n d) : ∀ k, k < n → d'[k]! = d.getD k 0 := by
  obtain ⟨h1, _, h3⟩ := hp
  have hsz : d'.size = n := by simpa using h1
  rw [ext_self hsz, ext_self (by simp), Array.toList_range] at h3
  have e : d'.toList = d := by
    refine List.Perm.eq_of_pairwise (le := fun x y => lx s y x = false) (fun a b _ _ h1 h2 => (lx_one b a h1 h2).symm) ?_ h.2 (h3.trans h.1.symm)
    rw [List.pairwise_iff_getElem]
    intro i j hi hj hij
    have hi' : i < d'.size := by simpa using hi
    have hj' : j < d'.size := by simpa using hj
    have := hs i j (Nat.zero_le _) hij (by omega)
    rw [getElem!_pos d' j hj', getElem!_pos d' i hi'] at this
    simpa using this
  intro k hk
  have hk' : k < d'.size := by omega
  rw [← e, getElem!_pos d' k hk', List.getD_eq_getElem?_getD, List.getElem?_eq_getElem (by simpa using hk')]
  simp
theorem lk_map (o : Nat → OD) (d : List Nat) (q : Nat) (hq : q < d.length) : lk (d.map o) q = o (d.getD q 0) := by
  unfold lk
  rw [List.getD_eq_getElem?_getD, List.getD_eq_getElem?_getD, List.getElem?_map, List.getElem?_eq_getElem hq]
  rfl
theorem rcells_append (a b : List OD) : rcells (a ++ b) = rcells a ++ rcells b := by unfold rcells; rw [List.flatMap_append]
theorem rcells_take {l : List OD} {p j : Nat} {u : Value} (h : (rcells (l.take p))[j]? = some u) : (rcells l)[j]? = some u := by
  have e : rcells l = rcells (l.take p) ++ rcells (l.drop p) := by rw [← rcells_append, List.take_append_drop]
  rw [e, List.getElem?_append_left (List.getElem?_eq_some_iff.1 h).1]
  exact h
theorem rcells_drop {l : List OD} {p j : Nat} {u : Value} (hp : p ≤ l.length) (h : (rcells (l.drop p))[j]? = some u) : (rcells l)[p * 19 + j]? = some u := by
  have e : rcells l = rcells (l.take p) ++ rcells (l.drop p) := by rw [← rcells_append, List.take_append_drop]
  have hl : (rcells (l.take p)).length = p * 19 := by rw [rcells_len, List.length_take, Nat.min_eq_left hp]
  rw [e, List.getElem?_append_right (by omega), hl, Nat.add_sub_cancel_left]
  exact h
/-- a slice that an append takes: nothing, or cells that lie there -/
def ArgL (w : World) (x : Value) (l : List OD) : Prop := (x = .slice none 0 0 ∧ l = []) ∨ ∃ ad c, x = .slice (some ad) l.length c ∧ ∀ j u, (rcells l)[j]? = some u → w.cell? (ad.add j) = some u
theorem run_append_none (w : World) (ty : TypeId) (a : Addr) (n c : Nat) (hn : n ≤ c) : (Builtin.append_ #[38, 38] ty #[.slice (some a) n c, .slice none 0 0]).run Try.prog w = .ok (.slice (some a) n c) w := by
  have hz := Try.sizeOf36
  simp [Builtin.append_, run_underlying Try.underlying38, hz, Builtin.lenOf, Builtin.firstCells, Result.andThen, hn, storeCells]
theorem wp_app {o : Oper} {a : Act} {w : World} {K : Act → World → Prop} {Q : Exit → Act → World → Prop} (s x : Operand)
    (ho : o.op = .call { callee := .builtin .append, args := #[s, x], argTypes := #[38, 38] }) (v y : Value) (l l2 : List OD) (base : Nat)
    (hs : a.eval s = v) (hown : OwnO w base v l) (hv : v ≠ .slice none 0 0) (hx : a.eval x = y) (hy : ArgL w y l2) (hl : l.length + l2.length ≤ 4000000) (hb : base ≤ w.heap.size)
    (h : ∀ v' w', OwnO w' base v' (l ++ l2) → v' ≠ .slice none 0 0 → w.grownBy w' v.ownBlock → (v'.ownBlock = v.ownBlock ∨ v'.ownBlock = some w.heap.size) → K (a.put o.dst v') w') : o.wp Try.prog a w K Q := by
  subst hx
  rcases hy with ⟨hx, rfl⟩ | ⟨ad, c, hx, hc⟩
  · rcases hown.2 with ⟨e, _⟩ | ⟨g, cap, cur, rfl, hg, hh, hcap, r⟩
    · exact absurd e hv
    · have hr := run_append_none w o.type ⟨g, 0, none⟩ l.length cap hcap
      unfold Oper.wp execOp
      simp only [ho, resolve, invoke, builtin, Sem.run_bind, Sem.run_pure, Result.andThen_ok, List.map_toArray, List.map_cons, List.map_nil, hs, hx, hr]
      exact h _ _ (by rw [List.append_nil]; exact hown) hv (World.grownBy.refl _ _) (.inl rfl)
  · obtain ⟨i0, hi, hz0, hz1, hz2⟩ := info36a
    obtain ⟨v', w', hr, h2, h3, h4, h5⟩ := run_append_own_at (P := Try.prog) w base 38 o.type 36 i0 _ 19 216 Try.underlying38 hi hz0 hz1 hz2 rfl (by decide) v _ _ hown ad l2.length c (rcells l2) (rcells_len l2) hc (rcells_one l2) (by unfold maxLen; omega) (by omega) hb
    unfold Oper.wp execOp
    simp only [ho, resolve, invoke, builtin, Sem.run_bind, Sem.run_pure, Result.andThen_ok, List.map_toArray, List.map_cons, List.map_nil, hs, hx, hr]
    refine h v' w' ?_ (fun e => hv (h4.1 e).1) h3 h5
    unfold OwnO
    rw [rcells_append, List.length_append]
    exact h2
theorem run_emp (w : World) : (Instr.buildSlice 38 0 #[]).run Try.prog w = .ok (.slice (some ⟨w.heap.size, 0, none⟩) 0 0) (w.alloc (.cells #[] 36)) := by kernel_rfl
/-- an empty slice, made -/
theorem wp_emp {o : Oper} {a : Act} {w : World} {K : Act → World → Prop} {Q : Exit → Act → World → Prop} (ho : o.op = .buildSlice 38 0 #[])
    (h : ∀ w', OwnO w' w.heap.size (.slice (some ⟨w.heap.size, 0, none⟩) 0 0) [] → New w w' → w'.heap.size = w.heap.size + 1 → K (a.put o.dst (.slice (some ⟨w.heap.size, 0, none⟩) 0 0)) w') : o.wp Try.prog a w K Q := by
  unfold Oper.wp execOp
  simp only [ho, Sem.run_bind, List.map_toArray, List.map_nil, run_emp, Result.andThen_ok, Sem.run_pure]
  exact h _ (own_zero19 w) ((New.refl w).alloc _) (by simp)
theorem OpAt.grownBy {w w' : World} {row : Option Nat} {p : Addr} {c : Array Value} (h : OpAt w p c) (hg : w.grownBy w' row) (hb : some p.block ≠ row) : OpAt w' p c := by
  refine ⟨h.1, Nat.lt_of_lt_of_le h.2.1 hg.size, fun j v hv => ?_⟩
  have e : (p.add j).block = p.block := by unfold Addr.add; split <;> rfl
  have hbl := hg.block p.block h.2.1 hb
  have := h.2.2 j v hv
  unfold World.cell? at this ⊢
  rw [e] at this ⊢
  rw [hbl]
  exact this
/-- the row that is sorted so far -/
theorem OwnO.form {w : World} {base : Nat} {v : Value} {l : List OD} (h : OwnO w base v l) :
    ∃ A cap, v = .slice A l.length cap ∧ ((A = none ∧ l = [] ∧ cap = 0) ∨ ∃ g, A = some ⟨g, 0, none⟩ ∧ l.length ≤ cap ∧ (∀ i, i < l.length → OpAt w ((⟨g, 0, none⟩ : Addr).add (i * 19)) (ocs (lk l i))) ∧ ∀ j u, (rcells l)[j]? = some u → w.cell? ⟨g, j, none⟩ = some u) := by
  rcases h.2 with ⟨e, e0⟩ | ⟨g, cap, cur, hv, hg, hh, hcap, _⟩
  · exact ⟨none, 0, by rw [e, e0], .inl ⟨rfl, List.eq_nil_of_length_eq_zero e0, rfl⟩⟩
  · have hc : ∀ j u, (rcells l)[j]? = some u → w.cell? ⟨g, j, none⟩ = some u := fun j u hu => by
      have := h.cells (by rw [hv]; rfl) j u hu
      rwa [Addr.add_mid, Nat.zero_add] at this
    refine ⟨some ⟨g, 0, none⟩, cap, hv, .inr ⟨g, rfl, hcap, fun i hi => ⟨ocs_op _, ?_, fun j u hu => ?_⟩, hc⟩⟩
    · rw [Addr.add_mid]
      apply Nat.lt_of_not_le
      intro hge
      simp [Array.getElem?_eq_none hge] at hh
    · have hj : j < 19 := by have := (Array.getElem?_eq_some_iff.1 hu).1; rwa [(ocs_op _).1] at this
      rw [Addr.add_mid, Addr.add_mid, Nat.zero_add]
      refine hc _ _ ?_
      rw [rcells_at l i j hi hj]
      exact hu
end Go.Proofs.Ytplaicdbcfnjbaa
