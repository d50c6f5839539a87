/- A map from clients to loads that the call makes. -/
import Derived.Test.YtplejooihfhpdaaKinds
import Derived.Test.YtplejooihfhpdaaMap
namespace Go.Proofs.Ytplejooihfhpdaa
open Go.RowKit Go.Maps
set_option linter.unusedVariables false

theorem key3 : Keyed Try.prog 3 := int_keyed Try.underlying3
theorem zero25 (w : World) : (zeroValue 25).run Try.prog w = .ok (Ld.agg ld0) w := by kernel_rfl
/-- a load as a datum -/
def encL (p : Ld) : DataW Unit := .agg [.lit (.int .i64 p.c), .lit (.int .i64 p.e), .lit (.int .i64 p.n), .lit (.int .i64 p.l)]
def ldElem (v : Value) : Option (DataW Unit × List MemPlace) :=
  match v with
  | .agg ⟨[.int .i64 a, .int .i64 b, .int .i64 c, .int .i64 d]⟩ => some (encL ⟨a, b, c, d⟩, [])
  | _ => none
theorem ldElem_mk (p : Ld) : ldElem p.agg = some (encL p, []) := rfl
theorem encL_inj {p q : Ld} (h : encL p = encL q) : p = q := by
  obtain ⟨a, b, c, d⟩ := p
  obtain ⟨e, f, g, i⟩ := q
  simp [encL] at h
  obtain ⟨rfl, rfl, rfl, rfl⟩ := h
  rfl
theorem ldElem_inv {v : Value} {p : Ld} {ps : List MemPlace} (h : ldElem v = some (encL p, ps)) : v = p.agg := by
  unfold ldElem at h
  split at h
  · simp only [Option.some.injEq, Prod.mk.injEq] at h
    rw [← encL_inj h.1]
    rfl
  · cases h
/-- block b is a map of at most n entries: f at each client, s entries; who is there has one call at least -/
def MapL (w : World) (b n : Nat) (f : Int → Ld) (s : Nat) : Prop :=
  ∃ D : DataW Unit, w.ownsMap Try.prog 3 ldElem b n D ∧ (∀ e : Int, D.atKey (.int .i64 e) (encL ld0) = encL (f e)) ∧ (∀ e : Int, Maps.has D (.int .i64 e) = decide ((f e).c ≠ 0)) ∧ Maps.size D = s
theorem MapL.made (w : World) : MapL (w.alloc (.map #[] 0)) w.heap.size 0 (fun _ => ld0) 0 :=
  ⟨.map [], World.ownsMap_made _ _ _ _, fun e => rfl, fun e => rfl, rfl⟩
theorem MapL.new {w w' : World} {b n s : Nat} {f : Int → Ld} (h : MapL w b n f s) (hn : New w w') : MapL w' b n f s := by
  obtain ⟨D, h1, h2⟩ := h
  exact ⟨D, own_map_new h1 hn, h2⟩
theorem MapL.look {w : World} {b n s : Nat} {f : Int → Ld} (h : MapL w b n f s) {e : Int} (he : i64 e) : (Instr.lookup 55 (.map (some b)) (.int .i64 e) false).run Try.prog w = .ok (f e).agg w := by
  obtain ⟨D, h1, h2, h3, h4⟩ := h
  obtain ⟨v, ps, hrun, hv⟩ := h1.lookup key3 Try.underlying55 (zero25 w) (ldElem_mk ld0) (keyOf_int_mk Try.underlying3 (wf_of_i64 he))
  rw [h2] at hv
  rw [hrun, ldElem_inv hv]
theorem MapL.lt {w : World} {b n s : Nat} {f : Int → Ld} (h : MapL w b n f s) : b < w.heap.size := by
  obtain ⟨D, h1, h2⟩ := h
  exact h1.lt
theorem MapL.len {w : World} {b n s : Nat} {f : Int → Ld} (h : MapL w b n f s) : (Builtin.len_ #[55] 3 #[.map (some b)]).run Try.prog w = .ok (.int .i64 (s : Nat)) w := by
  obtain ⟨D, h1, h2, h3, h4⟩ := h
  rw [← h4]
  exact h1.len Try.underlying55 3
theorem MapL.put {w : World} {b n s : Nat} {f : Int → Ld} (h : MapL w b n f s) {e : Int} (he : i64 e) (hn : n < maxLen) {v : Ld} (hv : v.c ≠ 0) :
    ∃ w', (Instr.mapUpdate 55 (.map (some b)) (.int .i64 e) v.agg).run Try.prog w = .ok () w' ∧ MapL w' b (n + 1) (fun x => if x = e then v else f x) (if (f e).c = 0 then s + 1 else s) ∧ w.grownBy w' (some b) := by
  obtain ⟨D, h1, h2, h3, h4⟩ := h
  obtain ⟨w', hrun, hown, hg⟩ := h1.update key3 Try.underlying55 hn (keyOf_int_mk Try.underlying3 (wf_of_i64 he)) (ldElem_mk v)
  have td := h1.tidy key3
  refine ⟨w', hrun, ⟨_, hown, fun x => ?_, fun x => ?_, ?_⟩, hg⟩
  · by_cases hx : x = e
    · subst hx; dsimp only; rw [if_pos rfl, atKey_put_same td.isMap (show WideAt.IsKeyLit (Lit.int .i64 x) from trivial)]
    · dsimp only; rw [if_neg hx, atKey_put_other (lit_ne hx), h2]
  · by_cases hx : x = e
    · subst hx; rw [has_put_same td.isMap (show WideAt.IsKeyLit (Lit.int .i64 x) from trivial)]; simp [hv]
    · rw [has_put_other (lit_ne hx), h3]; simp [hx]
  · rw [size_put td, h3, h4]
    by_cases h0 : (f e).c = 0
    · simp [h0]
    · simp [h0]
theorem wp_lookL {o : Oper} {a : Act} {w : World} {K : Act → World → Prop} {Q : Exit → Act → World → Prop} {m x : Operand} {b n s : Nat} {f : Int → Ld} {e : Int}
    (hop : o.op = .lookup 55 m x false) (hm : a.eval m = .map (some b)) (hx : a.eval x = .int .i64 e) (hM : MapL w b n f s) (he : i64 e) (hk : K (a.put o.dst (f e).agg) w) : o.wp Try.prog a w K Q := by
  unfold Oper.wp execOp
  simp only [hop, hm, hx, Sem.run_bind, Sem.run_pure, Result.andThen_ok, hM.look he]
  exact hk
theorem wp_putL {o : Oper} {a : Act} {w : World} {K : Act → World → Prop} {Q : Exit → Act → World → Prop} {m x y : Operand} {b n s : Nat} {f : Int → Ld} {e : Int} {v : Ld}
    (hop : o.op = .mapUpdate 55 m x y) (hm : a.eval m = .map (some b)) (hx : a.eval x = .int .i64 e) (hy : a.eval y = v.agg) (hM : MapL w b n f s) (he : i64 e) (hn : n < maxLen) (hv : v.c ≠ 0)
    (hk : ∀ w', MapL w' b (n + 1) (fun x => if x = e then v else f x) (if (f e).c = 0 then s + 1 else s) → w.grownBy w' (some b) → K (a.put o.dst undef) w') : o.wp Try.prog a w K Q := by
  obtain ⟨w', hrun, h1, h2⟩ := hM.put he hn hv
  unfold Oper.wp execOp
  simp only [hop, hm, hx, hy, Sem.run_bind, Sem.run_pure, Result.andThen_ok, hrun]
  exact hk w' h1 h2
theorem OpAt.grown {w w' : World} {b : Nat} {p : Addr} {c : Array Value} (h : OpAt w p c) (hg : w.grownBy w' (some b)) (hb : p.block ≠ b) : OpAt w' p c := by
  refine ⟨h.1, Nat.lt_of_lt_of_le h.2.1 hg.size, fun j v hv => ?_⟩
  have e : (p.add j).block = p.block := by unfold Addr.add; split <;> rfl
  have hbl := hg.block p.block h.2.1 (by simpa using hb)
  have := h.2.2 j v hv
  unfold World.cell? at this ⊢
  rw [e] at this ⊢
  rw [hbl]
  exact this
end Go.Proofs.Ytplejooihfhpdaa
