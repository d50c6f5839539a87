/- A map from errors to numbers that the call makes: what it holds, told by a function on the errors; which error is seen first where. -/
import Derived.Test.YtplejooihfhpdaaHits
import Derived.Maps.Own
import Derived.Maps.OwnOps
import Derived.Maps.OwnSet
namespace Go.Proofs.Ytplejooihfhpdaa
open Go.RowKit Go.Maps
set_option linter.unusedVariables false

theorem key31 : Keyed Try.prog 31 := int_keyed Try.underlying31
theorem zero3 (w : World) : (zeroValue 3).run Try.prog w = .ok (.int .i64 0) w := by kernel_rfl
theorem wf_of_i64 {x : Int} (h : i64 x) : (Lit.int .i64 x).wf = true := by
  unfold i64 at h
  simp [Lit.wf, IntKind.min, IntKind.max, IntKind.signed, IntKind.bits]
  omega
theorem own_map_new {H : Type} {w w' : World} {P : Program} {k : TypeId} {R : Value → Option (DataW H × List MemPlace)} {b n : Nat} {D : DataW H} (h : w.ownsMap P k R b n D) (hn : New w w') : w'.ownsMap P k R b n D :=
  h.kept (row := none) ⟨hn.os, hn.tape, hn.output, hn.size, fun k hk _ => hn.block k hk⟩ (by simp)
/-- block b is a map of at most n entries: f at each error, s entries -/
def MapIs (w : World) (b n : Nat) (f : Int → Nat) (s : Nat) : Prop :=
  ∃ D : DataW Unit, w.ownsMap Try.prog 31 (plainElem Try.prog 3) b n D ∧ (∀ e : Int, D.atKey (.int .i64 e) (.lit (.int .i64 0)) = .lit (.int .i64 (f e : Nat))) ∧ (∀ e : Int, Maps.has D (.int .i64 e) = decide (f e ≠ 0)) ∧ Maps.size D = s
theorem MapIs.made (w : World) : MapIs (w.alloc (.map #[] 0)) w.heap.size 0 (fun _ => 0) 0 :=
  ⟨.map [], World.ownsMap_made _ _ _ _, fun e => rfl, fun e => rfl, rfl⟩
theorem MapIs.new {w w' : World} {b n s : Nat} {f : Int → Nat} (h : MapIs w b n f s) (hn : New w w') : MapIs w' b n f s := by
  obtain ⟨D, h1, h2⟩ := h
  exact ⟨D, own_map_new h1 hn, h2⟩
theorem MapIs.lt {w : World} {b n s : Nat} {f : Int → Nat} (h : MapIs w b n f s) : b < w.heap.size := by
  obtain ⟨D, h1, h2⟩ := h
  exact h1.lt
theorem MapIs.mono {w : World} {b n m s : Nat} {f : Int → Nat} (h : MapIs w b n f s) (hm : n ≤ m) : MapIs w b m f s := by
  obtain ⟨D, h1, h2⟩ := h
  exact ⟨D, h1.mono hm, h2⟩
theorem lit_ne {a b : Int} (h : a ≠ b) : (Lit.int .i64 a) ≠ Lit.int .i64 b := by intro e; injection e with _ e; exact h e
theorem MapIs.step {w w' : World} {b n s : Nat} {f : Int → Nat} {D : DataW Unit} {e : Int} (h1 : w.ownsMap Try.prog 31 (plainElem Try.prog 3) b n D)
    (h2 : ∀ e : Int, D.atKey (.int .i64 e) (.lit (.int .i64 0)) = .lit (.int .i64 (f e : Nat))) (h3 : ∀ e : Int, Maps.has D (.int .i64 e) = decide (f e ≠ 0)) (h4 : Maps.size D = s)
    (h : w'.ownsMap Try.prog 31 (plainElem Try.prog 3) b (n + 1) (D.put (.int .i64 e) (.lit (.int .i64 ((f e + 1 : Nat) : Int))))) :
    MapIs w' b (n + 1) (fun x => if x = e then f e + 1 else f x) (if f e = 0 then s + 1 else s) := by
  have td := h1.tidy key31
  refine ⟨_, h, fun x => ?_, fun x => ?_, ?_⟩
  · by_cases hx : x = e
    · subst hx; dsimp only; rw [if_pos rfl, atKey_put_same td.isMap (show WideAt.IsKeyLit (Lit.int .i64 x) from trivial)]
    · dsimp only; rw [if_neg hx, atKey_put_other (lit_ne hx), h2]
  · by_cases hx : x = e
    · subst hx; rw [has_put_same td.isMap (show WideAt.IsKeyLit (Lit.int .i64 x) from trivial)]; simp
    · rw [has_put_other (lit_ne hx), h3]; simp [hx]
  · rw [size_put td, h3, h4]
    by_cases h0 : f e = 0
    · simp [h0]
    · simp [h0]
theorem MapIs.look {w : World} {b n s : Nat} {f : Int → Nat} (h : MapIs w b n f s) {e : Int} (he : i64 e) : (Instr.lookup 29 (.map (some b)) (.int .i64 e) false).run Try.prog w = .ok (.int .i64 (f e : Nat)) w := by
  obtain ⟨D, h1, h2, h3, h4⟩ := h
  obtain ⟨c, hrun, hat, hw⟩ := h1.lookup_int key31 Try.underlying29 Try.underlying3 (zero3 w) (keyOf_int_mk Try.underlying31 (wf_of_i64 he))
  rw [h2] at hat
  injection hat with hat
  injection hat with _ hat
  rw [hrun, hat]
theorem MapIs.len {w : World} {b n s : Nat} {f : Int → Nat} (h : MapIs w b n f s) : (Builtin.len_ #[29] 3 #[.map (some b)]).run Try.prog w = .ok (.int .i64 (s : Nat)) w := by
  obtain ⟨D, h1, h2, h3, h4⟩ := h
  rw [← h4]
  exact h1.len Try.underlying29 3
theorem wpl_look {ops : Array Oper} {rest : List Oper} {o : Oper} {a : Act} {w : World} {Q : Exit → Act → World → Prop} {m x : Operand} {b n s : Nat} {f : Int → Nat} {e : Int}
    (hop : o.op = .lookup 29 m x false) (hm : a.eval m = .map (some b)) (hx : a.eval x = .int .i64 e) (hM : MapIs w b n f s) (he : i64 e) (hg : Region.wanted o (yielded ops a.tmps) = true)
    (hk : wpList Try.prog ops Q rest (a.put o.dst (.int .i64 (f e : Nat))) w) : wpList Try.prog ops Q (o :: rest) a w :=
  wpList_step fun K hK => by
    rw [if_pos hg]
    unfold Oper.wp execOp
    simp only [hop, hm, hx, Sem.run_bind, Sem.run_pure, Result.andThen_ok, hM.look he]
    exact hK _ _ hk
/-- a number at an error is raised by one -/
theorem wpl_more {ops : Array Oper} {rest : List Oper} {o : Oper} {a : Act} {w : World} {Q : Exit → Act → World → Prop} {m x v : Operand} {b n s : Nat} {f : Int → Nat} {e : Int}
    (hop : o.op = .mapUpdate 29 m x v) (hm : a.eval m = .map (some b)) (hx : a.eval x = .int .i64 e) (hv : a.eval v = .int .i64 ((f e : Nat) + 1)) (hM : MapIs w b n f s) (he : i64 e) (hn : n < maxLen) (hf : f e < 1000) (hg : o.guard = none)
    (hk : ∀ w', MapIs w' b (n + 1) (fun x => if x = e then f e + 1 else f x) (if f e = 0 then s + 1 else s) → w.grownBy w' (some b) → wpList Try.prog ops Q rest (a.put o.dst undef) w') : wpList Try.prog ops Q (o :: rest) a w := by
  obtain ⟨D, h1, h2, h3, h4⟩ := hM
  refine wpList_mapUpdate_own w hg m x v 29 hop 31 3 key31 Try.underlying29 _ b n D hm h1 hn _ _ _ hx hv (keyOf_int_mk Try.underlying31 (wf_of_i64 he)) (.lit (.int .i64 ((f e + 1 : Nat) : Int))) [] ?_ ?_
  · rw [show ((f e : Nat) : Int) + 1 = ((f e + 1 : Nat) : Int) by omega]
    exact plainElem_int Try.underlying3 (wf_of_i64 (by unfold i64; omega))
  · intro w' o' g'
    exact hk w' (MapIs.step h1 h2 h3 h4 o') g'
/-- the errors' counts after k calls, and how many errors there are -/
def cntF (z : Nat → Nm) (k : Nat) : Int → Nat := fun e => if e = 0 then 0 else told z e k
def fst (z : Nat → Nm) (i : Nat) : Prop := (z i).to ≠ -1 ∧ (z i).er ≠ 0 ∧ told z (z i).er i = 0
instance (z : Nat → Nm) (i : Nat) : Decidable (fst z i) := by unfold fst; exact inferInstance
/-- over those that are first -/
def sumF (z : Nat → Nm) (F : Int → Nat) : Nat → Nat
  | 0 => 0
  | k + 1 => sumF z F k + if fst z k then F (z k).er else 0
theorem cntF_skip {z : Nat → Nm} {k : Nat} (h : ¬ ((z k).to ≠ -1 ∧ (z k).er ≠ 0)) : cntF z (k + 1) = cntF z k := by
  funext e
  unfold cntF
  by_cases he : e = 0
  · rw [if_pos he, if_pos he]
  · rw [if_neg he, if_neg he]
    show told z e k + _ = _
    rw [if_neg (fun h2 => h ⟨h2.1, fun h3 => he (h2.2.symm.trans h3)⟩), Nat.add_zero]
theorem cntF_more {z : Nat → Nm} {k : Nat} (h : (z k).to ≠ -1) (h2 : (z k).er ≠ 0) : cntF z (k + 1) = fun x => if x = (z k).er then cntF z k (z k).er + 1 else cntF z k x := by
  funext e
  unfold cntF
  by_cases he : e = 0
  · subst he; rw [if_pos rfl, if_neg (fun h => h2 h.symm), if_pos rfl]
  · rw [if_neg he]
    by_cases hx : e = (z k).er
    · rw [if_pos hx, if_neg h2]
      show told z e k + _ = _
      rw [if_pos ⟨h, hx.symm⟩, hx]
    · rw [if_neg hx, if_neg he]
      show told z e k + _ = _
      rw [if_neg (fun h3 => hx h3.2.symm), Nat.add_zero]
theorem kinds_skip {z : Nat → Nm} {k : Nat} (F : Int → Nat) (h : ¬ fst z k) : sumF z F (k + 1) = sumF z F k := by
  show sumF z F k + _ = _
  rw [if_neg h, Nat.add_zero]
theorem kinds_more {z : Nat → Nm} {k : Nat} (F : Int → Nat) (h : fst z k) : sumF z F (k + 1) = sumF z F k + F (z k).er := by
  show sumF z F k + _ = _
  rw [if_pos h]
theorem kinds_step {z : Nat → Nm} {k : Nat} (h : (z k).to ≠ -1) (h2 : (z k).er ≠ 0) : sumF z (fun _ => 1) (k + 1) = if cntF z k (z k).er = 0 then sumF z (fun _ => 1) k + 1 else sumF z (fun _ => 1) k := by
  have e : cntF z k (z k).er = told z (z k).er k := by unfold cntF; rw [if_neg h2]
  rw [e]
  by_cases h3 : told z (z k).er k = 0
  · rw [if_pos h3, kinds_more _ ⟨h, h2, h3⟩]
  · rw [if_neg h3, kinds_skip _ (fun q => h3 q.2.2)]
theorem cntF_le (z : Nat → Nm) (k : Nat) (e : Int) : cntF z k e ≤ k := by unfold cntF; split; omega; exact told_le z e k
theorem sumF_le (z : Nat → Nm) {F : Int → Nat} {c : Nat} (h : ∀ e, F e ≤ c) : ∀ k, sumF z F k ≤ k * c
  | 0 => by simp [sumF]
  | k + 1 => by
    have ih := sumF_le z h k
    have := h (z k).er
    rw [Nat.succ_mul]
    unfold sumF
    split <;> omega
/-- of one error just one is first -/
theorem sumF_one (z : Nat → Nm) (e : Int) (he : e ≠ 0) : ∀ n, sumF z (fun x => if x = e then 1 else 0) n = if told z e n = 0 then 0 else 1
  | 0 => by simp [sumF, told]
  | n + 1 => by
    have ih := sumF_one z e he n
    have ht : told z e (n + 1) = told z e n + if (z n).to ≠ -1 ∧ (z n).er = e then 1 else 0 := rfl
    by_cases hf : fst z n
    · rw [kinds_more _ hf, ih]
      obtain ⟨f1, f2, f3⟩ := hf
      by_cases hx : (z n).er = e
      · rw [hx] at f3
        have e1 : told z e (n + 1) = 1 := by rw [ht, if_pos ⟨f1, hx⟩, f3]
        rw [e1, f3]
        simp [hx]
      · have e1 : told z e (n + 1) = told z e n := by rw [ht, if_neg (fun h => hx h.2), Nat.add_zero]
        rw [e1]
        simp [hx]
    · rw [kinds_skip _ hf, ih, ht]
      by_cases hc : (z n).to ≠ -1 ∧ (z n).er = e
      · have : told z e n ≠ 0 := fun h0 => hf ⟨hc.1, by rw [hc.2]; exact he, by rw [hc.2]; exact h0⟩
        rw [if_pos hc, if_neg this, if_neg (by omega)]
      · rw [if_neg hc, Nat.add_zero]
theorem sumF_add (z : Nat → Nm) (F G : Int → Nat) : ∀ k, sumF z (fun e => F e + G e) k = sumF z F k + sumF z G k
  | 0 => rfl
  | k + 1 => by
    have := sumF_add z F G k
    unfold sumF
    split <;> omega
theorem sumF_nil (z : Nat → Nm) {F : Int → Nat} (h : ∀ e, e ≠ 0 → F e = 0) : ∀ k, sumF z F k = 0
  | 0 => rfl
  | k + 1 => by
    by_cases hf : fst z k
    · rw [kinds_more _ hf, sumF_nil z h k, h _ hf.2.1]
    · rw [kinds_skip _ hf, sumF_nil z h k]
theorem sumF_congr (z : Nat → Nm) {F G : Int → Nat} (h : ∀ e, e ≠ 0 → F e = G e) : ∀ k, sumF z F k = sumF z G k
  | 0 => rfl
  | k + 1 => by
    by_cases hf : fst z k
    · rw [kinds_more _ hf, kinds_more _ hf, sumF_congr z h k, h _ hf.2.1]
    · rw [kinds_skip _ hf, kinds_skip _ hf, sumF_congr z h k]
/-- how many of the first m have ended with an error -/
def errs (z : Nat → Nm) : Nat → Nat
  | 0 => 0
  | m + 1 => errs z m + if (z m).to ≠ -1 ∧ (z m).er ≠ 0 then 1 else 0
theorem told_mono (z : Nat → Nm) (e : Int) {m n : Nat} (h : m ≤ n) : told z e m ≤ told z e n := by
  induction h with
  | refl => exact Nat.le_refl _
  | step _ ih => exact Nat.le_trans ih (by show _ ≤ told z e _ + _; omega)
theorem sumF_errs (z : Nat → Nm) (n : Nat) : ∀ m, m ≤ n → sumF z (fun e => told z e m) n = errs z m
  | 0, _ => sumF_nil z (fun _ _ => rfl) n
  | m + 1, h => by
    have ih := sumF_errs z n m (by omega)
    have ht : ∀ e, told z e (m + 1) = told z e m + if (z m).to ≠ -1 ∧ (z m).er = e then 1 else 0 := fun _ => rfl
    have he : errs z (m + 1) = errs z m + if (z m).to ≠ -1 ∧ (z m).er ≠ 0 then 1 else 0 := rfl
    rw [show (fun e => told z e (m + 1)) = fun e => told z e m + (if (z m).to ≠ -1 ∧ (z m).er = e then 1 else 0) from funext ht, sumF_add, ih, he]
    congr 1
    by_cases h1 : (z m).to ≠ -1
    · by_cases h2 : (z m).er ≠ 0
      · rw [if_pos ⟨h1, h2⟩]
        rw [sumF_congr z (G := fun x => if x = (z m).er then 1 else 0) (fun e _ => by
          by_cases hx : (z m).er = e
          · rw [if_pos ⟨h1, hx⟩, if_pos hx.symm]
          · rw [if_neg (fun q => hx q.2), if_neg (fun q => hx q.symm)])]
        rw [sumF_one z _ h2, if_neg]
        have : told z (z m).er (m + 1) = told z (z m).er m + 1 := by rw [ht, if_pos ⟨h1, rfl⟩]
        have := told_mono z (z m).er h
        omega
      · rw [if_neg (fun q => h2 q.2)]
        refine sumF_nil z (fun e he => ?_) n
        have h3 : (z m).er = 0 := by simpa using h2
        rw [if_neg (fun q => he (by rw [← q.2, h3]))]
    · rw [if_neg (fun q => h1 q.1)]
      exact sumF_nil z (fun e he => by rw [if_neg (fun q => h1 q.1)]) n
end Go.Proofs.Ytplejooihfhpdaa
