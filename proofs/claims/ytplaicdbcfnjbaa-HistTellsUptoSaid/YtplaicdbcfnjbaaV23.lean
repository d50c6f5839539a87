/- A map from clients to rows of calls that the call makes: its laws. No walk. -/
import Derived.Test.YtplaicdbcfnjbaaV21
import Derived.Test.YtplaicdbcfnjbaaV22
import Derived.Test.YtplaicdbcfnjbaaV15
import Derived.Test.YtplaicdbcfnjbaaV11
set_option linter.unusedSimpArgs false
set_option linter.unusedVariables false
namespace Go.Proofs.Ytplaicdbcfnjbaa
open Go.RowKit Go.Maps
set_option linter.unusedVariables false
set_option maxRecDepth 100000
/-- the head of an owned row: none, or its block, how many, room -/
abbrev Sv := Option (Nat × Nat × Nat)
def svV : Sv → Value
  | none => .slice none 0 0
  | some (g, n, c) => .slice (some ⟨g, 0, none⟩) n c
def svE : Sv → DataW Unit
  | none => .agg []
  | some (g, n, c) => .agg [.lit (.int .i64 (g : Nat)), .lit (.int .i64 (n : Nat)), .lit (.int .i64 (c : Nat))]
def svElem (v : Value) : Option (DataW Unit × List MemPlace) :=
  match v with
  | .slice none 0 0 => some (svE none, [])
  | .slice (some ⟨g, 0, none⟩) n c => some (svE (some (g, n, c)), [])
  | _ => none
theorem svElem_mk (s : Sv) : svElem (svV s) = some (svE s, []) := by
  match s with
  | none => rfl
  | some (g, n, c) => rfl
theorem svE_inj {s t : Sv} (h : svE s = svE t) : s = t := by
  match s, t, h with
  | none, none, _ => rfl
  | none, some (g, n, c), h => simp [svE] at h
  | some (g, n, c), none, h => simp [svE] at h
  | some (g, n, c), some (g', n', c'), h =>
    simp [svE] at h
    obtain ⟨h1, h2, h3⟩ := h
    rw [show g = g' by omega, show n = n' by omega, show c = c' by omega]
theorem svElem_inv {v : Value} {s : Sv} {ps : List MemPlace} (h : svElem v = some (svE s, ps)) : v = svV s := by
  unfold svElem at h
  split at h
  · simp only [Option.some.injEq, Prod.mk.injEq] at h
    rw [← svE_inj h.1]
    rfl
  · simp only [Option.some.injEq, Prod.mk.injEq] at h
    rw [← svE_inj h.1]
    rfl
  · cases h
theorem zero38 (w : World) : (zeroValue 38).run Try.prog w = .ok (svV none) w := by kernel_rfl
theorem OwnO.sv {w : World} {base : Nat} {v : Value} {l : List OD} (h : OwnO w base v l) : ∃ s, v = svV s ∧ (l ≠ [] → s ≠ none) := by
  rcases h.2 with ⟨e, e0⟩ | ⟨g, cap, cur, hv, _⟩
  · exact ⟨none, e, fun hn => absurd (List.eq_nil_of_length_eq_zero e0) hn⟩
  · exact ⟨some (g, l.length, cap), hv, fun _ e => by cases e⟩
theorem lit_ne3 {x e : Int} (h : x ≠ e) : (Lit.int .i64 x) ≠ .int .i64 e := fun e2 => h (by injection e2)
/-- block b is a map of at most n entries: at each client the head of a row -/
def MO (w : World) (b n : Nat) (h : Int → Sv) : Prop :=
  ∃ D : DataW Unit, w.ownsMap Try.prog 3 svElem b n D ∧ (∀ e : Int, D.atKey (.int .i64 e) (svE none) = svE (h e)) ∧ (∀ e : Int, Maps.has D (.int .i64 e) = (h e).isSome) ∧ Maps.size D ≤ n ∧ ∀ e, h e ≠ none → i64 e
theorem MO.made (w : World) : MO (w.alloc (.map #[] 0)) w.heap.size 0 (fun _ => none) :=
  ⟨.map [], World.ownsMap_made _ _ _ _, fun e => rfl, fun e => rfl, Nat.le_refl _, fun e h => absurd rfl h⟩
theorem MO.new {w w' : World} {b n : Nat} {h : Int → Sv} (k : MO w b n h) (hn : New w w') : MO w' b n h := by
  obtain ⟨D, h1, h2⟩ := k
  exact ⟨D, own_map_new h1 hn, h2⟩
theorem MO.grown {w w' : World} {b n : Nat} {row : Option Nat} {h : Int → Sv} (k : MO w b n h) (hg : w.grownBy w' row) (hr : row ≠ some b) : MO w' b n h := by
  obtain ⟨D, h1, h2⟩ := k
  exact ⟨D, h1.kept hg (fun e => hr e.symm), h2⟩
theorem MO.lt {w : World} {b n : Nat} {h : Int → Sv} (k : MO w b n h) : b < w.heap.size := by
  obtain ⟨D, h1, h2⟩ := k
  exact h1.lt
theorem MO.look {w : World} {b n : Nat} {h : Int → Sv} (k : MO w b n h) {e : Int} (he : i64 e) : (Instr.lookup 68 (.map (some b)) (.int .i64 e) false).run Try.prog w = .ok (svV (h e)) w := by
  obtain ⟨D, h1, h2, h3, h4, h5⟩ := k
  obtain ⟨v, ps, hrun, hv⟩ := h1.lookup kit3.K Try.underlying68 (zero38 w) (svElem_mk none) (kit3.key e he)
  rw [h2] at hv
  rw [hrun, svElem_inv hv]
theorem MO.put {w : World} {b n : Nat} {h : Int → Sv} (k : MO w b n h) {e : Int} (he : i64 e) (hn : n < maxLen) {s : Sv} (hs : s ≠ none) :
    ∃ w', (Instr.mapUpdate 68 (.map (some b)) (.int .i64 e) (svV s)).run Try.prog w = .ok () w' ∧ MO w' b (n + 1) (fun x => if x = e then s else h x) ∧ w.grownBy w' (some b) := by
  obtain ⟨D, h1, h2, h3, h4, h5⟩ := k
  obtain ⟨w', hrun, hown, hg⟩ := h1.update kit3.K Try.underlying68 hn (kit3.key e he) (svElem_mk s)
  have td := h1.tidy kit3.K
  refine ⟨w', hrun, ⟨_, hown, fun x => ?_, fun x => ?_, ?_, fun x hx => ?_⟩, hg⟩
  · by_cases hx : x = e
    · subst hx; dsimp only; rw [if_pos rfl, atKey_put_same td.isMap (show WideAt.IsKeyLit (Lit.int .i64 x) from trivial)]
    · dsimp only; rw [if_neg hx, atKey_put_other (lit_ne3 hx), h2]
  · by_cases hx : x = e
    · subst hx
      rw [has_put_same td.isMap (show WideAt.IsKeyLit (Lit.int .i64 x) from trivial)]
      cases s with
      | none => exact absurd rfl hs
      | some s => simp
    · rw [has_put_other (lit_ne3 hx), h3]; simp [hx]
  · rw [size_put td]
    split <;> omega
  · by_cases e2 : x = e
    · subst e2; exact he
    · dsimp only at hx; rw [if_neg e2] at hx; exact h5 x hx
theorem MO.key {w : World} {b n : Nat} {h : Int → Sv} (k : MO w b n h) {e : Int} (he : h e ≠ none) : i64 e := by
  obtain ⟨D, h1, h2, h3, h4, h5⟩ := k
  exact h5 e he
/-- the rows: each client has its own calls; no two share a block -/
structure MRows (w : World) (base : Nat) (h : Int → Sv) (c : Int → List OD) : Prop where
  own : ∀ e, OwnO w base (svV (h e)) (c e)
  full : ∀ e, h e ≠ none → c e ≠ []
  apart : ∀ e e' g, (svV (h e)).ownBlock = some g → (svV (h e')).ownBlock = some g → e = e'
theorem MRows.new {w w' : World} {base : Nat} {h : Int → Sv} {c : Int → List OD} (H : MRows w base h c) (n : New w w') : MRows w' base h c := ⟨fun e => own_new (H.own e) n, H.full, H.apart⟩
theorem MRows.zero (w : World) (base : Nat) : MRows w base (fun _ => none) (fun _ => []) := ⟨fun _ => World.ownsRow_nil _ _ _ _, fun e h => absurd rfl h, fun e e' g h => by cases h⟩
theorem MRows.step {w2 w3 w4 : World} {base b : Nat} {who : Int} {h : Int → Sv} {c c' : Int → List OD} {s' : Sv} {p : OD} (H : MRows w2 base h c) (hb : b < base) (g3 : w2.grownBy w3 (svV (h who)).ownBlock)
    (o3 : OwnO w3 base (svV s') (c who ++ [p])) (hat : (svV s').ownBlock = (svV (h who)).ownBlock ∨ (svV s').ownBlock = some w2.heap.size) (g4 : w3.grownBy w4 (some b))
    (hc : ∀ e, c' e = if e = who then c e ++ [p] else c e) : MRows w4 base (fun e => if e = who then s' else h e) c' := by
  have far : ∀ {w : World} {v : Value} {l : List OD}, OwnO w base v l → w.grownBy w4 (some b) → OwnO w4 base v l := fun o g => o.kept g (by
    cases hv : Value.ownBlock _ with
    | none => exact .inl rfl
    | some k => exact .inr (fun e => by injection e with e; have := (o.lt k hv).1; omega))
  have old : ∀ e g, (svV (h e)).ownBlock = some g → g < w2.heap.size := fun e g hg => ((H.own e).lt g hg).2
  refine ⟨fun e => ?_, fun e he => ?_, fun e e' g he he' => ?_⟩
  · rw [hc]
    by_cases hw : e = who
    · subst hw; simp only [if_pos]; exact far o3 g4
    · simp only [if_neg hw]
      refine far ((H.own e).kept g3 ?_) g4
      cases hv : Value.ownBlock _ with
      | none => exact .inl rfl
      | some k => exact .inr (fun e2 => hw (H.apart e who k hv e2.symm))
  · rw [hc]
    by_cases hw : e = who
    · rw [if_pos hw]; simp
    · rw [if_neg hw]; rw [if_neg hw] at he; exact H.full e he
  · by_cases hw : e = who <;> by_cases hw' : e' = who
    · rw [hw, hw']
    · simp only [if_pos hw] at he
      simp only [if_neg hw'] at he'
      rcases hat with e2 | e2
      · rw [e2] at he
        rw [hw]; exact H.apart who e' g he he'
      · rw [e2] at he
        injection he with he
        have := old e' g he'
        omega
    · simp only [if_neg hw] at he
      simp only [if_pos hw'] at he'
      rcases hat with e2 | e2
      · rw [e2] at he'
        rw [hw']; exact H.apart e who g he he'
      · rw [e2] at he'
        injection he' with he'
        have := old e g he
        omega
    · simp only [if_neg hw] at he
      simp only [if_neg hw'] at he'
      exact H.apart e e' g he he'
theorem clL_step (o : Nat → OD) (k : Nat) (e : Int) : clL o e (k + 1) = if e = (o k).r0 then clL o e k ++ [o k] else clL o e k := by
  show (if (o k).r0 = e then _ else _) = _
  by_cases h : e = (o k).r0
  · rw [if_pos h, if_pos h.symm]
  · rw [if_neg h, if_neg (fun e2 => h e2.symm)]
theorem mem_intKeys {H : Type} {R : Value → Option (DataW H × List MemPlace)} {w : World} {b n : Nat} {D : DataW H} (hown : w.ownsMap Try.prog 3 R b n D) (x : Int) : x ∈ intKeys D ↔ Maps.has D (.int .i64 x) = true := by
  obtain ⟨es, rfl, hko⟩ := hown.keysOf
  rw [has_eq, List.any_eq_true]
  show x ∈ (es.map fun p : Lit × DataW H => Go.intOf p.1) ↔ _
  rw [List.mem_map]
  have hk : ∀ p ∈ es, ∃ x, p.1 = .int .i64 x := fun p hp => by
    obtain ⟨v, hv⟩ := hko p hp
    obtain ⟨x, _, hx, _⟩ := Maps.keyOf_i64 Try.underlying3 hv
    exact ⟨x, hx⟩
  constructor
  · rintro ⟨p, hp', rfl⟩
    obtain ⟨a, ha⟩ := hk p hp'
    exact ⟨p, hp', by rw [ha]; simp [Lit.sameKey, Go.intOf]⟩
  · rintro ⟨p, hp', hs⟩
    obtain ⟨a, ha⟩ := hk p hp'
    rw [ha] at hs
    exact ⟨p, hp', by rw [ha]; simpa [Lit.sameKey, Go.intOf] using hs⟩
/-- the keys of the map, sorted: who is there -/
theorem MO.sorted {w : World} {b n : Nat} {h : Int → Sv} (k : MO w b n h) (hn : n ≤ 4000000) :
    Calls Try.prog 42 #[.func (.func 55) #[] #[.pointer (some ⟨w.heap.size, 0, none⟩)]] (w.alloc (.cells #[.map (some b)] 68)) fun e w' => ∃ (v : Value) (ss : List Int), e = .returned v ∧ (∀ x, x ∈ ss ↔ (h x).isSome = true) ∧ ss.length ≤ n ∧ OwnI w' (w.heap.size + 1) v ss ∧ New (w.alloc (.cells #[.map (some b)] 68)) w' := by
  obtain ⟨D, h1, h2, h3, h4, h5⟩ := k
  refine (sorted42 b n D w h1 (by unfold maxLen; omega) (by omega)).mono ?_
  rintro e w' ⟨v, ss, rfl, hp, ho, hN⟩
  refine ⟨v, ss, rfl, fun x => ?_, ?_, ho, hN⟩
  · rw [hp.mem_iff, mem_intKeys h1, h3]
  · rw [hp.length_eq]
    obtain ⟨es, hD, hko⟩ := h1.keysOf
    subst hD
    exact Nat.le_trans (Nat.le_of_eq (by simp [intKeys, Maps.size])) h4
theorem wpl_lookO {ops : Array Oper} {rest : List Oper} {o : Oper} {a : Act} {w : World} {Q : Exit → Act → World → Prop} {m x : Operand} {b n : Nat} {h : Int → Sv} {e : Int}
    (hg : o.guard = none) (hop : o.op = .lookup 68 m x false) (hm : a.eval m = .map (some b)) (hx : a.eval x = .int .i64 e) (hM : MO w b n h) (he : i64 e) (hk : wpList Try.prog ops Q rest (a.put o.dst (svV (h e))) w) : wpList Try.prog ops Q (o :: rest) a w :=
  wpList_plain hg fun K hK => by
    unfold Oper.wp execOp
    simp only [hop, hm, hx, Sem.run_bind, Sem.run_pure, Result.andThen_ok, hM.look he]
    exact hK _ _ hk
theorem wp_lookO {o : Oper} {a : Act} {w : World} {K : Act → World → Prop} {Q : Exit → Act → World → Prop} {m x : Operand} {b n : Nat} {h : Int → Sv} {e : Int}
    (hop : o.op = .lookup 68 m x false) (hm : a.eval m = .map (some b)) (hx : a.eval x = .int .i64 e) (hM : MO w b n h) (he : i64 e) (hk : K (a.put o.dst (svV (h e))) w) : o.wp Try.prog a w K Q := by
  unfold Oper.wp execOp
  simp only [hop, hm, hx, Sem.run_bind, Sem.run_pure, Result.andThen_ok, hM.look he]
  exact hk
theorem wp_putO {o : Oper} {a : Act} {w : World} {K : Act → World → Prop} {Q : Exit → Act → World → Prop} {m x y : Operand} {b n : Nat} {h : Int → Sv} {e : Int} {s : Sv}
    (hop : o.op = .mapUpdate 68 m x y) (hm : a.eval m = .map (some b)) (hx : a.eval x = .int .i64 e) (hy : a.eval y = svV s) (hM : MO w b n h) (he : i64 e) (hn : n < maxLen) (hs : s ≠ none)
    (hk : ∀ w', MO w' b (n + 1) (fun x => if x = e then s else h x) → w.grownBy w' (some b) → K (a.put o.dst undef) w') : o.wp Try.prog a w K Q := by
  obtain ⟨w', hrun, h1, h2⟩ := hM.put he hn hs
  unfold Oper.wp execOp
  simp only [hop, hm, hx, hy, Sem.run_bind, Sem.run_pure, Result.andThen_ok, hrun]
  exact hk w' h1 h2
/-- an append to a row of calls, in a drawn region -/
theorem wp_puta {o : Oper} {a : Act} {w : World} {K : Act → World → Prop} {Q : Exit → Act → World → Prop} (s x : Operand)
    (ho : o.op = .call { callee := .builtin .append, args := #[s, x], argTypes := #[38, 38] }) (v : Value) (l : List OD) (base : Nat) (p : OD) (ad : Addr)
    (hs : a.eval s = v) (hown : OwnO w base v l) (hx : a.eval x = .slice (some ad) 1 1) (hp : OpAt w ad (ocs p)) (hl : l.length ≤ 4000000) (hb : base ≤ w.heap.size)
    (h : ∀ v' w', OwnO w' base v' (l ++ [p]) → w.grownBy w' v.ownBlock → (v'.ownBlock = v.ownBlock ∨ v'.ownBlock = some w.heap.size) → K (a.put o.dst v') w') : o.wp Try.prog a w K Q := by
  obtain ⟨i0, hi, hz0, hz1, hz2⟩ := info36a
  obtain ⟨v', w', hr, h2, h3, h4, h5⟩ := run_append_own_at (P := Try.prog) w base 38 o.type 36 i0 _ 19 216 Try.underlying38 hi hz0 hz1 hz2 rfl (by decide) v _ _ hown ad 1 1 (ocs p).toList (by rw [Array.length_toList, (ocs_op p).1]) (fun j u hu => hp.2.2 j u (by simpa using hu)) (fun u hu => (Array.all_eq_true_iff_forall_mem.1 (ocs_op p).2) u (by simpa using hu)) (by unfold maxLen; omega) (by omega) hb
  unfold Oper.wp execOp
  simp only [ho, resolve, invoke, builtin, Sem.run_bind, Sem.run_pure, Result.andThen_ok, List.map_toArray, List.map_cons, List.map_nil, hs, hx, hr]
  refine h v' w' ?_ h3 h5
  unfold OwnO
  rw [rcells_snoc, List.length_append, List.length_singleton]
  exact h2
end Go.Proofs.Ytplaicdbcfnjbaa
/- slices.Clone of a row of calls that is owned: new, of the same cells. -/
namespace Go.Proofs.Ytplaicdbcfnjbaa
open Go.RowKit
set_option linter.unusedVariables false
theorem own_zero19 (w : World) : (w.alloc (.cells #[] 36)).ownsRow w.heap.size 36 19 (.slice (some ⟨w.heap.size, 0, none⟩) 0 0) 0 [] :=
  ⟨rfl, .inr ⟨w.heap.size, 0, #[], rfl, Nat.le_refl _, heap_alloc_new w _, Nat.le_refl _, Nat.zero_le _, rfl, rfl⟩⟩
theorem rcells_one (l : List OD) : ∀ u ∈ rcells l, u.oneCell' = true := by
  intro u hu
  obtain ⟨o, _, h⟩ := List.mem_flatMap.1 hu
  exact (Array.all_eq_true_iff_forall_mem.1 (ocs_op o).2) u (by simpa using h)
set_option maxRecDepth 100000
attribute [local irreducible] Go.wpList
set_option maxHeartbeats 1000000 in
theorem clone44 (v : Value) (l : List OD) (base : Nat) (w : World) (h : OwnO w base v l) (hn : l.length ≤ 4000000) : Calls Try.prog 44 #[v] w fun e w' => ∃ v', e = .returned v' ∧ OwnO w' w.heap.size v' l ∧ New w w' := by
  have q38 : ∀ (w : World) (a : Option Addr) (n c n' c' : Nat), (binOp .eql 38 (.slice a n c) (.slice none n' c')).run Try.prog w = .ok (.bool a.isNone) w := fun w a n c n' c' => Lib.run_eql_slice_nil w _ _ a n c n' c' Try.underlying38
  obtain ⟨m, hm⟩ : ∃ m, m = l.length := ⟨_, rfl⟩
  have hf : (v = .slice none 0 0 ∧ l.length = 0) ∨ ∃ g cap, v = .slice (some ⟨g, 0, none⟩) l.length cap := by
    rcases h.2 with ⟨e, e0⟩ | ⟨g, cap, cur, hv, _⟩
    · exact .inl ⟨e, e0⟩
    · exact .inr ⟨g, cap, hv⟩
  rcases hf with ⟨rfl, h0⟩ | ⟨g, cap, rfl⟩
  · have h1 : l = [] := List.eq_nil_of_length_eq_zero h0
    subst h1
    clear h
    go_enter Try.func44, Try.ntmps44
    go_wp2_with fail
    go_ret
    exact ⟨_, rfl, World.ownsRow_nil _ _ _ _, New.refl _⟩
  · obtain ⟨i0, hi, hz0, hz1, hz2⟩ := info36a
    have hcc : ∀ j u, (rcells l)[j]? = some u → w.cell? ((⟨g, 0, none⟩ : Addr).add j) = some u := h.cells rfl
    have HC := Lib.hid hcc
    have OZ := Lib.hid (own_zero19 w)
    have HL := Lib.hid hm
    rw [← hm] at hn ⊢
    clear h hcc hm
    go_enter Try.func44, Try.ntmps44
    go_wp2_with (at_builtin; refine wpList_append_own _ rfl _ _ 38 rfl w.heap.size 36 i0 _ 19 216 Try.underlying38 hi hz0 hz1 hz2 rfl (by decide) _ 0 [] rfl OZ.out ⟨g, 0, none⟩ m cap (rcells l) rfl (by rw [rcells_len, HL.out]) (fun j u hu => Lib.cell?_alloc_some _ (HC.out j u hu)) (rcells_one l) (by unfold maxLen; omega) (by omega) (by simp) ?_)
    intro v' w1 hown hgrow hnil
    have N1 := Lib.hid (((New.refl w).alloc _).grown hgrow (fun k e => by cases e; exact Nat.le_refl _))
    have O1 : Hid (OwnO w1 w.heap.size v' l) := Lib.hid (by
      have := hown
      rw [HL.out] at this
      exact this)
    clear hown hgrow hnil
    go_wp2_with fail
    go_ret
    exact ⟨_, rfl, O1.out, N1.out⟩
end Go.Proofs.Ytplaicdbcfnjbaa
/- twice, of times: does something come twice? -/
namespace Go.Proofs.Ytplaicdbcfnjbaa
open Go.RowKit Go.Maps
set_option linter.unusedVariables false
set_option maxRecDepth 100000
def RowI (w : World) (A : Option Addr) (n : Nat) (f : Nat → Int) : Prop := 0 < n → ∃ g, A = some ⟨g, 0, none⟩ ∧ g < w.heap.size ∧ ∀ k, k < n → w.cell? ⟨g, k, none⟩ = some (.int .i64 (f k))
theorem OwnI.row {w : World} {base : Nat} {v : Value} {l : List Int} (h : OwnI w base v l) : ∃ A cap, v = .slice A l.length cap ∧ RowI w A l.length (fun k => l.getD k 0) := by
  obtain ⟨h1, h2⟩ := h
  rcases h2 with ⟨e, e0⟩ | ⟨g, cap, cur, hv, hg, hh, hc, hm, hs, ht⟩
  · exact ⟨none, 0, by rw [e, e0], fun h => absurd h (by omega)⟩
  · refine ⟨some ⟨g, 0, none⟩, cap, hv, fun _ => ⟨g, rfl, ?_, fun k hk => ?_⟩⟩
    · apply Nat.lt_of_not_le
      intro hge
      simp [Array.getElem?_eq_none hge] at hh
    · rw [cell_of_row w g _ cur 3 (0, 0) hh, ← Array.getElem?_toList]
      have : (cur.toList.take (l.length * 1))[k]? = (l.map (Value.int .i64))[k]? := by rw [ht]
      rw [List.getElem?_take, if_pos (by omega)] at this
      rw [this, List.getElem?_map, List.getElem?_eq_getElem hk]
      show _ = some (Value.int .i64 (l.getD k 0))
      rw [List.getD_eq_getElem?_getD, List.getElem?_eq_getElem hk]
      rfl
theorem RowI.new {w w' : World} {A : Option Addr} {n : Nat} {f : Nat → Int} (h : RowI w A n f) (m : New w w') : RowI w' A n f := fun h0 => by
  obtain ⟨g, e, hg, hc⟩ := h h0
  exact ⟨g, e, Nat.lt_of_lt_of_le hg m.lt, fun k hk => (m.cell (p := ⟨g, k, none⟩) hg).trans (hc k hk)⟩
theorem getD_range (l : List Int) : (List.range l.length).map (fun k => l.getD k 0) = l := by
  apply List.ext_getElem
  · simp
  · intro i h1 h2
    simp [List.getD_eq_getElem?_getD, List.getElem?_eq_getElem h2]
section
variable {k : TypeId} {α : Type} [DecidableEq α] {κ : α → Value} {lam : α → Lit} {ok : α → Prop} (KK : KeyKit k κ lam ok)
include KK
theorem wpl_look {t : TypeId} (ht : Try.prog.underlying t = some (.map k 3)) {ops : Array Oper} {rest : List Oper} {o : Oper} {a : Act} {w : World} {Q : Exit → Act → World → Prop} {m x : Operand} {b n : Nat} {L : List α} {y : α} {c : Nat}
    (hop : o.op = .lookup t m x false) (hm : a.eval m = .map (some b)) (hx : a.eval x = κ y) (hM : CM k lam ok w b n L) (hy : ok y) (hc : L.count y = c) (hg : Region.wanted o (yielded ops a.tmps) = true)
    (hk : wpList Try.prog ops Q rest (a.put o.dst (.int .i64 (c : Nat))) w) : wpList Try.prog ops Q (o :: rest) a w :=
  wpList_step fun K hK => by
    subst hc
    rw [if_pos hg]
    unfold Oper.wp execOp
    simp only [hop, hm, hx, Sem.run_bind, Sem.run_pure, Result.andThen_ok, hM.look KK ht hy]
    exact hK _ _ hk
theorem wpl_more {t : TypeId} (ht : Try.prog.underlying t = some (.map k 3)) {ops : Array Oper} {rest : List Oper} {o : Oper} {a : Act} {w : World} {Q : Exit → Act → World → Prop} {m x v : Operand} {b n : Nat} {L : List α} {y : α} {c : Nat}
    (hop : o.op = .mapUpdate t m x v) (hm : a.eval m = .map (some b)) (hx : a.eval x = κ y) (hv : a.eval v = .int .i64 ((c : Nat) + 1)) (hM : CM k lam ok w b n L) (hy : ok y) (hc : L.count y = c) (hn : n < maxLen) (hl : L.length ≤ 4000000) (hg : o.guard = none)
    (hk : ∀ w', CM k lam ok w' b (n + 1) (L ++ [y]) → w.grownBy w' (some b) → wpList Try.prog ops Q rest (a.put o.dst undef) w') : wpList Try.prog ops Q (o :: rest) a w := by
  subst hc
  have hle : L.count y ≤ L.length := List.count_le_length
  obtain ⟨D, h1, h2, h3, h4⟩ := hM
  refine wpList_mapUpdate_own w hg m x v t hop k 3 KK.K ht _ b n D hm h1 hn _ _ _ hx hv (KK.key y hy) (.lit (.int .i64 ((L.count y + 1 : Nat) : Int))) [] ?_ ?_
  · rw [show ((L.count y : Nat) : Int) + 1 = ((L.count y + 1 : Nat) : Int) by omega]
    exact plainElem_int Try.underlying3 (wf_of_i64 (by unfold i64; omega))
  · intro w' o' g'
    exact hk w' (CM.step KK hy h1 h2 h3 h4 o') g'
end
attribute [local irreducible] Go.wpList
set_option maxHeartbeats 1000000 in
theorem twice31 (A : Option Addr) (cap n : Nat) (f : Nat → Int) (w : World) (hA : RowI w A n f) (hi : ∀ k, k < n → i64 (f k)) (hn : n ≤ 4000000) :
    Calls Try.prog 31 #[.slice A n cap] w fun e w' => e = .returned (.bool (!decide ((List.range n).map f).Nodup)) ∧ New w w' := by
  have HA := Lib.hid hA
  have HI := Lib.hid hi
  have hmm := @run_makeMap Try.prog
  obtain ⟨res, hres⟩ : ∃ res, res = !decide ((List.range n).map f).Nodup := ⟨_, rfl⟩
  rw [← hres]
  replace hres := Lib.hid hres
  clear hA hi
  go_enter Try.func31, Try.ntmps31
  go_wp2_with fail
  go_loopg [11] n (fun z i wr => ∃ (k : Nat) (L : List Int), k + z = n ∧ i = .int .i64 k ∧ Hid (New w wr) ∧ Hid (L = (List.range k).map f) ∧ L.length = k ∧ Hid (CM 3 (Lit.int .i64) i64 wr w.heap.size k L))
  case atStart => exact ⟨0, [], by omega, rfl, Lib.hid ((New.refl _).alloc _), Lib.hid rfl, rfl, Lib.hid (CM.made w)⟩
  case round =>
    obtain ⟨k, L, hk, rfl, NW, hL, hl, CMk⟩ := hrel
    by_cases hkn : k < n
    · obtain ⟨g, rfl, hg, hc⟩ := (HA.out.new NW.out) (by omega)
      have x0 := hc k hkn
      have hx := Lib.hid (HI.out k hkn)
      have hkn' : (k : Int) < n := by omega
      have hs : Hid (L ++ [f k] = (List.range (k + 1)).map f) := Lib.hid (by rw [List.range_succ, List.map_append, ← hL.out]; rfl)
      generalize f k = x at *
      obtain ⟨c, hcnt, hcb⟩ : ∃ c, Hid (L.count x = c) ∧ c ≤ 4000000 := ⟨_, Lib.hid rfl, by have : L.count x ≤ L.length := List.count_le_length; omega⟩
      have hlm : Hid (L.length ≤ 4000000) := Lib.hid (by omega)
      clear hc
      replace hl := Lib.hid hl
      go_wp2_with (first | (refine wpl_look kit3 Try.underlying67 (m := .tmp 15) (x := .tmp 16) (y := x) rfl rfl rfl CMk.out hx.out hcnt.out rfl ?_) | (refine wpl_more kit3 Try.underlying67 (m := .tmp 15) (x := .tmp 16) (v := .tmp 18) (y := x) rfl rfl rfl rfl CMk.out hx.out hcnt.out (by unfold maxLen; omega) hlm.out rfl ?_; intro w2 C2 g2))
      go_roundg (gk - 1)
      case rel => exact ⟨k + 1, L ++ [x], by omega, by go_num, Lib.hid (NW.out.grown g2 (fun b e => by cases e; exact Nat.le_refl _)), hs, by rw [List.length_append, hl.out]; rfl, Lib.hid C2⟩
      case measure => omega
    · have hkL : k = n := by omega
      subst hkL
      replace hl := Lib.hid hl
      go_wp2_with (first | (refine wpl_range kit3 Try.underlying67 (m := .tmp 20) rfl rfl rfl CMk.out ?_; intro w2 cnt2 R2 n2; replace R2 := Lib.hid R2; replace n2 := Lib.hid n2))
      go_frame
      go_loopg [7] cnt2 (fun z s7 wq => ∃ cnt, cnt = z ∧ Hid (CR 3 (Lit.int .i64) wq w.heap.size wr.heap.size k L cnt) ∧ Hid (New wr wq))
      case atStart => exact ⟨cnt2, rfl, R2, n2⟩
      case round =>
        rename_i wq0 _ _ _ _
        obtain ⟨cnt, hz, R3, n3⟩ := hrel
        go_wp2_with (first | (refine wpl_next kit3 (it := .tmp 21) rfl rfl rfl R3.out ?_ ?_))
        case refine_1 =>
          intro hnd
          replace hnd := Lib.hid hnd
          go_wp2
          go_ret
          exact ⟨by rw [hres.out, ← hL.out]; simp [hnd.out], NW.out.trans n3.out⟩
        case refine_2 =>
          intro key c w4 cnt4 h1 h2 hlt hg4 hen
          replace h1 := Lib.hid h1
          replace h2 := Lib.hid h2
          replace hg4 := Lib.hid hg4
          by_cases hc : 1 < c
          · go_wp2_with fail
            go_ret
            exact ⟨by rw [hres.out, ← hL.out]; simp [h1.out hc], (NW.out.trans n3.out).grown hg4.out (fun b e => by cases e; exact NW.out.lt)⟩
          · go_wp2_with fail
            go_roundg cnt4
            case rel => exact ⟨cnt4, rfl, Lib.hid (h2.out (by omega)), Lib.hid (n3.out.grown hg4.out (fun b e => by cases e; exact Nat.le_refl _))⟩
            case measure => omega
end Go.Proofs.Ytplaicdbcfnjbaa
/- slices.SortFunc of a row of calls by their numbers. -/
namespace Go.Proofs.Ytplaicdbcfnjbaa
open Go.Shelf Go.RowKit Go.Lib Go.Sort
set_option linter.unusedVariables false
set_option maxRecDepth 100000
theorem cmp_lays46 {P : Nat → OD} (blk off size : Nat) (w : World) : CmpLays Try.prog 46 #[] (fun i => (ocs (P i)).toList) 19 (cfS fun i => (P i).r1) blk off size w := fun m os dk _ x y =>
  cmp_at (ocs (P x)) (ocs (P y)) (P x).r1 (P y).r1 (sortWorldK (fun i => (ocs (P i)).toList) 19 w blk off m dk os) rfl rfl
theorem sort45 (l : List OD) (g cap : Nat) (w : World) (hg : g < w.heap.size) (hc : ∀ i j, i < l.length → j < 19 → w.cell? ⟨g, i * 19 + j, none⟩ = (ocs (lk l i))[j]? ∧ w.frozen? ⟨g, i * 19 + j, none⟩ = false) (hl : l.length ≤ 4000000) :
    Calls Try.prog 45 #[.slice (some ⟨g, 0, none⟩) l.length cap, .func (.func 46) #[] #[]] w fun e w' => e = .returned (.tuple #[]) ∧ ∃ d', PermIn 0 l.length (Array.range l.length) d' ∧ SortedIn (ls fun i => (lk l i).r1) 0 l.length d' ∧
      (∀ i, i < l.length → OpAt w' ((⟨g, 0, none⟩ : Addr).add (i * 19)) (ocs (lk l d'[i]!))) ∧ ∀ w0, New w0 w → w0.heap.size ≤ g → New w0 w' := by
  have R := rowK_of (P := lk l) hg hc (fun _ _ => rfl)
  have key := AnyQ.slices_SortFunc sortLay 19 Try.isAgg36 Try.sizeOf36 (fun i => (ocs (lk l i)).toList) R.hk R.h1 (cfS fun i => (lk l i).r1) (by rw [ltOf_cfS]; exact ls_swo _) 46 #[] g 0 cap (Array.range l.length) w (enters_of Try.func46 (by kernel_rfl) rfl) (cmp_lays46 _ _ _ _) R.hH hg (by rw [Array.size_range]; omega)
  rw [Array.size_range, ltOf_cfS] at key
  refine key.mono fun e w2 ⟨he, d', n, os, hperm, hsort, hw⟩ => ?_
  have S : SWK (fun i => (ocs (lk l i)).toList) 19 w g 0 d' w2 := ⟨n, os, hw⟩
  have hsz : d'.size = l.length := hperm.1.trans (by simp)
  have hH := S.holds hg R.hH hperm.1
  refine ⟨he, d', hperm, hsort, fun i hi => ⟨ocs_op _, ?_, fun j u hu => ?_⟩, fun w0 n0 hb => swk_new S n0 hb⟩
  · rw [Addr.add_mid]; exact S.lt hg
  · rw [Addr.add_mid]
    exact HoldsK.cells hH R.hk (i := i) (by rw [hsz]; exact hi) j u (by rw [Array.getElem?_toList]; exact hu)
end Go.Proofs.Ytplaicdbcfnjbaa
