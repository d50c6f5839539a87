/- LockOne's threads: within the lock. -/
import Derived.Test.YtibcdikfbhmheaaB24
set_option linter.unusedSimpArgs false
set_option linter.unusedVariables false
namespace Go.Proofs.Ytibcdikfbhmheaa
open Go Go.Conc Go.Proofs
open Go.ConcN (sumTo upd sumTo_upd upd_ne upd_same)
set_option linter.unusedVariables false
theorem array28 (T : Array Value) (h : T.size = 28) : ∃ v0 v1 v2 v3 v4 v5 v6 v7 v8 v9 v10 v11 v12 v13 v14 v15 v16 v17 v18 v19 v20 v21 v22 v23 v24 v25 v26 v27 : Value, T = #[v0, v1, v2, v3, v4, v5, v6, v7, v8, v9, v10, v11, v12, v13, v14, v15, v16, v17, v18, v19, v20, v21, v22, v23, v24, v25, v26, v27] := by
  obtain ⟨l⟩ := T
  simp only [List.size_toArray] at h
  rcases l with _ | ⟨v0, l⟩
  · simp at h
  rcases l with _ | ⟨v1, l⟩
  · simp at h
  rcases l with _ | ⟨v2, l⟩
  · simp at h
  rcases l with _ | ⟨v3, l⟩
  · simp at h
  rcases l with _ | ⟨v4, l⟩
  · simp at h
  rcases l with _ | ⟨v5, l⟩
  · simp at h
  rcases l with _ | ⟨v6, l⟩
  · simp at h
  rcases l with _ | ⟨v7, l⟩
  · simp at h
  rcases l with _ | ⟨v8, l⟩
  · simp at h
  rcases l with _ | ⟨v9, l⟩
  · simp at h
  rcases l with _ | ⟨v10, l⟩
  · simp at h
  rcases l with _ | ⟨v11, l⟩
  · simp at h
  rcases l with _ | ⟨v12, l⟩
  · simp at h
  rcases l with _ | ⟨v13, l⟩
  · simp at h
  rcases l with _ | ⟨v14, l⟩
  · simp at h
  rcases l with _ | ⟨v15, l⟩
  · simp at h
  rcases l with _ | ⟨v16, l⟩
  · simp at h
  rcases l with _ | ⟨v17, l⟩
  · simp at h
  rcases l with _ | ⟨v18, l⟩
  · simp at h
  rcases l with _ | ⟨v19, l⟩
  · simp at h
  rcases l with _ | ⟨v20, l⟩
  · simp at h
  rcases l with _ | ⟨v21, l⟩
  · simp at h
  rcases l with _ | ⟨v22, l⟩
  · simp at h
  rcases l with _ | ⟨v23, l⟩
  · simp at h
  rcases l with _ | ⟨v24, l⟩
  · simp at h
  rcases l with _ | ⟨v25, l⟩
  · simp at h
  rcases l with _ | ⟨v26, l⟩
  · simp at h
  rcases l with _ | ⟨v27, l⟩
  · simp at h
  rcases l with _ | ⟨x, l⟩
  · exact ⟨v0, v1, v2, v3, v4, v5, v6, v7, v8, v9, v10, v11, v12, v13, v14, v15, v16, v17, v18, v19, v20, v21, v22, v23, v24, v25, v26, v27, rfl⟩
  · simp at h
noncomputable def B44 : Code := Try.f44.body.getD .skip
noncomputable def RA44 : Code := nvb B44
noncomputable def ops44a : Array Oper := rops (nva B44)
noncomputable def R44c : Code := nvb (nvb RA44)
noncomputable def LX44 : Code := nvl (nvk (nvb (nva R44c)))
noncomputable def RZ44 : Code := nvb R44c
noncomputable def ops44y : Array Oper := rops (nvk (nva (nvb LX44)))
noncomputable def R5i44 : Code := nvb (nvb LX44)
def LoT (T : Array Value) (tp : Value) (mb ib ob nb hb : Nat) : Prop := T.size = 28 ∧ T[0]? = some tp ∧ T[1]? = some (bq mb) ∧ T[2]? = some (bq ib) ∧ T[3]? = some (bq ob) ∧ T[4]? = some (bq nb) ∧ T[5]? = some (bq hb)
def LoA (tp : Value) (mb ib ob nb hb : Nat) (f : Frame) : Prop := ∃ T, LoT T tp mb ib ob nb hb ∧ f = (base 44).at ⟨T, []⟩ [.inRegion ops44a [1], .code RA44]
def LoB (tp : Value) (mb ib ob nb hb k : Nat) (f : Frame) : Prop := ∃ T, LoT T tp mb ib ob nb hb ∧ T[7]? = some (.int .i64 (k : Int)) ∧ f = (base 44).at ⟨T, []⟩ [.inRegion ops44y [1], .inBlock 1, .code R5i44, .inLoop LX44, .inBlock 0, .code RZ44]
section
variable {C : Cw} {main : Bool} {Z : Cuts} {Stop : Goroutine → World → Prop} {V : World} {st : Nat → Int} {i mb ib ob nb hb : Nat} {c : Frame} {cs : List Frame} {b₀ : Frame} {a₀ : Act} {ops₀ : Array Oper} {i₀ : Nat} {rest₀ : List Nat} {k₀ : List Item}
set_option maxRecDepth 100000 in
set_option maxHeartbeats 4000000 in
theorem lo_start {ow : Nat} (hn : norm V = V) (hi : i < C.n) (hn1 : C.n < 1000) (H : CwAt C false st V) (ho : V.cell? ⟨mb, 0 + 1, none⟩ = some (.int .i64 (ow : Int))) (hne : ow ≠ i + 1)
    (K0 : ∀ f u, LkY mb 0 (C.tp i) f → LoA (C.tp i) mb ib ob nb hb u → Will Try.prog main Z Stop (G (Frame.enter Try.prog 24 #[C.tp i] .normal) (f :: u :: cs)) V) :
    Will Try.prog main Z Stop (G (Frame.enter Try.prog 44 #[C.tp i, bq mb, bq ib, bq ob, bq nb, bq hb] .normal) cs) V := by
  have LI := fun (d : Frame) (ds : List Frame) => lock_in (main := main) (Z := Z) (Stop := Stop) (c := d) (cs := ds) hn hi hn1 H ho hne
  clear H ho
  simp only [Cw.tp] at LI K0 ⊢
  unfold bq
  rw [enter_at (P := Try.prog) _ Try.func44 rfl]
  simp only [Try.f44]
  walk_nrm
  obtain ⟨K, eK⟩ : ∃ K : Goroutine → Prop, K = fun g => Will Try.prog main Z Stop g V := ⟨_, rfl⟩
  have hK : Mu Try.prog (fun _ => True) K := by rw [eK]; exact mu_will
  have hV : MuV Try.prog Lone V K := by rw [eK]; exact muv_will hn
  have key : ∀ g, K g → (fun g => Will Try.prog main Z Stop g V) g := fun g h => by rw [eK] at h; exact h
  have yek : ∀ g, (fun g => Will Try.prog main Z Stop g V) g → K g := fun g h => by rw [eK]; exact h
  refine key _ ?_
  repeat (
    first
      | with_reducible refine mu_seq hK ?_
      | with_reducible refine mu_skip hK ?_
      | (with_reducible refine mu_region_end hK ?_; try subst hkk)
      | with_reducible refine mu_block hK ?_
      | with_reducible refine mu_inBlock hK ?_
      | with_reducible refine mu_ret hK ?_
      | with_reducible refine mu_end hK ?_
      | refine mu_exit hK rfl ?_
      | (with_reducible refine mu_regionH hK (fun kk hkk => ?_); simp only [List.size_toArray, List.length_cons, List.length_nil, Nat.reduceAdd, Nat.zero_add, List.range, List.range.loop])
      | (with_reducible refine mu_cond hK false ?_ ?_; (· first | (walk_nrm; done) | (simp [Act.eval]; done)); simp only [if_true, if_false, Bool.false_eq_true, ↓reduceIte])
      | (with_reducible refine mu_cond hK true ?_ ?_; (· first | (walk_nrm; done) | (simp [Act.eval]; done)); simp only [if_true, if_false, Bool.false_eq_true, ↓reduceIte])
      | (refine mu_unwanted hK rfl rfl ?_; walk_nrm)
      | (refine muv_val hV rfl (by first | exact .inl rfl | exact .inr rfl) rfl (by kernel_rfl) (fun J hJ => ?_); go_simp; with_reducible refine hJ _ ?_; clear hJ J; walk_nrm))
  refine mu_call hK rfl rfl (by decide) rfl Try.func45 (by kernel_rfl) rfl ?_
  rw [← enter_at (P := Try.prog) _ Try.func45 rfl]
  walk_nrm
  refine yek _ ?_
  clear hK hV key yek eK K
  try subst hkk
  refine LI _ _ fun f hf => K0 f _ hf ⟨_, ⟨?_, ?_, ?_, ?_, ?_, ?_, ?_⟩, by simp only [RA44, ops44a, R44c, LX44, ops44y, R5i44, RZ44, B44, nva, nvb, nvk, nvl, rops, Try.f44, Option.getD_some]; rfl⟩ <;> rfl
set_option maxRecDepth 100000 in
set_option maxHeartbeats 4000000 in
theorem lo_loop {y k : Nat} (hn : norm V = V) (hy : y < 1000) (hk : k ≤ y) (hc : V.cell? ⟨nb, 0, none⟩ = some (.int .i64 (y : Int))) {T : Array Value} (hT : LoT T (C.tp i) mb ib ob nb hb) (t7 : T[7]? = some (.int .i64 (k : Int)))
    (K0 : k < y → ∀ u, LoB (C.tp i) mb ib ob nb hb k u → Will Try.prog main Z Stop (G (Frame.enter Try.prog 24 #[C.tp i] .normal) (u :: cs)) V)
    (K1 : k = y → ∀ T', LoT T' (C.tp i) mb ib ob nb hb → Will Try.prog main Z Stop (G ((base 44).at ⟨T', []⟩ [.code RZ44]) cs) V) :
    Will Try.prog main Z Stop (G ((base 44).at ⟨T, []⟩ [.code LX44, .inLoop LX44, .inBlock 0, .code RZ44]) cs) V := by
  obtain ⟨hs, t0, t1, t2, t3, t4, t5⟩ := hT
  have cy : ∀ τ, (re V τ 0).cell? ⟨nb, 0, none⟩ = some (.int .i64 (y : Int)) := fun τ => hc
  simp only [Cw.tp] at t0 K0 K1
  unfold bq at t1 t2 t3 t4 t5
  by_cases hx : k < y
  · have q1 : decide ((k : Int) < (y : Int)) = true := decide_eq_true (by omega)
    clear K1
    obtain ⟨v0, v1, v2, v3, v4, v5, v6, v7, v8, v9, v10, v11, v12, v13, v14, v15, v16, v17, v18, v19, v20, v21, v22, v23, v24, v25, v26, v27, rfl⟩ := array28 T hs
    simp only [List.getElem?_toArray, List.getElem?_cons_zero, List.getElem?_cons_succ, Option.some.injEq] at t0 t1 t2 t3 t4 t5 t7
    subst t0 t1 t2 t3 t4 t5 t7
    refine (fun (h : ∀ X0, X0 = LX44 → Will Try.prog main Z Stop (G ((base 44).at ⟨_, []⟩ [.code X0, .inLoop LX44, .inBlock 0, .code RZ44]) cs) V) => h LX44 rfl) ?_
    intro X0 hX0
    simp only [RA44, ops44a, R44c, LX44, ops44y, R5i44, RZ44, B44, nva, nvb, nvk, nvl, rops, Try.f44, Option.getD_some] at hX0
    subst hX0
    obtain ⟨K, eK⟩ : ∃ K : Goroutine → Prop, K = fun g => Will Try.prog main Z Stop g V := ⟨_, rfl⟩
    have hK : Mu Try.prog (fun _ => True) K := by rw [eK]; exact mu_will
    have hV : MuV Try.prog Lone V K := by rw [eK]; exact muv_will hn
    have key : ∀ g, K g → (fun g => Will Try.prog main Z Stop g V) g := fun g h => by rw [eK] at h; exact h
    have yek : ∀ g, (fun g => Will Try.prog main Z Stop g V) g → K g := fun g h => by rw [eK]; exact h
    refine key _ ?_
    repeat (
      first
        | with_reducible refine mu_seq hK ?_
        | with_reducible refine mu_skip hK ?_
        | (with_reducible refine mu_region_end hK ?_; try subst hkk)
        | with_reducible refine mu_block hK ?_
        | with_reducible refine mu_inBlock hK ?_
        | with_reducible refine mu_ret hK ?_
        | with_reducible refine mu_end hK ?_
        | refine mu_exit hK rfl ?_
        | (with_reducible refine mu_regionH hK (fun kk hkk => ?_); simp only [List.size_toArray, List.length_cons, List.length_nil, Nat.reduceAdd, Nat.zero_add, List.range, List.range.loop])
        | (with_reducible refine mu_cond hK false ?_ ?_; (· first | (walk_nrm; done) | (simp [Act.eval]; done)); simp only [if_true, if_false, Bool.false_eq_true, ↓reduceIte])
        | (with_reducible refine mu_cond hK true ?_ ?_; (· first | (walk_nrm; done) | (simp [Act.eval]; done)); simp only [if_true, if_false, Bool.false_eq_true, ↓reduceIte])
        | (refine mu_unwanted hK rfl rfl ?_; walk_nrm)
        | (refine muv_val hV rfl (by first | exact .inl rfl | exact .inr rfl) rfl (by kernel_rfl) (fun J hJ => ?_); go_simp; with_reducible refine hJ _ ?_; clear hJ J; walk_nrm))
    refine mu_call hK rfl rfl (by decide) rfl Try.func24 (by kernel_rfl) rfl ?_
    rw [← enter_at (P := Try.prog) _ Try.func24 rfl]
    walk_nrm
    refine yek _ ?_
    clear hK hV key yek eK K
    try subst hkk
    refine K0 hx _ ⟨_, ⟨?_, ?_, ?_, ?_, ?_, ?_, ?_⟩, ?_, by simp only [RA44, ops44a, R44c, LX44, ops44y, R5i44, RZ44, B44, nva, nvb, nvk, nvl, rops, Try.f44, Option.getD_some]; rfl⟩ <;> rfl
  · have q1 : decide ((k : Int) < (y : Int)) = false := decide_eq_false (by omega)
    have K1' := K1 (by omega)
    clear K0 K1
    obtain ⟨v0, v1, v2, v3, v4, v5, v6, v7, v8, v9, v10, v11, v12, v13, v14, v15, v16, v17, v18, v19, v20, v21, v22, v23, v24, v25, v26, v27, rfl⟩ := array28 T hs
    simp only [List.getElem?_toArray, List.getElem?_cons_zero, List.getElem?_cons_succ, Option.some.injEq] at t0 t1 t2 t3 t4 t5 t7
    subst t0 t1 t2 t3 t4 t5 t7
    refine (fun (h : ∀ X0, X0 = LX44 → Will Try.prog main Z Stop (G ((base 44).at ⟨_, []⟩ [.code X0, .inLoop LX44, .inBlock 0, .code RZ44]) cs) V) => h LX44 rfl) ?_
    intro X0 hX0
    simp only [RA44, ops44a, R44c, LX44, ops44y, R5i44, RZ44, B44, nva, nvb, nvk, nvl, rops, Try.f44, Option.getD_some] at hX0
    subst hX0
    obtain ⟨K, eK⟩ : ∃ K : Goroutine → Prop, K = fun g => Will Try.prog main Z Stop g V := ⟨_, rfl⟩
    have hK : Mu Try.prog (fun _ => True) K := by rw [eK]; exact mu_will
    have hV : MuV Try.prog Lone V K := by rw [eK]; exact muv_will hn
    have key : ∀ g, K g → (fun g => Will Try.prog main Z Stop g V) g := fun g h => by rw [eK] at h; exact h
    have yek : ∀ g, (fun g => Will Try.prog main Z Stop g V) g → K g := fun g h => by rw [eK]; exact h
    refine key _ ?_
    repeat (
      first
        | with_reducible refine mu_seq hK ?_
        | with_reducible refine mu_skip hK ?_
        | (with_reducible refine mu_region_end hK ?_; try subst hkk)
        | with_reducible refine mu_block hK ?_
        | with_reducible refine mu_inBlock hK ?_
        | with_reducible refine mu_ret hK ?_
        | with_reducible refine mu_end hK ?_
        | refine mu_exit hK rfl ?_
        | (with_reducible refine mu_regionH hK (fun kk hkk => ?_); simp only [List.size_toArray, List.length_cons, List.length_nil, Nat.reduceAdd, Nat.zero_add, List.range, List.range.loop])
        | (with_reducible refine mu_cond hK false ?_ ?_; (· first | (walk_nrm; done) | (simp [Act.eval]; done)); simp only [if_true, if_false, Bool.false_eq_true, ↓reduceIte])
        | (with_reducible refine mu_cond hK true ?_ ?_; (· first | (walk_nrm; done) | (simp [Act.eval]; done)); simp only [if_true, if_false, Bool.false_eq_true, ↓reduceIte])
        | (refine mu_unwanted hK rfl rfl ?_; walk_nrm)
        | (refine muv_val hV rfl (by first | exact .inl rfl | exact .inr rfl) rfl (by kernel_rfl) (fun J hJ => ?_); go_simp; with_reducible refine hJ _ ?_; clear hJ J; walk_nrm))
    refine yek _ ?_
    clear hK hV key yek eK K
    exact K1' _ ⟨rfl, rfl, rfl, rfl, rfl, rfl, rfl⟩
set_option maxRecDepth 100000 in
set_option maxHeartbeats 4000000 in
theorem lo_back {y k : Nat} (hn : norm V = V) (hy : y < 1000) (hk : k < y) (hc : V.cell? ⟨nb, 0, none⟩ = some (.int .i64 (y : Int)))
    (K0 : k + 1 < y → ∀ u, LoB (C.tp i) mb ib ob nb hb (k + 1) u → Will Try.prog main Z Stop (G (Frame.enter Try.prog 24 #[C.tp i] .normal) (u :: cs)) V)
    (K1 : k + 1 = y → ∀ T', LoT T' (C.tp i) mb ib ob nb hb → Will Try.prog main Z Stop (G ((base 44).at ⟨T', []⟩ [.code RZ44]) cs) V)
    {b : Frame} {a : Act} {ops : Array Oper} {j : Nat} {rest : List Nat} {kk : List Item} {v : Value} (hf : LoB (C.tp i) mb ib ob nb hb k (b.at a (.inRegion ops (j :: rest) :: kk))) :
    Will Try.prog main Z Stop (G (b.at (a.put ((ops[j]?).bind (·.dst)) v) (.inRegion ops rest :: kk)) cs) V := by
  obtain ⟨T, hT, t7, e⟩ := hf
  obtain ⟨rfl, e2, e3⟩ := at_inj e
  obtain ⟨rfl, e4, rfl⟩ := item_inj e2
  obtain ⟨rfl, rfl⟩ := List.cons.inj e4
  rw [e3]
  have hd : ((ops44y[1]?).bind (·.dst)) = some 21 := by simp only [RA44, ops44a, R44c, LX44, ops44y, R5i44, RZ44, B44, nva, nvb, nvk, nvl, rops, Try.f44, Option.getD_some]; rfl
  rw [hd]
  clear e e2 e3 e4 hd
  have LL := fun (T : Array Value) (hT : LoT T (C.tp i) mb ib ob nb hb) (t7 : T[7]? = some (.int .i64 ((k + 1 : Nat) : Int))) => lo_loop (main := main) (Z := Z) (Stop := Stop) (cs := cs) hn hy (by omega : k + 1 ≤ y) hc hT t7 K0 K1
  obtain ⟨hs, t0, t1, t2, t3, t4, t5⟩ := hT
  have w1 : IntKind.i64.wrap ((k : Int) + 1) = ((k + 1 : Nat) : Int) := by rw [IntKind.wrap_i64]; omega
  simp only [Cw.tp] at t0 LL
  unfold bq at t1 t2 t3 t4 t5
  clear K0 K1 hc
  obtain ⟨v0, v1, v2, v3, v4, v5, v6, v7, v8, v9, v10, v11, v12, v13, v14, v15, v16, v17, v18, v19, v20, v21, v22, v23, v24, v25, v26, v27, rfl⟩ := array28 T hs
  simp only [List.getElem?_toArray, List.getElem?_cons_zero, List.getElem?_cons_succ, Option.some.injEq] at t0 t1 t2 t3 t4 t5 t7
  subst t0 t1 t2 t3 t4 t5 t7
  refine (fun (h : ∀ X0, X0 = R5i44 → Will Try.prog main Z Stop (G ((base 44).at _ [.inRegion ops44y [], .inBlock 1, .code X0, .inLoop LX44, .inBlock 0, .code RZ44]) cs) V) => h R5i44 rfl) ?_
  intro X0 hX0
  simp only [RA44, ops44a, R44c, LX44, ops44y, R5i44, RZ44, B44, nva, nvb, nvk, nvl, rops, Try.f44, Option.getD_some] at hX0
  subst hX0
  walk_nrm
  obtain ⟨K, eK⟩ : ∃ K : Goroutine → Prop, K = fun g => Will Try.prog main Z Stop g V := ⟨_, rfl⟩
  have hK : Mu Try.prog (fun _ => True) K := by rw [eK]; exact mu_will
  have hV : MuV Try.prog Lone V K := by rw [eK]; exact muv_will hn
  have key : ∀ g, K g → (fun g => Will Try.prog main Z Stop g V) g := fun g h => by rw [eK] at h; exact h
  have yek : ∀ g, (fun g => Will Try.prog main Z Stop g V) g → K g := fun g h => by rw [eK]; exact h
  refine key _ ?_
  refine mu_region_end hK ?_
  refine mu_inBlock hK ?_
  repeat (
    first
      | with_reducible refine mu_seq hK ?_
      | with_reducible refine mu_skip hK ?_
      | (with_reducible refine mu_region_end hK ?_; try subst hkk)
      | with_reducible refine mu_block hK ?_
      | with_reducible refine mu_inBlock hK ?_
      | with_reducible refine mu_ret hK ?_
      | with_reducible refine mu_end hK ?_
      | refine mu_exit hK rfl ?_
      | (with_reducible refine mu_regionH hK (fun kk hkk => ?_); simp only [List.size_toArray, List.length_cons, List.length_nil, Nat.reduceAdd, Nat.zero_add, List.range, List.range.loop])
      | (with_reducible refine mu_cond hK false ?_ ?_; (· first | (walk_nrm; done) | (simp [Act.eval]; done)); simp only [if_true, if_false, Bool.false_eq_true, ↓reduceIte])
      | (with_reducible refine mu_cond hK true ?_ ?_; (· first | (walk_nrm; done) | (simp [Act.eval]; done)); simp only [if_true, if_false, Bool.false_eq_true, ↓reduceIte])
      | (refine mu_unwanted hK rfl rfl ?_; walk_nrm)
      | (refine muv_val hV rfl (by first | exact .inl rfl | exact .inr rfl) rfl (by kernel_rfl) (fun J hJ => ?_); go_simp; with_reducible refine hJ _ ?_; clear hJ J; walk_nrm))
  refine mu_inLoop hK ?_
  refine yek _ ?_
  clear hK hV key yek eK K
  refine LL _ ⟨?_, ?_, ?_, ?_, ?_, ?_, ?_⟩ ?_ <;> rfl
set_option maxRecDepth 100000 in
set_option maxHeartbeats 4000000 in
theorem lo_enter {y inn mo : Nat} (hn : norm V = V) (hy : y < 1000) (hinn : inn < 1000) (hmo : mo < 1000) (hc : V.cell? ⟨nb, 0, none⟩ = some (.int .i64 (y : Int))) (hci : V.cell? ⟨ib, 0, none⟩ = some (.int .i64 (inn : Int))) (hzi : V.frozen? ⟨ib, 0, none⟩ = false) (hco : V.cell? ⟨ob, 0, none⟩ = some (.int .i64 (mo : Int))) (hzo : V.frozen? ⟨ob, 0, none⟩ = false) (h1 : nb ≠ ib) (h2 : nb ≠ ob) (h3 : ob ≠ ib)
    (K0 : 0 < y → ∀ u, LoB (C.tp i) mb ib ob nb hb 0 u → Will Try.prog main Z Stop (G (Frame.enter Try.prog 24 #[C.tp i] .normal) (u :: cs)) ((V.setCell ⟨ib, 0, none⟩ (.int .i64 (inn + 1 : Nat))).setCell ⟨ob, 0, none⟩ (.int .i64 (max mo (inn + 1) : Nat))))
    (K1 : 0 = y → ∀ T', LoT T' (C.tp i) mb ib ob nb hb → Will Try.prog main Z Stop (G ((base 44).at ⟨T', []⟩ [.code RZ44]) cs) ((V.setCell ⟨ib, 0, none⟩ (.int .i64 (inn + 1 : Nat))).setCell ⟨ob, 0, none⟩ (.int .i64 (max mo (inn + 1) : Nat))))
    {b : Frame} {a : Act} {ops : Array Oper} {j : Nat} {rest : List Nat} {kk : List Item} {v : Value} (hf : LoA (C.tp i) mb ib ob nb hb (b.at a (.inRegion ops (j :: rest) :: kk))) :
    Will Try.prog main Z Stop (G (b.at (a.put ((ops[j]?).bind (·.dst)) v) (.inRegion ops rest :: kk)) cs) V := by
  obtain ⟨T, hT, e⟩ := hf
  obtain ⟨rfl, e2, e3⟩ := at_inj e
  obtain ⟨rfl, e4, rfl⟩ := item_inj e2
  obtain ⟨rfl, rfl⟩ := List.cons.inj e4
  rw [e3]
  have hd : ((ops44a[1]?).bind (·.dst)) = some 9 := by simp only [RA44, ops44a, R44c, LX44, ops44y, R5i44, RZ44, B44, nva, nvb, nvk, nvl, rops, Try.f44, Option.getD_some]; rfl
  rw [hd]
  clear e e2 e3 e4 hd
  have hnA : norm (V.setCell ⟨ib, 0, none⟩ (.int .i64 (inn + 1 : Nat))) = V.setCell ⟨ib, 0, none⟩ (.int .i64 (inn + 1 : Nat)) := norm_set hn _ _
  have hnB : norm ((V.setCell ⟨ib, 0, none⟩ (.int .i64 (inn + 1 : Nat))).setCell ⟨ob, 0, none⟩ (.int .i64 (max mo (inn + 1) : Nat))) = (V.setCell ⟨ib, 0, none⟩ (.int .i64 (inn + 1 : Nat))).setCell ⟨ob, 0, none⟩ (.int .i64 (max mo (inn + 1) : Nat)) := norm_set hnA _ _
  have oA : ∀ b, b ≠ ib → (V.setCell ⟨ib, 0, none⟩ (.int .i64 (inn + 1 : Nat))).heap[b]? = V.heap[b]? := fun b hb => set_off _ _ hb
  have oB : ∀ b, b ≠ ob → ((V.setCell ⟨ib, 0, none⟩ (.int .i64 (inn + 1 : Nat))).setCell ⟨ob, 0, none⟩ (.int .i64 (max mo (inn + 1) : Nat))).heap[b]? = (V.setCell ⟨ib, 0, none⟩ (.int .i64 (inn + 1 : Nat))).heap[b]? := fun b hb => set_off _ _ hb
  have cA : (V.setCell ⟨ib, 0, none⟩ (.int .i64 (inn + 1 : Nat))).cell? ⟨ib, 0, none⟩ = some (.int .i64 (inn + 1 : Nat)) := set_at hci hzi
  have LL := fun (T : Array Value) (hT : LoT T (C.tp i) mb ib ob nb hb) (t7 : T[7]? = some (.int .i64 ((0 : Nat) : Int))) => lo_loop (main := main) (Z := Z) (Stop := Stop) (cs := cs) hnB hy (Nat.zero_le y) (cell_keep (cell_keep hc (oA _ h1)) (oB _ h2)) hT t7 K0 K1
  clear K0 K1
  have w1 : IntKind.i64.wrap ((inn : Int) + 1) = ((inn + 1 : Nat) : Int) := by rw [IntKind.wrap_i64]; omega
  have rI : ∀ τ, (re V τ 0).cell? ⟨ib, 0, none⟩ = some (.int .i64 (inn : Int)) := fun τ => hci
  have zI : ∀ τ, (re V τ 0).frozen? ⟨ib, 0, none⟩ = false := fun τ => hzi
  have hcoA : (V.setCell ⟨ib, 0, none⟩ (.int .i64 (inn + 1 : Nat))).cell? ⟨ob, 0, none⟩ = some (.int .i64 (mo : Int)) := cell_keep hco (oA _ h3)
  have hzoA : (V.setCell ⟨ib, 0, none⟩ (.int .i64 (inn + 1 : Nat))).frozen? ⟨ob, 0, none⟩ = false := froz_kept hzo (oA _ h3)
  obtain ⟨hs, t0, t1, t2, t3, t4, t5⟩ := hT
  simp only [Cw.tp] at t0 LL
  unfold bq at t1 t2 t3 t4 t5
  clear oA oB hc hci hzi hco hzo
  obtain ⟨v0, v1, v2, v3, v4, v5, v6, v7, v8, v9, v10, v11, v12, v13, v14, v15, v16, v17, v18, v19, v20, v21, v22, v23, v24, v25, v26, v27, rfl⟩ := array28 T hs
  simp only [List.getElem?_toArray, List.getElem?_cons_zero, List.getElem?_cons_succ, Option.some.injEq] at t0 t1 t2 t3 t4 t5
  subst t0 t1 t2 t3 t4 t5
  rw [show RA44 = nvb B44 from rfl]
  simp only [B44, nvb, Try.f44, Option.getD_some]
  walk_nrm
  obtain ⟨K, eK⟩ : ∃ K : Goroutine → Prop, K = fun g => Will Try.prog main Z Stop g V := ⟨_, rfl⟩
  have hK : Mu Try.prog (fun _ => True) K := by rw [eK]; exact mu_will
  have hV : MuV Try.prog Lone V K := by rw [eK]; exact muv_will hn
  have key : ∀ g, K g → (fun g => Will Try.prog main Z Stop g V) g := fun g h => by rw [eK] at h; exact h
  have yek : ∀ g, (fun g => Will Try.prog main Z Stop g V) g → K g := fun g h => by rw [eK]; exact h
  refine key _ ?_
  repeat (
    first
      | with_reducible refine mu_seq hK ?_
      | with_reducible refine mu_skip hK ?_
      | (with_reducible refine mu_region_end hK ?_; try subst hkk)
      | with_reducible refine mu_block hK ?_
      | with_reducible refine mu_inBlock hK ?_
      | with_reducible refine mu_ret hK ?_
      | with_reducible refine mu_end hK ?_
      | refine mu_exit hK rfl ?_
      | (with_reducible refine mu_regionH hK (fun kk hkk => ?_); simp only [List.size_toArray, List.length_cons, List.length_nil, Nat.reduceAdd, Nat.zero_add, List.range, List.range.loop])
      | (with_reducible refine mu_cond hK false ?_ ?_; (· first | (walk_nrm; done) | (simp [Act.eval]; done)); simp only [if_true, if_false, Bool.false_eq_true, ↓reduceIte])
      | (with_reducible refine mu_cond hK true ?_ ?_; (· first | (walk_nrm; done) | (simp [Act.eval]; done)); simp only [if_true, if_false, Bool.false_eq_true, ↓reduceIte])
      | (refine mu_unwanted hK rfl rfl ?_; walk_nrm)
      | (refine muv_val hV rfl (by first | exact .inl rfl | exact .inr rfl) rfl (by kernel_rfl) (fun J hJ => ?_); go_simp; with_reducible refine hJ _ ?_; clear hJ J; walk_nrm))
  refine yek _ ?_
  clear hK hV key yek eK K
  refine mus_put (L := Lone) (mus_will hnA) (K := fun g => Will Try.prog main Z Stop g V) (K' := fun g => Will Try.prog main Z Stop g (V.setCell ⟨ib, 0, none⟩ (.int .i64 (inn + 1 : Nat)))) rfl (.inl rfl) rfl (by kernel_rfl) (fun τ => ?_) ?_
  · go_simp
    try rfl
  have rA : ∀ τ, (re (V.setCell ⟨ib, 0, none⟩ (.int .i64 (inn + 1 : Nat))) τ 0).cell? ⟨ib, 0, none⟩ = some (.int .i64 (inn + 1 : Nat)) := fun τ => cA
  have rO : ∀ τ, (re (V.setCell ⟨ib, 0, none⟩ (.int .i64 (inn + 1 : Nat))) τ 0).cell? ⟨ob, 0, none⟩ = some (.int .i64 (mo : Int)) := fun τ => hcoA
  have zO : ∀ τ, (re (V.setCell ⟨ib, 0, none⟩ (.int .i64 (inn + 1 : Nat))) τ 0).frozen? ⟨ob, 0, none⟩ = false := fun τ => hzoA
  clear cA hcoA hzoA rI zI w1
  generalize (V.setCell ⟨ib, 0, none⟩ (.int .i64 (inn + 1 : Nat))) = VA at *
  walk_nrm
  obtain ⟨K, eK⟩ : ∃ K : Goroutine → Prop, K = fun g => Will Try.prog main Z Stop g VA := ⟨_, rfl⟩
  have hK : Mu Try.prog (fun _ => True) K := by rw [eK]; exact mu_will
  have hV : MuV Try.prog Lone VA K := by rw [eK]; exact muv_will hnA
  have key : ∀ g, K g → (fun g => Will Try.prog main Z Stop g VA) g := fun g h => by rw [eK] at h; exact h
  have yek : ∀ g, (fun g => Will Try.prog main Z Stop g VA) g → K g := fun g h => by rw [eK]; exact h
  refine key _ ?_
  repeat (
    first
      | with_reducible refine mu_seq hK ?_
      | with_reducible refine mu_skip hK ?_
      | (with_reducible refine mu_region_end hK ?_; try subst hkk)
      | with_reducible refine mu_block hK ?_
      | with_reducible refine mu_inBlock hK ?_
      | with_reducible refine mu_ret hK ?_
      | with_reducible refine mu_end hK ?_
      | refine mu_exit hK rfl ?_
      | (with_reducible refine mu_regionH hK (fun kk hkk => ?_); simp only [List.size_toArray, List.length_cons, List.length_nil, Nat.reduceAdd, Nat.zero_add, List.range, List.range.loop])
      | (with_reducible refine mu_cond hK false ?_ ?_; (· first | (walk_nrm; done) | (simp [Act.eval]; done)); simp only [if_true, if_false, Bool.false_eq_true, ↓reduceIte])
      | (with_reducible refine mu_cond hK true ?_ ?_; (· first | (walk_nrm; done) | (simp [Act.eval]; done)); simp only [if_true, if_false, Bool.false_eq_true, ↓reduceIte])
      | (refine mu_unwanted hK rfl rfl ?_; walk_nrm)
      | (refine muv_val hV rfl (by first | exact .inl rfl | exact .inr rfl) rfl (by kernel_rfl) (fun J hJ => ?_); go_simp; with_reducible refine hJ _ ?_; clear hJ J; walk_nrm))
  refine yek _ ?_
  clear hK hV key yek eK K
  have wm : (if (mo : Int) < (inn : Int) + 1 then (inn : Int) + 1 else (mo : Int)) = ((max mo (inn + 1) : Nat) : Int) := by split <;> omega
  refine mus_put (L := Lone) (mus_will hnB) (K := fun g => Will Try.prog main Z Stop g VA) (K' := fun g => Will Try.prog main Z Stop g (VA.setCell ⟨ob, 0, none⟩ (.int .i64 (max mo (inn + 1) : Nat)))) rfl (.inl rfl) rfl (by kernel_rfl) (fun τ => ?_) ?_
  · go_simp
    try rw [wm]
    rfl
  clear rA rO zO wm
  generalize (VA.setCell ⟨ob, 0, none⟩ (.int .i64 (max mo (inn + 1) : Nat))) = VB at *
  walk_nrm
  obtain ⟨K, eK⟩ : ∃ K : Goroutine → Prop, K = fun g => Will Try.prog main Z Stop g VB := ⟨_, rfl⟩
  have hK : Mu Try.prog (fun _ => True) K := by rw [eK]; exact mu_will
  have hV : MuV Try.prog Lone VB K := by rw [eK]; exact muv_will hnB
  have key : ∀ g, K g → (fun g => Will Try.prog main Z Stop g VB) g := fun g h => by rw [eK] at h; exact h
  have yek : ∀ g, (fun g => Will Try.prog main Z Stop g VB) g → K g := fun g h => by rw [eK]; exact h
  refine key _ ?_
  repeat (
    first
      | with_reducible refine mu_seq hK ?_
      | with_reducible refine mu_skip hK ?_
      | (with_reducible refine mu_region_end hK ?_; try subst hkk)
      | with_reducible refine mu_block hK ?_
      | with_reducible refine mu_inBlock hK ?_
      | with_reducible refine mu_ret hK ?_
      | with_reducible refine mu_end hK ?_
      | refine mu_exit hK rfl ?_
      | (with_reducible refine mu_regionH hK (fun kk hkk => ?_); simp only [List.size_toArray, List.length_cons, List.length_nil, Nat.reduceAdd, Nat.zero_add, List.range, List.range.loop])
      | (with_reducible refine mu_cond hK false ?_ ?_; (· first | (walk_nrm; done) | (simp [Act.eval]; done)); simp only [if_true, if_false, Bool.false_eq_true, ↓reduceIte])
      | (with_reducible refine mu_cond hK true ?_ ?_; (· first | (walk_nrm; done) | (simp [Act.eval]; done)); simp only [if_true, if_false, Bool.false_eq_true, ↓reduceIte])
      | (refine mu_unwanted hK rfl rfl ?_; walk_nrm)
      | (refine muv_val hV rfl (by first | exact .inl rfl | exact .inr rfl) rfl (by kernel_rfl) (fun J hJ => ?_); go_simp; with_reducible refine hJ _ ?_; clear hJ J; walk_nrm))
  refine mu_loop hK ?_
  refine yek _ ?_
  clear hK hV key yek eK K
  refine (fun (h : ∀ Y, LX44 = Y → Will Try.prog main Z Stop (G ((base 44).at _ [.code Y, .inLoop Y, .inBlock 0, .code RZ44]) cs) VB) => h _ (by simp only [RA44, ops44a, R44c, LX44, ops44y, R5i44, RZ44, B44, nva, nvb, nvk, nvl, rops, Try.f44, Option.getD_some])) ?_
  intro Y hY
  subst hY
  refine LL _ ⟨?_, ?_, ?_, ?_, ?_, ?_, ?_⟩ ?_ <;> rfl
set_option maxRecDepth 100000 in
set_option maxHeartbeats 4000000 in
theorem lo_out {inn : Nat} (hn : norm V = V) (hinn : inn < 1000) (hpos : 0 < inn) (hci : V.cell? ⟨ib, 0, none⟩ = some (.int .i64 (inn : Int))) (hzi : V.frozen? ⟨ib, 0, none⟩ = false)
    (K : ∀ (c : Frame), (∀ V2 (th : Nat), norm V2 = V2 → th < 1000 → V2.cell? ⟨hb, 0, none⟩ = some (.int .i64 (th : Int)) → V2.frozen? ⟨hb, 0, none⟩ = false → Will Try.prog main Z Stop (G (b₀.at (a₀.put ((ops₀[i₀]?).bind (·.dst)) (.tuple #[])) (.inRegion ops₀ rest₀ :: k₀)) cs) (V2.setCell ⟨hb, 0, none⟩ (.int .i64 (th + 1 : Nat))) → Will Try.prog main Z Stop (G (c.finish (.int .i64 0)) (b₀.at a₀ (.inRegion ops₀ (i₀ :: rest₀) :: k₀) :: cs)) V2) →
      Will Try.prog main Z Stop (G (Frame.enter Try.prog 46 #[bq mb, C.tp i] .normal) (c :: b₀.at a₀ (.inRegion ops₀ (i₀ :: rest₀) :: k₀) :: cs)) (V.setCell ⟨ib, 0, none⟩ (.int .i64 (inn - 1 : Nat))))
    {T : Array Value} (hT : LoT T (C.tp i) mb ib ob nb hb) : Will Try.prog main Z Stop (G ((base 44).at ⟨T, []⟩ [.code RZ44]) (b₀.at a₀ (.inRegion ops₀ (i₀ :: rest₀) :: k₀) :: cs)) V := by
  obtain ⟨hs, t0, t1, t2, t3, t4, t5⟩ := hT
  have hnA : norm (V.setCell ⟨ib, 0, none⟩ (.int .i64 (inn - 1 : Nat))) = V.setCell ⟨ib, 0, none⟩ (.int .i64 (inn - 1 : Nat)) := norm_set hn _ _
  have w1 : IntKind.i64.wrap ((inn : Int) - 1) = ((inn - 1 : Nat) : Int) := by rw [IntKind.wrap_i64]; omega
  have rI : ∀ τ, (re V τ 0).cell? ⟨ib, 0, none⟩ = some (.int .i64 (inn : Int)) := fun τ => hci
  have zI : ∀ τ, (re V τ 0).frozen? ⟨ib, 0, none⟩ = false := fun τ => hzi
  simp only [Cw.tp] at t0 K
  unfold bq at t1 t2 t3 t4 t5 K
  clear hci hzi
  obtain ⟨v0, v1, v2, v3, v4, v5, v6, v7, v8, v9, v10, v11, v12, v13, v14, v15, v16, v17, v18, v19, v20, v21, v22, v23, v24, v25, v26, v27, rfl⟩ := array28 T hs
  simp only [List.getElem?_toArray, List.getElem?_cons_zero, List.getElem?_cons_succ, Option.some.injEq] at t0 t1 t2 t3 t4 t5
  subst t0 t1 t2 t3 t4 t5
  rw [show RZ44 = nvb (nvb (nvb (nvb B44))) from rfl]
  simp only [B44, nvb, Try.f44, Option.getD_some]
  try walk_nrm
  obtain ⟨K, eK⟩ : ∃ K : Goroutine → Prop, K = fun g => Will Try.prog main Z Stop g V := ⟨_, rfl⟩
  have hK : Mu Try.prog (fun _ => True) K := by rw [eK]; exact mu_will
  have hV : MuV Try.prog Lone V K := by rw [eK]; exact muv_will hn
  have key : ∀ g, K g → (fun g => Will Try.prog main Z Stop g V) g := fun g h => by rw [eK] at h; exact h
  have yek : ∀ g, (fun g => Will Try.prog main Z Stop g V) g → K g := fun g h => by rw [eK]; exact h
  refine key _ ?_
  repeat (
    first
      | with_reducible refine mu_seq hK ?_
      | with_reducible refine mu_skip hK ?_
      | (with_reducible refine mu_region_end hK ?_; try subst hkk)
      | with_reducible refine mu_block hK ?_
      | with_reducible refine mu_inBlock hK ?_
      | with_reducible refine mu_ret hK ?_
      | with_reducible refine mu_end hK ?_
      | refine mu_exit hK rfl ?_
      | (with_reducible refine mu_regionH hK (fun kk hkk => ?_); simp only [List.size_toArray, List.length_cons, List.length_nil, Nat.reduceAdd, Nat.zero_add, List.range, List.range.loop])
      | (with_reducible refine mu_cond hK false ?_ ?_; (· first | (walk_nrm; done) | (simp [Act.eval]; done)); simp only [if_true, if_false, Bool.false_eq_true, ↓reduceIte])
      | (with_reducible refine mu_cond hK true ?_ ?_; (· first | (walk_nrm; done) | (simp [Act.eval]; done)); simp only [if_true, if_false, Bool.false_eq_true, ↓reduceIte])
      | (refine mu_unwanted hK rfl rfl ?_; walk_nrm)
      | (refine muv_val hV rfl (by first | exact .inl rfl | exact .inr rfl) rfl (by kernel_rfl) (fun J hJ => ?_); go_simp; with_reducible refine hJ _ ?_; clear hJ J; walk_nrm))
  refine yek _ ?_
  clear hK hV key yek eK K
  refine mus_put (L := Lone) (mus_will hnA) (K := fun g => Will Try.prog main Z Stop g V) (K' := fun g => Will Try.prog main Z Stop g (V.setCell ⟨ib, 0, none⟩ (.int .i64 (inn - 1 : Nat)))) rfl (.inl rfl) rfl (by kernel_rfl) (fun τ => ?_) ?_
  · go_simp
    try rfl
  clear rI zI w1
  generalize (V.setCell ⟨ib, 0, none⟩ (.int .i64 (inn - 1 : Nat))) = VA at *
  walk_nrm
  obtain ⟨K, eK⟩ : ∃ K : Goroutine → Prop, K = fun g => Will Try.prog main Z Stop g VA := ⟨_, rfl⟩
  have hK : Mu Try.prog (fun _ => True) K := by rw [eK]; exact mu_will
  have hV : MuV Try.prog Lone VA K := by rw [eK]; exact muv_will hnA
  have key : ∀ g, K g → (fun g => Will Try.prog main Z Stop g VA) g := fun g h => by rw [eK] at h; exact h
  have yek : ∀ g, (fun g => Will Try.prog main Z Stop g VA) g → K g := fun g h => by rw [eK]; exact h
  refine key _ ?_
  repeat (
    first
      | with_reducible refine mu_seq hK ?_
      | with_reducible refine mu_skip hK ?_
      | (with_reducible refine mu_region_end hK ?_; try subst hkk)
      | with_reducible refine mu_block hK ?_
      | with_reducible refine mu_inBlock hK ?_
      | with_reducible refine mu_ret hK ?_
      | with_reducible refine mu_end hK ?_
      | refine mu_exit hK rfl ?_
      | (with_reducible refine mu_regionH hK (fun kk hkk => ?_); simp only [List.size_toArray, List.length_cons, List.length_nil, Nat.reduceAdd, Nat.zero_add, List.range, List.range.loop])
      | (with_reducible refine mu_cond hK false ?_ ?_; (· first | (walk_nrm; done) | (simp [Act.eval]; done)); simp only [if_true, if_false, Bool.false_eq_true, ↓reduceIte])
      | (with_reducible refine mu_cond hK true ?_ ?_; (· first | (walk_nrm; done) | (simp [Act.eval]; done)); simp only [if_true, if_false, Bool.false_eq_true, ↓reduceIte])
      | (refine mu_unwanted hK rfl rfl ?_; walk_nrm)
      | (refine muv_val hV rfl (by first | exact .inl rfl | exact .inr rfl) rfl (by kernel_rfl) (fun J hJ => ?_); go_simp; with_reducible refine hJ _ ?_; clear hJ J; walk_nrm))
  refine mu_call hK rfl rfl (by decide) rfl Try.func46 (by kernel_rfl) rfl ?_
  rw [← enter_at (P := Try.prog) _ Try.func46 rfl]
  walk_nrm
  refine yek _ ?_
  clear hK hV key yek eK K
  try subst hkk
  refine K _ fun V2 th hn2 hth c2 z2 KK => ?_
  clear K
  rw [Frame.finish_at]
  walk_nrm
  have rH : ∀ τ, (re V2 τ 0).cell? ⟨hb, 0, none⟩ = some (.int .i64 (th : Int)) := fun τ => c2
  have zH : ∀ τ, (re V2 τ 0).frozen? ⟨hb, 0, none⟩ = false := fun τ => z2
  have w2 : IntKind.i64.wrap ((th : Int) + 1) = ((th + 1 : Nat) : Int) := by rw [IntKind.wrap_i64]; omega
  have hnH : norm (V2.setCell ⟨hb, 0, none⟩ (.int .i64 (th + 1 : Nat))) = V2.setCell ⟨hb, 0, none⟩ (.int .i64 (th + 1 : Nat)) := norm_set hn2 _ _
  obtain ⟨K, eK⟩ : ∃ K : Goroutine → Prop, K = fun g => Will Try.prog main Z Stop g V2 := ⟨_, rfl⟩
  have hK : Mu Try.prog (fun _ => True) K := by rw [eK]; exact mu_will
  have hV : MuV Try.prog Lone V2 K := by rw [eK]; exact muv_will hn2
  have key : ∀ g, K g → (fun g => Will Try.prog main Z Stop g V2) g := fun g h => by rw [eK] at h; exact h
  have yek : ∀ g, (fun g => Will Try.prog main Z Stop g V2) g → K g := fun g h => by rw [eK]; exact h
  refine key _ ?_
  repeat (
    first
      | with_reducible refine mu_seq hK ?_
      | with_reducible refine mu_skip hK ?_
      | (with_reducible refine mu_region_end hK ?_; try subst hkk)
      | with_reducible refine mu_block hK ?_
      | with_reducible refine mu_inBlock hK ?_
      | with_reducible refine mu_ret hK ?_
      | with_reducible refine mu_end hK ?_
      | refine mu_exit hK rfl ?_
      | (with_reducible refine mu_regionH hK (fun kk hkk => ?_); simp only [List.size_toArray, List.length_cons, List.length_nil, Nat.reduceAdd, Nat.zero_add, List.range, List.range.loop])
      | (with_reducible refine mu_cond hK false ?_ ?_; (· first | (walk_nrm; done) | (simp [Act.eval]; done)); simp only [if_true, if_false, Bool.false_eq_true, ↓reduceIte])
      | (with_reducible refine mu_cond hK true ?_ ?_; (· first | (walk_nrm; done) | (simp [Act.eval]; done)); simp only [if_true, if_false, Bool.false_eq_true, ↓reduceIte])
      | (refine mu_unwanted hK rfl rfl ?_; walk_nrm)
      | (refine muv_val hV rfl (by first | exact .inl rfl | exact .inr rfl) rfl (by kernel_rfl) (fun J hJ => ?_); go_simp; with_reducible refine hJ _ ?_; clear hJ J; walk_nrm))
  refine yek _ ?_
  clear hK hV key yek eK K
  refine mus_put (L := Lone) (mus_will hnH) (K := fun g => Will Try.prog main Z Stop g V2) (K' := fun g => Will Try.prog main Z Stop g (V2.setCell ⟨hb, 0, none⟩ (.int .i64 (th + 1 : Nat)))) rfl (.inl rfl) rfl (by kernel_rfl) (fun τ => ?_) ?_
  · go_simp
    try rfl
  clear rH zH w2 c2 z2
  generalize (V2.setCell ⟨hb, 0, none⟩ (.int .i64 (th + 1 : Nat))) = VH at *
  walk_nrm
  obtain ⟨K, eK⟩ : ∃ K : Goroutine → Prop, K = fun g => Will Try.prog main Z Stop g VH := ⟨_, rfl⟩
  have hK : Mu Try.prog (fun _ => True) K := by rw [eK]; exact mu_will
  have hV : MuV Try.prog Lone VH K := by rw [eK]; exact muv_will hnH
  have key : ∀ g, K g → (fun g => Will Try.prog main Z Stop g VH) g := fun g h => by rw [eK] at h; exact h
  have yek : ∀ g, (fun g => Will Try.prog main Z Stop g VH) g → K g := fun g h => by rw [eK]; exact h
  refine key _ ?_
  repeat (
    first
      | with_reducible refine mu_seq hK ?_
      | with_reducible refine mu_skip hK ?_
      | (with_reducible refine mu_region_end hK ?_; try subst hkk)
      | with_reducible refine mu_block hK ?_
      | with_reducible refine mu_inBlock hK ?_
      | with_reducible refine mu_ret hK ?_
      | with_reducible refine mu_end hK ?_
      | refine mu_exit hK rfl ?_
      | (with_reducible refine mu_regionH hK (fun kk hkk => ?_); simp only [List.size_toArray, List.length_cons, List.length_nil, Nat.reduceAdd, Nat.zero_add, List.range, List.range.loop])
      | (with_reducible refine mu_cond hK false ?_ ?_; (· first | (walk_nrm; done) | (simp [Act.eval]; done)); simp only [if_true, if_false, Bool.false_eq_true, ↓reduceIte])
      | (with_reducible refine mu_cond hK true ?_ ?_; (· first | (walk_nrm; done) | (simp [Act.eval]; done)); simp only [if_true, if_false, Bool.false_eq_true, ↓reduceIte])
      | (refine mu_unwanted hK rfl rfl ?_; walk_nrm)
      | (refine muv_val hV rfl (by first | exact .inl rfl | exact .inr rfl) rfl (by kernel_rfl) (fun J hJ => ?_); go_simp; with_reducible refine hJ _ ?_; clear hJ J; walk_nrm))
  refine mu_leave0 hK rfl rfl Try.func44 rfl ?_
  walk_nrm
  refine yek _ ?_
  clear hK hV key yek eK K
  exact KK
end
end Go.Proofs.Ytibcdikfbhmheaa
/- LockOne's threads are such as Run wants. -/
namespace Go.Proofs.Ytibcdikfbhmheaa
open Go Go.Conc Go.Proofs
open Go.ConcN (sumTo upd sumTo_upd upd_ne upd_same)
set_option linter.unusedVariables false
structure LoD where
  n : Nat
  y : Nat → Nat
  mb : Nat
  ib : Nat
  ob : Nat
  hb : Nat
  nb : Nat → Nat
def LoD.X (D : LoD) (b : Nat) : Prop := b = D.ib ∨ b = D.ob ∨ b = D.hb ∨ ∃ j, j < D.n ∧ b = D.nb j
structure LoD.Ok (D : LoD) : Prop where
  y : ∀ j, D.y j < 1000
  mx : ¬ D.X D.mb
  d1 : D.ib ≠ D.ob
  d2 : D.ib ≠ D.hb
  d3 : D.ob ≠ D.hb
  d4 : ∀ j, j < D.n → D.nb j ≠ D.ib ∧ D.nb j ≠ D.ob ∧ D.nb j ≠ D.hb
structure LoL (D : LoD) (ow : Nat) (q : List Nat) (inn mo th : Nat) (own : Nat → Prop) (V : World) (qv : Value) : Prop where
  mu : MuI V own D.mb 0 ow q qv
  ci : V.heap[D.ib]? = some (.cells #[.int .i64 (inn : Int)] 3 (0, 0))
  co : V.heap[D.ob]? = some (.cells #[.int .i64 (mo : Int)] 3 (0, 0))
  ch : V.heap[D.hb]? = some (.cells #[.int .i64 (th : Int)] 3 (0, 0))
  cn : ∀ j, j < D.n → V.heap[D.nb j]? = some (.cells #[.int .i64 (D.y j : Int)] 3 (0, 0))
  xo : ∀ b, D.X b → own b
  qx : ∀ b, qv.ownBlock = some b → ¬ D.X b
/-- Moves within what is owned. -/
structure Mv (own : Nat → Prop) (V V' : World) : Prop where
  nrm : norm V' = V'
  sz : V'.heap.size = V.heap.size
  keep : ∀ b, ¬ own b → V'.heap[b]? = V.heap[b]?
theorem Mv.trans {own : Nat → Prop} {a b c : World} (h : Mv own a b) (k : Mv own b c) : Mv own a c := ⟨k.nrm, k.sz.trans h.sz, fun x hx => (k.keep x hx).trans (h.keep x hx)⟩
theorem Mv.set {own : Nat → Prop} {V : World} {b k : Nat} {v : Value} (hn : norm V = V) (hb : own b) : Mv own V (V.setCell ⟨b, k, none⟩ v) := ⟨norm_set hn _ _, by simp [World.setCell], fun x hx => set_off _ _ (fun e => hx (e ▸ hb))⟩
theorem Mv.refl {own : Nat → Prop} {V : World} (hn : norm V = V) : Mv own V V := ⟨hn, rfl, fun _ _ => rfl⟩
section
variable {D : LoD} {ow inn mo th : Nat} {q : List Nat} {own own' : Nat → Prop} {V V' : World} {qv : Value}
theorem set_cells {V : World} {b : Nat} {v u : Value} {t : TypeId} (h : V.heap[b]? = some (.cells #[v] t (0, 0))) : (V.setCell ⟨b, 0, none⟩ u).heap[b]? = some (.cells #[u] t (0, 0)) := by
  rw [setCell_heap, if_pos rfl, h]
  simp
theorem LoL.take (O : D.Ok) (L : LoL D ow q inn mo th own V qv) (x : Nat) : LoL D x q inn mo th own (V.setCell ⟨D.mb, 0 + 1, none⟩ (.int .i64 (x : Int))) qv := by
  have hk : ∀ b, D.X b → (V.setCell ⟨D.mb, 0 + 1, none⟩ (.int .i64 (x : Int))).heap[b]? = V.heap[b]? := fun b hb => set_off _ _ (fun e => O.mx (e ▸ hb))
  exact ⟨L.mu.take x, (hk _ (.inl rfl)).trans L.ci, (hk _ (.inr (.inl rfl))).trans L.co, (hk _ (.inr (.inr (.inl rfl)))).trans L.ch, fun j hj => (hk _ (.inr (.inr (.inr ⟨j, hj, rfl⟩)))).trans (L.cn j hj), L.xo, L.qx⟩
theorem LoL.muset (O : D.Ok) (L : LoL D ow q inn mo th own V qv) {b : Nat} (hb : D.X b) (v : Value) : MuI (V.setCell ⟨b, 0, none⟩ v) own D.mb 0 ow q qv :=
  L.mu.keep2 (set_off _ _ (fun e => O.mx (e ▸ hb))) fun c hc => set_off _ _ (fun e => L.qx c hc (e ▸ hb))
theorem LoL.setI (O : D.Ok) (L : LoL D ow q inn mo th own V qv) (x : Nat) : LoL D ow q x mo th own (V.setCell ⟨D.ib, 0, none⟩ (.int .i64 (x : Int))) qv :=
  ⟨L.muset O (.inl rfl) _, set_cells L.ci, (set_off _ _ (fun e => O.d1 e.symm)).trans L.co, (set_off _ _ (fun e => O.d2 e.symm)).trans L.ch, fun j hj => (set_off _ _ (O.d4 j hj).1).trans (L.cn j hj), L.xo, L.qx⟩
theorem LoL.setO (O : D.Ok) (L : LoL D ow q inn mo th own V qv) (x : Nat) : LoL D ow q inn x th own (V.setCell ⟨D.ob, 0, none⟩ (.int .i64 (x : Int))) qv :=
  ⟨L.muset O (.inr (.inl rfl)) _, (set_off _ _ O.d1).trans L.ci, set_cells L.co, (set_off _ _ (fun e => O.d3 e.symm)).trans L.ch, fun j hj => (set_off _ _ (O.d4 j hj).2.1).trans (L.cn j hj), L.xo, L.qx⟩
theorem LoL.setH (O : D.Ok) (L : LoL D ow q inn mo th own V qv) (x : Nat) : LoL D ow q inn mo x own (V.setCell ⟨D.hb, 0, none⟩ (.int .i64 (x : Int))) qv :=
  ⟨L.muset O (.inr (.inr (.inl rfl))) _, (set_off _ _ O.d2).trans L.ci, (set_off _ _ O.d3).trans L.co, set_cells L.ch, fun j hj => (set_off _ _ (O.d4 j hj).2.2).trans (L.cn j hj), L.xo, L.qx⟩
theorem LoL.keep (L : LoL D ow q inn mo th own V qv) (hk : ∀ b, own b → V'.heap[b]? = V.heap[b]?) : LoL D ow q inn mo th own V' qv :=
  ⟨L.mu.keep hk, (hk _ (L.xo _ (.inl rfl))).trans L.ci, (hk _ (L.xo _ (.inr (.inl rfl)))).trans L.co, (hk _ (L.xo _ (.inr (.inr (.inl rfl))))).trans L.ch, fun j hj => (hk _ (L.xo _ (.inr (.inr (.inr ⟨j, hj, rfl⟩))))).trans (L.cn j hj), L.xo, L.qx⟩
end
def LoLoc (C : Cw) (D : LoD) (s : Ls) (i : Nat) (cs : List Frame) : Prop :=
  (s.pc i = 0 → False) ∧ (s.pc i = 1 → ∃ f u, LkY D.mb 0 (C.tp i) f ∧ LoA (C.tp i) D.mb D.ib D.ob (D.nb i) D.hb u ∧ cs = [f, u]) ∧ (s.pc i = 2 → ∃ f g u, RsP D.mb 0 (C.tp i) f ∧ LkR g ∧ LoA (C.tp i) D.mb D.ib D.ob (D.nb i) D.hb u ∧ cs = [f, g, u]) ∧ (3 ≤ s.pc i → ∃ u, LoB (C.tp i) D.mb D.ib D.ob (D.nb i) D.hb (s.pc i - 3) u ∧ cs = [u])
structure LoInv (D : LoD) (s : Ls) (own : Nat → Prop) (V : World) : Prop where
  ok : Ls.Ok D.n D.y s
  at_ : ∃ qv, LoL D s.ow s.q s.inn s.most s.fin.length own V qv
noncomputable def Ulo (D : LoD) (C : Cw) : Usr := Ulk D.n D.y (LoInv D) (LoLoc C D) (fun _ => 44) (fun i => #[bq D.mb, bq D.ib, bq D.ob, bq (D.nb i), bq D.hb])
theorem uf_loa {mb ib ob nb hb : Nat} {tp : Value} {f : Frame} (h : LoA tp mb ib ob nb hb f) : UF f := by
  obtain ⟨T, _, rfl⟩ := h
  exact uf_at rfl rfl rfl ⟨_, Try.func44⟩
theorem uf_lob {mb ib ob nb hb k : Nat} {tp : Value} {f : Frame} (h : LoB tp mb ib ob nb hb k f) : UF f := by
  obtain ⟨T, _, _, rfl⟩ := h
  exact uf_at rfl rfl rfl ⟨_, Try.func44⟩
theorem mo_le {n : Nat} {y : Nat → Nat} {s : Ls} (h : Ls.Ok n y s) : s.most < 1000 := by have := h.most; omega
theorem in_le {n : Nat} {y : Nat → Nat} {s : Ls} (h : Ls.Ok n y s) : s.inn ≤ 1 := by
  by_cases hx : ∃ i, i < n ∧ Ls.wi y s i
  · obtain ⟨i, hi, hw⟩ := hx
    exact Nat.le_of_eq (h.in1 i hi hw)
  · have := h.in0 fun i hi hw => hx ⟨i, hi, hw⟩
    omega
section
variable {C : Cw} {E : Env} {D : LoD} {V V2 : World} {i : Nat} {own : Nat → Prop} {s : Ls} {a₁ : Act} {ops₁ : Array Oper} {i₁ : Nat} {rest₁ : List Nat} {k₁ : List Item} {qv : Value}
theorem far_of (hown : ∀ b, own b → b < V.heap.size ∧ b ≠ C.cb ∧ ∀ j, j < C.n → b ≠ C.tb j) (hlb : ∀ b, own b → b ≠ C.lb) : ∀ b, own b → ¬ C.has b := fun b hb h => by
  rcases h with h | h | ⟨j, hj, h⟩
  · exact (hown b hb).2.1 h
  · exact hlb b hb h
  · exact (hown b hb).2.2 j hj h
/-- A turn that ends within. -/
theorem lo_yield (hD : D.n = C.n) (hi : i < C.n) (hO : Ls.Ok D.n D.y s) (hs : Ls.st D.y s i = 0 ∨ Ls.st D.y s i = 1) (hown : ∀ b, own b → b < V.heap.size ∧ b ≠ C.cb ∧ ∀ j, j < C.n → b ≠ C.tb j) (hlb : ∀ b, own b → b ≠ C.lb) (H : CwAt C false (upd (Ls.st D.y s) i 1) V) {Rf : Frame} {s' : Ls} (hgo : Ls.go D.y s i = s')
    (L : LoL D s'.ow s'.q s'.inn s'.most s'.fin.length own V2 qv) (M : Mv own V V2) (how : s'.ow = s.ow ∨ (s.ow = 0 ∧ s'.ow = i + 1)) {k : Nat} (hpc : s'.pc i = 3 + k) (hk : k < D.y i) {u : Frame} (hu : LoB (C.tp i) D.mb D.ib D.ob (D.nb i) D.hb k u) :
    TEnd C (Ulo D C) s i own V Rf (G (Frame.enter Try.prog 24 #[C.tp i] .normal) (u :: [Rf, rootF])) V2 := by
  have hturn : (Ulo D C).turn s i = s' := (if_pos hO).trans hgo
  have hok := Ls.ok_go hO (by omega) hs
  rw [hgo] at hok
  have hfar := far_of hown hlb
  refine ⟨M.nrm, Nat.le_of_eq M.sz.symm, fun b hb ho _ => M.keep b ho, ⟨own, ?_, fun b hb => ⟨.inl hb, by rw [M.sz]; exact (hown b hb).1⟩⟩, ?_, .inl ⟨?_, u, [], rfl, ?_⟩⟩
  · rw [hturn]; exact ⟨hok, qv, L⟩
  · rw [hturn]
    refine (H.off fun b hb => M.keep b (fun h => hfar b h hb)).congr fun j hj => ?_
    have := Ls.st_stay (j := j) (i := i) hO (by omega) (by rw [hgo]; exact how)
    rw [hgo] at this
    exact this
  · rw [hturn]
    show Ls.st D.y s' i = 1
    exact Ls.st1.2 (.inr (.inr ⟨by omega, by omega⟩))
  · rw [hturn]
    exact ⟨fun h => by omega, fun h => by omega, fun h => by omega, fun _ => ⟨u, by rw [hpc, Nat.add_sub_cancel_left]; exact hu, rfl⟩⟩
/-- A turn that ends parked. -/
theorem lo_park (hD : D.n = C.n) (hDO : D.Ok) (hi : i < C.n) (hO : Ls.Ok D.n D.y s) (L : LoL D s.ow s.q s.inn s.most s.fin.length own V qv) (hown : ∀ b, own b → b < V.heap.size ∧ b ≠ C.cb ∧ ∀ j, j < C.n → b ≠ C.tb j) (hlb : ∀ b, own b → b ≠ C.lb) (hlt : ∀ b, C.has b → b < V.heap.size) (H : CwAt C false (upd (Ls.st D.y s) i 1) V) {Rf : Frame}
    (hpc : s.pc i = 1) (hno : ¬ (s.ow = 0 ∧ s.q = [])) {V1 : World} {v' : Value} (P : Pu V D.mb 0 qv s.q.length (ints s.q) i V1 v') {f g u : Frame} (hf : RsP D.mb 0 (C.tp i) f) (hg : LkR g) (hu : LoA (C.tp i) D.mb D.ib D.ob (D.nb i) D.hb u) :
    TEnd C (Ulo D C) s i own V Rf (G (Frame.enter Try.prog 25 #[C.tp i] .normal) (f :: g :: u :: [Rf, rootF])) V1 := by
  have hst : Ls.st D.y s i = 0 ∨ Ls.st D.y s i = 1 := .inr (Ls.st1.2 (.inl hpc))
  have hgo : Ls.go D.y s i = { s with pc := upd s.pc i 2, q := s.q ++ [i] } := by
    unfold Ls.go
    rw [if_neg (by omega), if_pos hpc, if_neg hno]
  have hturn : (Ulo D C).turn s i = { s with pc := upd s.pc i 2, q := s.q ++ [i] } := (if_pos hO).trans hgo
  have hok := Ls.ok_go hO (by omega) hst
  rw [hgo] at hok
  have hhas := far_of hown hlb
  have hnew : ∀ b, v'.ownBlock = some b → qv.ownBlock = some b ∨ V.heap.size ≤ b := fun b hb => by
    rcases P.own with h | ⟨c, h, hc⟩
    · exact .inl (h ▸ hb)
    · rw [h] at hb; obtain rfl := Option.some.inj hb; exact .inr hc
  have hx : ∀ b, D.X b → V1.heap[b]? = V.heap[b]? := fun b hb => P.keep b (hown b (L.xo b hb)).1 (fun e => hDO.mx (e ▸ hb)) (fun e => L.qx b e hb)
  have hL : LoL D s.ow (s.q ++ [i]) s.inn s.most s.fin.length (fun b => (own b ∨ V.heap.size ≤ b) ∧ b < V1.heap.size) V1 v' :=
    ⟨L.mu.push P (fun b hb => ⟨.inl hb, Nat.lt_of_lt_of_le (hown b hb).1 P.sz⟩) fun b h1 h2 => ⟨.inr h1, h2⟩, (hx _ (.inl rfl)).trans L.ci, (hx _ (.inr (.inl rfl))).trans L.co, (hx _ (.inr (.inr (.inl rfl)))).trans L.ch, fun j hj => (hx _ (.inr (.inr (.inr ⟨j, hj, rfl⟩)))).trans (L.cn j hj), fun b hb => ⟨.inl (L.xo b hb), Nat.lt_of_lt_of_le (hown b (L.xo b hb)).1 P.sz⟩, fun b hb hX => by
      rcases hnew b hb with h | h
      · exact L.qx b h hX
      · have := (hown b (L.xo b hX)).1; omega⟩
  refine ⟨P.nrm, P.sz, fun b hb ho _ => P.keep b hb (fun e => ho (e ▸ L.mu.mown)) (fun e => ho (L.mu.qown b e)), ⟨_, ?_, fun b hb => hb⟩, ?_, .inr (.inl ⟨?_, f, [g, u], rfl, ?_⟩)⟩
  · rw [hturn]; exact ⟨hok, v', hL⟩
  · rw [hturn]
    refine (H.off (P.off (hhas D.mb L.mu.mown) (fun b hb => hhas b (L.mu.qown b hb)) hlt)).congr fun j hj => ?_
    have := Ls.st_stay (j := j) (i := i) hO (by omega) (by rw [hgo]; exact .inl rfl)
    rw [hgo] at this
    exact this
  · rw [hturn]
    show Ls.st D.y { s with pc := upd s.pc i 2, q := s.q ++ [i] } i = 2
    have how : s.ow ≠ i + 1 := fun e => by
      rcases hO.w2 i (by omega) e with h1 | h1
      · have := h1.1; omega
      · omega
    have e : ({ s with pc := upd s.pc i 2, q := s.q ++ [i] } : Ls).pc i = 2 := upd_same _ _ _
    unfold Ls.st
    rw [e, if_neg (by omega), if_neg (by omega), if_pos rfl, if_neg how]
  · rw [hturn]
    have e : ({ s with pc := upd s.pc i 2, q := s.q ++ [i] } : Ls).pc i = 2 := upd_same _ _ _
    exact ⟨fun h => by omega, fun h => by omega, fun _ => ⟨f, g, u, hf, hg, hu, rfl⟩, fun h => by omega⟩
/-- A turn that is the last one: out of the lock, and over. -/
theorem lo_over {V3 V4 : World} {qv' : Value} {inn mo : Nat} (hD : D.n = C.n) (hDO : D.Ok) (hi : i < C.n) (hO : Ls.Ok D.n D.y s) (hs : Ls.st D.y s i = 0 ∨ Ls.st D.y s i = 1) (hown : ∀ b, own b → b < V.heap.size ∧ b ≠ C.cb ∧ ∀ j, j < C.n → b ≠ C.tb j) (hlb : ∀ b, own b → b ≠ C.lb) {s' : Ls} (hgo : Ls.go D.y s i = s')
    (e1 : s'.ow = unOw s.q) (e2 : s'.q = s.q.tail) (e3 : s'.inn = inn) (e4 : s'.most = mo) (e5 : s'.fin.length = s.fin.length + 1) (e6 : s'.pc i = 3 + D.y i) (how : s.ow = 0 ∨ s.ow = i + 1) (hiq : i ∉ s.q)
    (L : LoL D (i + 1) s.q inn mo s.fin.length own V3 qv) (M : Mv own V V3) (U : UnP C (upd (Ls.st D.y s) i 1) V3 own D.mb 0 s.q qv V4 qv') :
    TEnd C (Ulo D C) s i own V ((baseD 141).at a₁ (.inRegion ops₁ (i₁ :: rest₁) :: k₁)) (G ((baseD 141).at (a₁.put ((ops₁[i₁]?).bind (·.dst)) (.tuple #[])) (.inRegion ops₁ rest₁ :: k₁)) [rootF]) (V4.setCell ⟨D.hb, 0, none⟩ (.int .i64 (s.fin.length + 1 : Nat))) := by
  have hturn : (Ulo D C).turn s i = s' := (if_pos hO).trans hgo
  have hok := Ls.ok_go hO (by omega) hs
  rw [hgo] at hok
  have hfar := far_of hown hlb
  have hk4 : ∀ b, own b → b ≠ D.mb → V4.heap[b]? = V3.heap[b]? := fun b hb hne => U.keep b hne fun j hj e => hfar b hb (.inr (.inr ⟨j, hj, e⟩))
  have hX4 : ∀ b, D.X b → V4.heap[b]? = V3.heap[b]? := fun b hb => hk4 b (L.xo b hb) (fun e => hDO.mx (e ▸ hb))
  have L4 : LoL D (unOw s.q) s.q.tail inn mo s.fin.length own V4 qv' := ⟨U.mu, (hX4 _ (.inl rfl)).trans L.ci, (hX4 _ (.inr (.inl rfl))).trans L.co, (hX4 _ (.inr (.inr (.inl rfl)))).trans L.ch, fun j hj => (hX4 _ (.inr (.inr (.inr ⟨j, hj, rfl⟩)))).trans (L.cn j hj), L.xo, fun b hb => L.qx b (by rw [← U.qo]; exact hb)⟩
  have L5 := L4.setH hDO (s.fin.length + 1)
  have hho : own D.hb := L.xo _ (.inr (.inr (.inl rfl)))
  have M5 : Mv own V4 (V4.setCell ⟨D.hb, 0, none⟩ (.int .i64 (s.fin.length + 1 : Nat))) := Mv.set U.nrm hho
  refine ⟨M5.nrm, by rw [M5.sz, U.sz, M.sz]; exact Nat.le_refl _, fun b hb ho ht => ?_, ⟨own, ?_, fun b hb => ⟨.inl hb, by rw [M5.sz, U.sz, M.sz]; exact (hown b hb).1⟩⟩, ?_, .inr (.inr ⟨?_, .inl ⟨_, a₁, ops₁, i₁, rest₁, k₁, rfl, rfl⟩⟩)⟩
  · rw [M5.keep b ho, U.keep b (fun e => ho (e ▸ L.mu.mown)) ht, M.keep b ho]
  · rw [hturn]
    refine ⟨hok, qv', ?_⟩
    rw [e1, e2, e3, e4, e5]
    exact L5
  · rw [hturn]
    refine (U.cw.off fun b hb => M5.keep b (fun h => hfar b h hb)).congr fun j hj => ?_
    have := Ls.st_leave (j := j) hO (by rw [hgo]; exact e1) how hiq (by omega)
    rw [hgo] at this
    exact this
  · rw [hturn]
    show Ls.st D.y s' i = 3
    unfold Ls.st
    rw [e6, if_neg (by omega), if_neg (by omega), if_neg (by omega), if_neg (by omega)]
theorem ulo_ok (hO : CwOk E C) (hn1 : C.n < 1000) (hD : D.n = C.n) (hDO : D.Ok) (hf : ∀ i, i < C.n → C.f i = .func (.func 44) #[] #[bq D.mb, bq D.ib, bq D.ob, bq (D.nb i), bq D.hb]) : UOk E C (Ulo D C) := by
  have hturn : ∀ (s : Ls) (i : Nat), (Ulo D C).turn s i = s ∨ (Ls.Ok D.n D.y s ∧ (Ulo D C).turn s i = Ls.go D.y s i) := fun s i => by
    by_cases h : Ls.Ok D.n D.y s
    · exact .inr ⟨h, if_pos h⟩
    · exact .inl (if_neg h)
  refine ⟨fun σ own V V' A hk hsz => ?_, fun σ i cs h => ?_, fun σ i j cs _ _ hj h => ?_, fun σ i j hi hs hj hji => ?_, fun σ i _ => Ls.st_cases _ _ _, fun σ i hi h => ⟨hf i hi, _, _, Try.func44, by kernel_rfl, rfl⟩, fun σ i own V Rf bx hi hs hRf hn H A hown L hlb => ?_, fun σ i own V Rf bx b a ops i₀ rest k cs hi hs hl hRf hn H A hown L hlb => ?_⟩
  · obtain ⟨h1, qv, h2⟩ := A
    exact ⟨h1, qv, h2.keep hk⟩
  · obtain ⟨h0, h1, h2, h3⟩ := h
    intro f hf
    rcases (show σ.pc i = 0 ∨ σ.pc i = 1 ∨ σ.pc i = 2 ∨ 3 ≤ σ.pc i by omega) with h | h | h | h
    · exact (h0 h).elim
    · obtain ⟨f1, u, q1, q2, rfl⟩ := h1 h
      simp only [List.mem_cons, List.not_mem_nil, or_false] at hf
      rcases hf with rfl | rfl
      · exact uf_lky q1
      · exact uf_loa q2
    · obtain ⟨f1, g, u, q1, q2, q3, rfl⟩ := h2 h
      simp only [List.mem_cons, List.not_mem_nil, or_false] at hf
      rcases hf with rfl | rfl | rfl
      · exact uf_rsp q1
      · exact uf_lkr q2
      · exact uf_loa q3
    · obtain ⟨u, q1, rfl⟩ := h3 h
      simp only [List.mem_cons, List.not_mem_nil, or_false] at hf
      subst hf
      exact uf_lob q1
  · show LoLoc C D ((Ulo D C).turn σ i) j cs
    rcases hturn σ i with e | ⟨_, e⟩
    · rw [e]; exact h
    · rw [e]
      have hp := Ls.go_pc D.y σ i j hj
      unfold LoLoc
      rw [hp]
      exact h
  · show Ls.st D.y ((Ulo D C).turn σ i) j = Ls.st D.y σ j ∨ (Ls.st D.y σ j = 2 ∧ Ls.st D.y ((Ulo D C).turn σ i) j = 1)
    rcases hturn σ i with e | ⟨h, e⟩
    · rw [e]; exact .inl rfl
    · rw [e]; exact Ls.go_st h (by omega) hs (by omega) hji
  · obtain ⟨hok, qv, T⟩ := A
    have hs : Ls.st D.y σ i = 0 := hs
    have hpc := Ls.st0.1 hs
    have hne : σ.ow ≠ i + 1 := fun e => by
      rcases hok.w2 i (by omega) e with h1 | h1
      · have := h1.1; omega
      · omega
    refine lo_start hn hi hn1 H T.mu.c1 hne fun f u hf hu => Will.stop ?_
    have hgo : Ls.go D.y σ i = { σ with pc := upd σ.pc i 1 } := by unfold Ls.go; rw [if_pos hpc]
    have ht : (Ulo D C).turn σ i = { σ with pc := upd σ.pc i 1 } := (if_pos hok).trans hgo
    have hok' := Ls.ok_go hok (by omega) (.inl hs)
    rw [hgo] at hok'
    have e : ({ σ with pc := upd σ.pc i 1 } : Ls).pc i = 1 := upd_same _ _ _
    refine ⟨hn, Nat.le_refl _, fun _ _ _ _ => rfl, ⟨own, ?_, fun b hb => ⟨.inl hb, (hown b hb).1⟩⟩, ?_, .inl ⟨?_, f, [u], rfl, ?_⟩⟩
    · rw [ht]; exact ⟨hok', qv, T⟩
    · rw [ht]
      refine H.congr fun j hj => ?_
      have := Ls.st_stay (j := j) (i := i) hok (by omega) (by rw [hgo]; exact .inl rfl)
      rw [hgo] at this
      exact this
    · rw [ht]; exact Ls.st1.2 (.inl e)
    · rw [ht]; exact ⟨fun h => by omega, fun _ => ⟨f, u, hf, hu, rfl⟩, fun h => by omega, fun h => by omega⟩
  · obtain ⟨hok, qv, T⟩ := A
    have hs : Ls.st D.y σ i = 1 := hs
    have hs01 : Ls.st D.y σ i = 0 ∨ Ls.st D.y σ i = 1 := .inr hs
    have hiD : i < D.n := by omega
    have hl : LoLoc C D σ i (b.at a (.inRegion ops (i₀ :: rest) :: k) :: cs) := hl
    have hH : CwAt C false (upd (Ls.st D.y σ) i 1) V := H.congr fun j hj => by
      by_cases e : j = i
      · subst e; rw [upd_same]; exact hs
      · rw [upd_ne _ _ e]; rfl
    have hfar := far_of hown hlb
    have hlt := has_lt H L (by omega)
    have hyi := hDO.y i
    have hin := in_le hok
    have hmo := mo_le hok
    have hth : σ.fin.length < 1000 := by have := nd_len _ _ hok.fnd fun x hx => ((hok.fin x).1 hx).1; omega
    have hql : σ.q.length ≤ D.n := nd_len _ _ hok.nd fun x hx => (hok.w3 x hx).1
    have hio := T.xo _ (.inl rfl)
    have hoo := T.xo _ (.inr (.inl rfl))
    have hho := T.xo _ (.inr (.inr (.inl rfl)))
    obtain ⟨d1, d2, d3⟩ := hDO.d4 i hiD
    have hmu0 : ∀ x ∈ σ.q, x < C.n := fun x hx => by have := (hok.w3 x hx).1; omega
    obtain ⟨a₁, ops₁, i₁, rest₁, k₁, eRf, -⟩ := hRf
    subst eRf
    -- out of the lock
    have OUT : ∀ (V2 : World) (inn mo : Nat) (s' : Ls), Ls.go D.y σ i = s' → LoL D (i + 1) σ.q (inn + 1) mo σ.fin.length own V2 qv → Mv own V V2 → inn < 900 → s'.ow = unOw σ.q → s'.q = σ.q.tail → s'.inn = inn → s'.most = mo → s'.fin.length = σ.fin.length + 1 → s'.pc i = 3 + D.y i → (σ.ow = 0 ∨ σ.ow = i + 1) → i ∉ σ.q →
        ∀ T', LoT T' (C.tp i) D.mb D.ib D.ob (D.nb i) D.hb → Will Try.prog false E.Z (TEnd C (Ulo D C) σ i own V ((baseD 141).at a₁ (.inRegion ops₁ (i₁ :: rest₁) :: k₁))) (G ((base 44).at ⟨T', []⟩ [.code RZ44]) ((baseD 141).at a₁ (.inRegion ops₁ (i₁ :: rest₁) :: k₁) :: [rootF])) V2 := by
      intro V2 inn mo s' hgo L2 M2 hinn f1 f2 f3 f4 f5 f6 how hiq T' hT'
      refine lo_out (inn := inn + 1) M2.nrm (by omega) (by omega) (cell_of L2.ci (by simp)) (by simp [World.frozen?, L2.ci]) (fun c KK => ?_) hT'
      have L3 := L2.setI hDO inn
      have M3 : Mv own V2 (V2.setCell ⟨D.ib, 0, none⟩ (.int .i64 (inn : Nat))) := Mv.set M2.nrm hio
      have e0 : inn + 1 - 1 = inn := by omega
      rw [e0]
      have M13 := M2.trans M3
      have hc3 : ∀ b, C.has b → (V2.setCell ⟨D.ib, 0, none⟩ (.int .i64 (inn : Nat))).heap[b]? = V.heap[b]? := fun b hb => M13.keep b (fun h => hfar b h hb)
      refine will_unlock M3.nrm hO.tbi (fun a ha => hO.cbt ha) hi hn1 (hH.off hc3) (L.off hc3) L3.mu hmu0 hfar fun V4 qv4 U => ?_
      have hh4 : V4.heap[D.hb]? = some (.cells #[.int .i64 (σ.fin.length : Int)] 3 (0, 0)) := (U.keep D.hb (fun e => hDO.mx (e ▸ .inr (.inr (.inl rfl)))) fun j hj e => hfar _ hho (.inr (.inr ⟨j, hj, e⟩))).trans L3.ch
      exact KK V4 σ.fin.length U.nrm hth (cell_of hh4 (by simp)) (by simp [World.frozen?, hh4]) (Will.stop (lo_over hD hDO hi hok hs01 hown hlb hgo f1 f2 f3 f4 f5 f6 how hiq L3 M13 U))
    -- into the lock
    have IN : ∀ (V1 : World), LoL D (i + 1) σ.q σ.inn σ.most σ.fin.length own V1 qv → Mv own V V1 → σ.inn = 0 → i ∉ σ.q → Ls.go D.y σ i = Ls.adv D.y (Ls.come σ i) i 3 → (σ.ow = 0 ∨ σ.ow = i + 1) →
        ∀ (b : Frame) (a : Act) (ops : Array Oper) (j : Nat) (rest : List Nat) (kk : List Item) (v : Value), LoA (C.tp i) D.mb D.ib D.ob (D.nb i) D.hb (b.at a (.inRegion ops (j :: rest) :: kk)) → Will Try.prog false E.Z (TEnd C (Ulo D C) σ i own V ((baseD 141).at a₁ (.inRegion ops₁ (i₁ :: rest₁) :: k₁))) (G (b.at (a.put ((ops[j]?).bind (·.dst)) v) (.inRegion ops rest :: kk)) [(baseD 141).at a₁ (.inRegion ops₁ (i₁ :: rest₁) :: k₁), rootF]) V1 := by
      intro V1 L1 M1 h0 hiq hgo how b a ops j rest kk v hu
      have L2 := (L1.setI hDO (σ.inn + 1)).setO hDO (max σ.most (σ.inn + 1))
      have M2 := (M1.trans (Mv.set (b := D.ib) (k := 0) (v := .int .i64 (σ.inn + 1 : Nat)) M1.nrm hio))
      have M3 := M2.trans (Mv.set (b := D.ob) (k := 0) (v := .int .i64 (max σ.most (σ.inn + 1) : Nat)) M2.nrm hoo)
      refine lo_enter (y := D.y i) (inn := σ.inn) (mo := σ.most) M1.nrm hyi (by omega) hmo (cell_of (L1.cn i hiD) (by simp)) (cell_of L1.ci (by simp)) (by simp [World.frozen?, L1.ci]) (cell_of L1.co (by simp)) (by simp [World.frozen?, L1.co]) d1 d2 (fun e => hDO.d1 e.symm) (fun hy u hu => Will.stop ?_) (fun hy T' hT' => ?_) hu
      · have hgo' : Ls.go D.y σ i = { Ls.come σ i with pc := upd σ.pc i 3 } := by
          rw [hgo]; unfold Ls.adv; rw [if_neg (by omega)]; rfl
        exact lo_yield hD hi hok hs01 hown hlb hH hgo' L2 M3 (by
          rcases how with h | h
          · exact .inr ⟨h, rfl⟩
          · exact .inl h.symm) (k := 0) (upd_same _ _ _) hy hu
      · have hgo' : Ls.go D.y σ i = Ls.unlock { Ls.come σ i with pc := upd σ.pc i 3 } i := by
          rw [hgo]; unfold Ls.adv; rw [if_pos (by omega)]; rfl
        refine OUT _ σ.inn (max σ.most (σ.inn + 1)) _ hgo' L2 M3 (by omega) ?_ rfl ?_ rfl ?_ ?_ how hiq T' hT'
        · show (match σ.q with | [] => 0 | x :: _ => x + 1) = unOw σ.q
          cases σ.q <;> rfl
        · show σ.inn + 1 - 1 = σ.inn; omega
        · show (σ.fin ++ [i]).length = _; simp
        · show upd σ.pc i 3 i = _; rw [upd_same]; omega
    obtain ⟨h0, h1, h2, h3⟩ := hl
    rcases Ls.st1.1 hs with hp | ⟨hp, ho⟩ | hw
    · obtain ⟨f, u, q1, q2, e⟩ := h1 hp
      obtain ⟨e1, rfl⟩ := List.cons.inj e
      subst e1
      obtain ⟨TA, hTA, rfl⟩ := q2
      obtain ⟨vb, vc, rfl⟩ := T.mu.qu.sl
      have hne : σ.ow ≠ i + 1 := fun e => by
        rcases hok.w2 i hiD e with h1 | h1
        · have := h1.1; omega
        · omega
      refine lock_back hn hi hn1 H L T.mu.c0 T.mu.z0 T.mu.c1 T.mu.z1 T.mu.qu (by omega) T.mu.qmb (hfar D.mb T.mu.mown) (fun b hb => hfar b (T.mu.qown b hb)) hne (fun hx => ?_) (fun hx V' v' f1 f2 P hf1 hf2 => ?_) q1
      · have hq0 : σ.q = [] := List.eq_nil_of_length_eq_zero hx.2
        refine IN _ (T.take hDO (i + 1)) (Mv.set hn T.mu.mown) (hok.in0 fun j hj hw => by have := hok.w1 j hj hw; omega) (by rw [hq0]; simp) ?_ (.inl hx.1) _ _ _ _ _ _ _ ⟨TA, hTA, rfl⟩
        unfold Ls.go
        rw [if_neg (by omega), if_pos hp, if_pos ⟨hx.1, hq0⟩]
      · exact Will.stop (lo_park hD hDO hi hok T hown hlb hlt hH hp (fun h => hx ⟨h.1, by rw [h.2]; rfl⟩) P hf1 hf2 ⟨TA, hTA, rfl⟩)
    · obtain ⟨f, g, u, q1, q2, q3, e⟩ := h2 hp
      obtain ⟨e1, rfl⟩ := List.cons.inj e
      subst e1
      obtain ⟨TR, hTR, rfl⟩ := q2
      obtain ⟨TA, hTA, rfl⟩ := q3
      refine rest_back hn hi hn1 H T.mu.c1 (fun _ => ?_) (fun hx => absurd ho hx) q1
      refine lock_ret hn ?_ ⟨TR, hTR, rfl⟩
      have T' : LoL D (i + 1) σ.q σ.inn σ.most σ.fin.length own V qv := by rw [← ho]; exact T
      refine IN _ T' (Mv.refl hn) (hok.in0 fun j hj hw => by
        have h1 := hok.w1 j hj hw
        obtain rfl : j = i := by omega
        have := hw.1; omega) (fun hm => (hok.w3 i hm).2.2 ho) ?_ (.inr ho) _ _ _ _ _ _ _ ⟨TA, hTA, rfl⟩
      unfold Ls.go
      rw [if_neg (by omega), if_neg (by omega), if_pos hp]
    · obtain ⟨u, q1, e⟩ := h3 hw.1
      obtain ⟨e1, rfl⟩ := List.cons.inj e
      subst e1
      have how := hok.w1 i hiD hw
      have hi1 := hok.in1 i hiD hw
      have h3p := hw.1
      have h4p := hw.2
      have hiq : i ∉ σ.q := fun hm => by have := (hok.w3 i hm).2.1; omega
      have T' : LoL D (i + 1) σ.q σ.inn σ.most σ.fin.length own V qv := by rw [← how]; exact T
      refine lo_back (y := D.y i) (k := σ.pc i - 3) hn hyi (by omega) (cell_of (T.cn i hiD) (by simp)) (fun hk u hu => Will.stop ?_) (fun hk TT hTT => ?_) q1
      · have hgo' : Ls.go D.y σ i = { σ with pc := upd σ.pc i (σ.pc i + 1) } := by
          unfold Ls.go Ls.adv
          rw [if_neg (by omega), if_neg (by omega), if_neg (by omega), if_neg (by omega)]
        refine lo_yield hD hi hok hs01 hown hlb hH hgo' T (Mv.refl hn) (.inl rfl) (k := σ.pc i - 3 + 1) ?_ hk hu
        show upd σ.pc i (σ.pc i + 1) i = _
        rw [upd_same]; omega
      · have hgo' : Ls.go D.y σ i = Ls.unlock { σ with pc := upd σ.pc i (σ.pc i + 1) } i := by
          unfold Ls.go Ls.adv
          rw [if_neg (by omega), if_neg (by omega), if_neg (by omega), if_pos (by omega)]
        have T'' : LoL D (i + 1) σ.q (0 + 1) σ.most σ.fin.length own V qv := by rw [hi1] at T'; exact T'
        refine OUT V 0 σ.most _ hgo' T'' (Mv.refl hn) (by omega) ?_ rfl ?_ rfl ?_ ?_ (.inr how) hiq TT hTT
        · show (match σ.q with | [] => 0 | x :: _ => x + 1) = unOw σ.q
          cases σ.q <;> rfl
        · show σ.inn - 1 = 0; omega
        · show (σ.fin ++ [i]).length = _; simp
        · show upd σ.pc i (σ.pc i + 1) i = _; rw [upd_same]; omega
end
end Go.Proofs.Ytibcdikfbhmheaa
/- duty's own functions: LockOne: its threads are made. -/
namespace Go.Proofs.Ytibcdikfbhmheaa
open Go Go.Conc Go.Proofs
open Go.ConcN (sumTo upd sumTo_upd upd_ne upd_same)
set_option linter.unusedVariables false
theorem array61f (T : Array Value) (h : T.size = 61) : ∃ f : Nat → Value, (∀ i v, T[i]? = some v → f i = v) ∧ T = #[f 0, f 1, f 2, f 3, f 4, f 5, f 6, f 7, f 8, f 9, f 10, f 11, f 12, f 13, f 14, f 15, f 16, f 17, f 18, f 19, f 20, f 21, f 22, f 23, f 24, f 25, f 26, f 27, f 28, f 29, f 30, f 31, f 32, f 33, f 34, f 35, f 36, f 37, f 38, f 39, f 40, f 41, f 42, f 43, f 44, f 45, f 46, f 47, f 48, f 49, f 50, f 51, f 52, f 53, f 54, f 55, f 56, f 57, f 58, f 59, f 60] := by
  refine ⟨fun i => T.getD i undef, fun i v hv => by simp [Array.getD_eq_getD_getElem?, hv], ?_⟩
  generalize hf : (fun i => T.getD i undef) = f
  have e : T.toList = (List.range 61).map f := by
    apply List.ext_getElem?
    intro i
    rw [List.getElem?_map, Array.getElem?_toList]
    by_cases hi : i < 61
    · rw [List.getElem?_range hi, Option.map_some, ← hf]
      simp [Array.getD_eq_getD_getElem?, Array.getElem?_eq_getElem (show i < T.size by omega)]
    · rw [List.getElem?_eq_none (by simp; omega), Array.getElem?_eq_none (by omega)]
      rfl
  have e2 : (List.range 61).map f = [f 0, f 1, f 2, f 3, f 4, f 5, f 6, f 7, f 8, f 9, f 10, f 11, f 12, f 13, f 14, f 15, f 16, f 17, f 18, f 19, f 20, f 21, f 22, f 23, f 24, f 25, f 26, f 27, f 28, f 29, f 30, f 31, f 32, f 33, f 34, f 35, f 36, f 37, f 38, f 39, f 40, f 41, f 42, f 43, f 44, f 45, f 46, f 47, f 48, f 49, f 50, f 51, f 52, f 53, f 54, f 55, f 56, f 57, f 58, f 59, f 60] := rfl
  rw [e2] at e
  rw [← Array.toArray_toList (xs := T), e]
noncomputable def B10 : Code := Try.f10.body.getD .skip
noncomputable def R4k : Code := nva (nvb (nvb (nvb B10)))
noncomputable def LB10 : Code := nva (nvb (nvb (nvb (nvb (nvb B10)))))
def lof (mb ib ob hb nb : Nat) : Value := .func (.func 44) #[] #[bq mb, bq ib, bq ob, bq nb, bq hb]
def lofs (mb ib ob hb : Nat) (nb : Nat → Nat) (k : Nat) : List Value := (List.range k).map fun j => lof mb ib ob hb (nb j)
theorem lofs_succ (mb ib ob hb : Nat) (nb : Nat → Nat) (k x : Nat) : lofs mb ib ob hb (upd nb k x) (k + 1) = lofs mb ib ob hb nb k ++ [lof mb ib ob hb x] := by
  unfold lofs
  rw [List.range_succ, List.map_append]
  congr 1
  · apply List.map_congr_left
    intro j hj
    have : j < k := List.mem_range.1 hj
    rw [upd_ne _ _ (by omega)]
  · simp [upd_same]
/-- The threads made so far. -/
structure Lo10 (w0 : World) (mb ib ob hb : Nat) (y : Nat → Nat) (k : Nat) (nb : Nat → Nat) (w : World) (fv : Value) : Prop where
  sz : w0.heap.size ≤ w.heap.size
  keep : ∀ b, b < w0.heap.size → w.heap[b]? = w0.heap[b]?
  row : w.ownsRow 0 70 1 fv k (lofs mb ib ob hb nb k)
  rown : ∀ b, fv.ownBlock = some b → w0.heap.size ≤ b
  nb : ∀ j, j < k → w0.heap.size ≤ nb j ∧ w.heap[nb j]? = some (.cells #[.int .i64 (y j : Int)] 3 (0, 0))
theorem Lo10.draws {w0 w : World} {mb ib ob hb k : Nat} {y nb : Nat → Nat} {fv : Value} (h : Lo10 w0 mb ib ob hb y k nb w fv) (m : Nat) : Lo10 w0 mb ib ob hb y k nb (w.drewN m) fv := ⟨h.sz, h.keep, row_keep h.row fun _ _ => rfl, h.rown, h.nb⟩
theorem info70' : ∃ i0, Try.prog.info? 70 = some i0 ∧ i0.zero = some .nilFunc ∧ i0.size = 1 ∧ i0.bytes = 8 := by
  have h3 := info70L
  cases e : Try.prog.info? 70 with
  | none => rw [e] at h3; cases h3
  | some i0 => rw [e] at h3; exact ⟨i0, rfl, by simpa using h3⟩
theorem lo10_app {w0 w : World} {mb ib ob hb k : Nat} {y nb : Nat → Nat} {fv : Value} (h : Lo10 w0 mb ib ob hb y k nb w fv) (hk : k ≤ 64) {v : Int} (hv : v = (y k : Int)) : ∃ v' w', (Builtin.append_ #[49, 49] 49 #[fv, .slice (some ⟨w.heap.size + 1, 0, none⟩) 1 1]).run Try.prog ((w.alloc (.cells #[.int .i64 v] 3)).alloc (.cells #[lof mb ib ob hb w.heap.size] 70)) = .ok v' w' ∧ ∃ nb', Lo10 w0 mb ib ob hb y (k + 1) nb' w' v' := by
  subst hv
  obtain ⟨i0, hi0, hz0, hz1, hz2⟩ := info70'
  have a1 : ∀ b, b < w.heap.size → ((w.alloc (.cells #[.int .i64 (y k : Int)] 3)).alloc (.cells #[lof mb ib ob hb w.heap.size] 70)).heap[b]? = w.heap[b]? := fun b hb => by
    rw [alloc_get, if_neg (by rw [alloc_size]; omega), alloc_get, if_neg (by omega)]
  have a2 : ((w.alloc (.cells #[.int .i64 (y k : Int)] 3)).alloc (.cells #[lof mb ib ob hb w.heap.size] 70)).heap[w.heap.size]? = some (.cells #[.int .i64 (y k : Int)] 3 (0, 0)) := by
    rw [alloc_get, if_neg (by rw [alloc_size]; omega), alloc_get, if_pos rfl]
  have a3 : ((w.alloc (.cells #[.int .i64 (y k : Int)] 3)).alloc (.cells #[lof mb ib ob hb w.heap.size] 70)).heap[w.heap.size + 1]? = some (.cells #[lof mb ib ob hb w.heap.size] 70 (0, 0)) := by
    rw [alloc_get, if_pos (by rw [alloc_size])]
  have a4 : ((w.alloc (.cells #[.int .i64 (y k : Int)] 3)).alloc (.cells #[lof mb ib ob hb w.heap.size] 70)).heap.size = w.heap.size + 2 := by rw [alloc_size, alloc_size]
  generalize (w.alloc (.cells #[.int .i64 (y k : Int)] 3)).alloc (.cells #[lof mb ib ob hb w.heap.size] 70) = w2 at *
  have hr : w2.ownsRow 0 70 1 fv k (lofs mb ib ob hb nb k) := row_keep h.row fun b hb => a1 b (row_at h.row hb)
  obtain ⟨v', w', r1, r2, r3, _, r5⟩ := run_append_own_at (P := Try.prog) (w := w2) 0 49 49 70 i0 .nilFunc 1 8 Try.underlying49 hi0 hz0 hz1 hz2 rfl (by decide) fv k _ hr ⟨w.heap.size + 1, 0, none⟩ 1 1 [lof mb ib ob hb w.heap.size] rfl (fun j u hu => by
    cases j with
    | zero => simp at hu; subst hu; exact cell_of a3 (by simp)
    | succ j => simp at hu) (by intro u hu; simp at hu; subst hu; rfl) (by simp only [maxLen]; omega) (by omega) (Nat.zero_le _)
  have h6 : ∀ b, b < w2.heap.size → fv.ownBlock ≠ some b → w'.heap[b]? = w2.heap[b]? := fun b hb hne => r3.block b hb (fun e => hne e.symm)
  have hs : w2.heap.size ≤ w'.heap.size := r3.size
  have h0 := h.sz
  refine ⟨v', w', r1, upd nb k w.heap.size, by omega, fun b hb => ?_, ?_, fun b hb => ?_, fun j hj => ?_⟩
  · rw [h6 b (by omega) (fun e => by have := h.rown b e; omega), a1 b (by omega), h.keep b hb]
  · rw [lofs_succ]; exact r2
  · rcases r5 with e | e
    · exact h.rown b (e ▸ hb)
    · rw [e] at hb
      obtain rfl := Option.some.inj hb
      omega
  · by_cases e : j = k
    · subst e
      rw [upd_same]
      exact ⟨h0, by rw [h6 _ (by omega) (fun e => by have := row_at h.row e; omega)]; exact a2⟩
    · rw [upd_ne _ _ e]
      obtain ⟨h1, h2⟩ := h.nb j (by omega)
      have hlt := (Array.getElem?_eq_some_iff.1 h2).1
      exact ⟨h1, by rw [h6 _ (by omega) (own_tyL h.row h2 (by decide)), a1 _ hlt]; exact h2⟩
def sm4 (y : Nat → Nat) (k : Nat) : Nat := sumTo k fun i => y i + 4
section
variable {V : World} {Z : Cuts} {Post : Value → World → Prop} {n yc mb ib ob hb : Nat} {ya : Option Addr} {pv : Value} {y : Nat → Nat} {T : Array Value}
set_option maxRecDepth 100000 in
set_option maxHeartbeats 4000000 in
theorem lo_build {kt : List Item} {cs0 : List Frame} (hn : norm V = V) (hn10 : n ≤ 10) (hy6 : ∀ j, y j < 6) (hy : 0 < n → ∃ g o, ya = some ⟨g, o, none⟩ ∧ g < V.heap.size ∧ ∀ j, j < n → ∃ z : Nat, z < 256 ∧ z % 6 = y j ∧ V.cell? ⟨g, o + j, none⟩ = some (.int .u8 (z : Int)))
    (hs : T.size = 61) (t0 : T[0]? = some (.slice ya n yc)) (t1 : T[1]? = some pv) (t5 : T[5]? = some (bq mb)) (t6 : T[6]? = some (bq ib)) (t7 : T[7]? = some (bq ob)) (t8 : T[8]? = some (bq hb)) (t9 : T[9]? = some (.int .i64 0)) (t10 : T[10]? = some (.slice none 0 0))
    (K : ∀ T' V' fv nb, T'.size = 61 → T'[0]? = some (.slice ya n yc) → T'[1]? = some pv → T'[5]? = some (bq mb) → T'[7]? = some (bq ob) → T'[8]? = some (bq hb) → T'[9]? = some (.int .i64 (sm4 y n : Int)) → T'[10]? = some fv → norm V' = V' → Lo10 V mb ib ob hb y n nb V' fv → To0 Try.prog Post Z V' (G ((base 10).at ⟨T', []⟩ kt) cs0)) :
    To0 Try.prog Post Z V (G ((base 10).at ⟨T, []⟩ (.code LB10 :: kt)) cs0) := by
  refine To0.walk (will_code (L := Lone) (R := fun a' V' => norm V' = V' ∧ ∃ fv nb, a'.tmps.size = 61 ∧ a'.tmps[0]? = some (.slice ya n yc) ∧ a'.tmps[1]? = some pv ∧ a'.tmps[5]? = some (bq mb) ∧ a'.tmps[7]? = some (bq ob) ∧ a'.tmps[8]? = some (bq hb) ∧ a'.tmps[9]? = some (.int .i64 (sm4 y n : Int)) ∧ a'.tmps[10]? = some fv ∧ Lo10 V mb ib ob hb y n nb V' fv) calm rfl ⟨_, Try.func10⟩ rfl (by kernel_rfl) (fun τ => ?_) fun a' V' ⟨h0, fv, nb, h1, h2, h3, h4, h5, h6, h7, h8, h9⟩ ha' => Will.stop ?_)
  · have hy' := Lib.hid hy
    clear hy K
    simp only [bq] at t5 t6 t7 t8
    have M0 : Lo10 V mb ib ob hb y 0 (fun _ => 0) (re V τ 0) (.slice none 0 0) := ⟨Nat.le_refl _, fun _ _ => rfl, ⟨rfl, .inl ⟨rfl, rfl⟩⟩, fun b h => (by cases h), fun j hj => by omega⟩
    obtain ⟨f, hf, hT⟩ := array61f T hs
    have et0 := hf 0 _ t0
    have et1 := hf 1 _ t1
    have et5 := hf 5 _ t5
    have et6 := hf 6 _ t6
    have et7 := hf 7 _ t7
    have et8 := hf 8 _ t8
    have et9 := hf 9 _ t9
    have et10 := hf 10 _ t10
    clear hf hs t0 t1 t5 t6 t7 t8 t9 t10
    subst hT
    simp only [et0, et1, et5, et6, et7, et8, et9, et10]
    clear et0 et1 et5 et6 et7 et8 et9 et10
    simp only [LB10, R4k, B10, nva, nvb, Try.f10, Option.getD_some]
    go_wp2_with fail
    go_loopg [9, 10, 11] n (fun g s9 s10 s11 wr => ∃ (k : Nat) (nb : Nat → Nat), k ≤ n ∧ g + k = n ∧ s9 = .int .i64 (sm4 y k : Int) ∧ s11 = .int .i64 (k : Int) ∧ Lo10 V mb ib ob hb y k nb wr s10)
    case atStart => exact ⟨0, fun _ => 0, Nat.zero_le _, by omega, rfl, rfl, M0⟩
    case round =>
      obtain ⟨k, nb, hkn, hg, rfl, rfl, M⟩ := hrel
      obtain ⟨fx, fn, fc, rfl⟩ := slice_of M.row
      by_cases hk : k < n
      · obtain ⟨g, o, rfl, hgl, hc⟩ := hy'.out (by omega)
        obtain ⟨z, hz1, hz2, hcz⟩ := hc k hk
        have c1 : wr.cell? ⟨g, o + k, none⟩ = some (.int .u8 (z : Int)) := cell_kept hcz (M.keep g hgl)
        have A := Lib.hid (lo10_app M (by omega) (rfl : (y k : Int) = (y k : Int)))
        have hs5 : sm4 y (k + 1) = sm4 y k + (y k + 4) := rfl
        have hle : sm4 y k ≤ k * 10 := by
          have : ∀ m, sm4 y m ≤ m * 10 := by
            intro m
            induction m with
            | zero => exact Nat.le_refl _
            | succ m ih =>
              have h5 : sm4 y (m + 1) = sm4 y m + (y m + 4) := rfl
              have := hy6 m
              omega
          exact this k
        have hyk := hy6 k
        have w6 : (z : Int).tmod 6 = (y k : Int) := by rw [Int.tmod_eq_emod_of_nonneg (by omega)]; omega
        have q0 : (k : Int) < (n : Int) := by omega
        have w9 : IntKind.i64.wrap ((k : Int) + 1) = ((k + 1 : Nat) : Int) := by rw [IntKind.wrap_i64]; omega
        obtain ⟨s1, hs1⟩ : ∃ s1, sm4 y (k + 1) = s1 := ⟨_, rfl⟩
        rw [hs1] at hs5
        have HS1 := Lib.hid hs1
        clear hs1
        generalize sm4 y k = s0 at *
        generalize y k = yk at *
        have w7 : IntKind.i64.wrap ((s0 : Int) + (yk : Int)) = ((s0 + yk : Nat) : Int) := by rw [IntKind.wrap_i64]; omega
        have w8 : IntKind.i64.wrap ((s0 : Int) + (yk : Int) + 4) = (s1 : Int) := by rw [IntKind.wrap_i64]; omega
        clear hcz hc hle hs5 hz2
        go_wp2_with (first
          | (refine wpl_ex rfl rfl rfl rfl rfl A.out ?_
             rintro v' w' ⟨nb', M'⟩
             obtain ⟨xb, xn, xc, rfl⟩ := slice_of M'.row
             have H := Lib.hid M'
             clear M'))
        go_roundg (gk - 1)
        case rel => exact ⟨k + 1, nb', by omega, by omega, by rw [HS1.out], by simp, H.out⟩
        case measure => omega
      · have hkn2 : k = n := by omega
        subst hkn2
        have q0 : ¬ ((k : Int) < (k : Int)) := by omega
        have H := Lib.hid M
        clear M
        go_wp2
        exact ⟨rfl, rfl, rfl, rfl, nb, ⟨H.out.sz, H.out.keep, H.out.row, H.out.rown, H.out.nb⟩⟩
  · obtain ⟨T', df⟩ := a'
    simp only at ha' h1 h2 h3 h4 h5 h6 h7 h8
    subst ha'
    exact K T' V' fv nb h1 h2 h3 h4 h5 h6 h7 h8 h0 h9
end
end Go.Proofs.Ytibcdikfbhmheaa
