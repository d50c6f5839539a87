/- duty's own functions: DutyArgs, whole. -/
import Derived.Test.YtibcdikfbhmheaaQA01
import Derived.Test.YtibcdikfbhmheaaB17
import Derived.Laws.MakeOwn
set_option linter.unusedSimpArgs false
set_option linter.unusedVariables false
namespace Go.Proofs.Ytibcdikfbhmheaa
open Go Go.Conc Go.Proofs
open Go.ConcN (sumTo upd sumTo_upd upd_ne upd_same)
set_option linter.unusedVariables false
theorem info70m : (Try.prog.info? 70).map (fun i => (i.zero, i.size, i.bytes)) = some (some .nilFunc, 1, 8) := by kernel_rfl
theorem mk70 {k : Nat} (hk : k ≤ 1000) (w : World) : (Instr.makeSlice 49 (.int .i64 (k : Int)) (.int .i64 (k : Int))).run Try.prog w = .ok (.slice (some ⟨w.heap.size, 0, none⟩) k k) (w.alloc (.cells (madeCells #[.nilFunc] k) 70)) := by
  obtain ⟨i0, hi0, hz⟩ : ∃ i0, Try.prog.info? 70 = some i0 ∧ (i0.zero, i0.size, i0.bytes) = (some .nilFunc, 1, 8) := by
    have := info70m
    cases e : Try.prog.info? 70 with
    | none => rw [e] at this; cases this
    | some i0 => rw [e] at this; exact ⟨i0, rfl, by simpa using this⟩
  obtain ⟨hz0, hz1, hz2⟩ : i0.zero = some .nilFunc ∧ i0.size = 1 ∧ i0.bytes = 8 := by simpa using hz
  have h := run_make (P := Try.prog) w 49 70 i0 .nilFunc Try.underlying49 hi0 hz0 .i64 .i64 k k (by omega) (Int.le_refl _) (by rw [hz2]; omega) (by omega)
  rw [hz1] at h
  simpa [Value.cells] using h
theorem made_get (k j : Nat) (hj : j < k) : (madeCells #[Value.nilFunc] k)[j]? = some .nilFunc := by
  simp [madeCells, hj, Nat.mod_one]
theorem nil_stp (C : Cw) (x : (Unil C).S × List Nat) (i : Nat) : stp (Unil C) x i = x := by
  unfold stp
  rw [if_neg]
  intro h
  rcases h with h | h <;> exact absurd h (show ¬ (3 : Int) = _ by decide)
theorem nil_fold (C : Cw) (n : Nat) (ps : List Int) : ∀ x : (Unil C).S × List Nat, ps.foldl (pk (Unil C) n) x = x := by
  induction ps with
  | nil => intro x; rfl
  | cons p ps ih =>
    intro x
    have e : pk (Unil C) n x p = x := by
      unfold pk
      split
      · rfl
      · exact nil_stp C x _
    rw [List.foldl_cons, e]
    exact ih x
theorem nil_fold2 (C : Cw) (l : List Nat) : ∀ x : (Unil C).S × List Nat, l.foldl (stp (Unil C)) x = x := by
  induction l with
  | nil => intro x; rfl
  | cons p ps ih =>
    intro x
    rw [List.foldl_cons, nil_stp]
    exact ih x
theorem nil_rnds (C : Cw) (n R : Nat) (x : (Unil C).S × List Nat) : rnds (Unil C) n R x = x := by
  induction R with
  | zero => rfl
  | succ R ih =>
    unfold rnds
    have e : rnd (Unil C) n x = x := nil_fold2 C _ x
    rw [e, if_pos rfl]
theorem nil_calc (C : Cw) (n R : Nat) (ps : List Int) (σ' : (Unil C).S) (xs' : List Nat) (h : (σ', xs') = rnds (Unil C) n R (ps.foldl (pk (Unil C) n) ((), []))) : xs' = [] := by
  rw [nil_fold, nil_rnds] at h
  exact (Prod.mk.inj h).2
theorem nil_bls (C : Cw) (σ : (Unil C).S) (n j : Nat) (hj : j < n) : (bls (Unil C) σ 3 n)[j]? = some (.bool true) ∧ (bls (Unil C) σ 2 n)[j]? = some (.bool false) := by
  unfold bls
  simp [List.getElem?_map, List.getElem?_range, hj, Unil]
section
variable {W V : World} {Z : Cuts} {b₀ : Frame} {a₀ : Act} {ops₀ : Array Oper} {i₀ : Nat} {rest₀ : List Nat} {k₀ : List Item} {cs0 : List Frame}
set_option maxRecDepth 100000 in
set_option maxHeartbeats 4000000 in
theorem args_end (L : LS W Z V) {n k rb c1 c2 : Nat} {A1 A2 A3 : Option Addr} {c3 : Nat} (hu : n < 256) (hk : k = n % 80) (hr : V.heap[rb]? = some (.cells #[.slice A1 0 c1, .slice A2 k c2, .slice A3 k c3] 28 (0, 0)))
    (T : Array Value) (hT : HT T n rb) : To0 Try.prog (LPost W) Z V (G ((base 6).at ⟨T, []⟩ [.code Y6]) []) := by
  obtain ⟨hs, t0, t7, t8, t9⟩ := hT
  have d0 : ∀ τ, (re V τ 0).cell? ⟨rb, 0, none⟩ = some (.slice A1 0 c1) := fun τ => cell_of hr (by simp)
  have d1 : ∀ τ, (re V τ 0).cell? ⟨rb, 1, none⟩ = some (.slice A2 k c2) := fun τ => cell_of hr (by simp)
  have u1 : IntKind.i64.wrap (n : Int) = (n : Int) := by rw [IntKind.wrap_i64]; omega
  have u2 : (n : Int).tmod 80 = (k : Int) := by rw [Int.tmod_eq_emod_of_nonneg (by omega)]; omega
  have u3 : IntKind.i64.wrap (k : Int) = (k : Int) := by rw [IntKind.wrap_i64]; omega
  obtain ⟨v0, v1, v2, v3, v4, v5, v6, v7, v8, v9, v10, v11, v12, v13, v14, v15, v16, v17, v18, v19, v20, v21, v22, v23, v24, v25, v26, v27, v28, v29, v30, v31, v32, v33, v34, v35, v36, v37, v38, v39, v40, v41, v42, v43, v44, v45, v46, v47, v48, v49, v50, v51, v52, v53, v54, v55, v56, v57, v58, v59, v60, v61, v62, v63, v64, v65, v66, v67, v68, v69, v70, v71, v72, v73, v74, v75, v76, v77, v78, v79, v80, v81, v82, v83, v84, v85, v86, v87, v88, v89, v90, v91, v92, v93, v94, v95, v96, v97, v98, v99, v100, v101, v102, v103, v104, v105, v106, rfl⟩ := array107 T hs
  simp only [List.getElem?_toArray, List.getElem?_cons_zero, List.getElem?_cons_succ, Option.some.injEq] at t0 t7 t8 t9
  subst t0 t7 t8 t9
  clear hr hs hk hu
  refine (fun (h : ∀ X, X = Y6 → To0 Try.prog (LPost W) Z V (G ((base 6).at ⟨_, []⟩ [.code X]) [])) => h Y6 rfl) ?_
  intro X hX
  simp only [LA, Y6, B6, nva, nvb, nvk, nvl, Try.f6, Option.getD_some] at hX
  subst hX
  obtain ⟨K, eK⟩ : ∃ K : Goroutine → Prop, K = fun g => To0 Try.prog (LPost W) Z V g := ⟨_, rfl⟩
  have hK : Mu Try.prog (fun _ => True) K := by rw [eK]; exact mu_to0
  have hV : MuV Try.prog Lone V K := by rw [eK]; exact muv_to0 L.n
  have key : ∀ g, K g → (fun g => To0 Try.prog (LPost W) Z V g) g := fun g h => by rw [eK] at h; exact h
  have yek : ∀ g, (fun g => To0 Try.prog (LPost W) Z V g) g → K g := fun g h => by rw [eK]; exact h
  refine key _ ?_
  repeat (
    first
      | with_reducible refine mu_seq hK ?_
      | with_reducible refine mu_skip hK ?_
      | (with_reducible refine mu_region_end hK ?_; try subst hkk)
      | with_reducible refine mu_block hK ?_
      | with_reducible refine mu_inBlock hK ?_
      | with_reducible refine mu_ret hK ?_
      | with_reducible refine mu_end hK ?_
      | refine mu_exit hK rfl ?_
      | (with_reducible refine mu_regionH hK (fun kk hkk => ?_); simp only [List.size_toArray, List.length_cons, List.length_nil, Nat.reduceAdd, Nat.zero_add, List.range, List.range.loop])
      | (with_reducible refine mu_cond hK false ?_ ?_; (· first | (walk_nrm; done) | (simp [Act.eval]; done)); simp only [if_true, if_false, Bool.false_eq_true, ↓reduceIte])
      | (with_reducible refine mu_cond hK true ?_ ?_; (· first | (walk_nrm; done) | (simp [Act.eval]; done)); simp only [if_true, if_false, Bool.false_eq_true, ↓reduceIte])
      | (refine mu_unwanted hK rfl rfl ?_; walk_nrm)
      | (refine muv_val hV rfl (by first | exact .inl rfl | exact .inr rfl) rfl (by kernel_rfl) (fun J hJ => ?_); go_simp; with_reducible refine hJ _ ?_; clear hJ J; walk_nrm))
  refine mu_call hK rfl rfl (by decide) rfl Try.func27 (by kernel_rfl) rfl ?_
  have hnt27 : Try.f27.ntmps = 9 := rfl
  rw [hnt27]
  clear hnt27
  walk_nrm
  repeat (
    first
      | with_reducible refine mu_seq hK ?_
      | with_reducible refine mu_skip hK ?_
      | (with_reducible refine mu_region_end hK ?_; try subst hkk)
      | with_reducible refine mu_block hK ?_
      | with_reducible refine mu_inBlock hK ?_
      | with_reducible refine mu_ret hK ?_
      | with_reducible refine mu_end hK ?_
      | refine mu_exit hK rfl ?_
      | (with_reducible refine mu_regionH hK (fun kk hkk => ?_); simp only [List.size_toArray, List.length_cons, List.length_nil, Nat.reduceAdd, Nat.zero_add, List.range, List.range.loop])
      | (with_reducible refine mu_cond hK false ?_ ?_; (· first | (walk_nrm; done) | (simp [Act.eval]; done)); simp only [if_true, if_false, Bool.false_eq_true, ↓reduceIte])
      | (with_reducible refine mu_cond hK true ?_ ?_; (· first | (walk_nrm; done) | (simp [Act.eval]; done)); simp only [if_true, if_false, Bool.false_eq_true, ↓reduceIte])
      | (refine mu_unwanted hK rfl rfl ?_; walk_nrm)
      | (refine muv_val hV rfl (by first | exact .inl rfl | exact .inr rfl) rfl (by kernel_rfl) (fun J hJ => ?_); go_simp; with_reducible refine hJ _ ?_; clear hJ J; walk_nrm))
  refine mu_leave1 hK rfl rfl Try.func27 rfl ?_
  walk_nrm
  repeat (
    first
      | with_reducible refine mu_seq hK ?_
      | with_reducible refine mu_skip hK ?_
      | (with_reducible refine mu_region_end hK ?_; try subst hkk)
      | with_reducible refine mu_block hK ?_
      | with_reducible refine mu_inBlock hK ?_
      | with_reducible refine mu_ret hK ?_
      | with_reducible refine mu_end hK ?_
      | refine mu_exit hK rfl ?_
      | (with_reducible refine mu_regionH hK (fun kk hkk => ?_); simp only [List.size_toArray, List.length_cons, List.length_nil, Nat.reduceAdd, Nat.zero_add, List.range, List.range.loop])
      | (with_reducible refine mu_cond hK false ?_ ?_; (· first | (walk_nrm; done) | (simp [Act.eval]; done)); simp only [if_true, if_false, Bool.false_eq_true, ↓reduceIte])
      | (with_reducible refine mu_cond hK true ?_ ?_; (· first | (walk_nrm; done) | (simp [Act.eval]; done)); simp only [if_true, if_false, Bool.false_eq_true, ↓reduceIte])
      | (refine mu_unwanted hK rfl rfl ?_; walk_nrm)
      | (refine muv_val hV rfl (by first | exact .inl rfl | exact .inr rfl) rfl (by kernel_rfl) (fun J hJ => ?_); go_simp; with_reducible refine hJ _ ?_; clear hJ J; walk_nrm))
  refine mu_call hK rfl rfl (by decide) rfl Try.func18 (by kernel_rfl) rfl ?_
  rw [← enter_at (P := Try.prog) _ Try.func18 rfl]
  walk_nrm
  refine yek _ ?_
  clear hK hV key yek eK K
  refine live_go L.n L.z fun Zq Vq hnq hzq hoq kq => ?_
  have Lq := L.next hnq hzq hoq kq
  walk_nrm
  obtain ⟨K, eK⟩ : ∃ K : Goroutine → Prop, K = fun g => To0 Try.prog (LPost W) Zq Vq g := ⟨_, rfl⟩
  have hK : Mu Try.prog (fun _ => True) K := by rw [eK]; exact mu_to0
  have hV : MuV Try.prog Lone Vq K := by rw [eK]; exact muv_to0 Lq.n
  have key : ∀ g, K g → (fun g => To0 Try.prog (LPost W) Zq Vq g) g := fun g h => by rw [eK] at h; exact h
  have yek : ∀ g, (fun g => To0 Try.prog (LPost W) Zq Vq g) g → K g := fun g h => by rw [eK]; exact h
  refine key _ ?_
  repeat (
    first
      | with_reducible refine mu_seq hK ?_
      | with_reducible refine mu_skip hK ?_
      | (with_reducible refine mu_region_end hK ?_; try subst hkk)
      | with_reducible refine mu_block hK ?_
      | with_reducible refine mu_inBlock hK ?_
      | with_reducible refine mu_ret hK ?_
      | with_reducible refine mu_end hK ?_
      | refine mu_exit hK rfl ?_
      | (with_reducible refine mu_regionH hK (fun kk hkk => ?_); simp only [List.size_toArray, List.length_cons, List.length_nil, Nat.reduceAdd, Nat.zero_add, List.range, List.range.loop])
      | (with_reducible refine mu_cond hK false ?_ ?_; (· first | (walk_nrm; done) | (simp [Act.eval]; done)); simp only [if_true, if_false, Bool.false_eq_true, ↓reduceIte])
      | (with_reducible refine mu_cond hK true ?_ ?_; (· first | (walk_nrm; done) | (simp [Act.eval]; done)); simp only [if_true, if_false, Bool.false_eq_true, ↓reduceIte])
      | (refine mu_unwanted hK rfl rfl ?_; walk_nrm)
      | (refine muv_val hV rfl (by first | exact .inl rfl | exact .inr rfl) rfl (by kernel_rfl) (fun J hJ => ?_); go_simp; with_reducible refine hJ _ ?_; clear hJ J; walk_nrm))
  refine yek _ ?_
  clear hK hV key yek eK K
  exact law_last (by kernel_rfl) rfl rfl Try.func6 rfl rfl Lq.o Lq.k
set_option maxRecDepth 100000 in
set_option maxHeartbeats 4000000 in
theorem duty_args (L : LS W Z V) {n : Nat} {pv : Value} {ps : List Int} {rounds : Int} (hu : n < 256) (hp : Pks V (fun _ => False) pv ps) :
    To0 Try.prog (LPost W) Z V (G (Frame.enter Try.prog 6 #[.int .u8 (n : Int), pv, .int .i64 rounds] .normal) []) := by
  obtain ⟨pb, pc, hpv, hpr⟩ := hp.v
  subst hpv
  rw [enter_at (P := Try.prog) _ Try.func6 rfl]
  simp only [Try.f6]
  walk_nrm
  by_cases hA : 100 < ps.length
  · have q1 : decide ((100 : Int) < (ps.length : Int)) = true := decide_eq_true (by omega)
    obtain ⟨K, eK⟩ : ∃ K : Goroutine → Prop, K = fun g => To0 Try.prog (LPost W) Z V g := ⟨_, rfl⟩
    have hK : Mu Try.prog (fun _ => True) K := by rw [eK]; exact mu_to0
    have hV : MuV Try.prog Lone V K := by rw [eK]; exact muv_to0 L.n
    have key : ∀ g, K g → (fun g => To0 Try.prog (LPost W) Z V g) g := fun g h => by rw [eK] at h; exact h
    have yek : ∀ g, (fun g => To0 Try.prog (LPost W) Z V g) g → K g := fun g h => by rw [eK]; exact h
    refine key _ ?_
    repeat (
      first
        | with_reducible refine mu_seq hK ?_
        | with_reducible refine mu_skip hK ?_
        | (with_reducible refine mu_region_end hK ?_; try subst hkk)
        | with_reducible refine mu_block hK ?_
        | with_reducible refine mu_inBlock hK ?_
        | with_reducible refine mu_ret hK ?_
        | with_reducible refine mu_end hK ?_
        | refine mu_exit hK rfl ?_
        | (with_reducible refine mu_regionH hK (fun kk hkk => ?_); simp only [List.size_toArray, List.length_cons, List.length_nil, Nat.reduceAdd, Nat.zero_add, List.range, List.range.loop])
        | (with_reducible refine mu_cond hK false ?_ ?_; (· first | (walk_nrm; done) | (simp [Act.eval]; done)); simp only [if_true, if_false, Bool.false_eq_true, ↓reduceIte])
        | (with_reducible refine mu_cond hK true ?_ ?_; (· first | (walk_nrm; done) | (simp [Act.eval]; done)); simp only [if_true, if_false, Bool.false_eq_true, ↓reduceIte])
        | (refine mu_unwanted hK rfl rfl ?_; walk_nrm)
        | (refine muv_val hV rfl (by first | exact .inl rfl | exact .inr rfl) rfl (by kernel_rfl) (fun J hJ => ?_); go_simp; with_reducible refine hJ _ ?_; clear hJ J; walk_nrm))
    refine mu_call hK rfl rfl (by decide) rfl Try.func18 (by kernel_rfl) rfl ?_
    rw [← enter_at (P := Try.prog) _ Try.func18 rfl]
    walk_nrm
    refine yek _ ?_
    clear hK hV key yek eK K
    refine live_go L.n L.z fun Zq Vq hnq hzq hoq kq => ?_
    have Lq := L.next hnq hzq hoq kq
    walk_nrm
    obtain ⟨K, eK⟩ : ∃ K : Goroutine → Prop, K = fun g => To0 Try.prog (LPost W) Zq Vq g := ⟨_, rfl⟩
    have hK : Mu Try.prog (fun _ => True) K := by rw [eK]; exact mu_to0
    have hV : MuV Try.prog Lone Vq K := by rw [eK]; exact muv_to0 Lq.n
    have key : ∀ g, K g → (fun g => To0 Try.prog (LPost W) Zq Vq g) g := fun g h => by rw [eK] at h; exact h
    have yek : ∀ g, (fun g => To0 Try.prog (LPost W) Zq Vq g) g → K g := fun g h => by rw [eK]; exact h
    refine key _ ?_
    repeat (
      first
        | with_reducible refine mu_seq hK ?_
        | with_reducible refine mu_skip hK ?_
        | (with_reducible refine mu_region_end hK ?_; try subst hkk)
        | with_reducible refine mu_block hK ?_
        | with_reducible refine mu_inBlock hK ?_
        | with_reducible refine mu_ret hK ?_
        | with_reducible refine mu_end hK ?_
        | refine mu_exit hK rfl ?_
        | (with_reducible refine mu_regionH hK (fun kk hkk => ?_); simp only [List.size_toArray, List.length_cons, List.length_nil, Nat.reduceAdd, Nat.zero_add, List.range, List.range.loop])
        | (with_reducible refine mu_cond hK false ?_ ?_; (· first | (walk_nrm; done) | (simp [Act.eval]; done)); simp only [if_true, if_false, Bool.false_eq_true, ↓reduceIte])
        | (with_reducible refine mu_cond hK true ?_ ?_; (· first | (walk_nrm; done) | (simp [Act.eval]; done)); simp only [if_true, if_false, Bool.false_eq_true, ↓reduceIte])
        | (refine mu_unwanted hK rfl rfl ?_; walk_nrm)
        | (refine muv_val hV rfl (by first | exact .inl rfl | exact .inr rfl) rfl (by kernel_rfl) (fun J hJ => ?_); go_simp; with_reducible refine hJ _ ?_; clear hJ J; walk_nrm))
    refine yek _ ?_
    clear hK hV key yek eK K
    exact law_last (by kernel_rfl) rfl rfl Try.func6 rfl rfl Lq.o Lq.k
  have q1 : decide ((100 : Int) < (ps.length : Int)) = false := decide_eq_false (by omega)
  by_cases hB : 524288 < rounds
  · have q2 : decide ((524288 : Int) < rounds) = true := decide_eq_true (by omega)
    obtain ⟨K, eK⟩ : ∃ K : Goroutine → Prop, K = fun g => To0 Try.prog (LPost W) Z V g := ⟨_, rfl⟩
    have hK : Mu Try.prog (fun _ => True) K := by rw [eK]; exact mu_to0
    have hV : MuV Try.prog Lone V K := by rw [eK]; exact muv_to0 L.n
    have key : ∀ g, K g → (fun g => To0 Try.prog (LPost W) Z V g) g := fun g h => by rw [eK] at h; exact h
    have yek : ∀ g, (fun g => To0 Try.prog (LPost W) Z V g) g → K g := fun g h => by rw [eK]; exact h
    refine key _ ?_
    repeat (
      first
        | with_reducible refine mu_seq hK ?_
        | with_reducible refine mu_skip hK ?_
        | (with_reducible refine mu_region_end hK ?_; try subst hkk)
        | with_reducible refine mu_block hK ?_
        | with_reducible refine mu_inBlock hK ?_
        | with_reducible refine mu_ret hK ?_
        | with_reducible refine mu_end hK ?_
        | refine mu_exit hK rfl ?_
        | (with_reducible refine mu_regionH hK (fun kk hkk => ?_); simp only [List.size_toArray, List.length_cons, List.length_nil, Nat.reduceAdd, Nat.zero_add, List.range, List.range.loop])
        | (with_reducible refine mu_cond hK false ?_ ?_; (· first | (walk_nrm; done) | (simp [Act.eval]; done)); simp only [if_true, if_false, Bool.false_eq_true, ↓reduceIte])
        | (with_reducible refine mu_cond hK true ?_ ?_; (· first | (walk_nrm; done) | (simp [Act.eval]; done)); simp only [if_true, if_false, Bool.false_eq_true, ↓reduceIte])
        | (refine mu_unwanted hK rfl rfl ?_; walk_nrm)
        | (refine muv_val hV rfl (by first | exact .inl rfl | exact .inr rfl) rfl (by kernel_rfl) (fun J hJ => ?_); go_simp; with_reducible refine hJ _ ?_; clear hJ J; walk_nrm))
    refine mu_call hK rfl rfl (by decide) rfl Try.func18 (by kernel_rfl) rfl ?_
    rw [← enter_at (P := Try.prog) _ Try.func18 rfl]
    walk_nrm
    refine yek _ ?_
    clear hK hV key yek eK K
    refine live_go L.n L.z fun Zq Vq hnq hzq hoq kq => ?_
    have Lq := L.next hnq hzq hoq kq
    walk_nrm
    obtain ⟨K, eK⟩ : ∃ K : Goroutine → Prop, K = fun g => To0 Try.prog (LPost W) Zq Vq g := ⟨_, rfl⟩
    have hK : Mu Try.prog (fun _ => True) K := by rw [eK]; exact mu_to0
    have hV : MuV Try.prog Lone Vq K := by rw [eK]; exact muv_to0 Lq.n
    have key : ∀ g, K g → (fun g => To0 Try.prog (LPost W) Zq Vq g) g := fun g h => by rw [eK] at h; exact h
    have yek : ∀ g, (fun g => To0 Try.prog (LPost W) Zq Vq g) g → K g := fun g h => by rw [eK]; exact h
    refine key _ ?_
    repeat (
      first
        | with_reducible refine mu_seq hK ?_
        | with_reducible refine mu_skip hK ?_
        | (with_reducible refine mu_region_end hK ?_; try subst hkk)
        | with_reducible refine mu_block hK ?_
        | with_reducible refine mu_inBlock hK ?_
        | with_reducible refine mu_ret hK ?_
        | with_reducible refine mu_end hK ?_
        | refine mu_exit hK rfl ?_
        | (with_reducible refine mu_regionH hK (fun kk hkk => ?_); simp only [List.size_toArray, List.length_cons, List.length_nil, Nat.reduceAdd, Nat.zero_add, List.range, List.range.loop])
        | (with_reducible refine mu_cond hK false ?_ ?_; (· first | (walk_nrm; done) | (simp [Act.eval]; done)); simp only [if_true, if_false, Bool.false_eq_true, ↓reduceIte])
        | (with_reducible refine mu_cond hK true ?_ ?_; (· first | (walk_nrm; done) | (simp [Act.eval]; done)); simp only [if_true, if_false, Bool.false_eq_true, ↓reduceIte])
        | (refine mu_unwanted hK rfl rfl ?_; walk_nrm)
        | (refine muv_val hV rfl (by first | exact .inl rfl | exact .inr rfl) rfl (by kernel_rfl) (fun J hJ => ?_); go_simp; with_reducible refine hJ _ ?_; clear hJ J; walk_nrm))
    refine yek _ ?_
    clear hK hV key yek eK K
    exact law_last (by kernel_rfl) rfl rfl Try.func6 rfl rfl Lq.o Lq.k
  have q2 : decide ((524288 : Int) < rounds) = false := decide_eq_false (by omega)
  obtain ⟨k, hk⟩ : ∃ k, n % 80 = k := ⟨_, rfl⟩
  have hk80 : k < 80 := by omega
  have u1 : IntKind.i64.wrap (n : Int) = (n : Int) := by rw [IntKind.wrap_i64]; omega
  have u2 : (n : Int).tmod 80 = (k : Int) := by rw [Int.tmod_eq_emod_of_nonneg (by omega)]; omega
  have u4 : (n : Int) % 80 = (k : Int) := by omega
  have u3 : IntKind.i64.wrap (k : Int) = (k : Int) := by rw [IntKind.wrap_i64]; omega
  have mk : ∀ w, (Instr.makeSlice 49 (.int .i64 (k : Int)) (.int .i64 (k : Int))).run Try.prog w = .ok (.slice (some ⟨w.heap.size, 0, none⟩) k k) (w.alloc (.cells (madeCells #[.nilFunc] k) 70)) := fun w => mk70 (by omega) w
  obtain ⟨K, eK⟩ : ∃ K : Goroutine → Prop, K = fun g => To0 Try.prog (LPost W) Z V g := ⟨_, rfl⟩
  have hK : Mu Try.prog (fun _ => True) K := by rw [eK]; exact mu_to0
  have hV : MuV Try.prog Lone V K := by rw [eK]; exact muv_to0 L.n
  have key : ∀ g, K g → (fun g => To0 Try.prog (LPost W) Z V g) g := fun g h => by rw [eK] at h; exact h
  have yek : ∀ g, (fun g => To0 Try.prog (LPost W) Z V g) g → K g := fun g h => by rw [eK]; exact h
  refine key _ ?_
  repeat (
    first
      | with_reducible refine mu_seq hK ?_
      | with_reducible refine mu_skip hK ?_
      | (with_reducible refine mu_region_end hK ?_; try subst hkk)
      | with_reducible refine mu_block hK ?_
      | with_reducible refine mu_inBlock hK ?_
      | with_reducible refine mu_ret hK ?_
      | with_reducible refine mu_end hK ?_
      | refine mu_exit hK rfl ?_
      | (with_reducible refine mu_regionH hK (fun kk hkk => ?_); simp only [List.size_toArray, List.length_cons, List.length_nil, Nat.reduceAdd, Nat.zero_add, List.range, List.range.loop])
      | (with_reducible refine mu_cond hK false ?_ ?_; (· first | (walk_nrm; done) | (simp [Act.eval]; done)); simp only [if_true, if_false, Bool.false_eq_true, ↓reduceIte])
      | (with_reducible refine mu_cond hK true ?_ ?_; (· first | (walk_nrm; done) | (simp [Act.eval]; done)); simp only [if_true, if_false, Bool.false_eq_true, ↓reduceIte])
      | (refine mu_unwanted hK rfl rfl ?_; walk_nrm)
      | (refine muv_val hV rfl (by first | exact .inl rfl | exact .inr rfl) rfl (by kernel_rfl) (fun J hJ => ?_); go_simp; with_reducible refine hJ _ ?_; clear hJ J; walk_nrm))
  refine yek _ ?_
  clear hK hV key yek eK K
  have hn1 : norm (V.alloc (.cells (madeCells #[.nilFunc] k) 70)) = (V.alloc (.cells (madeCells #[.nilFunc] k) 70)) := norm_al L.n _
  refine mua_put (L := Lone) (v := .slice (some ⟨V.heap.size, 0, none⟩) k k) (mua_to0 hn1) (K := fun g => To0 Try.prog (LPost W) Z V g) (K' := fun g => To0 Try.prog (LPost W) Z (V.alloc (.cells (madeCells #[.nilFunc] k) 70)) g) rfl (.inl rfl) rfl (by kernel_rfl) (fun τ => ?_) ?_
  · go_simp
    first | exact ⟨by first | rfl | assumption | (simp only [re]; omega), rfl⟩ | rfl | (simp; done)
  have sV1 : (V.alloc (.cells (madeCells #[.nilFunc] k) 70)).heap.size = V.heap.size + 1 := al_size _ _
  have kV1 : Kp V (V.alloc (.cells (madeCells #[.nilFunc] k) 70)) := kp_alloc _ _
  have rV1 : (V.alloc (.cells (madeCells #[.nilFunc] k) 70)).heap[V.heap.size]? = some (.cells (madeCells #[.nilFunc] k) 70) := by rw [al_get, if_pos rfl]
  generalize (V.alloc (.cells (madeCells #[.nilFunc] k) 70)) = V1 at *
  walk_nrm
  have L1 := L.same hn1 kV1
  obtain ⟨K, eK⟩ : ∃ K : Goroutine → Prop, K = fun g => To0 Try.prog (LPost W) Z V1 g := ⟨_, rfl⟩
  have hK : Mu Try.prog (fun _ => True) K := by rw [eK]; exact mu_to0
  have hV : MuV Try.prog Lone V1 K := by rw [eK]; exact muv_to0 hn1
  have key : ∀ g, K g → (fun g => To0 Try.prog (LPost W) Z V1 g) g := fun g h => by rw [eK] at h; exact h
  have yek : ∀ g, (fun g => To0 Try.prog (LPost W) Z V1 g) g → K g := fun g h => by rw [eK]; exact h
  refine key _ ?_
  repeat (
    first
      | with_reducible refine mu_seq hK ?_
      | with_reducible refine mu_skip hK ?_
      | (with_reducible refine mu_region_end hK ?_; try subst hkk)
      | with_reducible refine mu_block hK ?_
      | with_reducible refine mu_inBlock hK ?_
      | with_reducible refine mu_ret hK ?_
      | with_reducible refine mu_end hK ?_
      | refine mu_exit hK rfl ?_
      | (with_reducible refine mu_regionH hK (fun kk hkk => ?_); simp only [List.size_toArray, List.length_cons, List.length_nil, Nat.reduceAdd, Nat.zero_add, List.range, List.range.loop])
      | (with_reducible refine mu_cond hK false ?_ ?_; (· first | (walk_nrm; done) | (simp [Act.eval]; done)); simp only [if_true, if_false, Bool.false_eq_true, ↓reduceIte])
      | (with_reducible refine mu_cond hK true ?_ ?_; (· first | (walk_nrm; done) | (simp [Act.eval]; done)); simp only [if_true, if_false, Bool.false_eq_true, ↓reduceIte])
      | (refine mu_unwanted hK rfl rfl ?_; walk_nrm)
      | (refine muv_val hV rfl (by first | exact .inl rfl | exact .inr rfl) rfl (by kernel_rfl) (fun J hJ => ?_); go_simp; with_reducible refine hJ _ ?_; clear hJ J; walk_nrm))
  refine mu_call hK rfl rfl (by decide) rfl Try.func23 (by kernel_rfl) rfl ?_
  rw [← enter_at (P := Try.prog) _ Try.func23 rfl]
  walk_nrm
  refine yek _ ?_
  clear hK hV key yek eK K
  by_cases hC : 64 < k
  · refine run_big hn1 hC fun V2 hn2 k2 => ?_
    have q3 : decide ((64 : Int) < (k : Int)) = true := decide_eq_true (by omega)
    have L2 := L1.same hn2 k2
    walk_nrm
    obtain ⟨K, eK⟩ : ∃ K : Goroutine → Prop, K = fun g => To0 Try.prog (LPost W) Z V2 g := ⟨_, rfl⟩
    have hK : Mu Try.prog (fun _ => True) K := by rw [eK]; exact mu_to0
    have hV : MuV Try.prog Lone V2 K := by rw [eK]; exact muv_to0 hn2
    have key : ∀ g, K g → (fun g => To0 Try.prog (LPost W) Z V2 g) g := fun g h => by rw [eK] at h; exact h
    have yek : ∀ g, (fun g => To0 Try.prog (LPost W) Z V2 g) g → K g := fun g h => by rw [eK]; exact h
    refine key _ ?_
    repeat (
      first
        | with_reducible refine mu_seq hK ?_
        | with_reducible refine mu_skip hK ?_
        | (with_reducible refine mu_region_end hK ?_; try subst hkk)
        | with_reducible refine mu_block hK ?_
        | with_reducible refine mu_inBlock hK ?_
        | with_reducible refine mu_ret hK ?_
        | with_reducible refine mu_end hK ?_
        | refine mu_exit hK rfl ?_
        | (with_reducible refine mu_regionH hK (fun kk hkk => ?_); simp only [List.size_toArray, List.length_cons, List.length_nil, Nat.reduceAdd, Nat.zero_add, List.range, List.range.loop])
        | (with_reducible refine mu_cond hK false ?_ ?_; (· first | (walk_nrm; done) | (simp [Act.eval]; done)); simp only [if_true, if_false, Bool.false_eq_true, ↓reduceIte])
        | (with_reducible refine mu_cond hK true ?_ ?_; (· first | (walk_nrm; done) | (simp [Act.eval]; done)); simp only [if_true, if_false, Bool.false_eq_true, ↓reduceIte])
        | (refine mu_unwanted hK rfl rfl ?_; walk_nrm)
        | (refine muv_val hV rfl (by first | exact .inl rfl | exact .inr rfl) rfl (by kernel_rfl) (fun J hJ => ?_); go_simp; with_reducible refine hJ _ ?_; clear hJ J; walk_nrm))
    refine yek _ ?_
    clear hK hV key yek eK K
    have hnV3 : norm (V2.alloc (.cells #[.slice none 0 0, .slice none 0 0, .slice none 0 0] 28)) = (V2.alloc (.cells #[.slice none 0 0, .slice none 0 0, .slice none 0 0] 28)) := norm_al hn2 _
    refine mua_put (L := Lone) (v := .pointer (some ⟨V2.heap.size, 0, none⟩)) (mua_to0 hnV3) (K := fun g => To0 Try.prog (LPost W) Z V2 g) (K' := fun g => To0 Try.prog (LPost W) Z (V2.alloc (.cells #[.slice none 0 0, .slice none 0 0, .slice none 0 0] 28)) g) rfl (.inl rfl) rfl (by kernel_rfl) (fun τ => ?_) ?_
    · go_simp
      first | exact ⟨by first | rfl | assumption | (simp only [re]; omega), rfl⟩ | rfl | (simp; done)
    have sV3 : (V2.alloc (.cells #[.slice none 0 0, .slice none 0 0, .slice none 0 0] 28)).heap.size = V2.heap.size + 1 := al_size _ _
    have kV3 : Kp V2 (V2.alloc (.cells #[.slice none 0 0, .slice none 0 0, .slice none 0 0] 28)) := kp_alloc _ _
    have rV3 : (V2.alloc (.cells #[.slice none 0 0, .slice none 0 0, .slice none 0 0] 28)).heap[V2.heap.size]? = some (.cells #[.slice none 0 0, .slice none 0 0, .slice none 0 0] 28) := by rw [al_get, if_pos rfl]
    generalize (V2.alloc (.cells #[.slice none 0 0, .slice none 0 0, .slice none 0 0] 28)) = V3 at *
    walk_nrm
    have f0 : ∀ τ, (re V3 τ 0).cell? ⟨V2.heap.size, 0, none⟩ = some (.slice none 0 0) := fun τ => cell_of rV3 (by simp)
    have z0 : ∀ τ, (re V3 τ 0).frozen? ⟨V2.heap.size, 0, none⟩ = false := fun τ => by simp [World.frozen?, re, rV3]
    have f1 : ∀ τ, (re V3 τ 0).cell? ⟨V2.heap.size, 1, none⟩ = some (.slice none 0 0) := fun τ => cell_of rV3 (by simp)
    have z1 : ∀ τ, (re V3 τ 0).frozen? ⟨V2.heap.size, 1, none⟩ = false := fun τ => by simp [World.frozen?, re, rV3]
    have f2 : ∀ τ, (re V3 τ 0).cell? ⟨V2.heap.size, 2, none⟩ = some (.slice none 0 0) := fun τ => cell_of rV3 (by simp)
    have z2 : ∀ τ, (re V3 τ 0).frozen? ⟨V2.heap.size, 2, none⟩ = false := fun τ => by simp [World.frozen?, re, rV3]
    have hnV4 : norm (set3 V3 V2.heap.size (.slice none 0 0) (.slice none 0 0) (.slice none 0 0)) = (set3 V3 V2.heap.size (.slice none 0 0) (.slice none 0 0) (.slice none 0 0)) := norm_set (norm_set (norm_set hnV3 _ _) _ _) _ _
    have kV4 : Kp V2 (set3 V3 V2.heap.size (.slice none 0 0) (.slice none 0 0) (.slice none 0 0)) := kp_set3 kV3 (Nat.le_refl _)
    have rV4 : (set3 V3 V2.heap.size (.slice none 0 0) (.slice none 0 0) (.slice none 0 0)).heap[V2.heap.size]? = some (.cells #[(.slice none 0 0), (.slice none 0 0), (.slice none 0 0)] 28 (0, 0)) := by
      unfold set3
      rw [setCell_heap, if_pos rfl, setCell_heap, if_pos rfl, setCell_heap, if_pos rfl, rV3]
      simp
    refine mus_put (L := Lone) (mus_to0 hnV4) (K := fun g => To0 Try.prog (LPost W) Z V3 g) (K' := fun g => To0 Try.prog (LPost W) Z (set3 V3 V2.heap.size (.slice none 0 0) (.slice none 0 0) (.slice none 0 0)) g) rfl (.inl rfl) rfl (by kernel_rfl) (fun τ => ?_) ?_
    · go_simp
      rfl
    clear f0 f1 f2 z0 z1 z2
    generalize (set3 V3 V2.heap.size (.slice none 0 0) (.slice none 0 0) (.slice none 0 0)) = V4 at *
    walk_nrm
    have L4 := L2.same hnV4 kV4
    have d1 : ∀ τ, (re V4 τ 0).cell? ⟨V2.heap.size, 1, none⟩ = some (.slice none 0 0) := fun τ => cell_of rV4 (by simp)
    obtain ⟨K, eK⟩ : ∃ K : Goroutine → Prop, K = fun g => To0 Try.prog (LPost W) Z V4 g := ⟨_, rfl⟩
    have hK : Mu Try.prog (fun _ => True) K := by rw [eK]; exact mu_to0
    have hV : MuV Try.prog Lone V4 K := by rw [eK]; exact muv_to0 hnV4
    have key : ∀ g, K g → (fun g => To0 Try.prog (LPost W) Z V4 g) g := fun g h => by rw [eK] at h; exact h
    have yek : ∀ g, (fun g => To0 Try.prog (LPost W) Z V4 g) g → K g := fun g h => by rw [eK]; exact h
    refine key _ ?_
    repeat (
      first
        | with_reducible refine mu_seq hK ?_
        | with_reducible refine mu_skip hK ?_
        | (with_reducible refine mu_region_end hK ?_; try subst hkk)
        | with_reducible refine mu_block hK ?_
        | with_reducible refine mu_inBlock hK ?_
        | with_reducible refine mu_ret hK ?_
        | with_reducible refine mu_end hK ?_
        | refine mu_exit hK rfl ?_
        | (with_reducible refine mu_regionH hK (fun kk hkk => ?_); simp only [List.size_toArray, List.length_cons, List.length_nil, Nat.reduceAdd, Nat.zero_add, List.range, List.range.loop])
        | (with_reducible refine mu_cond hK false ?_ ?_; (· first | (walk_nrm; done) | (simp [Act.eval]; done)); simp only [if_true, if_false, Bool.false_eq_true, ↓reduceIte])
        | (with_reducible refine mu_cond hK true ?_ ?_; (· first | (walk_nrm; done) | (simp [Act.eval]; done)); simp only [if_true, if_false, Bool.false_eq_true, ↓reduceIte])
        | (refine mu_unwanted hK rfl rfl ?_; walk_nrm)
        | (refine muv_val hV rfl (by first | exact .inl rfl | exact .inr rfl) rfl (by kernel_rfl) (fun J hJ => ?_); go_simp; with_reducible refine hJ _ ?_; clear hJ J; walk_nrm))
    refine mu_call hK rfl rfl (by decide) rfl Try.func24 (by kernel_rfl) rfl ?_
    have hnt24 : Try.f24.ntmps = 6 := rfl
    rw [hnt24]
    clear hnt24
    walk_nrm
    repeat (
      first
        | with_reducible refine mu_seq hK ?_
        | with_reducible refine mu_skip hK ?_
        | (with_reducible refine mu_region_end hK ?_; try subst hkk)
        | with_reducible refine mu_block hK ?_
        | with_reducible refine mu_inBlock hK ?_
        | with_reducible refine mu_ret hK ?_
        | with_reducible refine mu_end hK ?_
        | refine mu_exit hK rfl ?_
        | (with_reducible refine mu_regionH hK (fun kk hkk => ?_); simp only [List.size_toArray, List.length_cons, List.length_nil, Nat.reduceAdd, Nat.zero_add, List.range, List.range.loop])
        | (with_reducible refine mu_cond hK false ?_ ?_; (· first | (walk_nrm; done) | (simp [Act.eval]; done)); simp only [if_true, if_false, Bool.false_eq_true, ↓reduceIte])
        | (with_reducible refine mu_cond hK true ?_ ?_; (· first | (walk_nrm; done) | (simp [Act.eval]; done)); simp only [if_true, if_false, Bool.false_eq_true, ↓reduceIte])
        | (refine mu_unwanted hK rfl rfl ?_; walk_nrm)
        | (refine muv_val hV rfl (by first | exact .inl rfl | exact .inr rfl) rfl (by kernel_rfl) (fun J hJ => ?_); go_simp; with_reducible refine hJ _ ?_; clear hJ J; walk_nrm))
    refine mu_leave0 hK rfl rfl Try.func24 rfl ?_
    walk_nrm
    repeat (
      first
        | with_reducible refine mu_seq hK ?_
        | with_reducible refine mu_skip hK ?_
        | (with_reducible refine mu_region_end hK ?_; try subst hkk)
        | with_reducible refine mu_block hK ?_
        | with_reducible refine mu_inBlock hK ?_
        | with_reducible refine mu_ret hK ?_
        | with_reducible refine mu_end hK ?_
        | refine mu_exit hK rfl ?_
        | (with_reducible refine mu_regionH hK (fun kk hkk => ?_); simp only [List.size_toArray, List.length_cons, List.length_nil, Nat.reduceAdd, Nat.zero_add, List.range, List.range.loop])
        | (with_reducible refine mu_cond hK false ?_ ?_; (· first | (walk_nrm; done) | (simp [Act.eval]; done)); simp only [if_true, if_false, Bool.false_eq_true, ↓reduceIte])
        | (with_reducible refine mu_cond hK true ?_ ?_; (· first | (walk_nrm; done) | (simp [Act.eval]; done)); simp only [if_true, if_false, Bool.false_eq_true, ↓reduceIte])
        | (refine mu_unwanted hK rfl rfl ?_; walk_nrm)
        | (refine muv_val hV rfl (by first | exact .inl rfl | exact .inr rfl) rfl (by kernel_rfl) (fun J hJ => ?_); go_simp; with_reducible refine hJ _ ?_; clear hJ J; walk_nrm))
    refine mu_call hK rfl rfl (by decide) rfl Try.func25 (by kernel_rfl) rfl ?_
    have hnt25 : Try.f25.ntmps = 17 := rfl
    rw [hnt25]
    clear hnt25
    walk_nrm
    repeat (
      first
        | with_reducible refine mu_seq hK ?_
        | with_reducible refine mu_skip hK ?_
        | (with_reducible refine mu_region_end hK ?_; try subst hkk)
        | with_reducible refine mu_block hK ?_
        | with_reducible refine mu_inBlock hK ?_
        | with_reducible refine mu_ret hK ?_
        | with_reducible refine mu_end hK ?_
        | refine mu_exit hK rfl ?_
        | (with_reducible refine mu_regionH hK (fun kk hkk => ?_); simp only [List.size_toArray, List.length_cons, List.length_nil, Nat.reduceAdd, Nat.zero_add, List.range, List.range.loop])
        | (with_reducible refine mu_cond hK false ?_ ?_; (· first | (walk_nrm; done) | (simp [Act.eval]; done)); simp only [if_true, if_false, Bool.false_eq_true, ↓reduceIte])
        | (with_reducible refine mu_cond hK true ?_ ?_; (· first | (walk_nrm; done) | (simp [Act.eval]; done)); simp only [if_true, if_false, Bool.false_eq_true, ↓reduceIte])
        | (refine mu_unwanted hK rfl rfl ?_; walk_nrm)
        | (refine muv_val hV rfl (by first | exact .inl rfl | exact .inr rfl) rfl (by kernel_rfl) (fun J hJ => ?_); go_simp; with_reducible refine hJ _ ?_; clear hJ J; walk_nrm))
    refine mu_leave0 hK rfl rfl Try.func25 rfl ?_
    walk_nrm
    repeat (
      first
        | with_reducible refine mu_seq hK ?_
        | with_reducible refine mu_skip hK ?_
        | (with_reducible refine mu_region_end hK ?_; try subst hkk)
        | with_reducible refine mu_block hK ?_
        | with_reducible refine mu_inBlock hK ?_
        | with_reducible refine mu_ret hK ?_
        | with_reducible refine mu_end hK ?_
        | refine mu_exit hK rfl ?_
        | (with_reducible refine mu_regionH hK (fun kk hkk => ?_); simp only [List.size_toArray, List.length_cons, List.length_nil, Nat.reduceAdd, Nat.zero_add, List.range, List.range.loop])
        | (with_reducible refine mu_cond hK false ?_ ?_; (· first | (walk_nrm; done) | (simp [Act.eval]; done)); simp only [if_true, if_false, Bool.false_eq_true, ↓reduceIte])
        | (with_reducible refine mu_cond hK true ?_ ?_; (· first | (walk_nrm; done) | (simp [Act.eval]; done)); simp only [if_true, if_false, Bool.false_eq_true, ↓reduceIte])
        | (refine mu_unwanted hK rfl rfl ?_; walk_nrm)
        | (refine muv_val hV rfl (by first | exact .inl rfl | exact .inr rfl) rfl (by kernel_rfl) (fun J hJ => ?_); go_simp; with_reducible refine hJ _ ?_; clear hJ J; walk_nrm))
    refine mu_call hK rfl rfl (by decide) rfl Try.func26 (by kernel_rfl) rfl ?_
    have hnt26 : Try.f26.ntmps = 50 := rfl
    rw [hnt26]
    clear hnt26
    walk_nrm
    repeat (
      first
        | with_reducible refine mu_seq hK ?_
        | with_reducible refine mu_skip hK ?_
        | (with_reducible refine mu_region_end hK ?_; try subst hkk)
        | with_reducible refine mu_block hK ?_
        | with_reducible refine mu_inBlock hK ?_
        | with_reducible refine mu_ret hK ?_
        | with_reducible refine mu_end hK ?_
        | refine mu_exit hK rfl ?_
        | (with_reducible refine mu_regionH hK (fun kk hkk => ?_); simp only [List.size_toArray, List.length_cons, List.length_nil, Nat.reduceAdd, Nat.zero_add, List.range, List.range.loop])
        | (with_reducible refine mu_cond hK false ?_ ?_; (· first | (walk_nrm; done) | (simp [Act.eval]; done)); simp only [if_true, if_false, Bool.false_eq_true, ↓reduceIte])
        | (with_reducible refine mu_cond hK true ?_ ?_; (· first | (walk_nrm; done) | (simp [Act.eval]; done)); simp only [if_true, if_false, Bool.false_eq_true, ↓reduceIte])
        | (refine mu_unwanted hK rfl rfl ?_; walk_nrm)
        | (refine muv_val hV rfl (by first | exact .inl rfl | exact .inr rfl) rfl (by kernel_rfl) (fun J hJ => ?_); go_simp; with_reducible refine hJ _ ?_; clear hJ J; walk_nrm))
    refine mu_leave0 hK rfl rfl Try.func26 rfl ?_
    walk_nrm
    repeat (
      first
        | with_reducible refine mu_seq hK ?_
        | with_reducible refine mu_skip hK ?_
        | (with_reducible refine mu_region_end hK ?_; try subst hkk)
        | with_reducible refine mu_block hK ?_
        | with_reducible refine mu_inBlock hK ?_
        | with_reducible refine mu_ret hK ?_
        | with_reducible refine mu_end hK ?_
        | refine mu_exit hK rfl ?_
        | (with_reducible refine mu_regionH hK (fun kk hkk => ?_); simp only [List.size_toArray, List.length_cons, List.length_nil, Nat.reduceAdd, Nat.zero_add, List.range, List.range.loop])
        | (with_reducible refine mu_cond hK false ?_ ?_; (· first | (walk_nrm; done) | (simp [Act.eval]; done)); simp only [if_true, if_false, Bool.false_eq_true, ↓reduceIte])
        | (with_reducible refine mu_cond hK true ?_ ?_; (· first | (walk_nrm; done) | (simp [Act.eval]; done)); simp only [if_true, if_false, Bool.false_eq_true, ↓reduceIte])
        | (refine mu_unwanted hK rfl rfl ?_; walk_nrm)
        | (refine muv_val hV rfl (by first | exact .inl rfl | exact .inr rfl) rfl (by kernel_rfl) (fun J hJ => ?_); go_simp; with_reducible refine hJ _ ?_; clear hJ J; walk_nrm))
    refine mu_call hK rfl rfl (by decide) rfl Try.func27 (by kernel_rfl) rfl ?_
    have hnt27 : Try.f27.ntmps = 9 := rfl
    rw [hnt27]
    clear hnt27
    walk_nrm
    repeat (
      first
        | with_reducible refine mu_seq hK ?_
        | with_reducible refine mu_skip hK ?_
        | (with_reducible refine mu_region_end hK ?_; try subst hkk)
        | with_reducible refine mu_block hK ?_
        | with_reducible refine mu_inBlock hK ?_
        | with_reducible refine mu_ret hK ?_
        | with_reducible refine mu_end hK ?_
        | refine mu_exit hK rfl ?_
        | (with_reducible refine mu_regionH hK (fun kk hkk => ?_); simp only [List.size_toArray, List.length_cons, List.length_nil, Nat.reduceAdd, Nat.zero_add, List.range, List.range.loop])
        | (with_reducible refine mu_cond hK false ?_ ?_; (· first | (walk_nrm; done) | (simp [Act.eval]; done)); simp only [if_true, if_false, Bool.false_eq_true, ↓reduceIte])
        | (with_reducible refine mu_cond hK true ?_ ?_; (· first | (walk_nrm; done) | (simp [Act.eval]; done)); simp only [if_true, if_false, Bool.false_eq_true, ↓reduceIte])
        | (refine mu_unwanted hK rfl rfl ?_; walk_nrm)
        | (refine muv_val hV rfl (by first | exact .inl rfl | exact .inr rfl) rfl (by kernel_rfl) (fun J hJ => ?_); go_simp; with_reducible refine hJ _ ?_; clear hJ J; walk_nrm))
    refine mu_leave1 hK rfl rfl Try.func27 rfl ?_
    walk_nrm
    repeat (
      first
        | with_reducible refine mu_seq hK ?_
        | with_reducible refine mu_skip hK ?_
        | (with_reducible refine mu_region_end hK ?_; try subst hkk)
        | with_reducible refine mu_block hK ?_
        | with_reducible refine mu_inBlock hK ?_
        | with_reducible refine mu_ret hK ?_
        | with_reducible refine mu_end hK ?_
        | refine mu_exit hK rfl ?_
        | (with_reducible refine mu_regionH hK (fun kk hkk => ?_); simp only [List.size_toArray, List.length_cons, List.length_nil, Nat.reduceAdd, Nat.zero_add, List.range, List.range.loop])
        | (with_reducible refine mu_cond hK false ?_ ?_; (· first | (walk_nrm; done) | (simp [Act.eval]; done)); simp only [if_true, if_false, Bool.false_eq_true, ↓reduceIte])
        | (with_reducible refine mu_cond hK true ?_ ?_; (· first | (walk_nrm; done) | (simp [Act.eval]; done)); simp only [if_true, if_false, Bool.false_eq_true, ↓reduceIte])
        | (refine mu_unwanted hK rfl rfl ?_; walk_nrm)
        | (refine muv_val hV rfl (by first | exact .inl rfl | exact .inr rfl) rfl (by kernel_rfl) (fun J hJ => ?_); go_simp; with_reducible refine hJ _ ?_; clear hJ J; walk_nrm))
    refine mu_call hK rfl rfl (by decide) rfl Try.func18 (by kernel_rfl) rfl ?_
    rw [← enter_at (P := Try.prog) _ Try.func18 rfl]
    walk_nrm
    refine yek _ ?_
    clear hK hV key yek eK K
    refine live_go L4.n L4.z fun Zq Vq hnq hzq hoq kq => ?_
    have Lq := L4.next hnq hzq hoq kq
    walk_nrm
    obtain ⟨K, eK⟩ : ∃ K : Goroutine → Prop, K = fun g => To0 Try.prog (LPost W) Zq Vq g := ⟨_, rfl⟩
    have hK : Mu Try.prog (fun _ => True) K := by rw [eK]; exact mu_to0
    have hV : MuV Try.prog Lone Vq K := by rw [eK]; exact muv_to0 Lq.n
    have key : ∀ g, K g → (fun g => To0 Try.prog (LPost W) Zq Vq g) g := fun g h => by rw [eK] at h; exact h
    have yek : ∀ g, (fun g => To0 Try.prog (LPost W) Zq Vq g) g → K g := fun g h => by rw [eK]; exact h
    refine key _ ?_
    repeat (
      first
        | with_reducible refine mu_seq hK ?_
        | with_reducible refine mu_skip hK ?_
        | (with_reducible refine mu_region_end hK ?_; try subst hkk)
        | with_reducible refine mu_block hK ?_
        | with_reducible refine mu_inBlock hK ?_
        | with_reducible refine mu_ret hK ?_
        | with_reducible refine mu_end hK ?_
        | refine mu_exit hK rfl ?_
        | (with_reducible refine mu_regionH hK (fun kk hkk => ?_); simp only [List.size_toArray, List.length_cons, List.length_nil, Nat.reduceAdd, Nat.zero_add, List.range, List.range.loop])
        | (with_reducible refine mu_cond hK false ?_ ?_; (· first | (walk_nrm; done) | (simp [Act.eval]; done)); simp only [if_true, if_false, Bool.false_eq_true, ↓reduceIte])
        | (with_reducible refine mu_cond hK true ?_ ?_; (· first | (walk_nrm; done) | (simp [Act.eval]; done)); simp only [if_true, if_false, Bool.false_eq_true, ↓reduceIte])
        | (refine mu_unwanted hK rfl rfl ?_; walk_nrm)
        | (refine muv_val hV rfl (by first | exact .inl rfl | exact .inr rfl) rfl (by kernel_rfl) (fun J hJ => ?_); go_simp; with_reducible refine hJ _ ?_; clear hJ J; walk_nrm))
    refine yek _ ?_
    clear hK hV key yek eK K
    exact law_last (by kernel_rfl) rfl rfl Try.func6 rfl rfl Lq.o Lq.k
  · have q3 : decide ((64 : Int) < (k : Int)) = false := decide_eq_false (by omega)
    have hl : (List.replicate k Value.nilFunc).length = k := List.length_replicate
    have hF : FnRow V1 (.slice (some ⟨V.heap.size, 0, none⟩) k k) (List.replicate k .nilFunc) := by
      refine ⟨⟨_, k, by rw [hl], fun _ => ⟨V.heap.size, 0, rfl, by omega, fun j hj => cell_of rV1 ?_⟩⟩, fun j hj => .inl (by rw [hl] at hj; simp [List.getElem?_replicate, hj])⟩
      rw [hl] at hj
      rw [Nat.zero_add, made_get k j hj]
      simp [List.getElem?_replicate, hj]
    have hP : Pks V1 (fun _ => False) (.slice pb ps.length pc) ps := ⟨⟨pb, pc, rfl, fun h0 => by
      obtain ⟨g, o, e1, h1, h2, h3⟩ := hpr h0
      exact ⟨g, o, e1, by have := kV1.size; omega, h2, fun j hj => kV1.cell (h3 j hj)⟩⟩, hp.r⟩
    obtain ⟨Rn, hRn⟩ : ∃ Rn : Nat, (Rn : Int) = if 1048576 < (if rounds < 0 then 0 else rounds) then 1048576 else if rounds < 0 then 0 else rounds := by
      refine ⟨(if 1048576 < (if rounds < 0 then 0 else rounds) then 1048576 else if rounds < 0 then 0 else rounds).toNat, Int.toNat_of_nonneg ?_⟩
      split
      · decide
      · split <;> omega
    refine run_go (U := Unil) (σ0 := fun C => (() : (Unil C).S)) (own0 := fun _ => False) (Rn := Rn) hn1 hF (by rw [hl]; omega) L1.z (fun b h => h.elim) hP.u (by omega) hRn (fun C E hO hCn hf => unil_ok E C) (fun C hCn i hi => ?_) (fun C _ b h => h) fun C σ' xs' Z' V2 ov ovr pkr own' hCn he A => ?_
    · rw [hl] at hi
      simp [st0, isNil, Unil, List.getD_eq_getElem?_getD, List.getElem?_replicate, hi]
    obtain rfl : xs' = [] := nil_calc C _ _ ps σ' xs' he
    rw [hl] at A
    have L2 := L1.next A.nrm A.shut A.zold ⟨A.big, fun b hb => A.keep b hb fun h => h⟩
    have o1 : V2.ownsRow 0 3 1 ov 0 [] := A.o1
    have o2 := A.o2
    have o3 := A.o3
    have hn2 := A.nrm
    obtain ⟨A1, c1, rfl, -⟩ := rds_own o1
    obtain ⟨A2, c2, rfl, R2⟩ := rds_own o2
    obtain ⟨A3, c3, rfl, R3⟩ := rds_own o3
    have R2 := R2 (fun _ => .bool true) (fun j hj => (nil_bls C σ' k j hj).1)
    have R3 := R3 (fun _ => .bool false) (fun j hj => (nil_bls C σ' k j hj).2)
    clear A he o1 o2 o3 hF hP hp hpr
    walk_nrm
    obtain ⟨K, eK⟩ : ∃ K : Goroutine → Prop, K = fun g => To0 Try.prog (LPost W) Z' V2 g := ⟨_, rfl⟩
    have hK : Mu Try.prog (fun _ => True) K := by rw [eK]; exact mu_to0
    have hV : MuV Try.prog Lone V2 K := by rw [eK]; exact muv_to0 hn2
    have key : ∀ g, K g → (fun g => To0 Try.prog (LPost W) Z' V2 g) g := fun g h => by rw [eK] at h; exact h
    have yek : ∀ g, (fun g => To0 Try.prog (LPost W) Z' V2 g) g → K g := fun g h => by rw [eK]; exact h
    refine key _ ?_
    repeat (
      first
        | with_reducible refine mu_seq hK ?_
        | with_reducible refine mu_skip hK ?_
        | (with_reducible refine mu_region_end hK ?_; try subst hkk)
        | with_reducible refine mu_block hK ?_
        | with_reducible refine mu_inBlock hK ?_
        | with_reducible refine mu_ret hK ?_
        | with_reducible refine mu_end hK ?_
        | refine mu_exit hK rfl ?_
        | (with_reducible refine mu_regionH hK (fun kk hkk => ?_); simp only [List.size_toArray, List.length_cons, List.length_nil, Nat.reduceAdd, Nat.zero_add, List.range, List.range.loop])
        | (with_reducible refine mu_cond hK false ?_ ?_; (· first | (walk_nrm; done) | (simp [Act.eval]; done)); simp only [if_true, if_false, Bool.false_eq_true, ↓reduceIte])
        | (with_reducible refine mu_cond hK true ?_ ?_; (· first | (walk_nrm; done) | (simp [Act.eval]; done)); simp only [if_true, if_false, Bool.false_eq_true, ↓reduceIte])
        | (refine mu_unwanted hK rfl rfl ?_; walk_nrm)
        | (refine muv_val hV rfl (by first | exact .inl rfl | exact .inr rfl) rfl (by kernel_rfl) (fun J hJ => ?_); go_simp; with_reducible refine hJ _ ?_; clear hJ J; walk_nrm))
    refine yek _ ?_
    clear hK hV key yek eK K
    have hnV3 : norm (V2.alloc (.cells #[.slice none 0 0, .slice none 0 0, .slice none 0 0] 28)) = (V2.alloc (.cells #[.slice none 0 0, .slice none 0 0, .slice none 0 0] 28)) := norm_al hn2 _
    refine mua_put (L := Lone) (v := .pointer (some ⟨V2.heap.size, 0, none⟩)) (mua_to0 hnV3) (K := fun g => To0 Try.prog (LPost W) Z' V2 g) (K' := fun g => To0 Try.prog (LPost W) Z' (V2.alloc (.cells #[.slice none 0 0, .slice none 0 0, .slice none 0 0] 28)) g) rfl (.inl rfl) rfl (by kernel_rfl) (fun τ => ?_) ?_
    · go_simp
      first | exact ⟨by first | rfl | assumption | (simp only [re]; omega), rfl⟩ | rfl | (simp; done)
    have sV3 : (V2.alloc (.cells #[.slice none 0 0, .slice none 0 0, .slice none 0 0] 28)).heap.size = V2.heap.size + 1 := al_size _ _
    have kV3 : Kp V2 (V2.alloc (.cells #[.slice none 0 0, .slice none 0 0, .slice none 0 0] 28)) := kp_alloc _ _
    have rV3 : (V2.alloc (.cells #[.slice none 0 0, .slice none 0 0, .slice none 0 0] 28)).heap[V2.heap.size]? = some (.cells #[.slice none 0 0, .slice none 0 0, .slice none 0 0] 28) := by rw [al_get, if_pos rfl]
    generalize (V2.alloc (.cells #[.slice none 0 0, .slice none 0 0, .slice none 0 0] 28)) = V3 at *
    walk_nrm
    have f0 : ∀ τ, (re V3 τ 0).cell? ⟨V2.heap.size, 0, none⟩ = some (.slice none 0 0) := fun τ => cell_of rV3 (by simp)
    have z0 : ∀ τ, (re V3 τ 0).frozen? ⟨V2.heap.size, 0, none⟩ = false := fun τ => by simp [World.frozen?, re, rV3]
    have f1 : ∀ τ, (re V3 τ 0).cell? ⟨V2.heap.size, 1, none⟩ = some (.slice none 0 0) := fun τ => cell_of rV3 (by simp)
    have z1 : ∀ τ, (re V3 τ 0).frozen? ⟨V2.heap.size, 1, none⟩ = false := fun τ => by simp [World.frozen?, re, rV3]
    have f2 : ∀ τ, (re V3 τ 0).cell? ⟨V2.heap.size, 2, none⟩ = some (.slice none 0 0) := fun τ => cell_of rV3 (by simp)
    have z2 : ∀ τ, (re V3 τ 0).frozen? ⟨V2.heap.size, 2, none⟩ = false := fun τ => by simp [World.frozen?, re, rV3]
    have hnV4 : norm (set3 V3 V2.heap.size (.slice A1 0 c1) (.slice A2 k c2) (.slice A3 k c3)) = (set3 V3 V2.heap.size (.slice A1 0 c1) (.slice A2 k c2) (.slice A3 k c3)) := norm_set (norm_set (norm_set hnV3 _ _) _ _) _ _
    have kV4 : Kp V2 (set3 V3 V2.heap.size (.slice A1 0 c1) (.slice A2 k c2) (.slice A3 k c3)) := kp_set3 kV3 (Nat.le_refl _)
    have rV4 : (set3 V3 V2.heap.size (.slice A1 0 c1) (.slice A2 k c2) (.slice A3 k c3)).heap[V2.heap.size]? = some (.cells #[(.slice A1 0 c1), (.slice A2 k c2), (.slice A3 k c3)] 28 (0, 0)) := by
      unfold set3
      rw [setCell_heap, if_pos rfl, setCell_heap, if_pos rfl, setCell_heap, if_pos rfl, rV3]
      simp
    refine mus_put (L := Lone) (mus_to0 hnV4) (K := fun g => To0 Try.prog (LPost W) Z' V3 g) (K' := fun g => To0 Try.prog (LPost W) Z' (set3 V3 V2.heap.size (.slice A1 0 c1) (.slice A2 k c2) (.slice A3 k c3)) g) rfl (.inl rfl) rfl (by kernel_rfl) (fun τ => ?_) ?_
    · go_simp
      rfl
    clear f0 f1 f2 z0 z1 z2
    generalize (set3 V3 V2.heap.size (.slice A1 0 c1) (.slice A2 k c2) (.slice A3 k c3)) = V4 at *
    walk_nrm
    have L4 := L2.same hnV4 kV4
    obtain ⟨K, eK⟩ : ∃ K : Goroutine → Prop, K = fun g => To0 Try.prog (LPost W) Z' V4 g := ⟨_, rfl⟩
    have hK : Mu Try.prog (fun _ => True) K := by rw [eK]; exact mu_to0
    have hV : MuV Try.prog Lone V4 K := by rw [eK]; exact muv_to0 hnV4
    have key : ∀ g, K g → (fun g => To0 Try.prog (LPost W) Z' V4 g) g := fun g h => by rw [eK] at h; exact h
    have yek : ∀ g, (fun g => To0 Try.prog (LPost W) Z' V4 g) g → K g := fun g h => by rw [eK]; exact h
    refine key _ ?_
    repeat (
      first
        | with_reducible refine mu_seq hK ?_
        | with_reducible refine mu_skip hK ?_
        | (with_reducible refine mu_region_end hK ?_; try subst hkk)
        | with_reducible refine mu_block hK ?_
        | with_reducible refine mu_inBlock hK ?_
        | with_reducible refine mu_ret hK ?_
        | with_reducible refine mu_end hK ?_
        | refine mu_exit hK rfl ?_
        | (with_reducible refine mu_regionH hK (fun kk hkk => ?_); simp only [List.size_toArray, List.length_cons, List.length_nil, Nat.reduceAdd, Nat.zero_add, List.range, List.range.loop])
        | (with_reducible refine mu_cond hK false ?_ ?_; (· first | (walk_nrm; done) | (simp [Act.eval]; done)); simp only [if_true, if_false, Bool.false_eq_true, ↓reduceIte])
        | (with_reducible refine mu_cond hK true ?_ ?_; (· first | (walk_nrm; done) | (simp [Act.eval]; done)); simp only [if_true, if_false, Bool.false_eq_true, ↓reduceIte])
        | (refine mu_unwanted hK rfl rfl ?_; walk_nrm)
        | (refine muv_val hV rfl (by first | exact .inl rfl | exact .inr rfl) rfl (by kernel_rfl) (fun J hJ => ?_); go_simp; with_reducible refine hJ _ ?_; clear hJ J; walk_nrm))
    refine mu_call hK rfl rfl (by decide) rfl Try.func24 (by kernel_rfl) rfl ?_
    have hnt24 : Try.f24.ntmps = 6 := rfl
    rw [hnt24]
    clear hnt24
    walk_nrm
    repeat (
      first
        | with_reducible refine mu_seq hK ?_
        | with_reducible refine mu_skip hK ?_
        | (with_reducible refine mu_region_end hK ?_; try subst hkk)
        | with_reducible refine mu_block hK ?_
        | with_reducible refine mu_inBlock hK ?_
        | with_reducible refine mu_ret hK ?_
        | with_reducible refine mu_end hK ?_
        | refine mu_exit hK rfl ?_
        | (with_reducible refine mu_regionH hK (fun kk hkk => ?_); simp only [List.size_toArray, List.length_cons, List.length_nil, Nat.reduceAdd, Nat.zero_add, List.range, List.range.loop])
        | (with_reducible refine mu_cond hK false ?_ ?_; (· first | (walk_nrm; done) | (simp [Act.eval]; done)); simp only [if_true, if_false, Bool.false_eq_true, ↓reduceIte])
        | (with_reducible refine mu_cond hK true ?_ ?_; (· first | (walk_nrm; done) | (simp [Act.eval]; done)); simp only [if_true, if_false, Bool.false_eq_true, ↓reduceIte])
        | (refine mu_unwanted hK rfl rfl ?_; walk_nrm)
        | (refine muv_val hV rfl (by first | exact .inl rfl | exact .inr rfl) rfl (by kernel_rfl) (fun J hJ => ?_); go_simp; with_reducible refine hJ _ ?_; clear hJ J; walk_nrm))
    refine mu_leave0 hK rfl rfl Try.func24 rfl ?_
    walk_nrm
    repeat (
      first
        | with_reducible refine mu_seq hK ?_
        | with_reducible refine mu_skip hK ?_
        | (with_reducible refine mu_region_end hK ?_; try subst hkk)
        | with_reducible refine mu_block hK ?_
        | with_reducible refine mu_inBlock hK ?_
        | with_reducible refine mu_ret hK ?_
        | with_reducible refine mu_end hK ?_
        | refine mu_exit hK rfl ?_
        | (with_reducible refine mu_regionH hK (fun kk hkk => ?_); simp only [List.size_toArray, List.length_cons, List.length_nil, Nat.reduceAdd, Nat.zero_add, List.range, List.range.loop])
        | (with_reducible refine mu_cond hK false ?_ ?_; (· first | (walk_nrm; done) | (simp [Act.eval]; done)); simp only [if_true, if_false, Bool.false_eq_true, ↓reduceIte])
        | (with_reducible refine mu_cond hK true ?_ ?_; (· first | (walk_nrm; done) | (simp [Act.eval]; done)); simp only [if_true, if_false, Bool.false_eq_true, ↓reduceIte])
        | (refine mu_unwanted hK rfl rfl ?_; walk_nrm)
        | (refine muv_val hV rfl (by first | exact .inl rfl | exact .inr rfl) rfl (by kernel_rfl) (fun J hJ => ?_); go_simp; with_reducible refine hJ _ ?_; clear hJ J; walk_nrm))
    refine mu_call hK rfl rfl (by decide) rfl Try.func25 (by kernel_rfl) rfl ?_
    have hnt25 : Try.f25.ntmps = 17 := rfl
    rw [hnt25]
    clear hnt25
    walk_nrm
    repeat (
      first
        | with_reducible refine mu_seq hK ?_
        | with_reducible refine mu_skip hK ?_
        | (with_reducible refine mu_region_end hK ?_; try subst hkk)
        | with_reducible refine mu_block hK ?_
        | with_reducible refine mu_inBlock hK ?_
        | with_reducible refine mu_ret hK ?_
        | with_reducible refine mu_end hK ?_
        | refine mu_exit hK rfl ?_
        | (with_reducible refine mu_regionH hK (fun kk hkk => ?_); simp only [List.size_toArray, List.length_cons, List.length_nil, Nat.reduceAdd, Nat.zero_add, List.range, List.range.loop])
        | (with_reducible refine mu_cond hK false ?_ ?_; (· first | (walk_nrm; done) | (simp [Act.eval]; done)); simp only [if_true, if_false, Bool.false_eq_true, ↓reduceIte])
        | (with_reducible refine mu_cond hK true ?_ ?_; (· first | (walk_nrm; done) | (simp [Act.eval]; done)); simp only [if_true, if_false, Bool.false_eq_true, ↓reduceIte])
        | (refine mu_unwanted hK rfl rfl ?_; walk_nrm)
        | (refine muv_val hV rfl (by first | exact .inl rfl | exact .inr rfl) rfl (by kernel_rfl) (fun J hJ => ?_); go_simp; with_reducible refine hJ _ ?_; clear hJ J; walk_nrm))
    refine mu_leave0 hK rfl rfl Try.func25 rfl ?_
    walk_nrm
    repeat (
      first
        | with_reducible refine mu_seq hK ?_
        | with_reducible refine mu_skip hK ?_
        | (with_reducible refine mu_region_end hK ?_; try subst hkk)
        | with_reducible refine mu_block hK ?_
        | with_reducible refine mu_inBlock hK ?_
        | with_reducible refine mu_ret hK ?_
        | with_reducible refine mu_end hK ?_
        | refine mu_exit hK rfl ?_
        | (with_reducible refine mu_regionH hK (fun kk hkk => ?_); simp only [List.size_toArray, List.length_cons, List.length_nil, Nat.reduceAdd, Nat.zero_add, List.range, List.range.loop])
        | (with_reducible refine mu_cond hK false ?_ ?_; (· first | (walk_nrm; done) | (simp [Act.eval]; done)); simp only [if_true, if_false, Bool.false_eq_true, ↓reduceIte])
        | (with_reducible refine mu_cond hK true ?_ ?_; (· first | (walk_nrm; done) | (simp [Act.eval]; done)); simp only [if_true, if_false, Bool.false_eq_true, ↓reduceIte])
        | (refine mu_unwanted hK rfl rfl ?_; walk_nrm)
        | (refine muv_val hV rfl (by first | exact .inl rfl | exact .inr rfl) rfl (by kernel_rfl) (fun J hJ => ?_); go_simp; with_reducible refine hJ _ ?_; clear hJ J; walk_nrm))
    refine mu_call hK rfl rfl (by decide) rfl Try.func26 (by kernel_rfl) rfl ?_
    have hnt26 : Try.f26.ntmps = 50 := rfl
    rw [hnt26]
    clear hnt26
    walk_nrm
    repeat (
      first
        | with_reducible refine mu_seq hK ?_
        | with_reducible refine mu_skip hK ?_
        | (with_reducible refine mu_region_end hK ?_; try subst hkk)
        | with_reducible refine mu_block hK ?_
        | with_reducible refine mu_inBlock hK ?_
        | with_reducible refine mu_ret hK ?_
        | with_reducible refine mu_end hK ?_
        | refine mu_exit hK rfl ?_
        | (with_reducible refine mu_regionH hK (fun kk hkk => ?_); simp only [List.size_toArray, List.length_cons, List.length_nil, Nat.reduceAdd, Nat.zero_add, List.range, List.range.loop])
        | (with_reducible refine mu_cond hK false ?_ ?_; (· first | (walk_nrm; done) | (simp [Act.eval]; done)); simp only [if_true, if_false, Bool.false_eq_true, ↓reduceIte])
        | (with_reducible refine mu_cond hK true ?_ ?_; (· first | (walk_nrm; done) | (simp [Act.eval]; done)); simp only [if_true, if_false, Bool.false_eq_true, ↓reduceIte])
        | (refine mu_unwanted hK rfl rfl ?_; walk_nrm)
        | (refine muv_val hV rfl (by first | exact .inl rfl | exact .inr rfl) rfl (by kernel_rfl) (fun J hJ => ?_); go_simp; with_reducible refine hJ _ ?_; clear hJ J; walk_nrm))
    refine mu_leave0 hK rfl rfl Try.func26 rfl ?_
    walk_nrm
    repeat (
      first
        | with_reducible refine mu_seq hK ?_
        | with_reducible refine mu_skip hK ?_
        | (with_reducible refine mu_region_end hK ?_; try subst hkk)
        | with_reducible refine mu_block hK ?_
        | with_reducible refine mu_inBlock hK ?_
        | with_reducible refine mu_ret hK ?_
        | with_reducible refine mu_end hK ?_
        | refine mu_exit hK rfl ?_
        | (with_reducible refine mu_regionH hK (fun kk hkk => ?_); simp only [List.size_toArray, List.length_cons, List.length_nil, Nat.reduceAdd, Nat.zero_add, List.range, List.range.loop])
        | (with_reducible refine mu_cond hK false ?_ ?_; (· first | (walk_nrm; done) | (simp [Act.eval]; done)); simp only [if_true, if_false, Bool.false_eq_true, ↓reduceIte])
        | (with_reducible refine mu_cond hK true ?_ ?_; (· first | (walk_nrm; done) | (simp [Act.eval]; done)); simp only [if_true, if_false, Bool.false_eq_true, ↓reduceIte])
        | (refine mu_unwanted hK rfl rfl ?_; walk_nrm)
        | (refine muv_val hV rfl (by first | exact .inl rfl | exact .inr rfl) rfl (by kernel_rfl) (fun J hJ => ?_); go_simp; with_reducible refine hJ _ ?_; clear hJ J; walk_nrm))
    refine mu_loop hK ?_
    refine yek _ ?_
    clear hK hV key yek eK K
    refine (fun (h : ∀ X Y, LA = X → Y6 = Y → To0 Try.prog (LPost W) Z' V4 (G ((base 6).at _ [.code X, .inLoop X, .inBlock 0, .code Y]) [])) => h _ _ (by simp only [LA, Y6, B6, nva, nvb, nvk, nvl, Try.f6, Option.getD_some]) (by simp only [LA, Y6, B6, nva, nvb, nvk, nvl, Try.f6, Option.getD_some])) ?_
    intro X Y hX hY
    subst hX hY
    exact args_loop hnV4 rV4 (kV4.rds R2) (kV4.rds R3) (fun T hT => args_end L4 hu hk.symm rV4 T hT) k 0 _ (by omega) ⟨by simp, rfl, rfl, rfl, rfl⟩ rfl
end
end Go.Proofs.Ytibcdikfbhmheaa
