/- duty's own functions: DutyRounds, the counting. -/
import Derived.Test.YtibcdikfbhmheaaQR02
set_option linter.unusedSimpArgs false
set_option linter.unusedVariables false
namespace Go.Proofs.Ytibcdikfbhmheaa
open Go Go.Conc Go.Proofs
open Go.ConcN (sumTo upd sumTo_upd upd_ne upd_same)
set_option linter.unusedVariables false
def HB (T : Array Value) (la : Option Addr) (n lc rb i : Nat) : Prop := T.size = 94 ∧ T[4]? = some (.slice la n lc) ∧ T[7]? = some (.pointer (some ⟨rb, 0, none⟩)) ∧ T[10]? = some (.int .i64 (i : Int))
section
variable {W V : World} {Z : Cuts} {n lc len rb c1 c2 : Nat} {la A1 A2 : Option Addr} {ys : Nat → Nat} {ra : Nat → Option Addr} {rc : Nat → Nat} {xs : List Nat} {pk : Value}
set_option maxRecDepth 100000 in
set_option maxHeartbeats 4000000 in
theorem cnt_loop (hn : norm V = V) (hr : V.heap[rb]? = some (.cells #[.slice A1 len c1, .slice A2 n c2, pk] 28 (0, 0))) (h1 : Rds V A1 len fun j => .int .i64 ((xs.getD j 0 : Nat) : Int)) (hxl : xs.length = len) (hlen : len < 1000000000) {i : Nat}
    (Kend : ∀ T, HB T la n lc rb i → T[11]? = some (.int .i64 ((xs.count i : Nat) : Int)) → To0 Try.prog (LPost W) Z V (G ((base 5).at ⟨T, []⟩ [.code DY23, .inBlock 3, .code DR16, .inLoop DL2, .inBlock 2, .code DY25]) [])) :
    ∀ (m k : Nat) T, m + k = len → HB T la n lc rb i → T[11]? = some (.int .i64 (((xs.take k).count i : Nat) : Int)) → T[12]? = some (.int .i64 (k : Int)) → To0 Try.prog (LPost W) Z V (G ((base 5).at ⟨T, []⟩ [.code DL3, .inLoop DL3, .inBlock 4, .code DY23, .inBlock 3, .code DR16, .inLoop DL2, .inBlock 2, .code DY25]) []) := by
  have d1 : ∀ τ, (re V τ 0).cell? ⟨rb, 0, none⟩ = some (.slice A1 len c1) := fun τ => cell_of hr (by simp)
  intro m
  induction m with
  | zero =>
    intro k T hmk ⟨hs, t4, t7, t10⟩ t11 t12
    obtain rfl : k = len := by omega
    have q1 : decide ((k : Int) < (k : Int)) = false := decide_eq_false (by omega)
    rw [List.take_of_length_le (by omega)] at t11
    generalize xs.count i = cc at *
    clear hr h1
    obtain ⟨v0, v1, v2, v3, v4, v5, v6, v7, v8, v9, v10, v11, v12, v13, v14, v15, v16, v17, v18, v19, v20, v21, v22, v23, v24, v25, v26, v27, v28, v29, v30, v31, v32, v33, v34, v35, v36, v37, v38, v39, v40, v41, v42, v43, v44, v45, v46, v47, v48, v49, v50, v51, v52, v53, v54, v55, v56, v57, v58, v59, v60, v61, v62, v63, v64, v65, v66, v67, v68, v69, v70, v71, v72, v73, v74, v75, v76, v77, v78, v79, v80, v81, v82, v83, v84, v85, v86, v87, v88, v89, v90, v91, v92, v93, rfl⟩ := array94 T hs
    simp only [List.getElem?_toArray, List.getElem?_cons_zero, List.getElem?_cons_succ, Option.some.injEq] at t4 t7 t10 t11 t12
    subst t4 t7 t10 t11 t12
    refine (fun (h : ∀ X, X = DL3 → To0 Try.prog (LPost W) Z V (G ((base 5).at ⟨_, []⟩ [.code X, .inLoop DL3, .inBlock 4, .code DY23, .inBlock 3, .code DR16, .inLoop DL2, .inBlock 2, .code DY25]) [])) => h DL3 rfl) ?_
    intro X hX
    simp only [DL1, DY11, DL2, DY25, DX3, DR16, DL3, DY23, B5d, nva, nvb, nvk, nvl, Try.f5, Option.getD_some] at hX
    subst hX
    obtain ⟨K, eK⟩ : ∃ K : Goroutine → Prop, K = fun g => To0 Try.prog (LPost W) Z V g := ⟨_, rfl⟩
    have hK : Mu Try.prog (fun _ => True) K := by rw [eK]; exact mu_to0
    have hV : MuV Try.prog Lone V K := by rw [eK]; exact muv_to0 hn
    have key : ∀ g, K g → (fun g => To0 Try.prog (LPost W) Z V g) g := fun g h => by rw [eK] at h; exact h
    have yek : ∀ g, (fun g => To0 Try.prog (LPost W) Z V g) g → K g := fun g h => by rw [eK]; exact h
    refine key _ ?_
    repeat (
      first
        | with_reducible refine mu_seq hK ?_
        | with_reducible refine mu_skip hK ?_
        | (with_reducible refine mu_region_end hK ?_; try subst hkk)
        | with_reducible refine mu_block hK ?_
        | with_reducible refine mu_inBlock hK ?_
        | with_reducible refine mu_ret hK ?_
        | with_reducible refine mu_end hK ?_
        | refine mu_exit hK rfl ?_
        | (with_reducible refine mu_regionH hK (fun kk hkk => ?_); simp only [List.size_toArray, List.length_cons, List.length_nil, Nat.reduceAdd, Nat.zero_add, List.range, List.range.loop])
        | (with_reducible refine mu_cond hK false ?_ ?_; (· first | (walk_nrm; done) | (simp [Act.eval]; done)); simp only [if_true, if_false, Bool.false_eq_true, ↓reduceIte])
        | (with_reducible refine mu_cond hK true ?_ ?_; (· first | (walk_nrm; done) | (simp [Act.eval]; done)); simp only [if_true, if_false, Bool.false_eq_true, ↓reduceIte])
        | (refine mu_unwanted hK rfl rfl ?_; walk_nrm)
        | (refine muv_val hV rfl (by first | exact .inl rfl | exact .inr rfl) rfl (by kernel_rfl) (fun J hJ => ?_); go_simp; with_reducible refine hJ _ ?_; clear hJ J; walk_nrm))
    refine yek _ ?_
    clear hK hV key yek eK K
    refine Kend _ ?_ rfl
    exact ⟨by simp, rfl, rfl, rfl⟩
  | succ m ih =>
    intro k T hmk ⟨hs, t4, t7, t10⟩ t11 t12
    have hk : k < len := by omega
    obtain ⟨g, o, hA, hg, hc⟩ := h1.2 (by omega)
    have d2 := fun (τ : Nat → Question → Nat) => hc k hk
    replace d2 : ∀ τ, (re V τ 0).cell? ⟨g, o + k, none⟩ = some (.int .i64 ((xs.getD k 0 : Nat) : Int)) := d2
    have q1 : decide ((k : Int) < (len : Int)) = true := decide_eq_true (by omega)
    have q2 : ¬ ((k : Int) < 0) := by omega
    have q3 : ¬ ((len : Int) ≤ (k : Int)) := by omega
    have w4 : IntKind.i64.wrap ((k : Int) + 1) = ((k + 1 : Nat) : Int) := by rw [IntKind.wrap_i64]; omega
    have hcl : (xs.take k).count i ≤ k := Nat.le_trans List.count_le_length (by rw [List.length_take]; omega)
    have w5 : IntKind.i64.wrap (((xs.take k).count i : Nat) + 1 : Int) = (((xs.take k).count i + 1 : Nat) : Int) := by rw [IntKind.wrap_i64]; omega
    have hts : (xs.take (k + 1)).count i = (xs.take k).count i + if xs.getD k 0 = i then 1 else 0 := by
      have hkx : k < xs.length := by omega
      rw [List.take_add_one, List.count_append]
      simp only [List.getD_eq_getElem?_getD, List.getElem?_eq_getElem hkx, Option.getD_some, Option.toList_some]
      congr 1
      simp [List.count_cons]
    have ih' := ih (k + 1)
    rw [hts] at ih'
    clear hts hcl ih
    generalize (xs.take k).count i = cc at *
    generalize xs.getD k 0 = x at *
    subst hA
    clear hc h1 hr Kend
    by_cases hx : x = i
    · have e1 : (((x : Nat) : Int) == ((i : Nat) : Int)) = true := by rw [hx]; simp
      rw [if_pos hx] at ih'
      obtain ⟨v0, v1, v2, v3, v4, v5, v6, v7, v8, v9, v10, v11, v12, v13, v14, v15, v16, v17, v18, v19, v20, v21, v22, v23, v24, v25, v26, v27, v28, v29, v30, v31, v32, v33, v34, v35, v36, v37, v38, v39, v40, v41, v42, v43, v44, v45, v46, v47, v48, v49, v50, v51, v52, v53, v54, v55, v56, v57, v58, v59, v60, v61, v62, v63, v64, v65, v66, v67, v68, v69, v70, v71, v72, v73, v74, v75, v76, v77, v78, v79, v80, v81, v82, v83, v84, v85, v86, v87, v88, v89, v90, v91, v92, v93, rfl⟩ := array94 T hs
      simp only [List.getElem?_toArray, List.getElem?_cons_zero, List.getElem?_cons_succ, Option.some.injEq] at t4 t7 t10 t11 t12
      subst t4 t7 t10 t11 t12
      refine (fun (h : ∀ X, X = DL3 → To0 Try.prog (LPost W) Z V (G ((base 5).at ⟨_, []⟩ [.code X, .inLoop DL3, .inBlock 4, .code DY23, .inBlock 3, .code DR16, .inLoop DL2, .inBlock 2, .code DY25]) [])) => h DL3 rfl) ?_
      intro X hX
      simp only [DL1, DY11, DL2, DY25, DX3, DR16, DL3, DY23, B5d, nva, nvb, nvk, nvl, Try.f5, Option.getD_some] at hX
      subst hX
      obtain ⟨K, eK⟩ : ∃ K : Goroutine → Prop, K = fun g => To0 Try.prog (LPost W) Z V g := ⟨_, rfl⟩
      have hK : Mu Try.prog (fun _ => True) K := by rw [eK]; exact mu_to0
      have hV : MuV Try.prog Lone V K := by rw [eK]; exact muv_to0 hn
      have key : ∀ g, K g → (fun g => To0 Try.prog (LPost W) Z V g) g := fun g h => by rw [eK] at h; exact h
      have yek : ∀ g, (fun g => To0 Try.prog (LPost W) Z V g) g → K g := fun g h => by rw [eK]; exact h
      refine key _ ?_
      repeat (
        first
          | with_reducible refine mu_seq hK ?_
          | with_reducible refine mu_skip hK ?_
          | (with_reducible refine mu_region_end hK ?_; try subst hkk)
          | with_reducible refine mu_block hK ?_
          | with_reducible refine mu_inBlock hK ?_
          | with_reducible refine mu_ret hK ?_
          | with_reducible refine mu_end hK ?_
          | refine mu_exit hK rfl ?_
          | (with_reducible refine mu_regionH hK (fun kk hkk => ?_); simp only [List.size_toArray, List.length_cons, List.length_nil, Nat.reduceAdd, Nat.zero_add, List.range, List.range.loop])
          | (with_reducible refine mu_cond hK false ?_ ?_; (· first | (walk_nrm; done) | (simp [Act.eval]; done)); simp only [if_true, if_false, Bool.false_eq_true, ↓reduceIte])
          | (with_reducible refine mu_cond hK true ?_ ?_; (· first | (walk_nrm; done) | (simp [Act.eval]; done)); simp only [if_true, if_false, Bool.false_eq_true, ↓reduceIte])
          | (refine mu_unwanted hK rfl rfl ?_; walk_nrm)
          | (refine muv_val hV rfl (by first | exact .inl rfl | exact .inr rfl) rfl (by kernel_rfl) (fun J hJ => ?_); go_simp; with_reducible refine hJ _ ?_; clear hJ J; walk_nrm))
      refine mu_inLoop hK ?_
      refine yek _ ?_
      clear hK hV key yek eK K
      refine (fun (h : ∀ Y, DL3 = Y → To0 Try.prog (LPost W) Z V (G ((base 5).at _ [.code Y, .inLoop Y, .inBlock 4, .code DY23, .inBlock 3, .code DR16, .inLoop DL2, .inBlock 2, .code DY25]) [])) => h _ (by simp only [DL1, DY11, DL2, DY25, DX3, DR16, DL3, DY23, B5d, nva, nvb, nvk, nvl, Try.f5, Option.getD_some])) ?_
      intro Y hY
      subst hY
      exact ih' _ (by omega) ⟨by simp, rfl, rfl, rfl⟩ rfl rfl
    · have e1 : (((x : Nat) : Int) == ((i : Nat) : Int)) = false := by simpa using (fun h : (x : Int) = (i : Int) => hx (by omega))
      rw [if_neg hx, Nat.add_zero] at ih'
      obtain ⟨v0, v1, v2, v3, v4, v5, v6, v7, v8, v9, v10, v11, v12, v13, v14, v15, v16, v17, v18, v19, v20, v21, v22, v23, v24, v25, v26, v27, v28, v29, v30, v31, v32, v33, v34, v35, v36, v37, v38, v39, v40, v41, v42, v43, v44, v45, v46, v47, v48, v49, v50, v51, v52, v53, v54, v55, v56, v57, v58, v59, v60, v61, v62, v63, v64, v65, v66, v67, v68, v69, v70, v71, v72, v73, v74, v75, v76, v77, v78, v79, v80, v81, v82, v83, v84, v85, v86, v87, v88, v89, v90, v91, v92, v93, rfl⟩ := array94 T hs
      simp only [List.getElem?_toArray, List.getElem?_cons_zero, List.getElem?_cons_succ, Option.some.injEq] at t4 t7 t10 t11 t12
      subst t4 t7 t10 t11 t12
      refine (fun (h : ∀ X, X = DL3 → To0 Try.prog (LPost W) Z V (G ((base 5).at ⟨_, []⟩ [.code X, .inLoop DL3, .inBlock 4, .code DY23, .inBlock 3, .code DR16, .inLoop DL2, .inBlock 2, .code DY25]) [])) => h DL3 rfl) ?_
      intro X hX
      simp only [DL1, DY11, DL2, DY25, DX3, DR16, DL3, DY23, B5d, nva, nvb, nvk, nvl, Try.f5, Option.getD_some] at hX
      subst hX
      obtain ⟨K, eK⟩ : ∃ K : Goroutine → Prop, K = fun g => To0 Try.prog (LPost W) Z V g := ⟨_, rfl⟩
      have hK : Mu Try.prog (fun _ => True) K := by rw [eK]; exact mu_to0
      have hV : MuV Try.prog Lone V K := by rw [eK]; exact muv_to0 hn
      have key : ∀ g, K g → (fun g => To0 Try.prog (LPost W) Z V g) g := fun g h => by rw [eK] at h; exact h
      have yek : ∀ g, (fun g => To0 Try.prog (LPost W) Z V g) g → K g := fun g h => by rw [eK]; exact h
      refine key _ ?_
      repeat (
        first
          | with_reducible refine mu_seq hK ?_
          | with_reducible refine mu_skip hK ?_
          | (with_reducible refine mu_region_end hK ?_; try subst hkk)
          | with_reducible refine mu_block hK ?_
          | with_reducible refine mu_inBlock hK ?_
          | with_reducible refine mu_ret hK ?_
          | with_reducible refine mu_end hK ?_
          | refine mu_exit hK rfl ?_
          | (with_reducible refine mu_regionH hK (fun kk hkk => ?_); simp only [List.size_toArray, List.length_cons, List.length_nil, Nat.reduceAdd, Nat.zero_add, List.range, List.range.loop])
          | (with_reducible refine mu_cond hK false ?_ ?_; (· first | (walk_nrm; done) | (simp [Act.eval]; done)); simp only [if_true, if_false, Bool.false_eq_true, ↓reduceIte])
          | (with_reducible refine mu_cond hK true ?_ ?_; (· first | (walk_nrm; done) | (simp [Act.eval]; done)); simp only [if_true, if_false, Bool.false_eq_true, ↓reduceIte])
          | (refine mu_unwanted hK rfl rfl ?_; walk_nrm)
          | (refine muv_val hV rfl (by first | exact .inl rfl | exact .inr rfl) rfl (by kernel_rfl) (fun J hJ => ?_); go_simp; with_reducible refine hJ _ ?_; clear hJ J; walk_nrm))
      refine mu_inLoop hK ?_
      refine yek _ ?_
      clear hK hV key yek eK K
      refine (fun (h : ∀ Y, DL3 = Y → To0 Try.prog (LPost W) Z V (G ((base 5).at _ [.code Y, .inLoop Y, .inBlock 4, .code DY23, .inBlock 3, .code DR16, .inLoop DL2, .inBlock 2, .code DY25]) [])) => h _ (by simp only [DL1, DY11, DL2, DY25, DX3, DR16, DL3, DY23, B5d, nva, nvb, nvk, nvl, Try.f5, Option.getD_some])) ?_
      intro Y hY
      subst hY
      exact ih' _ (by omega) ⟨by simp, rfl, rfl, rfl⟩ rfl rfl
end
end Go.Proofs.Ytibcdikfbhmheaa
