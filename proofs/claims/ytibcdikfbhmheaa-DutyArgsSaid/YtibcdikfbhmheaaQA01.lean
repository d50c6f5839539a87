/- duty's own functions: DutyArgs, its loop. -/
import Derived.Test.YtibcdikfbhmheaaB16
set_option linter.unusedSimpArgs false
set_option linter.unusedVariables false
namespace Go.Proofs.Ytibcdikfbhmheaa
open Go Go.Conc Go.Proofs
open Go.ConcN (sumTo upd sumTo_upd upd_ne upd_same)
set_option linter.unusedVariables false
theorem array107 (T : Array Value) (h : T.size = 107) : ∃ v0 v1 v2 v3 v4 v5 v6 v7 v8 v9 v10 v11 v12 v13 v14 v15 v16 v17 v18 v19 v20 v21 v22 v23 v24 v25 v26 v27 v28 v29 v30 v31 v32 v33 v34 v35 v36 v37 v38 v39 v40 v41 v42 v43 v44 v45 v46 v47 v48 v49 v50 v51 v52 v53 v54 v55 v56 v57 v58 v59 v60 v61 v62 v63 v64 v65 v66 v67 v68 v69 v70 v71 v72 v73 v74 v75 v76 v77 v78 v79 v80 v81 v82 v83 v84 v85 v86 v87 v88 v89 v90 v91 v92 v93 v94 v95 v96 v97 v98 v99 v100 v101 v102 v103 v104 v105 v106 : Value, T = #[v0, v1, v2, v3, v4, v5, v6, v7, v8, v9, v10, v11, v12, v13, v14, v15, v16, v17, v18, v19, v20, v21, v22, v23, v24, v25, v26, v27, v28, v29, v30, v31, v32, v33, v34, v35, v36, v37, v38, v39, v40, v41, v42, v43, v44, v45, v46, v47, v48, v49, v50, v51, v52, v53, v54, v55, v56, v57, v58, v59, v60, v61, v62, v63, v64, v65, v66, v67, v68, v69, v70, v71, v72, v73, v74, v75, v76, v77, v78, v79, v80, v81, v82, v83, v84, v85, v86, v87, v88, v89, v90, v91, v92, v93, v94, v95, v96, v97, v98, v99, v100, v101, v102, v103, v104, v105, v106] := by
  obtain ⟨l⟩ := T
  simp only [List.size_toArray] at h
  rcases l with _ | ⟨v0, l⟩
  · simp at h
  rcases l with _ | ⟨v1, l⟩
  · simp at h
  rcases l with _ | ⟨v2, l⟩
  · simp at h
  rcases l with _ | ⟨v3, l⟩
  · simp at h
  rcases l with _ | ⟨v4, l⟩
  · simp at h
  rcases l with _ | ⟨v5, l⟩
  · simp at h
  rcases l with _ | ⟨v6, l⟩
  · simp at h
  rcases l with _ | ⟨v7, l⟩
  · simp at h
  rcases l with _ | ⟨v8, l⟩
  · simp at h
  rcases l with _ | ⟨v9, l⟩
  · simp at h
  rcases l with _ | ⟨v10, l⟩
  · simp at h
  rcases l with _ | ⟨v11, l⟩
  · simp at h
  rcases l with _ | ⟨v12, l⟩
  · simp at h
  rcases l with _ | ⟨v13, l⟩
  · simp at h
  rcases l with _ | ⟨v14, l⟩
  · simp at h
  rcases l with _ | ⟨v15, l⟩
  · simp at h
  rcases l with _ | ⟨v16, l⟩
  · simp at h
  rcases l with _ | ⟨v17, l⟩
  · simp at h
  rcases l with _ | ⟨v18, l⟩
  · simp at h
  rcases l with _ | ⟨v19, l⟩
  · simp at h
  rcases l with _ | ⟨v20, l⟩
  · simp at h
  rcases l with _ | ⟨v21, l⟩
  · simp at h
  rcases l with _ | ⟨v22, l⟩
  · simp at h
  rcases l with _ | ⟨v23, l⟩
  · simp at h
  rcases l with _ | ⟨v24, l⟩
  · simp at h
  rcases l with _ | ⟨v25, l⟩
  · simp at h
  rcases l with _ | ⟨v26, l⟩
  · simp at h
  rcases l with _ | ⟨v27, l⟩
  · simp at h
  rcases l with _ | ⟨v28, l⟩
  · simp at h
  rcases l with _ | ⟨v29, l⟩
  · simp at h
  rcases l with _ | ⟨v30, l⟩
  · simp at h
  rcases l with _ | ⟨v31, l⟩
  · simp at h
  rcases l with _ | ⟨v32, l⟩
  · simp at h
  rcases l with _ | ⟨v33, l⟩
  · simp at h
  rcases l with _ | ⟨v34, l⟩
  · simp at h
  rcases l with _ | ⟨v35, l⟩
  · simp at h
  rcases l with _ | ⟨v36, l⟩
  · simp at h
  rcases l with _ | ⟨v37, l⟩
  · simp at h
  rcases l with _ | ⟨v38, l⟩
  · simp at h
  rcases l with _ | ⟨v39, l⟩
  · simp at h
  rcases l with _ | ⟨v40, l⟩
  · simp at h
  rcases l with _ | ⟨v41, l⟩
  · simp at h
  rcases l with _ | ⟨v42, l⟩
  · simp at h
  rcases l with _ | ⟨v43, l⟩
  · simp at h
  rcases l with _ | ⟨v44, l⟩
  · simp at h
  rcases l with _ | ⟨v45, l⟩
  · simp at h
  rcases l with _ | ⟨v46, l⟩
  · simp at h
  rcases l with _ | ⟨v47, l⟩
  · simp at h
  rcases l with _ | ⟨v48, l⟩
  · simp at h
  rcases l with _ | ⟨v49, l⟩
  · simp at h
  rcases l with _ | ⟨v50, l⟩
  · simp at h
  rcases l with _ | ⟨v51, l⟩
  · simp at h
  rcases l with _ | ⟨v52, l⟩
  · simp at h
  rcases l with _ | ⟨v53, l⟩
  · simp at h
  rcases l with _ | ⟨v54, l⟩
  · simp at h
  rcases l with _ | ⟨v55, l⟩
  · simp at h
  rcases l with _ | ⟨v56, l⟩
  · simp at h
  rcases l with _ | ⟨v57, l⟩
  · simp at h
  rcases l with _ | ⟨v58, l⟩
  · simp at h
  rcases l with _ | ⟨v59, l⟩
  · simp at h
  rcases l with _ | ⟨v60, l⟩
  · simp at h
  rcases l with _ | ⟨v61, l⟩
  · simp at h
  rcases l with _ | ⟨v62, l⟩
  · simp at h
  rcases l with _ | ⟨v63, l⟩
  · simp at h
  rcases l with _ | ⟨v64, l⟩
  · simp at h
  rcases l with _ | ⟨v65, l⟩
  · simp at h
  rcases l with _ | ⟨v66, l⟩
  · simp at h
  rcases l with _ | ⟨v67, l⟩
  · simp at h
  rcases l with _ | ⟨v68, l⟩
  · simp at h
  rcases l with _ | ⟨v69, l⟩
  · simp at h
  rcases l with _ | ⟨v70, l⟩
  · simp at h
  rcases l with _ | ⟨v71, l⟩
  · simp at h
  rcases l with _ | ⟨v72, l⟩
  · simp at h
  rcases l with _ | ⟨v73, l⟩
  · simp at h
  rcases l with _ | ⟨v74, l⟩
  · simp at h
  rcases l with _ | ⟨v75, l⟩
  · simp at h
  rcases l with _ | ⟨v76, l⟩
  · simp at h
  rcases l with _ | ⟨v77, l⟩
  · simp at h
  rcases l with _ | ⟨v78, l⟩
  · simp at h
  rcases l with _ | ⟨v79, l⟩
  · simp at h
  rcases l with _ | ⟨v80, l⟩
  · simp at h
  rcases l with _ | ⟨v81, l⟩
  · simp at h
  rcases l with _ | ⟨v82, l⟩
  · simp at h
  rcases l with _ | ⟨v83, l⟩
  · simp at h
  rcases l with _ | ⟨v84, l⟩
  · simp at h
  rcases l with _ | ⟨v85, l⟩
  · simp at h
  rcases l with _ | ⟨v86, l⟩
  · simp at h
  rcases l with _ | ⟨v87, l⟩
  · simp at h
  rcases l with _ | ⟨v88, l⟩
  · simp at h
  rcases l with _ | ⟨v89, l⟩
  · simp at h
  rcases l with _ | ⟨v90, l⟩
  · simp at h
  rcases l with _ | ⟨v91, l⟩
  · simp at h
  rcases l with _ | ⟨v92, l⟩
  · simp at h
  rcases l with _ | ⟨v93, l⟩
  · simp at h
  rcases l with _ | ⟨v94, l⟩
  · simp at h
  rcases l with _ | ⟨v95, l⟩
  · simp at h
  rcases l with _ | ⟨v96, l⟩
  · simp at h
  rcases l with _ | ⟨v97, l⟩
  · simp at h
  rcases l with _ | ⟨v98, l⟩
  · simp at h
  rcases l with _ | ⟨v99, l⟩
  · simp at h
  rcases l with _ | ⟨v100, l⟩
  · simp at h
  rcases l with _ | ⟨v101, l⟩
  · simp at h
  rcases l with _ | ⟨v102, l⟩
  · simp at h
  rcases l with _ | ⟨v103, l⟩
  · simp at h
  rcases l with _ | ⟨v104, l⟩
  · simp at h
  rcases l with _ | ⟨v105, l⟩
  · simp at h
  rcases l with _ | ⟨v106, l⟩
  · simp at h
  rcases l with _ | ⟨x, l⟩
  · exact ⟨v0, v1, v2, v3, v4, v5, v6, v7, v8, v9, v10, v11, v12, v13, v14, v15, v16, v17, v18, v19, v20, v21, v22, v23, v24, v25, v26, v27, v28, v29, v30, v31, v32, v33, v34, v35, v36, v37, v38, v39, v40, v41, v42, v43, v44, v45, v46, v47, v48, v49, v50, v51, v52, v53, v54, v55, v56, v57, v58, v59, v60, v61, v62, v63, v64, v65, v66, v67, v68, v69, v70, v71, v72, v73, v74, v75, v76, v77, v78, v79, v80, v81, v82, v83, v84, v85, v86, v87, v88, v89, v90, v91, v92, v93, v94, v95, v96, v97, v98, v99, v100, v101, v102, v103, v104, v105, v106, rfl⟩
  · simp at h
noncomputable def B6 : Code := Try.f6.body.getD .skip
noncomputable def Y6 : Code := nvb (nvb (nvb (nvb (nvb (nvb (nvb (nvb (nvb B6))))))))
noncomputable def LA : Code := nvl (nvk (nvb (nva (nvb (nvb (nvb (nvb (nvb (nvb (nvb (nvb B6)))))))))))
def HT (T : Array Value) (n : Int) (rb : Nat) : Prop := T.size = 107 ∧ T[0]? = some (.int .u8 n) ∧ T[7]? = some (.pointer (some ⟨rb, 0, none⟩)) ∧ T[8]? = some (.int .i64 0) ∧ T[9]? = some (.pointer none)
section
variable {V : World} {Z : Cuts} {Post : Value → World → Prop} {b₀ : Frame} {a₀ : Act} {ops₀ : Array Oper} {i₀ : Nat} {rest₀ : List Nat} {k₀ : List Item} {cs0 : List Frame}
set_option maxRecDepth 100000 in
set_option maxHeartbeats 4000000 in
theorem args_loop (hn : norm V = V) {n : Int} {rb k c1 c2 : Nat} {A1 A2 : Option Addr} {ov : Value} (hr : V.heap[rb]? = some (.cells #[ov, .slice A1 k c1, .slice A2 k c2] 28 (0, 0))) (h1 : Rds V A1 k fun _ => .bool true) (h2 : Rds V A2 k fun _ => .bool false)
    (Kend : ∀ T, HT T n rb → To0 Try.prog Post Z V (G ((base 6).at ⟨T, []⟩ [.code Y6]) [])) :
    ∀ (m j : Nat) T, m + j = k → HT T n rb → T[10]? = some (.int .i64 (j : Int)) → To0 Try.prog Post Z V (G ((base 6).at ⟨T, []⟩ [.code LA, .inLoop LA, .inBlock 0, .code Y6]) []) := by
  intro m
  have d1 : ∀ τ, (re V τ 0).cell? ⟨rb, 1, none⟩ = some (.slice A1 k c1) := fun τ => cell_of hr (by simp)
  have d2 : ∀ τ, (re V τ 0).cell? ⟨rb, 2, none⟩ = some (.slice A2 k c2) := fun τ => cell_of hr (by simp)
  induction m with
  | zero =>
    intro j T hmk ⟨hs, t0, t7, t8, t9⟩ t10
    obtain rfl : j = k := by omega
    have q1 : decide ((j : Int) < (j : Int)) = false := decide_eq_false (by omega)
    obtain ⟨v0, v1, v2, v3, v4, v5, v6, v7, v8, v9, v10, v11, v12, v13, v14, v15, v16, v17, v18, v19, v20, v21, v22, v23, v24, v25, v26, v27, v28, v29, v30, v31, v32, v33, v34, v35, v36, v37, v38, v39, v40, v41, v42, v43, v44, v45, v46, v47, v48, v49, v50, v51, v52, v53, v54, v55, v56, v57, v58, v59, v60, v61, v62, v63, v64, v65, v66, v67, v68, v69, v70, v71, v72, v73, v74, v75, v76, v77, v78, v79, v80, v81, v82, v83, v84, v85, v86, v87, v88, v89, v90, v91, v92, v93, v94, v95, v96, v97, v98, v99, v100, v101, v102, v103, v104, v105, v106, rfl⟩ := array107 T hs
    simp only [List.getElem?_toArray, List.getElem?_cons_zero, List.getElem?_cons_succ, Option.some.injEq] at t0 t7 t8 t9 t10
    subst t0 t7 t8 t9 t10
    clear h1 h2 hr hs
    refine (fun (h : ∀ X, X = LA → To0 Try.prog Post Z V (G ((base 6).at ⟨_, []⟩ [.code X, .inLoop LA, .inBlock 0, .code Y6]) [])) => h LA rfl) ?_
    intro X hX
    simp only [LA, Y6, B6, nva, nvb, nvk, nvl, Try.f6, Option.getD_some] at hX
    subst hX
    obtain ⟨K, eK⟩ : ∃ K : Goroutine → Prop, K = fun g => To0 Try.prog Post Z V g := ⟨_, rfl⟩
    have hK : Mu Try.prog (fun _ => True) K := by rw [eK]; exact mu_to0
    have hV : MuV Try.prog Lone V K := by rw [eK]; exact muv_to0 hn
    have key : ∀ g, K g → (fun g => To0 Try.prog Post Z V g) g := fun g h => by rw [eK] at h; exact h
    have yek : ∀ g, (fun g => To0 Try.prog Post Z V g) g → K g := fun g h => by rw [eK]; exact h
    refine key _ ?_
    repeat (
      first
        | with_reducible refine mu_seq hK ?_
        | with_reducible refine mu_skip hK ?_
        | (with_reducible refine mu_region_end hK ?_; try subst hkk)
        | with_reducible refine mu_block hK ?_
        | with_reducible refine mu_inBlock hK ?_
        | with_reducible refine mu_ret hK ?_
        | with_reducible refine mu_end hK ?_
        | refine mu_exit hK rfl ?_
        | (with_reducible refine mu_regionH hK (fun kk hkk => ?_); simp only [List.size_toArray, List.length_cons, List.length_nil, Nat.reduceAdd, Nat.zero_add, List.range, List.range.loop])
        | (with_reducible refine mu_cond hK false ?_ ?_; (· first | (walk_nrm; done) | (simp [Act.eval]; done)); simp only [if_true, if_false, Bool.false_eq_true, ↓reduceIte])
        | (with_reducible refine mu_cond hK true ?_ ?_; (· first | (walk_nrm; done) | (simp [Act.eval]; done)); simp only [if_true, if_false, Bool.false_eq_true, ↓reduceIte])
        | (refine mu_unwanted hK rfl rfl ?_; walk_nrm)
        | (refine muv_val hV rfl (by first | exact .inl rfl | exact .inr rfl) rfl (by kernel_rfl) (fun J hJ => ?_); go_simp; with_reducible refine hJ _ ?_; clear hJ J; walk_nrm))
    refine yek _ ?_
    clear hK hV key yek eK K
    refine Kend _ ?_
    exact ⟨by simp, rfl, rfl, rfl, rfl⟩
  | succ m ih =>
    intro j T hmk ⟨hs, t0, t7, t8, t9⟩ t10
    have hj : j < k := by omega
    obtain ⟨g1, o1, rfl, hg1, k1⟩ := h1.2 (by omega)
    obtain ⟨g2, o2, rfl, hg2, k2⟩ := h2.2 (by omega)
    have e1 : ∀ τ, (re V τ 0).cell? ⟨g1, o1 + j, none⟩ = some (.bool true) := fun τ => k1 j hj
    have e2 : ∀ τ, (re V τ 0).cell? ⟨g2, o2 + j, none⟩ = some (.bool false) := fun τ => k2 j hj
    have q1 : decide ((j : Int) < (k : Int)) = true := decide_eq_true (by omega)
    have q2 : ¬ ((j : Int) < 0) := by omega
    have q3 : ¬ ((k : Int) ≤ (j : Int)) := by omega
    have hk63 := h1.1
    have w4 : IntKind.i64.wrap ((j : Int) + 1) = ((j + 1 : Nat) : Int) := by rw [IntKind.wrap_i64]; omega
    obtain ⟨v0, v1, v2, v3, v4, v5, v6, v7, v8, v9, v10, v11, v12, v13, v14, v15, v16, v17, v18, v19, v20, v21, v22, v23, v24, v25, v26, v27, v28, v29, v30, v31, v32, v33, v34, v35, v36, v37, v38, v39, v40, v41, v42, v43, v44, v45, v46, v47, v48, v49, v50, v51, v52, v53, v54, v55, v56, v57, v58, v59, v60, v61, v62, v63, v64, v65, v66, v67, v68, v69, v70, v71, v72, v73, v74, v75, v76, v77, v78, v79, v80, v81, v82, v83, v84, v85, v86, v87, v88, v89, v90, v91, v92, v93, v94, v95, v96, v97, v98, v99, v100, v101, v102, v103, v104, v105, v106, rfl⟩ := array107 T hs
    simp only [List.getElem?_toArray, List.getElem?_cons_zero, List.getElem?_cons_succ, Option.some.injEq] at t0 t7 t8 t9 t10
    subst t0 t7 t8 t9 t10
    clear h1 h2 hr hs k1 k2
    refine (fun (h : ∀ X, X = LA → To0 Try.prog Post Z V (G ((base 6).at ⟨_, []⟩ [.code X, .inLoop LA, .inBlock 0, .code Y6]) [])) => h LA rfl) ?_
    intro X hX
    simp only [LA, Y6, B6, nva, nvb, nvk, nvl, Try.f6, Option.getD_some] at hX
    subst hX
    obtain ⟨K, eK⟩ : ∃ K : Goroutine → Prop, K = fun g => To0 Try.prog Post Z V g := ⟨_, rfl⟩
    have hK : Mu Try.prog (fun _ => True) K := by rw [eK]; exact mu_to0
    have hV : MuV Try.prog Lone V K := by rw [eK]; exact muv_to0 hn
    have key : ∀ g, K g → (fun g => To0 Try.prog Post Z V g) g := fun g h => by rw [eK] at h; exact h
    have yek : ∀ g, (fun g => To0 Try.prog Post Z V g) g → K g := fun g h => by rw [eK]; exact h
    refine key _ ?_
    repeat (
      first
        | with_reducible refine mu_seq hK ?_
        | with_reducible refine mu_skip hK ?_
        | (with_reducible refine mu_region_end hK ?_; try subst hkk)
        | with_reducible refine mu_block hK ?_
        | with_reducible refine mu_inBlock hK ?_
        | with_reducible refine mu_ret hK ?_
        | with_reducible refine mu_end hK ?_
        | refine mu_exit hK rfl ?_
        | (with_reducible refine mu_regionH hK (fun kk hkk => ?_); simp only [List.size_toArray, List.length_cons, List.length_nil, Nat.reduceAdd, Nat.zero_add, List.range, List.range.loop])
        | (with_reducible refine mu_cond hK false ?_ ?_; (· first | (walk_nrm; done) | (simp [Act.eval]; done)); simp only [if_true, if_false, Bool.false_eq_true, ↓reduceIte])
        | (with_reducible refine mu_cond hK true ?_ ?_; (· first | (walk_nrm; done) | (simp [Act.eval]; done)); simp only [if_true, if_false, Bool.false_eq_true, ↓reduceIte])
        | (refine mu_unwanted hK rfl rfl ?_; walk_nrm)
        | (refine muv_val hV rfl (by first | exact .inl rfl | exact .inr rfl) rfl (by kernel_rfl) (fun J hJ => ?_); go_simp; with_reducible refine hJ _ ?_; clear hJ J; walk_nrm))
    refine mu_inLoop hK ?_
    refine yek _ ?_
    clear hK hV key yek eK K
    refine (fun (h : ∀ Y, LA = Y → To0 Try.prog Post Z V (G ((base 6).at _ [.code Y, .inLoop Y, .inBlock 0, .code Y6]) [])) => h _ (by simp only [LA, Y6, B6, nva, nvb, nvk, nvl, Try.f6, Option.getD_some])) ?_
    intro Y hY
    subst hY
    refine ih (j + 1) _ (by omega) ?_ ?_
    · exact ⟨by simp, rfl, rfl, rfl, rfl⟩
    · rfl
end
end Go.Proofs.Ytibcdikfbhmheaa
