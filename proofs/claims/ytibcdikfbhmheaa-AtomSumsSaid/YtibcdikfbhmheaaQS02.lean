/- duty's own functions: AtomSums, whole. -/
import Derived.Test.YtibcdikfbhmheaaQS01
set_option linter.unusedSimpArgs false
set_option linter.unusedVariables false
namespace Go.Proofs.Ytibcdikfbhmheaa
open Go Go.Conc Go.Proofs
open Go.ConcN (sumTo upd sumTo_upd upd_ne upd_same)
set_option linter.unusedVariables false
theorem array44 (T : Array Value) (h : T.size = 44) : ∃ v0 v1 v2 v3 v4 v5 v6 v7 v8 v9 v10 v11 v12 v13 v14 v15 v16 v17 v18 v19 v20 v21 v22 v23 v24 v25 v26 v27 v28 v29 v30 v31 v32 v33 v34 v35 v36 v37 v38 v39 v40 v41 v42 v43 : Value, T = #[v0, v1, v2, v3, v4, v5, v6, v7, v8, v9, v10, v11, v12, v13, v14, v15, v16, v17, v18, v19, v20, v21, v22, v23, v24, v25, v26, v27, v28, v29, v30, v31, v32, v33, v34, v35, v36, v37, v38, v39, v40, v41, v42, v43] := by
  obtain ⟨l⟩ := T
  simp only [List.size_toArray] at h
  rcases l with _ | ⟨v0, l⟩
  · simp at h
  rcases l with _ | ⟨v1, l⟩
  · simp at h
  rcases l with _ | ⟨v2, l⟩
  · simp at h
  rcases l with _ | ⟨v3, l⟩
  · simp at h
  rcases l with _ | ⟨v4, l⟩
  · simp at h
  rcases l with _ | ⟨v5, l⟩
  · simp at h
  rcases l with _ | ⟨v6, l⟩
  · simp at h
  rcases l with _ | ⟨v7, l⟩
  · simp at h
  rcases l with _ | ⟨v8, l⟩
  · simp at h
  rcases l with _ | ⟨v9, l⟩
  · simp at h
  rcases l with _ | ⟨v10, l⟩
  · simp at h
  rcases l with _ | ⟨v11, l⟩
  · simp at h
  rcases l with _ | ⟨v12, l⟩
  · simp at h
  rcases l with _ | ⟨v13, l⟩
  · simp at h
  rcases l with _ | ⟨v14, l⟩
  · simp at h
  rcases l with _ | ⟨v15, l⟩
  · simp at h
  rcases l with _ | ⟨v16, l⟩
  · simp at h
  rcases l with _ | ⟨v17, l⟩
  · simp at h
  rcases l with _ | ⟨v18, l⟩
  · simp at h
  rcases l with _ | ⟨v19, l⟩
  · simp at h
  rcases l with _ | ⟨v20, l⟩
  · simp at h
  rcases l with _ | ⟨v21, l⟩
  · simp at h
  rcases l with _ | ⟨v22, l⟩
  · simp at h
  rcases l with _ | ⟨v23, l⟩
  · simp at h
  rcases l with _ | ⟨v24, l⟩
  · simp at h
  rcases l with _ | ⟨v25, l⟩
  · simp at h
  rcases l with _ | ⟨v26, l⟩
  · simp at h
  rcases l with _ | ⟨v27, l⟩
  · simp at h
  rcases l with _ | ⟨v28, l⟩
  · simp at h
  rcases l with _ | ⟨v29, l⟩
  · simp at h
  rcases l with _ | ⟨v30, l⟩
  · simp at h
  rcases l with _ | ⟨v31, l⟩
  · simp at h
  rcases l with _ | ⟨v32, l⟩
  · simp at h
  rcases l with _ | ⟨v33, l⟩
  · simp at h
  rcases l with _ | ⟨v34, l⟩
  · simp at h
  rcases l with _ | ⟨v35, l⟩
  · simp at h
  rcases l with _ | ⟨v36, l⟩
  · simp at h
  rcases l with _ | ⟨v37, l⟩
  · simp at h
  rcases l with _ | ⟨v38, l⟩
  · simp at h
  rcases l with _ | ⟨v39, l⟩
  · simp at h
  rcases l with _ | ⟨v40, l⟩
  · simp at h
  rcases l with _ | ⟨v41, l⟩
  · simp at h
  rcases l with _ | ⟨v42, l⟩
  · simp at h
  rcases l with _ | ⟨v43, l⟩
  · simp at h
  rcases l with _ | ⟨x, l⟩
  · exact ⟨v0, v1, v2, v3, v4, v5, v6, v7, v8, v9, v10, v11, v12, v13, v14, v15, v16, v17, v18, v19, v20, v21, v22, v23, v24, v25, v26, v27, v28, v29, v30, v31, v32, v33, v34, v35, v36, v37, v38, v39, v40, v41, v42, v43, rfl⟩
  · simp at h
noncomputable def B8s : Code := Try.f8.body.getD .skip
noncomputable def SL : Code := nvl (nvk (nvb (nva (nvb (nvb (nvb (nvb (nvb B8s))))))))
noncomputable def SY : Code := nvb (nvb (nvb (nvb (nvb (nvb B8s)))))
def adf (ab lbx : Nat) (ibx : Nat → Nat) (j : Nat) : Value := .func (.func 33) #[] #[bp ab, bp lbx, bp (ibx j)]
def adfs (ab lbx : Nat) (ibx : Nat → Nat) (k : Nat) : List Value := (List.range k).map (adf ab lbx ibx)
structure As (ab lbx : Nat) (V0 : World) (k : Nat) (ibx : Nat → Nat) (cb : Nat) (V : World) (fv : Value) : Prop where
  nrm : norm V = V
  kp : Kp V0 V
  row : V.ownsRow 0 70 1 fv k (adfs ab lbx ibx k)
  rown : ∀ b, fv.ownBlock = some b → V0.heap.size ≤ b
  ib : ∀ j, j < k → V0.heap.size ≤ ibx j ∧ V.heap[ibx j]? = some (.cells #[.int .i64 (j : Int)] 3 (0, 0))
  cb : V0.heap.size ≤ cb ∧ V.heap[cb]? = some (.cells #[.int .i64 (k : Int)] 3 (0, 0))
theorem as_next {ab lbx : Nat} {V0 : World} {k : Nat} {ibx : Nat → Nat} {cb : Nat} {V V1 V2 V5 : World} {fv fv' : Value} {nb : Nat} (M : As ab lbx V0 k ibx cb V fv) (s1 : V1.heap.size = V.heap.size + 1) (k1 : Kp V V1)
    (h5 : V2.ownsRow 0 70 1 fv' (k + 1) (adfs ab lbx ibx k ++ [.func (.func 33) #[] #[bp ab, bp lbx, bp cb]])) (h6 : V1.heap.size ≤ V2.heap.size ∧ ∀ b, b < V1.heap.size → fv.ownBlock ≠ some b → V2.heap[b]? = V1.heap[b]?) (h7 : fv'.ownBlock = fv.ownBlock ∨ fv'.ownBlock = some V1.heap.size)
    (hn5 : norm V5 = V5) (hnb : V2.heap.size ≤ nb) (k5 : Kp V2 V5) (c5 : V5.heap[nb]? = some (.cells #[.int .i64 ((k + 1 : Nat) : Int)] 3 (0, 0))) : As ab lbx V0 (k + 1) (upd ibx k cb) nb V5 fv' := by
  have hkp := M.kp.size
  have hof : ∀ b, fv.ownBlock = some b → b < V.heap.size := fun b hb => row_at M.row hb
  have keep : ∀ (b : Nat) (c : Array Value), V.heap[b]? = some (.cells c 3 (0, 0)) → V5.heap[b]? = some (.cells c 3 (0, 0)) := fun b c hb => by
    have hlt := (Array.getElem?_eq_some_iff.1 hb).1
    rw [k5.keep b (by omega), h6.2 b (by omega) (own_ty M.row hb (by decide)), k1.keep b hlt]
    exact hb
  refine ⟨hn5, ⟨by have := k5.size; omega, fun b hb => by rw [k5.keep b (by omega), h6.2 b (by omega) (fun e => by have := M.rown b e; omega), k1.keep b (by omega), M.kp.keep b hb]⟩, ?_, fun b hb => ?_, fun j hj => ?_, by omega, c5⟩
  · have e : adfs ab lbx (upd ibx k cb) (k + 1) = adfs ab lbx ibx k ++ [.func (.func 33) #[] #[bp ab, bp lbx, bp cb]] := by
      unfold adfs
      rw [List.range_succ, List.map_append]
      congr 1
      · apply List.map_congr_left
        intro j hj
        have : j < k := List.mem_range.1 hj
        unfold adf
        rw [upd_ne _ _ (by omega)]
      · simp [adf, upd_same]
    rw [e]
    exact row_keep h5 fun b hb => k5.keep b (row_at h5 hb)
  · rcases h7 with h | h
    · exact M.rown b (by rw [← h]; exact hb)
    · rw [h] at hb
      obtain rfl : V1.heap.size = b := by simpa using hb
      omega
  · by_cases e : j = k
    · subst e; rw [upd_same]; exact ⟨M.cb.1, keep _ _ M.cb.2⟩
    · rw [upd_ne _ _ e]
      obtain ⟨h1, h2⟩ := M.ib j (by omega)
      exact ⟨h1, keep _ _ h2⟩
def HS (T : Array Value) (pv : Value) (ab lbx cb : Nat) (sm : Int) (fv : Value) : Prop := T.size = 44 ∧ T[1]? = some pv ∧ T[2]? = some (bp lbx) ∧ T[5]? = some (bp ab) ∧ T[6]? = some (.int .i64 sm) ∧ T[7]? = some fv ∧ T[8]? = some (bp cb)
section
variable {W V V0 : World} {Z : Cuts} {n lc ab lbx : Nat} {la : Option Addr} {d : Nat → Int} {pv : Value}
set_option maxRecDepth 100000 in
set_option maxHeartbeats 4000000 in
theorem sums_loop (hn : n ≤ 30) (hlb : V0.heap[lbx]? = some (.cells #[.slice la n lc] 23 (0, 0))) (hy : 0 < n → ∃ g o, la = some ⟨g, o, none⟩ ∧ g < V0.heap.size ∧ ∀ j, j < n → V0.cell? ⟨g, o + j, none⟩ = some (.int .i64 (d j)))
    (Kend : ∀ T V ibx cb fv, As ab lbx V0 n ibx cb V fv → HS T pv ab lbx cb (sumw d n) fv → To0 Try.prog (LPost W) Z V (G ((base 8).at ⟨T, []⟩ [.code SY]) [])) :
    ∀ (m k : Nat) T V ibx cb fv, m + k = n → As ab lbx V0 k ibx cb V fv → HS T pv ab lbx cb (sumw d k) fv → To0 Try.prog (LPost W) Z V (G ((base 8).at ⟨T, []⟩ [.code SL, .inLoop SL, .inBlock 0, .code SY]) []) := by
  intro m
  induction m with
  | zero =>
    intro k T V ibx cb fv hmk M ⟨hs, t1, t2, t5, t6, t7, t8⟩
    obtain rfl : k = n := by omega
    have hnV := M.nrm
    have d1 : ∀ τ, (re V τ 0).cell? ⟨lbx, 0, none⟩ = some (.slice la k lc) := fun τ => M.kp.cell (cell_of hlb (by simp))
    have d2 : ∀ τ, (re V τ 0).cell? ⟨cb, 0, none⟩ = some (.int .i64 (k : Int)) := fun τ => cell_of M.cb.2 (by simp)
    have q1 : decide ((k : Int) < (k : Int)) = false := decide_eq_false (by omega)
    have Kend' := fun T h => Kend T V ibx cb fv M h
    clear Kend
    generalize sumw d k = sm at *
    obtain ⟨v0, v1, v2, v3, v4, v5, v6, v7, v8, v9, v10, v11, v12, v13, v14, v15, v16, v17, v18, v19, v20, v21, v22, v23, v24, v25, v26, v27, v28, v29, v30, v31, v32, v33, v34, v35, v36, v37, v38, v39, v40, v41, v42, v43, rfl⟩ := array44 T hs
    simp only [List.getElem?_toArray, List.getElem?_cons_zero, List.getElem?_cons_succ, Option.some.injEq, bp] at t1 t2 t5 t6 t7 t8
    subst t1 t2 t5 t6 t7 t8
    refine (fun (h : ∀ X, X = SL → To0 Try.prog (LPost W) Z V (G ((base 8).at ⟨_, []⟩ [.code X, .inLoop SL, .inBlock 0, .code SY]) [])) => h SL rfl) ?_
    intro X hX
    simp only [SL, SY, B8s, nva, nvb, nvk, nvl, Try.f8, Option.getD_some] at hX
    subst hX
    obtain ⟨K, eK⟩ : ∃ K : Goroutine → Prop, K = fun g => To0 Try.prog (LPost W) Z V g := ⟨_, rfl⟩
    have hK : Mu Try.prog (fun _ => True) K := by rw [eK]; exact mu_to0
    have hV : MuV Try.prog Lone V K := by rw [eK]; exact muv_to0 hnV
    have key : ∀ g, K g → (fun g => To0 Try.prog (LPost W) Z V g) g := fun g h => by rw [eK] at h; exact h
    have yek : ∀ g, (fun g => To0 Try.prog (LPost W) Z V g) g → K g := fun g h => by rw [eK]; exact h
    refine key _ ?_
    repeat (
      first
        | with_reducible refine mu_seq hK ?_
        | with_reducible refine mu_skip hK ?_
        | (with_reducible refine mu_region_end hK ?_; try subst hkk)
        | with_reducible refine mu_block hK ?_
        | with_reducible refine mu_inBlock hK ?_
        | with_reducible refine mu_ret hK ?_
        | with_reducible refine mu_end hK ?_
        | refine mu_exit hK rfl ?_
        | (with_reducible refine mu_regionH hK (fun kk hkk => ?_); simp only [List.size_toArray, List.length_cons, List.length_nil, Nat.reduceAdd, Nat.zero_add, List.range, List.range.loop])
        | (with_reducible refine mu_cond hK false ?_ ?_; (· first | (walk_nrm; done) | (simp [Act.eval]; done)); simp only [if_true, if_false, Bool.false_eq_true, ↓reduceIte])
        | (with_reducible refine mu_cond hK true ?_ ?_; (· first | (walk_nrm; done) | (simp [Act.eval]; done)); simp only [if_true, if_false, Bool.false_eq_true, ↓reduceIte])
        | (refine mu_unwanted hK rfl rfl ?_; walk_nrm)
        | (refine muv_val hV rfl (by first | exact .inl rfl | exact .inr rfl) rfl (by kernel_rfl) (fun J hJ => ?_); go_simp; with_reducible refine hJ _ ?_; clear hJ J; walk_nrm))
    refine yek _ ?_
    clear hK hV key yek eK K
    refine Kend' _ ?_
    exact ⟨by simp, rfl, rfl, rfl, rfl, rfl, rfl⟩
  | succ m ih =>
    intro k T V ibx cb fv hmk M ⟨hs, t1, t2, t5, t6, t7, t8⟩
    have hk : k < n := by omega
    have hnV := M.nrm
    obtain ⟨g, o, hla, hg, hc⟩ := hy (by omega)
    have d1 : ∀ τ, (re V τ 0).cell? ⟨lbx, 0, none⟩ = some (.slice (some ⟨g, o, none⟩) n lc) := fun τ => by rw [← hla]; exact M.kp.cell (cell_of hlb (by simp))
    have d2 : ∀ τ, (re V τ 0).cell? ⟨cb, 0, none⟩ = some (.int .i64 (k : Int)) := fun τ => cell_of M.cb.2 (by simp)
    have d3 : ∀ τ, (re V τ 0).cell? ⟨g, o + k, none⟩ = some (.int .i64 (d k)) := fun τ => M.kp.cell (hc k hk)
    have q1 : decide ((k : Int) < (n : Int)) = true := decide_eq_true (by omega)
    have q2 : ¬ ((k : Int) < 0) := by omega
    have q3 : ¬ ((n : Int) ≤ (k : Int)) := by omega
    have w4 : IntKind.i64.wrap ((k : Int) + 1) = ((k + 1 : Nat) : Int) := by rw [IntKind.wrap_i64]; omega
    have ih' := ih (k + 1)
    have hsw : sumw d (k + 1) = IntKind.i64.wrap (sumw d k + d k) := rfl
    rw [hsw] at ih'
    clear hsw ih hc Kend hla hy hlb
    generalize sumw d k = sm at *
    obtain ⟨sm', hsm⟩ : ∃ sm', IntKind.i64.wrap (sm + d k) = sm' := ⟨_, rfl⟩
    rw [hsm] at ih'
    obtain ⟨v0, v1, v2, v3, v4, v5, v6, v7, v8, v9, v10, v11, v12, v13, v14, v15, v16, v17, v18, v19, v20, v21, v22, v23, v24, v25, v26, v27, v28, v29, v30, v31, v32, v33, v34, v35, v36, v37, v38, v39, v40, v41, v42, v43, rfl⟩ := array44 T hs
    simp only [List.getElem?_toArray, List.getElem?_cons_zero, List.getElem?_cons_succ, Option.some.injEq, bp] at t1 t2 t5 t6 t7 t8
    subst t1 t2 t5 t6 t7 t8
    refine (fun (h : ∀ X, X = SL → To0 Try.prog (LPost W) Z V (G ((base 8).at ⟨_, []⟩ [.code X, .inLoop SL, .inBlock 0, .code SY]) [])) => h SL rfl) ?_
    intro X hX
    simp only [SL, SY, B8s, nva, nvb, nvk, nvl, Try.f8, Option.getD_some] at hX
    subst hX
    obtain ⟨K, eK⟩ : ∃ K : Goroutine → Prop, K = fun g => To0 Try.prog (LPost W) Z V g := ⟨_, rfl⟩
    have hK : Mu Try.prog (fun _ => True) K := by rw [eK]; exact mu_to0
    have hV : MuV Try.prog Lone V K := by rw [eK]; exact muv_to0 hnV
    have key : ∀ g, K g → (fun g => To0 Try.prog (LPost W) Z V g) g := fun g h => by rw [eK] at h; exact h
    have yek : ∀ g, (fun g => To0 Try.prog (LPost W) Z V g) g → K g := fun g h => by rw [eK]; exact h
    refine key _ ?_
    repeat (
      first
        | with_reducible refine mu_seq hK ?_
        | with_reducible refine mu_skip hK ?_
        | (with_reducible refine mu_region_end hK ?_; try subst hkk)
        | with_reducible refine mu_block hK ?_
        | with_reducible refine mu_inBlock hK ?_
        | with_reducible refine mu_ret hK ?_
        | with_reducible refine mu_end hK ?_
        | refine mu_exit hK rfl ?_
        | (with_reducible refine mu_regionH hK (fun kk hkk => ?_); simp only [List.size_toArray, List.length_cons, List.length_nil, Nat.reduceAdd, Nat.zero_add, List.range, List.range.loop])
        | (with_reducible refine mu_cond hK false ?_ ?_; (· first | (walk_nrm; done) | (simp [Act.eval]; done)); simp only [if_true, if_false, Bool.false_eq_true, ↓reduceIte])
        | (with_reducible refine mu_cond hK true ?_ ?_; (· first | (walk_nrm; done) | (simp [Act.eval]; done)); simp only [if_true, if_false, Bool.false_eq_true, ↓reduceIte])
        | (refine mu_unwanted hK rfl rfl ?_; walk_nrm)
        | (refine muv_val hV rfl (by first | exact .inl rfl | exact .inr rfl) rfl (by kernel_rfl) (fun J hJ => ?_); go_simp; with_reducible refine hJ _ ?_; clear hJ J; walk_nrm))
    refine yek _ ?_
    clear hK hV key yek eK K
    have hn1 : norm (V.alloc (.cells #[.func (.func 33) #[] #[.pointer (some ⟨ab, 0, none⟩), .pointer (some ⟨lbx, 0, none⟩), .pointer (some ⟨cb, 0, none⟩)]] 70)) = (V.alloc (.cells #[.func (.func 33) #[] #[.pointer (some ⟨ab, 0, none⟩), .pointer (some ⟨lbx, 0, none⟩), .pointer (some ⟨cb, 0, none⟩)]] 70)) := norm_al hnV _
    refine mua_put (L := Lone) (v := .slice (some ⟨V.heap.size, 0, none⟩) 1 1) (mua_to0 hn1) (K := fun g => To0 Try.prog (LPost W) Z V g) (K' := fun g => To0 Try.prog (LPost W) Z (V.alloc (.cells #[.func (.func 33) #[] #[.pointer (some ⟨ab, 0, none⟩), .pointer (some ⟨lbx, 0, none⟩), .pointer (some ⟨cb, 0, none⟩)]] 70)) g) rfl (.inl rfl) rfl (by kernel_rfl) (fun τ => ?_) ?_
    · go_simp
      first | exact ⟨by first | rfl | assumption | (simp only [re]; omega), rfl⟩ | rfl | (simp; done)
    have sV1 : (V.alloc (.cells #[.func (.func 33) #[] #[.pointer (some ⟨ab, 0, none⟩), .pointer (some ⟨lbx, 0, none⟩), .pointer (some ⟨cb, 0, none⟩)]] 70)).heap.size = V.heap.size + 1 := al_size _ _
    have kV1 : Kp V (V.alloc (.cells #[.func (.func 33) #[] #[.pointer (some ⟨ab, 0, none⟩), .pointer (some ⟨lbx, 0, none⟩), .pointer (some ⟨cb, 0, none⟩)]] 70)) := kp_alloc _ _
    have rV1 : (V.alloc (.cells #[.func (.func 33) #[] #[.pointer (some ⟨ab, 0, none⟩), .pointer (some ⟨lbx, 0, none⟩), .pointer (some ⟨cb, 0, none⟩)]] 70)).heap[V.heap.size]? = some (.cells #[.func (.func 33) #[] #[.pointer (some ⟨ab, 0, none⟩), .pointer (some ⟨lbx, 0, none⟩), .pointer (some ⟨cb, 0, none⟩)]] 70) := by rw [al_get, if_pos rfl]
    generalize (V.alloc (.cells #[.func (.func 33) #[] #[.pointer (some ⟨ab, 0, none⟩), .pointer (some ⟨lbx, 0, none⟩), .pointer (some ⟨cb, 0, none⟩)]] 70)) = V1 at *
    walk_nrm
    have c4 : V1.cell? ⟨V.heap.size, 0, none⟩ = some (.func (.func 33) #[] #[.pointer (some ⟨ab, 0, none⟩), .pointer (some ⟨lbx, 0, none⟩), .pointer (some ⟨cb, 0, none⟩)]) := cell_of rV1 (by simp)
    have r4 : V1.ownsRow 0 70 1 v7 k (adfs ab lbx ibx k) := row_keep M.row fun b hb => kV1.keep b (row_at M.row hb)
    obtain ⟨K, eK⟩ : ∃ K : Goroutine → Prop, K = fun g => To0 Try.prog (LPost W) Z V1 g := ⟨_, rfl⟩
    have hK : Mu Try.prog (fun _ => True) K := by rw [eK]; exact mu_to0
    have hV : MuV Try.prog Lone V1 K := by rw [eK]; exact muv_to0 hn1
    have key : ∀ g, K g → (fun g => To0 Try.prog (LPost W) Z V1 g) g := fun g h => by rw [eK] at h; exact h
    have yek : ∀ g, (fun g => To0 Try.prog (LPost W) Z V1 g) g → K g := fun g h => by rw [eK]; exact h
    refine key _ ?_
    repeat (
      first
        | with_reducible refine mu_seq hK ?_
        | with_reducible refine mu_skip hK ?_
        | (with_reducible refine mu_region_end hK ?_; try subst hkk)
        | with_reducible refine mu_block hK ?_
        | with_reducible refine mu_inBlock hK ?_
        | with_reducible refine mu_ret hK ?_
        | with_reducible refine mu_end hK ?_
        | refine mu_exit hK rfl ?_
        | (with_reducible refine mu_regionH hK (fun kk hkk => ?_); simp only [List.size_toArray, List.length_cons, List.length_nil, Nat.reduceAdd, Nat.zero_add, List.range, List.range.loop])
        | (with_reducible refine mu_cond hK false ?_ ?_; (· first | (walk_nrm; done) | (simp [Act.eval]; done)); simp only [if_true, if_false, Bool.false_eq_true, ↓reduceIte])
        | (with_reducible refine mu_cond hK true ?_ ?_; (· first | (walk_nrm; done) | (simp [Act.eval]; done)); simp only [if_true, if_false, Bool.false_eq_true, ↓reduceIte])
        | (refine mu_unwanted hK rfl rfl ?_; walk_nrm)
        | (refine muv_val hV rfl (by first | exact .inl rfl | exact .inr rfl) rfl (by kernel_rfl) (fun J hJ => ?_); go_simp; with_reducible refine hJ _ ?_; clear hJ J; walk_nrm))
    refine yek _ ?_
    clear hK hV key yek eK K
    refine to0_ex (L := Lone) rfl rfl rfl (by kernel_rfl) (fun v W => W.ownsRow 0 70 1 v (k + 1) (adfs ab lbx ibx k ++ [.func (.func 33) #[] #[.pointer (some ⟨ab, 0, none⟩), .pointer (some ⟨lbx, 0, none⟩), .pointer (some ⟨cb, 0, none⟩)]]) ∧ (V1.heap.size ≤ W.heap.size ∧ ∀ b, b < V1.heap.size → v7.ownBlock ≠ some b → W.heap[b]? = V1.heap[b]?) ∧ (v.ownBlock = v7.ownBlock ∨ v.ownBlock = some V1.heap.size)) (fun τ => ?_) (fun fv' V2 ⟨r1, r2, r3⟩ hn2 => ?_)
    · obtain ⟨v', w', a1, a2, a3, a4⟩ := app_one (t := 49) Try.underlying49 info70 rfl (by decide) r4 c4 rfl (by omega) τ
      refine ⟨v', w', ?_, a2, a3, a4⟩
      exact run_app_opm (s := .tmp 30) (x := .tmp 32) rfl rfl rfl a1
    have e2 : ∀ τ, (re V2 τ 0).cell? ⟨cb, 0, none⟩ = some (.int .i64 (k : Int)) := fun τ => by
      have h := M.cb.2
      have hlt := (Array.getElem?_eq_some_iff.1 h).1
      exact cell_of ((r2.2 cb (by omega) (own_ty M.row h (by decide))).trans ((kV1.keep cb hlt).trans h)) (by simp)
    walk_nrm
    obtain ⟨K, eK⟩ : ∃ K : Goroutine → Prop, K = fun g => To0 Try.prog (LPost W) Z V2 g := ⟨_, rfl⟩
    have hK : Mu Try.prog (fun _ => True) K := by rw [eK]; exact mu_to0
    have hV : MuV Try.prog Lone V2 K := by rw [eK]; exact muv_to0 hn2
    have key : ∀ g, K g → (fun g => To0 Try.prog (LPost W) Z V2 g) g := fun g h => by rw [eK] at h; exact h
    have yek : ∀ g, (fun g => To0 Try.prog (LPost W) Z V2 g) g → K g := fun g h => by rw [eK]; exact h
    refine key _ ?_
    repeat (
      first
        | with_reducible refine mu_seq hK ?_
        | with_reducible refine mu_skip hK ?_
        | (with_reducible refine mu_region_end hK ?_; try subst hkk)
        | with_reducible refine mu_block hK ?_
        | with_reducible refine mu_inBlock hK ?_
        | with_reducible refine mu_ret hK ?_
        | with_reducible refine mu_end hK ?_
        | refine mu_exit hK rfl ?_
        | (with_reducible refine mu_regionH hK (fun kk hkk => ?_); simp only [List.size_toArray, List.length_cons, List.length_nil, Nat.reduceAdd, Nat.zero_add, List.range, List.range.loop])
        | (with_reducible refine mu_cond hK false ?_ ?_; (· first | (walk_nrm; done) | (simp [Act.eval]; done)); simp only [if_true, if_false, Bool.false_eq_true, ↓reduceIte])
        | (with_reducible refine mu_cond hK true ?_ ?_; (· first | (walk_nrm; done) | (simp [Act.eval]; done)); simp only [if_true, if_false, Bool.false_eq_true, ↓reduceIte])
        | (refine mu_unwanted hK rfl rfl ?_; walk_nrm)
        | (refine muv_val hV rfl (by first | exact .inl rfl | exact .inr rfl) rfl (by kernel_rfl) (fun J hJ => ?_); go_simp; with_reducible refine hJ _ ?_; clear hJ J; walk_nrm))
    refine yek _ ?_
    clear hK hV key yek eK K
    have hn3 : norm (V2.alloc (.cells #[.int .i64 0] 3)) = (V2.alloc (.cells #[.int .i64 0] 3)) := norm_al hn2 _
    refine mua_put (L := Lone) (v := .pointer (some ⟨V2.heap.size, 0, none⟩)) (mua_to0 hn3) (K := fun g => To0 Try.prog (LPost W) Z V2 g) (K' := fun g => To0 Try.prog (LPost W) Z (V2.alloc (.cells #[.int .i64 0] 3)) g) rfl (.inl rfl) rfl (by kernel_rfl) (fun τ => ?_) ?_
    · go_simp
      first | exact ⟨by first | rfl | assumption | (simp only [re]; omega), rfl⟩ | rfl | (simp; done)
    have sV3 : (V2.alloc (.cells #[.int .i64 0] 3)).heap.size = V2.heap.size + 1 := al_size _ _
    have kV3 : Kp V2 (V2.alloc (.cells #[.int .i64 0] 3)) := kp_alloc _ _
    have rV3 : (V2.alloc (.cells #[.int .i64 0] 3)).heap[V2.heap.size]? = some (.cells #[.int .i64 0] 3) := by rw [al_get, if_pos rfl]
    generalize (V2.alloc (.cells #[.int .i64 0] 3)) = V3 at *
    walk_nrm
    obtain ⟨nb, enb⟩ : ∃ nb, nb = V2.heap.size := ⟨_, rfl⟩
    rw [← enb] at rV3 ⊢
    have enb1 : V2.heap.size ≤ nb := by omega
    clear enb
    have f1 : ∀ τ, (re V3 τ 0).cell? ⟨nb, 0, none⟩ = some (.int .i64 0) := fun τ => cell_of rV3 (by simp)
    have z1 : ∀ τ, (re V3 τ 0).frozen? ⟨nb, 0, none⟩ = false := fun τ => by simp [World.frozen?, re, rV3]
    obtain ⟨K, eK⟩ : ∃ K : Goroutine → Prop, K = fun g => To0 Try.prog (LPost W) Z V3 g := ⟨_, rfl⟩
    have hK : Mu Try.prog (fun _ => True) K := by rw [eK]; exact mu_to0
    have hV : MuV Try.prog Lone V3 K := by rw [eK]; exact muv_to0 hn3
    have key : ∀ g, K g → (fun g => To0 Try.prog (LPost W) Z V3 g) g := fun g h => by rw [eK] at h; exact h
    have yek : ∀ g, (fun g => To0 Try.prog (LPost W) Z V3 g) g → K g := fun g h => by rw [eK]; exact h
    refine key _ ?_
    repeat (
      first
        | with_reducible refine mu_seq hK ?_
        | with_reducible refine mu_skip hK ?_
        | (with_reducible refine mu_region_end hK ?_; try subst hkk)
        | with_reducible refine mu_block hK ?_
        | with_reducible refine mu_inBlock hK ?_
        | with_reducible refine mu_ret hK ?_
        | with_reducible refine mu_end hK ?_
        | refine mu_exit hK rfl ?_
        | (with_reducible refine mu_regionH hK (fun kk hkk => ?_); simp only [List.size_toArray, List.length_cons, List.length_nil, Nat.reduceAdd, Nat.zero_add, List.range, List.range.loop])
        | (with_reducible refine mu_cond hK false ?_ ?_; (· first | (walk_nrm; done) | (simp [Act.eval]; done)); simp only [if_true, if_false, Bool.false_eq_true, ↓reduceIte])
        | (with_reducible refine mu_cond hK true ?_ ?_; (· first | (walk_nrm; done) | (simp [Act.eval]; done)); simp only [if_true, if_false, Bool.false_eq_true, ↓reduceIte])
        | (refine mu_unwanted hK rfl rfl ?_; walk_nrm)
        | (refine muv_val hV rfl (by first | exact .inl rfl | exact .inr rfl) rfl (by kernel_rfl) (fun J hJ => ?_); go_simp; with_reducible refine hJ _ ?_; clear hJ J; walk_nrm))
    refine yek _ ?_
    clear hK hV key yek eK K
    have hn4 : norm (V3.setCell ⟨nb, 0, none⟩ (.int .i64 (k : Int))) = (V3.setCell ⟨nb, 0, none⟩ (.int .i64 (k : Int))) := norm_set hn3 _ _
    have kV4 : Kp V2 (V3.setCell ⟨nb, 0, none⟩ (.int .i64 (k : Int))) := kp_set kV3 enb1
    have rV4 : (V3.setCell ⟨nb, 0, none⟩ (.int .i64 (k : Int))).heap[nb]? = some (.cells #[.int .i64 (k : Int)] 3 (0, 0)) := by rw [setCell_heap, if_pos rfl, rV3]; simp
    refine mus_put (L := Lone) (mus_to0 hn4) (K := fun g => To0 Try.prog (LPost W) Z V3 g) (K' := fun g => To0 Try.prog (LPost W) Z (V3.setCell ⟨nb, 0, none⟩ (.int .i64 (k : Int))) g) rfl (.inl rfl) rfl (by kernel_rfl) (fun τ => ?_) ?_
    · go_simp
      rfl
    clear f1 z1
    generalize (V3.setCell ⟨nb, 0, none⟩ (.int .i64 (k : Int))) = V4 at *
    have f1 : ∀ τ, (re V4 τ 0).cell? ⟨nb, 0, none⟩ = some (.int .i64 (k : Int)) := fun τ => cell_of rV4 (by simp)
    have z1 : ∀ τ, (re V4 τ 0).frozen? ⟨nb, 0, none⟩ = false := fun τ => by simp [World.frozen?, re, rV4]
    walk_nrm
    obtain ⟨K, eK⟩ : ∃ K : Goroutine → Prop, K = fun g => To0 Try.prog (LPost W) Z V4 g := ⟨_, rfl⟩
    have hK : Mu Try.prog (fun _ => True) K := by rw [eK]; exact mu_to0
    have hV : MuV Try.prog Lone V4 K := by rw [eK]; exact muv_to0 hn4
    have key : ∀ g, K g → (fun g => To0 Try.prog (LPost W) Z V4 g) g := fun g h => by rw [eK] at h; exact h
    have yek : ∀ g, (fun g => To0 Try.prog (LPost W) Z V4 g) g → K g := fun g h => by rw [eK]; exact h
    refine key _ ?_
    repeat (
      first
        | with_reducible refine mu_seq hK ?_
        | with_reducible refine mu_skip hK ?_
        | (with_reducible refine mu_region_end hK ?_; try subst hkk)
        | with_reducible refine mu_block hK ?_
        | with_reducible refine mu_inBlock hK ?_
        | with_reducible refine mu_ret hK ?_
        | with_reducible refine mu_end hK ?_
        | refine mu_exit hK rfl ?_
        | (with_reducible refine mu_regionH hK (fun kk hkk => ?_); simp only [List.size_toArray, List.length_cons, List.length_nil, Nat.reduceAdd, Nat.zero_add, List.range, List.range.loop])
        | (with_reducible refine mu_cond hK false ?_ ?_; (· first | (walk_nrm; done) | (simp [Act.eval]; done)); simp only [if_true, if_false, Bool.false_eq_true, ↓reduceIte])
        | (with_reducible refine mu_cond hK true ?_ ?_; (· first | (walk_nrm; done) | (simp [Act.eval]; done)); simp only [if_true, if_false, Bool.false_eq_true, ↓reduceIte])
        | (refine mu_unwanted hK rfl rfl ?_; walk_nrm)
        | (refine muv_val hV rfl (by first | exact .inl rfl | exact .inr rfl) rfl (by kernel_rfl) (fun J hJ => ?_); go_simp; with_reducible refine hJ _ ?_; clear hJ J; walk_nrm))
    refine yek _ ?_
    clear hK hV key yek eK K
    have hn5 : norm (V4.setCell ⟨nb, 0, none⟩ (.int .i64 ((k + 1 : Nat) : Int))) = (V4.setCell ⟨nb, 0, none⟩ (.int .i64 ((k + 1 : Nat) : Int))) := norm_set hn4 _ _
    have kV5 : Kp V2 (V4.setCell ⟨nb, 0, none⟩ (.int .i64 ((k + 1 : Nat) : Int))) := kp_set kV4 enb1
    have rV5 : (V4.setCell ⟨nb, 0, none⟩ (.int .i64 ((k + 1 : Nat) : Int))).heap[nb]? = some (.cells #[.int .i64 ((k + 1 : Nat) : Int)] 3 (0, 0)) := by rw [setCell_heap, if_pos rfl, rV4]; simp
    refine mus_put (L := Lone) (mus_to0 hn5) (K := fun g => To0 Try.prog (LPost W) Z V4 g) (K' := fun g => To0 Try.prog (LPost W) Z (V4.setCell ⟨nb, 0, none⟩ (.int .i64 ((k + 1 : Nat) : Int))) g) rfl (.inl rfl) rfl (by kernel_rfl) (fun τ => ?_) ?_
    · go_simp
      rfl
    clear f1 z1
    generalize (V4.setCell ⟨nb, 0, none⟩ (.int .i64 ((k + 1 : Nat) : Int))) = V5 at *
    have f1 : ∀ τ, (re V5 τ 0).cell? ⟨nb, 0, none⟩ = some (.int .i64 ((k + 1 : Nat) : Int)) := fun τ => cell_of rV5 (by simp)
    have z1 : ∀ τ, (re V5 τ 0).frozen? ⟨nb, 0, none⟩ = false := fun τ => by simp [World.frozen?, re, rV5]
    walk_nrm
    obtain ⟨K, eK⟩ : ∃ K : Goroutine → Prop, K = fun g => To0 Try.prog (LPost W) Z V5 g := ⟨_, rfl⟩
    have hK : Mu Try.prog (fun _ => True) K := by rw [eK]; exact mu_to0
    have hV : MuV Try.prog Lone V5 K := by rw [eK]; exact muv_to0 hn5
    have key : ∀ g, K g → (fun g => To0 Try.prog (LPost W) Z V5 g) g := fun g h => by rw [eK] at h; exact h
    have yek : ∀ g, (fun g => To0 Try.prog (LPost W) Z V5 g) g → K g := fun g h => by rw [eK]; exact h
    refine key _ ?_
    repeat (
      first
        | with_reducible refine mu_seq hK ?_
        | with_reducible refine mu_skip hK ?_
        | (with_reducible refine mu_region_end hK ?_; try subst hkk)
        | with_reducible refine mu_block hK ?_
        | with_reducible refine mu_inBlock hK ?_
        | with_reducible refine mu_ret hK ?_
        | with_reducible refine mu_end hK ?_
        | refine mu_exit hK rfl ?_
        | (with_reducible refine mu_regionH hK (fun kk hkk => ?_); simp only [List.size_toArray, List.length_cons, List.length_nil, Nat.reduceAdd, Nat.zero_add, List.range, List.range.loop])
        | (with_reducible refine mu_cond hK false ?_ ?_; (· first | (walk_nrm; done) | (simp [Act.eval]; done)); simp only [if_true, if_false, Bool.false_eq_true, ↓reduceIte])
        | (with_reducible refine mu_cond hK true ?_ ?_; (· first | (walk_nrm; done) | (simp [Act.eval]; done)); simp only [if_true, if_false, Bool.false_eq_true, ↓reduceIte])
        | (refine mu_unwanted hK rfl rfl ?_; walk_nrm)
        | (refine muv_val hV rfl (by first | exact .inl rfl | exact .inr rfl) rfl (by kernel_rfl) (fun J hJ => ?_); go_simp; with_reducible refine hJ _ ?_; clear hJ J; walk_nrm))
    refine mu_inLoop hK ?_
    refine yek _ ?_
    clear hK hV key yek eK K
    have M' := as_next M sV1 kV1 r1 r2 r3 hn5 enb1 kV5 rV5
    refine (fun (h : ∀ Y, SL = Y → To0 Try.prog (LPost W) Z V5 (G ((base 8).at _ [.code Y, .inLoop Y, .inBlock 0, .code SY]) [])) => h _ (by simp only [SL, SY, B8s, nva, nvb, nvk, nvl, Try.f8, Option.getD_some])) ?_
    intro Y hY
    subst hY
    exact ih' _ V5 _ nb fv' (by omega) M' ⟨by simp, rfl, rfl, rfl, rfl, rfl, rfl⟩
set_option maxRecDepth 100000 in
set_option maxHeartbeats 4000000 in
theorem atom_sums (L : LS W Z V) {ps : List Int} (hy : 0 < n → ∃ g o, la = some ⟨g, o, none⟩ ∧ g < V.heap.size ∧ ∀ j, j < n → V.cell? ⟨g, o + j, none⟩ = some (.int .i64 (d j))) (hp : Pks V (fun _ => False) pv ps) :
    To0 Try.prog (LPost W) Z V (G (Frame.enter Try.prog 8 #[.slice la n lc, pv] .normal) []) := by
  obtain ⟨pb, pc, hpv, hpr⟩ := hp.v
  subst hpv
  rw [enter_at (P := Try.prog) _ Try.func8 rfl]
  simp only [Try.f8]
  walk_nrm
  obtain ⟨K, eK⟩ : ∃ K : Goroutine → Prop, K = fun g => To0 Try.prog (LPost W) Z V g := ⟨_, rfl⟩
  have hK : Mu Try.prog (fun _ => True) K := by rw [eK]; exact mu_to0
  have hV : MuV Try.prog Lone V K := by rw [eK]; exact muv_to0 L.n
  have key : ∀ g, K g → (fun g => To0 Try.prog (LPost W) Z V g) g := fun g h => by rw [eK] at h; exact h
  have yek : ∀ g, (fun g => To0 Try.prog (LPost W) Z V g) g → K g := fun g h => by rw [eK]; exact h
  refine key _ ?_
  repeat (
    first
      | with_reducible refine mu_seq hK ?_
      | with_reducible refine mu_skip hK ?_
      | (with_reducible refine mu_region_end hK ?_; try subst hkk)
      | with_reducible refine mu_block hK ?_
      | with_reducible refine mu_inBlock hK ?_
      | with_reducible refine mu_ret hK ?_
      | with_reducible refine mu_end hK ?_
      | refine mu_exit hK rfl ?_
      | (with_reducible refine mu_regionH hK (fun kk hkk => ?_); simp only [List.size_toArray, List.length_cons, List.length_nil, Nat.reduceAdd, Nat.zero_add, List.range, List.range.loop])
      | (with_reducible refine mu_cond hK false ?_ ?_; (· first | (walk_nrm; done) | (simp [Act.eval]; done)); simp only [if_true, if_false, Bool.false_eq_true, ↓reduceIte])
      | (with_reducible refine mu_cond hK true ?_ ?_; (· first | (walk_nrm; done) | (simp [Act.eval]; done)); simp only [if_true, if_false, Bool.false_eq_true, ↓reduceIte])
      | (refine mu_unwanted hK rfl rfl ?_; walk_nrm)
      | (refine muv_val hV rfl (by first | exact .inl rfl | exact .inr rfl) rfl (by kernel_rfl) (fun J hJ => ?_); go_simp; with_reducible refine hJ _ ?_; clear hJ J; walk_nrm))
  refine yek _ ?_
  clear hK hV key yek eK K
  have hn1 : norm (V.alloc (.cells #[.slice la n lc] 23)) = (V.alloc (.cells #[.slice la n lc] 23)) := norm_al L.n _
  refine mua_put (L := Lone) (v := .pointer (some ⟨V.heap.size, 0, none⟩)) (mua_to0 hn1) (K := fun g => To0 Try.prog (LPost W) Z V g) (K' := fun g => To0 Try.prog (LPost W) Z (V.alloc (.cells #[.slice la n lc] 23)) g) rfl (.inl rfl) rfl (by kernel_rfl) (fun τ => ?_) ?_
  · go_simp
    first | exact ⟨by first | rfl | assumption | (simp only [re]; omega), rfl⟩ | rfl | (simp; done)
  have sV1 : (V.alloc (.cells #[.slice la n lc] 23)).heap.size = V.heap.size + 1 := al_size _ _
  have kV1 : Kp V (V.alloc (.cells #[.slice la n lc] 23)) := kp_alloc _ _
  have rV1 : (V.alloc (.cells #[.slice la n lc] 23)).heap[V.heap.size]? = some (.cells #[.slice la n lc] 23) := by rw [al_get, if_pos rfl]
  generalize (V.alloc (.cells #[.slice la n lc] 23)) = V1 at *
  walk_nrm
  have L1 := L.same hn1 kV1
  obtain ⟨lbx, elb⟩ : ∃ b, b = V.heap.size := ⟨_, rfl⟩
  rw [← elb] at rV1 ⊢
  have elb1 : V.heap.size ≤ lbx := by omega
  have elb2 : lbx ≤ V.heap.size := by omega
  clear elb
  have d1 : ∀ τ, (re V1 τ 0).cell? ⟨lbx, 0, none⟩ = some (.slice la n lc) := fun τ => cell_of rV1 (by simp)
  by_cases hA : 30 < n
  · have q1 : decide ((30 : Int) < (n : Int)) = true := decide_eq_true (by omega)
    obtain ⟨K, eK⟩ : ∃ K : Goroutine → Prop, K = fun g => To0 Try.prog (LPost W) Z V1 g := ⟨_, rfl⟩
    have hK : Mu Try.prog (fun _ => True) K := by rw [eK]; exact mu_to0
    have hV : MuV Try.prog Lone V1 K := by rw [eK]; exact muv_to0 hn1
    have key : ∀ g, K g → (fun g => To0 Try.prog (LPost W) Z V1 g) g := fun g h => by rw [eK] at h; exact h
    have yek : ∀ g, (fun g => To0 Try.prog (LPost W) Z V1 g) g → K g := fun g h => by rw [eK]; exact h
    refine key _ ?_
    repeat (
      first
        | with_reducible refine mu_seq hK ?_
        | with_reducible refine mu_skip hK ?_
        | (with_reducible refine mu_region_end hK ?_; try subst hkk)
        | with_reducible refine mu_block hK ?_
        | with_reducible refine mu_inBlock hK ?_
        | with_reducible refine mu_ret hK ?_
        | with_reducible refine mu_end hK ?_
        | refine mu_exit hK rfl ?_
        | (with_reducible refine mu_regionH hK (fun kk hkk => ?_); simp only [List.size_toArray, List.length_cons, List.length_nil, Nat.reduceAdd, Nat.zero_add, List.range, List.range.loop])
        | (with_reducible refine mu_cond hK false ?_ ?_; (· first | (walk_nrm; done) | (simp [Act.eval]; done)); simp only [if_true, if_false, Bool.false_eq_true, ↓reduceIte])
        | (with_reducible refine mu_cond hK true ?_ ?_; (· first | (walk_nrm; done) | (simp [Act.eval]; done)); simp only [if_true, if_false, Bool.false_eq_true, ↓reduceIte])
        | (refine mu_unwanted hK rfl rfl ?_; walk_nrm)
        | (refine muv_val hV rfl (by first | exact .inl rfl | exact .inr rfl) rfl (by kernel_rfl) (fun J hJ => ?_); go_simp; with_reducible refine hJ _ ?_; clear hJ J; walk_nrm))
    refine mu_call hK rfl rfl (by decide) rfl Try.func28 (by kernel_rfl) rfl ?_
    rw [← enter_at (P := Try.prog) _ Try.func28 rfl]
    walk_nrm
    refine yek _ ?_
    clear hK hV key yek eK K
    refine live28_go L1.n fun Vq hnq kq => ?_
    have Lq := L1.same hnq kq
    walk_nrm
    obtain ⟨K, eK⟩ : ∃ K : Goroutine → Prop, K = fun g => To0 Try.prog (LPost W) Z Vq g := ⟨_, rfl⟩
    have hK : Mu Try.prog (fun _ => True) K := by rw [eK]; exact mu_to0
    have hV : MuV Try.prog Lone Vq K := by rw [eK]; exact muv_to0 Lq.n
    have key : ∀ g, K g → (fun g => To0 Try.prog (LPost W) Z Vq g) g := fun g h => by rw [eK] at h; exact h
    have yek : ∀ g, (fun g => To0 Try.prog (LPost W) Z Vq g) g → K g := fun g h => by rw [eK]; exact h
    refine key _ ?_
    repeat (
      first
        | with_reducible refine mu_seq hK ?_
        | with_reducible refine mu_skip hK ?_
        | (with_reducible refine mu_region_end hK ?_; try subst hkk)
        | with_reducible refine mu_block hK ?_
        | with_reducible refine mu_inBlock hK ?_
        | with_reducible refine mu_ret hK ?_
        | with_reducible refine mu_end hK ?_
        | refine mu_exit hK rfl ?_
        | (with_reducible refine mu_regionH hK (fun kk hkk => ?_); simp only [List.size_toArray, List.length_cons, List.length_nil, Nat.reduceAdd, Nat.zero_add, List.range, List.range.loop])
        | (with_reducible refine mu_cond hK false ?_ ?_; (· first | (walk_nrm; done) | (simp [Act.eval]; done)); simp only [if_true, if_false, Bool.false_eq_true, ↓reduceIte])
        | (with_reducible refine mu_cond hK true ?_ ?_; (· first | (walk_nrm; done) | (simp [Act.eval]; done)); simp only [if_true, if_false, Bool.false_eq_true, ↓reduceIte])
        | (refine mu_unwanted hK rfl rfl ?_; walk_nrm)
        | (refine muv_val hV rfl (by first | exact .inl rfl | exact .inr rfl) rfl (by kernel_rfl) (fun J hJ => ?_); go_simp; with_reducible refine hJ _ ?_; clear hJ J; walk_nrm))
    refine yek _ ?_
    clear hK hV key yek eK K
    exact law_last (by kernel_rfl) rfl rfl Try.func8 rfl rfl Lq.o Lq.k
  have q1 : decide ((30 : Int) < (n : Int)) = false := decide_eq_false (by omega)
  by_cases hB : 100 < ps.length
  · have q2 : decide ((100 : Int) < (ps.length : Int)) = true := decide_eq_true (by omega)
    obtain ⟨K, eK⟩ : ∃ K : Goroutine → Prop, K = fun g => To0 Try.prog (LPost W) Z V1 g := ⟨_, rfl⟩
    have hK : Mu Try.prog (fun _ => True) K := by rw [eK]; exact mu_to0
    have hV : MuV Try.prog Lone V1 K := by rw [eK]; exact muv_to0 hn1
    have key : ∀ g, K g → (fun g => To0 Try.prog (LPost W) Z V1 g) g := fun g h => by rw [eK] at h; exact h
    have yek : ∀ g, (fun g => To0 Try.prog (LPost W) Z V1 g) g → K g := fun g h => by rw [eK]; exact h
    refine key _ ?_
    repeat (
      first
        | with_reducible refine mu_seq hK ?_
        | with_reducible refine mu_skip hK ?_
        | (with_reducible refine mu_region_end hK ?_; try subst hkk)
        | with_reducible refine mu_block hK ?_
        | with_reducible refine mu_inBlock hK ?_
        | with_reducible refine mu_ret hK ?_
        | with_reducible refine mu_end hK ?_
        | refine mu_exit hK rfl ?_
        | (with_reducible refine mu_regionH hK (fun kk hkk => ?_); simp only [List.size_toArray, List.length_cons, List.length_nil, Nat.reduceAdd, Nat.zero_add, List.range, List.range.loop])
        | (with_reducible refine mu_cond hK false ?_ ?_; (· first | (walk_nrm; done) | (simp [Act.eval]; done)); simp only [if_true, if_false, Bool.false_eq_true, ↓reduceIte])
        | (with_reducible refine mu_cond hK true ?_ ?_; (· first | (walk_nrm; done) | (simp [Act.eval]; done)); simp only [if_true, if_false, Bool.false_eq_true, ↓reduceIte])
        | (refine mu_unwanted hK rfl rfl ?_; walk_nrm)
        | (refine muv_val hV rfl (by first | exact .inl rfl | exact .inr rfl) rfl (by kernel_rfl) (fun J hJ => ?_); go_simp; with_reducible refine hJ _ ?_; clear hJ J; walk_nrm))
    refine mu_call hK rfl rfl (by decide) rfl Try.func28 (by kernel_rfl) rfl ?_
    rw [← enter_at (P := Try.prog) _ Try.func28 rfl]
    walk_nrm
    refine yek _ ?_
    clear hK hV key yek eK K
    refine live28_go L1.n fun Vq hnq kq => ?_
    have Lq := L1.same hnq kq
    walk_nrm
    obtain ⟨K, eK⟩ : ∃ K : Goroutine → Prop, K = fun g => To0 Try.prog (LPost W) Z Vq g := ⟨_, rfl⟩
    have hK : Mu Try.prog (fun _ => True) K := by rw [eK]; exact mu_to0
    have hV : MuV Try.prog Lone Vq K := by rw [eK]; exact muv_to0 Lq.n
    have key : ∀ g, K g → (fun g => To0 Try.prog (LPost W) Z Vq g) g := fun g h => by rw [eK] at h; exact h
    have yek : ∀ g, (fun g => To0 Try.prog (LPost W) Z Vq g) g → K g := fun g h => by rw [eK]; exact h
    refine key _ ?_
    repeat (
      first
        | with_reducible refine mu_seq hK ?_
        | with_reducible refine mu_skip hK ?_
        | (with_reducible refine mu_region_end hK ?_; try subst hkk)
        | with_reducible refine mu_block hK ?_
        | with_reducible refine mu_inBlock hK ?_
        | with_reducible refine mu_ret hK ?_
        | with_reducible refine mu_end hK ?_
        | refine mu_exit hK rfl ?_
        | (with_reducible refine mu_regionH hK (fun kk hkk => ?_); simp only [List.size_toArray, List.length_cons, List.length_nil, Nat.reduceAdd, Nat.zero_add, List.range, List.range.loop])
        | (with_reducible refine mu_cond hK false ?_ ?_; (· first | (walk_nrm; done) | (simp [Act.eval]; done)); simp only [if_true, if_false, Bool.false_eq_true, ↓reduceIte])
        | (with_reducible refine mu_cond hK true ?_ ?_; (· first | (walk_nrm; done) | (simp [Act.eval]; done)); simp only [if_true, if_false, Bool.false_eq_true, ↓reduceIte])
        | (refine mu_unwanted hK rfl rfl ?_; walk_nrm)
        | (refine muv_val hV rfl (by first | exact .inl rfl | exact .inr rfl) rfl (by kernel_rfl) (fun J hJ => ?_); go_simp; with_reducible refine hJ _ ?_; clear hJ J; walk_nrm))
    refine yek _ ?_
    clear hK hV key yek eK K
    exact law_last (by kernel_rfl) rfl rfl Try.func8 rfl rfl Lq.o Lq.k
  have q2 : decide ((100 : Int) < (ps.length : Int)) = false := decide_eq_false (by omega)
  obtain ⟨K, eK⟩ : ∃ K : Goroutine → Prop, K = fun g => To0 Try.prog (LPost W) Z V1 g := ⟨_, rfl⟩
  have hK : Mu Try.prog (fun _ => True) K := by rw [eK]; exact mu_to0
  have hV : MuV Try.prog Lone V1 K := by rw [eK]; exact muv_to0 hn1
  have key : ∀ g, K g → (fun g => To0 Try.prog (LPost W) Z V1 g) g := fun g h => by rw [eK] at h; exact h
  have yek : ∀ g, (fun g => To0 Try.prog (LPost W) Z V1 g) g → K g := fun g h => by rw [eK]; exact h
  refine key _ ?_
  repeat (
    first
      | with_reducible refine mu_seq hK ?_
      | with_reducible refine mu_skip hK ?_
      | (with_reducible refine mu_region_end hK ?_; try subst hkk)
      | with_reducible refine mu_block hK ?_
      | with_reducible refine mu_inBlock hK ?_
      | with_reducible refine mu_ret hK ?_
      | with_reducible refine mu_end hK ?_
      | refine mu_exit hK rfl ?_
      | (with_reducible refine mu_regionH hK (fun kk hkk => ?_); simp only [List.size_toArray, List.length_cons, List.length_nil, Nat.reduceAdd, Nat.zero_add, List.range, List.range.loop])
      | (with_reducible refine mu_cond hK false ?_ ?_; (· first | (walk_nrm; done) | (simp [Act.eval]; done)); simp only [if_true, if_false, Bool.false_eq_true, ↓reduceIte])
      | (with_reducible refine mu_cond hK true ?_ ?_; (· first | (walk_nrm; done) | (simp [Act.eval]; done)); simp only [if_true, if_false, Bool.false_eq_true, ↓reduceIte])
      | (refine mu_unwanted hK rfl rfl ?_; walk_nrm)
      | (refine muv_val hV rfl (by first | exact .inl rfl | exact .inr rfl) rfl (by kernel_rfl) (fun J hJ => ?_); go_simp; with_reducible refine hJ _ ?_; clear hJ J; walk_nrm))
  refine yek _ ?_
  clear hK hV key yek eK K
  have hn2 : norm (V1.alloc (.cells #[.int .i64 0] 64)) = (V1.alloc (.cells #[.int .i64 0] 64)) := norm_al hn1 _
  refine mua_put (L := Lone) (v := .pointer (some ⟨V1.heap.size, 0, none⟩)) (mua_to0 hn2) (K := fun g => To0 Try.prog (LPost W) Z V1 g) (K' := fun g => To0 Try.prog (LPost W) Z (V1.alloc (.cells #[.int .i64 0] 64)) g) rfl (.inl rfl) rfl (by kernel_rfl) (fun τ => ?_) ?_
  · go_simp
    first | exact ⟨by first | rfl | assumption | (simp only [re]; omega), rfl⟩ | rfl | (simp; done)
  have sV2 : (V1.alloc (.cells #[.int .i64 0] 64)).heap.size = V1.heap.size + 1 := al_size _ _
  have kV2 : Kp V1 (V1.alloc (.cells #[.int .i64 0] 64)) := kp_alloc _ _
  have rV2 : (V1.alloc (.cells #[.int .i64 0] 64)).heap[V1.heap.size]? = some (.cells #[.int .i64 0] 64) := by rw [al_get, if_pos rfl]
  generalize (V1.alloc (.cells #[.int .i64 0] 64)) = V2 at *
  walk_nrm
  obtain ⟨ab, eab⟩ : ∃ b, b = V1.heap.size := ⟨_, rfl⟩
  rw [← eab] at rV2 ⊢
  have eab1 : V1.heap.size ≤ ab := by omega
  have eab2 : ab ≤ V1.heap.size := by omega
  clear eab
  obtain ⟨K, eK⟩ : ∃ K : Goroutine → Prop, K = fun g => To0 Try.prog (LPost W) Z V2 g := ⟨_, rfl⟩
  have hK : Mu Try.prog (fun _ => True) K := by rw [eK]; exact mu_to0
  have hV : MuV Try.prog Lone V2 K := by rw [eK]; exact muv_to0 hn2
  have key : ∀ g, K g → (fun g => To0 Try.prog (LPost W) Z V2 g) g := fun g h => by rw [eK] at h; exact h
  have yek : ∀ g, (fun g => To0 Try.prog (LPost W) Z V2 g) g → K g := fun g h => by rw [eK]; exact h
  refine key _ ?_
  repeat (
    first
      | with_reducible refine mu_seq hK ?_
      | with_reducible refine mu_skip hK ?_
      | (with_reducible refine mu_region_end hK ?_; try subst hkk)
      | with_reducible refine mu_block hK ?_
      | with_reducible refine mu_inBlock hK ?_
      | with_reducible refine mu_ret hK ?_
      | with_reducible refine mu_end hK ?_
      | refine mu_exit hK rfl ?_
      | (with_reducible refine mu_regionH hK (fun kk hkk => ?_); simp only [List.size_toArray, List.length_cons, List.length_nil, Nat.reduceAdd, Nat.zero_add, List.range, List.range.loop])
      | (with_reducible refine mu_cond hK false ?_ ?_; (· first | (walk_nrm; done) | (simp [Act.eval]; done)); simp only [if_true, if_false, Bool.false_eq_true, ↓reduceIte])
      | (with_reducible refine mu_cond hK true ?_ ?_; (· first | (walk_nrm; done) | (simp [Act.eval]; done)); simp only [if_true, if_false, Bool.false_eq_true, ↓reduceIte])
      | (refine mu_unwanted hK rfl rfl ?_; walk_nrm)
      | (refine muv_val hV rfl (by first | exact .inl rfl | exact .inr rfl) rfl (by kernel_rfl) (fun J hJ => ?_); go_simp; with_reducible refine hJ _ ?_; clear hJ J; walk_nrm))
  refine yek _ ?_
  clear hK hV key yek eK K
  have hn3 : norm (V2.alloc (.cells #[.int .i64 0] 3)) = (V2.alloc (.cells #[.int .i64 0] 3)) := norm_al hn2 _
  refine mua_put (L := Lone) (v := .pointer (some ⟨V2.heap.size, 0, none⟩)) (mua_to0 hn3) (K := fun g => To0 Try.prog (LPost W) Z V2 g) (K' := fun g => To0 Try.prog (LPost W) Z (V2.alloc (.cells #[.int .i64 0] 3)) g) rfl (.inl rfl) rfl (by kernel_rfl) (fun τ => ?_) ?_
  · go_simp
    first | exact ⟨by first | rfl | assumption | (simp only [re]; omega), rfl⟩ | rfl | (simp; done)
  have sV3 : (V2.alloc (.cells #[.int .i64 0] 3)).heap.size = V2.heap.size + 1 := al_size _ _
  have kV3 : Kp V2 (V2.alloc (.cells #[.int .i64 0] 3)) := kp_alloc _ _
  have rV3 : (V2.alloc (.cells #[.int .i64 0] 3)).heap[V2.heap.size]? = some (.cells #[.int .i64 0] 3) := by rw [al_get, if_pos rfl]
  generalize (V2.alloc (.cells #[.int .i64 0] 3)) = V3 at *
  walk_nrm
  obtain ⟨nb, enb⟩ : ∃ nb, nb = V2.heap.size := ⟨_, rfl⟩
  rw [← enb] at rV3 ⊢
  have enb1 : V2.heap.size ≤ nb := by omega
  clear enb
  have f1 : ∀ τ, (re V3 τ 0).cell? ⟨nb, 0, none⟩ = some (.int .i64 0) := fun τ => cell_of rV3 (by simp)
  have z1 : ∀ τ, (re V3 τ 0).frozen? ⟨nb, 0, none⟩ = false := fun τ => by simp [World.frozen?, re, rV3]
  obtain ⟨K, eK⟩ : ∃ K : Goroutine → Prop, K = fun g => To0 Try.prog (LPost W) Z V3 g := ⟨_, rfl⟩
  have hK : Mu Try.prog (fun _ => True) K := by rw [eK]; exact mu_to0
  have hV : MuV Try.prog Lone V3 K := by rw [eK]; exact muv_to0 hn3
  have key : ∀ g, K g → (fun g => To0 Try.prog (LPost W) Z V3 g) g := fun g h => by rw [eK] at h; exact h
  have yek : ∀ g, (fun g => To0 Try.prog (LPost W) Z V3 g) g → K g := fun g h => by rw [eK]; exact h
  refine key _ ?_
  repeat (
    first
      | with_reducible refine mu_seq hK ?_
      | with_reducible refine mu_skip hK ?_
      | (with_reducible refine mu_region_end hK ?_; try subst hkk)
      | with_reducible refine mu_block hK ?_
      | with_reducible refine mu_inBlock hK ?_
      | with_reducible refine mu_ret hK ?_
      | with_reducible refine mu_end hK ?_
      | refine mu_exit hK rfl ?_
      | (with_reducible refine mu_regionH hK (fun kk hkk => ?_); simp only [List.size_toArray, List.length_cons, List.length_nil, Nat.reduceAdd, Nat.zero_add, List.range, List.range.loop])
      | (with_reducible refine mu_cond hK false ?_ ?_; (· first | (walk_nrm; done) | (simp [Act.eval]; done)); simp only [if_true, if_false, Bool.false_eq_true, ↓reduceIte])
      | (with_reducible refine mu_cond hK true ?_ ?_; (· first | (walk_nrm; done) | (simp [Act.eval]; done)); simp only [if_true, if_false, Bool.false_eq_true, ↓reduceIte])
      | (refine mu_unwanted hK rfl rfl ?_; walk_nrm)
      | (refine muv_val hV rfl (by first | exact .inl rfl | exact .inr rfl) rfl (by kernel_rfl) (fun J hJ => ?_); go_simp; with_reducible refine hJ _ ?_; clear hJ J; walk_nrm))
  refine yek _ ?_
  clear hK hV key yek eK K
  have hn4 : norm (V3.setCell ⟨nb, 0, none⟩ (.int .i64 0)) = (V3.setCell ⟨nb, 0, none⟩ (.int .i64 0)) := norm_set hn3 _ _
  have kV4 : Kp V2 (V3.setCell ⟨nb, 0, none⟩ (.int .i64 0)) := kp_set kV3 enb1
  have rV4 : (V3.setCell ⟨nb, 0, none⟩ (.int .i64 0)).heap[nb]? = some (.cells #[.int .i64 0] 3 (0, 0)) := by rw [setCell_heap, if_pos rfl, rV3]; simp
  refine mus_put (L := Lone) (mus_to0 hn4) (K := fun g => To0 Try.prog (LPost W) Z V3 g) (K' := fun g => To0 Try.prog (LPost W) Z (V3.setCell ⟨nb, 0, none⟩ (.int .i64 0)) g) rfl (.inl rfl) rfl (by kernel_rfl) (fun τ => ?_) ?_
  · go_simp
    rfl
  clear f1 z1
  generalize (V3.setCell ⟨nb, 0, none⟩ (.int .i64 0)) = V4 at *
  have f1 : ∀ τ, (re V4 τ 0).cell? ⟨nb, 0, none⟩ = some (.int .i64 0) := fun τ => cell_of rV4 (by simp)
  have z1 : ∀ τ, (re V4 τ 0).frozen? ⟨nb, 0, none⟩ = false := fun τ => by simp [World.frozen?, re, rV4]
  walk_nrm
  obtain ⟨K, eK⟩ : ∃ K : Goroutine → Prop, K = fun g => To0 Try.prog (LPost W) Z V4 g := ⟨_, rfl⟩
  have hK : Mu Try.prog (fun _ => True) K := by rw [eK]; exact mu_to0
  have hV : MuV Try.prog Lone V4 K := by rw [eK]; exact muv_to0 hn4
  have key : ∀ g, K g → (fun g => To0 Try.prog (LPost W) Z V4 g) g := fun g h => by rw [eK] at h; exact h
  have yek : ∀ g, (fun g => To0 Try.prog (LPost W) Z V4 g) g → K g := fun g h => by rw [eK]; exact h
  refine key _ ?_
  repeat (
    first
      | with_reducible refine mu_seq hK ?_
      | with_reducible refine mu_skip hK ?_
      | (with_reducible refine mu_region_end hK ?_; try subst hkk)
      | with_reducible refine mu_block hK ?_
      | with_reducible refine mu_inBlock hK ?_
      | with_reducible refine mu_ret hK ?_
      | with_reducible refine mu_end hK ?_
      | refine mu_exit hK rfl ?_
      | (with_reducible refine mu_regionH hK (fun kk hkk => ?_); simp only [List.size_toArray, List.length_cons, List.length_nil, Nat.reduceAdd, Nat.zero_add, List.range, List.range.loop])
      | (with_reducible refine mu_cond hK false ?_ ?_; (· first | (walk_nrm; done) | (simp [Act.eval]; done)); simp only [if_true, if_false, Bool.false_eq_true, ↓reduceIte])
      | (with_reducible refine mu_cond hK true ?_ ?_; (· first | (walk_nrm; done) | (simp [Act.eval]; done)); simp only [if_true, if_false, Bool.false_eq_true, ↓reduceIte])
      | (refine mu_unwanted hK rfl rfl ?_; walk_nrm)
      | (refine muv_val hV rfl (by first | exact .inl rfl | exact .inr rfl) rfl (by kernel_rfl) (fun J hJ => ?_); go_simp; with_reducible refine hJ _ ?_; clear hJ J; walk_nrm))
  refine mu_loop hK ?_
  refine yek _ ?_
  clear hK hV key yek eK K
  refine (fun (h : ∀ X Y, SL = X → SY = Y → To0 Try.prog (LPost W) Z V4 (G ((base 8).at _ [.code X, .inLoop X, .inBlock 0, .code Y]) [])) => h _ _ (by simp only [SL, SY, B8s, nva, nvb, nvk, nvl, Try.f8, Option.getD_some]) (by simp only [SL, SY, B8s, nva, nvb, nvk, nvl, Try.f8, Option.getD_some])) ?_
  intro X Y hX hY
  subst hX hY
  have k12 : Kp V V2 := kV1.trans kV2
  have hlb2 : V2.heap[lbx]? = some (.cells #[.slice la n lc] 23 (0, 0)) := by rw [kV2.keep _ (by omega)]; exact rV1
  have hy2 : 0 < n → ∃ g o, la = some ⟨g, o, none⟩ ∧ g < V2.heap.size ∧ ∀ j, j < n → V2.cell? ⟨g, o + j, none⟩ = some (.int .i64 (d j)) := fun h0 => by
    obtain ⟨g, o, e, hg, c⟩ := hy h0
    exact ⟨g, o, e, by have := k12.size; omega, fun j hj => k12.cell (c j hj)⟩
  refine sums_loop (V0 := V2) (ab := ab) (lbx := lbx) (d := d) (pv := .slice pb ps.length pc) (by omega) hlb2 hy2 (fun T V5 ibx cb fv M hT => ?_) n 0 _ V4 (fun _ => 0) nb (.slice none 0 0) (by omega) ⟨hn4, kV4, World.ownsRow_nil _ _ _ _, fun b hb => (by cases hb), fun j hj => absurd hj (by omega), enb1, rV4⟩ ⟨by simp, rfl, rfl, rfl, rfl, rfl, rfl⟩
  have hn5 := M.nrm
  have hsz5 := M.kp.size
  have k15 : Kp V V5 := k12.trans M.kp
  have L5 := L.same hn5 k15
  have hab5 : V5.heap[ab]? = some (.cells #[.int .i64 0] 64 (0, 0)) := by rw [M.kp.keep _ (by omega)]; exact rV2
  have hlb5 : V5.heap[lbx]? = some (.cells #[.slice la n lc] 23 (0, 0)) := by rw [M.kp.keep _ (by omega)]; exact hlb2
  have hfl : (adfs ab lbx ibx n).length = n := by simp [adfs]
  have hfg : ∀ i, i < n → (adfs ab lbx ibx n).getD i .nilFunc = adf ab lbx ibx i := fun i hi => by simp [adfs, List.getD_eq_getElem?_getD, List.getElem?_map, List.getElem?_range, hi]
  obtain ⟨fA, fc, rfl, fR⟩ := rds_own M.row
  have fR := fR (fun j => adf ab lbx ibx j) (fun j hj => by simp [adfs, List.getElem?_map, List.getElem?_range, hj])
  have hF : FnRow V5 (.slice fA n fc) (adfs ab lbx ibx n) := by
    refine ⟨⟨fA, fc, by rw [hfl], fun h0 => ?_⟩, fun j hj => .inr ⟨33, #[], #[bp ab, bp lbx, bp (ibx j)], by rw [hfl] at hj; rw [hfg j hj]; rfl⟩⟩
    rw [hfl] at h0
    obtain ⟨g, o, e, hg, c⟩ := fR.2 h0
    exact ⟨g, o, e, hg, fun j hj => by rw [hfl] at hj; rw [hfg j hj]; exact c j hj⟩
  obtain ⟨D, hD⟩ : ∃ D : Ad, D = { n := n, d := d, ab := ab, lbx := lbx, ibx := ibx, la := la, ln := n, lc := lc, Vr := V5 } := ⟨_, rfl⟩
  have hsz2 : V2.heap.size = V1.heap.size + 1 := sV2
  have hsz1 : V1.heap.size = V.heap.size + 1 := sV1
  have hO : AdOk D := by
    subst hD
    refine ⟨by show ab < V5.heap.size; omega, Nat.le_refl _, ⟨by show lbx < V5.heap.size; omega, by show lbx ≠ ab; omega, hlb5⟩, fun i hi => ?_, fun i hi => ?_⟩
    · obtain ⟨h1, h2⟩ := M.ib i hi
      exact ⟨(Array.getElem?_eq_some_iff.1 h2).1, by show ibx i ≠ ab; omega, h2⟩
    · have hi' : i < n := hi
      obtain ⟨g, o, e, hg, c⟩ := hy (by omega)
      exact ⟨g, o, e, by show g < V5.heap.size; omega, by show g ≠ ab; omega, k15.cell (c i hi')⟩
  have hDn : D.n = n := by rw [hD]
  have hDd : D.d = d := by rw [hD]
  have hDa : D.ab = ab := by rw [hD]
  have hDV : D.Vr = V5 := by rw [hD]
  have hDf : ∀ i, adf ab lbx ibx i = .func (.func 33) #[] #[bp D.ab, bp D.lbx, bp (D.ibx i)] := fun i => by rw [hD]; rfl
  have hI0 : AInv D ⟨fun _ => 0, 0⟩ (fun b => b < V5.heap.size) V5 := ⟨by rw [hDV]; exact Nat.le_refl _, by rw [hDa]; exact hab5, fun b hb => ⟨by rw [hDV] at hb; exact hb, fun _ => by rw [hDV]⟩⟩
  have hP : PksU (fun C => Uad D C) (adfs ab lbx ibx n).length V5 (fun b => b < V5.heap.size) (.slice pb ps.length pc) ps := ⟨⟨pb, pc, rfl, fun h0 => by
    obtain ⟨g, o, e1, h1, h2, h3⟩ := hpr h0
    refine ⟨g, o, e1, .inr fun C _ σ own V' A k hk => ?_⟩
    have hI : AInv D σ own V' := A
    have h5 := (hI.old g (by rw [hDV]; omega)).2 (by rw [hDa]; omega)
    rw [hDV] at h5
    exact cell_same (k15.cell (h3 k hk)) h5⟩, hp.r⟩
  obtain ⟨hs, t1, t2, t5, t6, t7, t8⟩ := hT
  generalize hsw : sumw d n = sm at *
  obtain ⟨v0, v1, v2, v3, v4, v5, v6, v7, v8, v9, v10, v11, v12, v13, v14, v15, v16, v17, v18, v19, v20, v21, v22, v23, v24, v25, v26, v27, v28, v29, v30, v31, v32, v33, v34, v35, v36, v37, v38, v39, v40, v41, v42, v43, rfl⟩ := array44 T hs
  simp only [List.getElem?_toArray, List.getElem?_cons_zero, List.getElem?_cons_succ, Option.some.injEq, bp] at t1 t2 t5 t6 t7 t8
  subst t1 t2 t5 t6 t7 t8
  refine (fun (h : ∀ X, X = SY → To0 Try.prog (LPost W) Z V5 (G ((base 8).at ⟨_, []⟩ [.code X]) [])) => h SY rfl) ?_
  intro X hX
  simp only [SL, SY, B8s, nva, nvb, nvk, nvl, Try.f8, Option.getD_some] at hX
  subst hX
  obtain ⟨K, eK⟩ : ∃ K : Goroutine → Prop, K = fun g => To0 Try.prog (LPost W) Z V5 g := ⟨_, rfl⟩
  have hK : Mu Try.prog (fun _ => True) K := by rw [eK]; exact mu_to0
  have hV : MuV Try.prog Lone V5 K := by rw [eK]; exact muv_to0 hn5
  have key : ∀ g, K g → (fun g => To0 Try.prog (LPost W) Z V5 g) g := fun g h => by rw [eK] at h; exact h
  have yek : ∀ g, (fun g => To0 Try.prog (LPost W) Z V5 g) g → K g := fun g h => by rw [eK]; exact h
  refine key _ ?_
  repeat (
    first
      | with_reducible refine mu_seq hK ?_
      | with_reducible refine mu_skip hK ?_
      | (with_reducible refine mu_region_end hK ?_; try subst hkk)
      | with_reducible refine mu_block hK ?_
      | with_reducible refine mu_inBlock hK ?_
      | with_reducible refine mu_ret hK ?_
      | with_reducible refine mu_end hK ?_
      | refine mu_exit hK rfl ?_
      | (with_reducible refine mu_regionH hK (fun kk hkk => ?_); simp only [List.size_toArray, List.length_cons, List.length_nil, Nat.reduceAdd, Nat.zero_add, List.range, List.range.loop])
      | (with_reducible refine mu_cond hK false ?_ ?_; (· first | (walk_nrm; done) | (simp [Act.eval]; done)); simp only [if_true, if_false, Bool.false_eq_true, ↓reduceIte])
      | (with_reducible refine mu_cond hK true ?_ ?_; (· first | (walk_nrm; done) | (simp [Act.eval]; done)); simp only [if_true, if_false, Bool.false_eq_true, ↓reduceIte])
      | (refine mu_unwanted hK rfl rfl ?_; walk_nrm)
      | (refine muv_val hV rfl (by first | exact .inl rfl | exact .inr rfl) rfl (by kernel_rfl) (fun J hJ => ?_); go_simp; with_reducible refine hJ _ ?_; clear hJ J; walk_nrm))
  refine mu_call hK rfl rfl (by decide) rfl Try.func23 (by kernel_rfl) rfl ?_
  rw [← enter_at (P := Try.prog) _ Try.func23 rfl]
  walk_nrm
  refine yek _ ?_
  clear hK hV key yek eK K
  refine run_go (U := fun C => Uad D C) (σ0 := fun _ => (⟨fun _ => 0, 0⟩ : AS)) (own0 := fun b => b < V5.heap.size) (Rn := 3) hn5 hF (by rw [hfl]; omega) L5.z (fun b h => h) hP (by omega) rfl (fun C E hOk hCn hf => uad_ok hO (by rw [hCn, hfl, hDn]) fun i hi => ?_) (fun C hCn i hi => ?_) (fun C _ => hI0) fun C σ' xs' Z' V6 ov ovr pkr own' hCn he A => ?_
  · rw [hf i]
    rw [hCn, hfl] at hi
    rw [hfg i hi]
    exact hDf i
  · rw [hfl] at hi
    show stv 0 = st0 (adfs ab lbx ibx n) i
    unfold st0
    rw [hfg i hi]
    rfl
  rw [hfl, ← hDn] at he
  replace he : ((σ', xs') : AS × List Nat) = arnds D 3 (ps.foldl (apk D) ((⟨fun _ => 0, 0⟩ : AS), ([] : List Nat))) := he.trans (arun_eq D C 3 _ ps)
  have hv : σ'.v = sm := by
    have h := sums_law (D := D) ps
    rw [hDd, hDn, hsw] at h
    rw [← h]
    exact congrArg (fun x => x.1.v) he
  have hI : AInv D σ' own' V6 := A.inv
  have hn6 := A.nrm
  have k6 : Kp V V6 := ⟨by have := A.big; omega, fun b hb => by
    have h := (hI.old b (by rw [hDV]; omega)).2 (by rw [hDa]; omega)
    rw [hDV] at h
    rw [h]
    exact k15.keep b hb⟩
  have L6 := L.next A.nrm A.shut (fun b hb => A.zold b (by omega)) k6
  have hnum := hI.num
  rw [hDa, hv] at hnum
  have cn : V6.cell? ⟨ab, 0, none⟩ = some (.int .i64 sm) := cell_of hnum (by simp)
  clear A he hP hF fR hI0 hsw
  walk_nrm
  obtain ⟨K, eK⟩ : ∃ K : Goroutine → Prop, K = fun g => To0 Try.prog (LPost W) Z' V6 g := ⟨_, rfl⟩
  have hK : Mu Try.prog (fun _ => True) K := by rw [eK]; exact mu_to0
  have hV : MuV Try.prog Lone V6 K := by rw [eK]; exact muv_to0 hn6
  have key : ∀ g, K g → (fun g => To0 Try.prog (LPost W) Z' V6 g) g := fun g h => by rw [eK] at h; exact h
  have yek : ∀ g, (fun g => To0 Try.prog (LPost W) Z' V6 g) g → K g := fun g h => by rw [eK]; exact h
  refine key _ ?_
  repeat (
    first
      | with_reducible refine mu_seq hK ?_
      | with_reducible refine mu_skip hK ?_
      | (with_reducible refine mu_region_end hK ?_; try subst hkk)
      | with_reducible refine mu_block hK ?_
      | with_reducible refine mu_inBlock hK ?_
      | with_reducible refine mu_ret hK ?_
      | with_reducible refine mu_end hK ?_
      | refine mu_exit hK rfl ?_
      | (with_reducible refine mu_regionH hK (fun kk hkk => ?_); simp only [List.size_toArray, List.length_cons, List.length_nil, Nat.reduceAdd, Nat.zero_add, List.range, List.range.loop])
      | (with_reducible refine mu_cond hK false ?_ ?_; (· first | (walk_nrm; done) | (simp [Act.eval]; done)); simp only [if_true, if_false, Bool.false_eq_true, ↓reduceIte])
      | (with_reducible refine mu_cond hK true ?_ ?_; (· first | (walk_nrm; done) | (simp [Act.eval]; done)); simp only [if_true, if_false, Bool.false_eq_true, ↓reduceIte])
      | (refine mu_unwanted hK rfl rfl ?_; walk_nrm)
      | (refine muv_val hV rfl (by first | exact .inl rfl | exact .inr rfl) rfl (by kernel_rfl) (fun J hJ => ?_); go_simp; with_reducible refine hJ _ ?_; clear hJ J; walk_nrm))
  refine mu_call hK rfl rfl (by decide) rfl Try.func32 (by kernel_rfl) rfl ?_
  have hnt32 : Try.f32.ntmps = 9 := rfl
  rw [hnt32]
  clear hnt32
  walk_nrm
  repeat (
    first
      | with_reducible refine mu_seq hK ?_
      | with_reducible refine mu_skip hK ?_
      | (with_reducible refine mu_region_end hK ?_; try subst hkk)
      | with_reducible refine mu_block hK ?_
      | with_reducible refine mu_inBlock hK ?_
      | with_reducible refine mu_ret hK ?_
      | with_reducible refine mu_end hK ?_
      | refine mu_exit hK rfl ?_
      | (with_reducible refine mu_regionH hK (fun kk hkk => ?_); simp only [List.size_toArray, List.length_cons, List.length_nil, Nat.reduceAdd, Nat.zero_add, List.range, List.range.loop])
      | (with_reducible refine mu_cond hK false ?_ ?_; (· first | (walk_nrm; done) | (simp [Act.eval]; done)); simp only [if_true, if_false, Bool.false_eq_true, ↓reduceIte])
      | (with_reducible refine mu_cond hK true ?_ ?_; (· first | (walk_nrm; done) | (simp [Act.eval]; done)); simp only [if_true, if_false, Bool.false_eq_true, ↓reduceIte])
      | (refine mu_unwanted hK rfl rfl ?_; walk_nrm)
      | (refine muv_val hV rfl (by first | exact .inl rfl | exact .inr rfl) rfl (by kernel_rfl) (fun J hJ => ?_); go_simp; with_reducible refine hJ _ ?_; clear hJ J; walk_nrm))
  refine mu_call hK rfl rfl (by decide) rfl Try.func82 (by kernel_rfl) rfl ?_
  have hnt82 : Try.f82.ntmps = 7 := rfl
  rw [hnt82]
  clear hnt82
  walk_nrm
  repeat (
    first
      | with_reducible refine mu_seq hK ?_
      | with_reducible refine mu_skip hK ?_
      | (with_reducible refine mu_region_end hK ?_; try subst hkk)
      | with_reducible refine mu_block hK ?_
      | with_reducible refine mu_inBlock hK ?_
      | with_reducible refine mu_ret hK ?_
      | with_reducible refine mu_end hK ?_
      | refine mu_exit hK rfl ?_
      | (with_reducible refine mu_regionH hK (fun kk hkk => ?_); simp only [List.size_toArray, List.length_cons, List.length_nil, Nat.reduceAdd, Nat.zero_add, List.range, List.range.loop])
      | (with_reducible refine mu_cond hK false ?_ ?_; (· first | (walk_nrm; done) | (simp [Act.eval]; done)); simp only [if_true, if_false, Bool.false_eq_true, ↓reduceIte])
      | (with_reducible refine mu_cond hK true ?_ ?_; (· first | (walk_nrm; done) | (simp [Act.eval]; done)); simp only [if_true, if_false, Bool.false_eq_true, ↓reduceIte])
      | (refine mu_unwanted hK rfl rfl ?_; walk_nrm)
      | (refine muv_val hV rfl (by first | exact .inl rfl | exact .inr rfl) rfl (by kernel_rfl) (fun J hJ => ?_); go_simp; with_reducible refine hJ _ ?_; clear hJ J; walk_nrm))
  refine yek _ ?_
  clear hK hV key yek eK K
  refine To0.walk (at_load (main := true) (ad := ⟨ab, 0, none⟩) (v := sm) rfl rfl (base_ne _) rfl rfl cn (Will.stop ?_))
  walk_nrm
  obtain ⟨K, eK⟩ : ∃ K : Goroutine → Prop, K = fun g => To0 Try.prog (LPost W) Z' V6 g := ⟨_, rfl⟩
  have hK : Mu Try.prog (fun _ => True) K := by rw [eK]; exact mu_to0
  have hV : MuV Try.prog Lone V6 K := by rw [eK]; exact muv_to0 hn6
  have key : ∀ g, K g → (fun g => To0 Try.prog (LPost W) Z' V6 g) g := fun g h => by rw [eK] at h; exact h
  have yek : ∀ g, (fun g => To0 Try.prog (LPost W) Z' V6 g) g → K g := fun g h => by rw [eK]; exact h
  refine key _ ?_
  repeat (
    first
      | with_reducible refine mu_seq hK ?_
      | with_reducible refine mu_skip hK ?_
      | (with_reducible refine mu_region_end hK ?_; try subst hkk)
      | with_reducible refine mu_block hK ?_
      | with_reducible refine mu_inBlock hK ?_
      | with_reducible refine mu_ret hK ?_
      | with_reducible refine mu_end hK ?_
      | refine mu_exit hK rfl ?_
      | (with_reducible refine mu_regionH hK (fun kk hkk => ?_); simp only [List.size_toArray, List.length_cons, List.length_nil, Nat.reduceAdd, Nat.zero_add, List.range, List.range.loop])
      | (with_reducible refine mu_cond hK false ?_ ?_; (· first | (walk_nrm; done) | (simp [Act.eval]; done)); simp only [if_true, if_false, Bool.false_eq_true, ↓reduceIte])
      | (with_reducible refine mu_cond hK true ?_ ?_; (· first | (walk_nrm; done) | (simp [Act.eval]; done)); simp only [if_true, if_false, Bool.false_eq_true, ↓reduceIte])
      | (refine mu_unwanted hK rfl rfl ?_; walk_nrm)
      | (refine muv_val hV rfl (by first | exact .inl rfl | exact .inr rfl) rfl (by kernel_rfl) (fun J hJ => ?_); go_simp; with_reducible refine hJ _ ?_; clear hJ J; walk_nrm))
  refine mu_leave1 hK rfl rfl Try.func82 rfl ?_
  walk_nrm
  repeat (
    first
      | with_reducible refine mu_seq hK ?_
      | with_reducible refine mu_skip hK ?_
      | (with_reducible refine mu_region_end hK ?_; try subst hkk)
      | with_reducible refine mu_block hK ?_
      | with_reducible refine mu_inBlock hK ?_
      | with_reducible refine mu_ret hK ?_
      | with_reducible refine mu_end hK ?_
      | refine mu_exit hK rfl ?_
      | (with_reducible refine mu_regionH hK (fun kk hkk => ?_); simp only [List.size_toArray, List.length_cons, List.length_nil, Nat.reduceAdd, Nat.zero_add, List.range, List.range.loop])
      | (with_reducible refine mu_cond hK false ?_ ?_; (· first | (walk_nrm; done) | (simp [Act.eval]; done)); simp only [if_true, if_false, Bool.false_eq_true, ↓reduceIte])
      | (with_reducible refine mu_cond hK true ?_ ?_; (· first | (walk_nrm; done) | (simp [Act.eval]; done)); simp only [if_true, if_false, Bool.false_eq_true, ↓reduceIte])
      | (refine mu_unwanted hK rfl rfl ?_; walk_nrm)
      | (refine muv_val hV rfl (by first | exact .inl rfl | exact .inr rfl) rfl (by kernel_rfl) (fun J hJ => ?_); go_simp; with_reducible refine hJ _ ?_; clear hJ J; walk_nrm))
  refine mu_leave1 hK rfl rfl Try.func32 rfl ?_
  walk_nrm
  repeat (
    first
      | with_reducible refine mu_seq hK ?_
      | with_reducible refine mu_skip hK ?_
      | (with_reducible refine mu_region_end hK ?_; try subst hkk)
      | with_reducible refine mu_block hK ?_
      | with_reducible refine mu_inBlock hK ?_
      | with_reducible refine mu_ret hK ?_
      | with_reducible refine mu_end hK ?_
      | refine mu_exit hK rfl ?_
      | (with_reducible refine mu_regionH hK (fun kk hkk => ?_); simp only [List.size_toArray, List.length_cons, List.length_nil, Nat.reduceAdd, Nat.zero_add, List.range, List.range.loop])
      | (with_reducible refine mu_cond hK false ?_ ?_; (· first | (walk_nrm; done) | (simp [Act.eval]; done)); simp only [if_true, if_false, Bool.false_eq_true, ↓reduceIte])
      | (with_reducible refine mu_cond hK true ?_ ?_; (· first | (walk_nrm; done) | (simp [Act.eval]; done)); simp only [if_true, if_false, Bool.false_eq_true, ↓reduceIte])
      | (refine mu_unwanted hK rfl rfl ?_; walk_nrm)
      | (refine muv_val hV rfl (by first | exact .inl rfl | exact .inr rfl) rfl (by kernel_rfl) (fun J hJ => ?_); go_simp; with_reducible refine hJ _ ?_; clear hJ J; walk_nrm))
  refine mu_call hK rfl rfl (by decide) rfl Try.func28 (by kernel_rfl) rfl ?_
  rw [← enter_at (P := Try.prog) _ Try.func28 rfl]
  walk_nrm
  refine yek _ ?_
  clear hK hV key yek eK K
  refine live28_go L6.n fun Vq hnq kq => ?_
  have Lq := L6.same hnq kq
  walk_nrm
  obtain ⟨K, eK⟩ : ∃ K : Goroutine → Prop, K = fun g => To0 Try.prog (LPost W) Z' Vq g := ⟨_, rfl⟩
  have hK : Mu Try.prog (fun _ => True) K := by rw [eK]; exact mu_to0
  have hV : MuV Try.prog Lone Vq K := by rw [eK]; exact muv_to0 Lq.n
  have key : ∀ g, K g → (fun g => To0 Try.prog (LPost W) Z' Vq g) g := fun g h => by rw [eK] at h; exact h
  have yek : ∀ g, (fun g => To0 Try.prog (LPost W) Z' Vq g) g → K g := fun g h => by rw [eK]; exact h
  refine key _ ?_
  repeat (
    first
      | with_reducible refine mu_seq hK ?_
      | with_reducible refine mu_skip hK ?_
      | (with_reducible refine mu_region_end hK ?_; try subst hkk)
      | with_reducible refine mu_block hK ?_
      | with_reducible refine mu_inBlock hK ?_
      | with_reducible refine mu_ret hK ?_
      | with_reducible refine mu_end hK ?_
      | refine mu_exit hK rfl ?_
      | (with_reducible refine mu_regionH hK (fun kk hkk => ?_); simp only [List.size_toArray, List.length_cons, List.length_nil, Nat.reduceAdd, Nat.zero_add, List.range, List.range.loop])
      | (with_reducible refine mu_cond hK false ?_ ?_; (· first | (walk_nrm; done) | (simp [Act.eval]; done)); simp only [if_true, if_false, Bool.false_eq_true, ↓reduceIte])
      | (with_reducible refine mu_cond hK true ?_ ?_; (· first | (walk_nrm; done) | (simp [Act.eval]; done)); simp only [if_true, if_false, Bool.false_eq_true, ↓reduceIte])
      | (refine mu_unwanted hK rfl rfl ?_; walk_nrm)
      | (refine muv_val hV rfl (by first | exact .inl rfl | exact .inr rfl) rfl (by kernel_rfl) (fun J hJ => ?_); go_simp; with_reducible refine hJ _ ?_; clear hJ J; walk_nrm))
  refine yek _ ?_
  clear hK hV key yek eK K
  exact law_last (by kernel_rfl) rfl rfl Try.func8 rfl rfl Lq.o Lq.k
end
end Go.Proofs.Ytibcdikfbhmheaa
