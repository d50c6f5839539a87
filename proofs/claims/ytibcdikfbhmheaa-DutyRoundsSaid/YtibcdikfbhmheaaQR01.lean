/- duty's own functions: DutyRounds, the threads' acts. -/
import Derived.Test.YtibcdikfbhmheaaB20
import Derived.Test.YtibcdikfbhmheaaB17
import Derived.Laws.MakeOwn
set_option linter.unusedSimpArgs false
set_option linter.unusedVariables false
namespace Go.Proofs.Ytibcdikfbhmheaa
open Go Go.Conc Go.Proofs
open Go.ConcN (sumTo upd sumTo_upd upd_ne upd_same)
set_option linter.unusedVariables false
theorem array94 (T : Array Value) (h : T.size = 94) : ∃ v0 v1 v2 v3 v4 v5 v6 v7 v8 v9 v10 v11 v12 v13 v14 v15 v16 v17 v18 v19 v20 v21 v22 v23 v24 v25 v26 v27 v28 v29 v30 v31 v32 v33 v34 v35 v36 v37 v38 v39 v40 v41 v42 v43 v44 v45 v46 v47 v48 v49 v50 v51 v52 v53 v54 v55 v56 v57 v58 v59 v60 v61 v62 v63 v64 v65 v66 v67 v68 v69 v70 v71 v72 v73 v74 v75 v76 v77 v78 v79 v80 v81 v82 v83 v84 v85 v86 v87 v88 v89 v90 v91 v92 v93 : Value, T = #[v0, v1, v2, v3, v4, v5, v6, v7, v8, v9, v10, v11, v12, v13, v14, v15, v16, v17, v18, v19, v20, v21, v22, v23, v24, v25, v26, v27, v28, v29, v30, v31, v32, v33, v34, v35, v36, v37, v38, v39, v40, v41, v42, v43, v44, v45, v46, v47, v48, v49, v50, v51, v52, v53, v54, v55, v56, v57, v58, v59, v60, v61, v62, v63, v64, v65, v66, v67, v68, v69, v70, v71, v72, v73, v74, v75, v76, v77, v78, v79, v80, v81, v82, v83, v84, v85, v86, v87, v88, v89, v90, v91, v92, v93] := by
  obtain ⟨l⟩ := T
  simp only [List.size_toArray] at h
  rcases l with _ | ⟨v0, l⟩
  · simp at h
  rcases l with _ | ⟨v1, l⟩
  · simp at h
  rcases l with _ | ⟨v2, l⟩
  · simp at h
  rcases l with _ | ⟨v3, l⟩
  · simp at h
  rcases l with _ | ⟨v4, l⟩
  · simp at h
  rcases l with _ | ⟨v5, l⟩
  · simp at h
  rcases l with _ | ⟨v6, l⟩
  · simp at h
  rcases l with _ | ⟨v7, l⟩
  · simp at h
  rcases l with _ | ⟨v8, l⟩
  · simp at h
  rcases l with _ | ⟨v9, l⟩
  · simp at h
  rcases l with _ | ⟨v10, l⟩
  · simp at h
  rcases l with _ | ⟨v11, l⟩
  · simp at h
  rcases l with _ | ⟨v12, l⟩
  · simp at h
  rcases l with _ | ⟨v13, l⟩
  · simp at h
  rcases l with _ | ⟨v14, l⟩
  · simp at h
  rcases l with _ | ⟨v15, l⟩
  · simp at h
  rcases l with _ | ⟨v16, l⟩
  · simp at h
  rcases l with _ | ⟨v17, l⟩
  · simp at h
  rcases l with _ | ⟨v18, l⟩
  · simp at h
  rcases l with _ | ⟨v19, l⟩
  · simp at h
  rcases l with _ | ⟨v20, l⟩
  · simp at h
  rcases l with _ | ⟨v21, l⟩
  · simp at h
  rcases l with _ | ⟨v22, l⟩
  · simp at h
  rcases l with _ | ⟨v23, l⟩
  · simp at h
  rcases l with _ | ⟨v24, l⟩
  · simp at h
  rcases l with _ | ⟨v25, l⟩
  · simp at h
  rcases l with _ | ⟨v26, l⟩
  · simp at h
  rcases l with _ | ⟨v27, l⟩
  · simp at h
  rcases l with _ | ⟨v28, l⟩
  · simp at h
  rcases l with _ | ⟨v29, l⟩
  · simp at h
  rcases l with _ | ⟨v30, l⟩
  · simp at h
  rcases l with _ | ⟨v31, l⟩
  · simp at h
  rcases l with _ | ⟨v32, l⟩
  · simp at h
  rcases l with _ | ⟨v33, l⟩
  · simp at h
  rcases l with _ | ⟨v34, l⟩
  · simp at h
  rcases l with _ | ⟨v35, l⟩
  · simp at h
  rcases l with _ | ⟨v36, l⟩
  · simp at h
  rcases l with _ | ⟨v37, l⟩
  · simp at h
  rcases l with _ | ⟨v38, l⟩
  · simp at h
  rcases l with _ | ⟨v39, l⟩
  · simp at h
  rcases l with _ | ⟨v40, l⟩
  · simp at h
  rcases l with _ | ⟨v41, l⟩
  · simp at h
  rcases l with _ | ⟨v42, l⟩
  · simp at h
  rcases l with _ | ⟨v43, l⟩
  · simp at h
  rcases l with _ | ⟨v44, l⟩
  · simp at h
  rcases l with _ | ⟨v45, l⟩
  · simp at h
  rcases l with _ | ⟨v46, l⟩
  · simp at h
  rcases l with _ | ⟨v47, l⟩
  · simp at h
  rcases l with _ | ⟨v48, l⟩
  · simp at h
  rcases l with _ | ⟨v49, l⟩
  · simp at h
  rcases l with _ | ⟨v50, l⟩
  · simp at h
  rcases l with _ | ⟨v51, l⟩
  · simp at h
  rcases l with _ | ⟨v52, l⟩
  · simp at h
  rcases l with _ | ⟨v53, l⟩
  · simp at h
  rcases l with _ | ⟨v54, l⟩
  · simp at h
  rcases l with _ | ⟨v55, l⟩
  · simp at h
  rcases l with _ | ⟨v56, l⟩
  · simp at h
  rcases l with _ | ⟨v57, l⟩
  · simp at h
  rcases l with _ | ⟨v58, l⟩
  · simp at h
  rcases l with _ | ⟨v59, l⟩
  · simp at h
  rcases l with _ | ⟨v60, l⟩
  · simp at h
  rcases l with _ | ⟨v61, l⟩
  · simp at h
  rcases l with _ | ⟨v62, l⟩
  · simp at h
  rcases l with _ | ⟨v63, l⟩
  · simp at h
  rcases l with _ | ⟨v64, l⟩
  · simp at h
  rcases l with _ | ⟨v65, l⟩
  · simp at h
  rcases l with _ | ⟨v66, l⟩
  · simp at h
  rcases l with _ | ⟨v67, l⟩
  · simp at h
  rcases l with _ | ⟨v68, l⟩
  · simp at h
  rcases l with _ | ⟨v69, l⟩
  · simp at h
  rcases l with _ | ⟨v70, l⟩
  · simp at h
  rcases l with _ | ⟨v71, l⟩
  · simp at h
  rcases l with _ | ⟨v72, l⟩
  · simp at h
  rcases l with _ | ⟨v73, l⟩
  · simp at h
  rcases l with _ | ⟨v74, l⟩
  · simp at h
  rcases l with _ | ⟨v75, l⟩
  · simp at h
  rcases l with _ | ⟨v76, l⟩
  · simp at h
  rcases l with _ | ⟨v77, l⟩
  · simp at h
  rcases l with _ | ⟨v78, l⟩
  · simp at h
  rcases l with _ | ⟨v79, l⟩
  · simp at h
  rcases l with _ | ⟨v80, l⟩
  · simp at h
  rcases l with _ | ⟨v81, l⟩
  · simp at h
  rcases l with _ | ⟨v82, l⟩
  · simp at h
  rcases l with _ | ⟨v83, l⟩
  · simp at h
  rcases l with _ | ⟨v84, l⟩
  · simp at h
  rcases l with _ | ⟨v85, l⟩
  · simp at h
  rcases l with _ | ⟨v86, l⟩
  · simp at h
  rcases l with _ | ⟨v87, l⟩
  · simp at h
  rcases l with _ | ⟨v88, l⟩
  · simp at h
  rcases l with _ | ⟨v89, l⟩
  · simp at h
  rcases l with _ | ⟨v90, l⟩
  · simp at h
  rcases l with _ | ⟨v91, l⟩
  · simp at h
  rcases l with _ | ⟨v92, l⟩
  · simp at h
  rcases l with _ | ⟨v93, l⟩
  · simp at h
  rcases l with _ | ⟨x, l⟩
  · exact ⟨v0, v1, v2, v3, v4, v5, v6, v7, v8, v9, v10, v11, v12, v13, v14, v15, v16, v17, v18, v19, v20, v21, v22, v23, v24, v25, v26, v27, v28, v29, v30, v31, v32, v33, v34, v35, v36, v37, v38, v39, v40, v41, v42, v43, v44, v45, v46, v47, v48, v49, v50, v51, v52, v53, v54, v55, v56, v57, v58, v59, v60, v61, v62, v63, v64, v65, v66, v67, v68, v69, v70, v71, v72, v73, v74, v75, v76, v77, v78, v79, v80, v81, v82, v83, v84, v85, v86, v87, v88, v89, v90, v91, v92, v93, rfl⟩
  · simp at h
noncomputable def B5d : Code := Try.f5.body.getD .skip
noncomputable def DL1 : Code := nvl (nvk (nvb (nva (nvb (nvb (nvb (nvb B5d)))))))
noncomputable def DY11 : Code := nvb (nvb (nvb (nvb (nvb B5d))))
noncomputable def DL2 : Code := nvl (nvk (nvb (nva (nvb (nvb DY11)))))
noncomputable def DY25 : Code := nvb (nvb (nvb DY11))
noncomputable def DX3 : Code := nvk (nva (nvb DL2))
noncomputable def DR16 : Code := nvb (nvb DL2)
noncomputable def DL3 : Code := nvl (nvk (nvb (nva (nvb DX3))))
noncomputable def DY23 : Code := nvb (nvb DX3)
theorem info203 : (Try.prog.info? 203).map (fun i => (i.zero, i.size, i.bytes)) = some (some (.agg #[.int .i64 0, .int .i64 0]), 2, 16) := by kernel_rfl
theorem info44 : (Try.prog.info? 44).map (fun i => (i.zero, i.size, i.bytes)) = some (some (.slice none 0 0), 1, 24) := by kernel_rfl
theorem mk203 {k : Nat} (hk : k ≤ 1000) (w : World) : (Instr.makeSlice 44 (.int .i64 (k : Int)) (.int .i64 (k : Int))).run Try.prog w = .ok (.slice (some ⟨w.heap.size, 0, none⟩) k k) (w.alloc (.cells (madeCells #[.int .i64 0, .int .i64 0] (k * 2)) 203)) := by
  obtain ⟨i0, hi0, hz⟩ : ∃ i0, Try.prog.info? 203 = some i0 ∧ (i0.zero, i0.size, i0.bytes) = (some (.agg #[.int .i64 0, .int .i64 0]), 2, 16) := by
    have := info203
    cases e : Try.prog.info? 203 with
    | none => rw [e] at this; cases this
    | some i0 => rw [e] at this; exact ⟨i0, rfl, by simpa using this⟩
  obtain ⟨hz0, hz1, hz2⟩ : i0.zero = some (.agg #[.int .i64 0, .int .i64 0]) ∧ i0.size = 2 ∧ i0.bytes = 16 := by simpa using hz
  have h := run_make (P := Try.prog) w 44 203 i0 (.agg #[.int .i64 0, .int .i64 0]) Try.underlying44 hi0 hz0 .i64 .i64 k k (by omega) (Int.le_refl _) (by rw [hz2]; omega) (by omega)
  rw [hz1] at h
  simpa [Value.cells] using h
theorem made_two (k j : Nat) (hj : j < k) : (madeCells #[Value.int .i64 0, .int .i64 0] k)[j]? = some (.int .i64 0) := by
  have h : j % 2 = 0 ∨ j % 2 = 1 := by omega
  rcases h with h | h <;> simp [madeCells, hj, h]
def yac (ys : Nat → Nat) (i : Nat) : List (Int × Int) := List.replicate (ys i) (0, 0)
/-- The threads' acts behind k rounds. -/
structure Ac (ys : Nat → Nat) (V0 : World) (k : Nat) (rb : Nat → Nat) (V : World) (lv : Value) (mo : Int) : Prop where
  nrm : norm V = V
  kp : Kp V0 V
  row : V.ownsRow 0 44 1 lv k ((List.range k).map fun j => .slice (some ⟨rb j, 0, none⟩) (ys j) (ys j))
  rown : ∀ b, lv.ownBlock = some b → V0.heap.size ≤ b
  rb : ∀ j, j < k → V.heap[rb j]? = some (.cells (madeCells #[.int .i64 0, .int .i64 0] (ys j * 2)) 203 (0, 0))
  mo : 0 ≤ mo ∧ mo ≤ 20 ∧ ∀ j, j < k → (ys j : Int) + 1 ≤ mo
theorem ac_next {ys : Nat → Nat} {V0 : World} {k : Nat} {rb : Nat → Nat} {V V2 V3 : World} {lv lv' : Value} {mo mo' : Int} (M : Ac ys V0 k rb V lv mo) (s2 : V2.heap.size = V.heap.size + 2) (k2 : Kp V V2) (c1 : V2.heap[V.heap.size]? = some (.cells (madeCells #[.int .i64 0, .int .i64 0] (ys k * 2)) 203 (0, 0)))
    (hn3 : norm V3 = V3) (h5 : V3.ownsRow 0 44 1 lv' (k + 1) (((List.range k).map fun j => .slice (some ⟨rb j, 0, none⟩) (ys j) (ys j)) ++ [.slice (some ⟨V.heap.size, 0, none⟩) (ys k) (ys k)])) (h6 : V2.heap.size ≤ V3.heap.size ∧ ∀ b, b < V2.heap.size → lv.ownBlock ≠ some b → V3.heap[b]? = V2.heap[b]?) (h7 : lv'.ownBlock = lv.ownBlock ∨ lv'.ownBlock = some V2.heap.size) (hmo : mo ≤ mo' ∧ mo' ≤ 20 ∧ (ys k : Int) + 1 ≤ mo') :
    Ac ys V0 (k + 1) (upd rb k V.heap.size) V3 lv' mo' := by
  have hkp := M.kp.size
  have hof : ∀ b, lv.ownBlock = some b → b < V.heap.size := fun b hb => row_at M.row hb
  refine ⟨hn3, ⟨by omega, fun b hb => by rw [h6.2 b (by omega) (fun e => by have := M.rown b e; omega), k2.keep b (by omega), M.kp.keep b hb]⟩, ?_, fun b hb => ?_, fun j hj => ?_, by have := M.mo; omega, hmo.2.1, fun j hj => ?_⟩
  · have e : (List.range (k + 1)).map (fun j => Value.slice (some ⟨upd rb k V.heap.size j, 0, none⟩) (ys j) (ys j)) = ((List.range k).map fun j => .slice (some ⟨rb j, 0, none⟩) (ys j) (ys j)) ++ [.slice (some ⟨V.heap.size, 0, none⟩) (ys k) (ys k)] := by
      rw [List.range_succ, List.map_append]
      congr 1
      · apply List.map_congr_left
        intro j hj
        have : j < k := List.mem_range.1 hj
        rw [upd_ne _ _ (by omega)]
      · simp [upd_same]
    rw [e]
    exact h5
  · rcases h7 with h | h
    · exact M.rown b (by rw [← h]; exact hb)
    · rw [h] at hb
      obtain rfl : V2.heap.size = b := by simpa using hb
      omega
  · by_cases e : j = k
    · subst e
      rw [upd_same, h6.2 _ (by omega) (fun e => by have := hof _ e; omega)]
      exact c1
    · rw [upd_ne _ _ e]
      have h := M.rb j (by omega)
      have hlt := (Array.getElem?_eq_some_iff.1 h).1
      rw [h6.2 _ (by omega) (own_ty M.row h (by decide)), k2.keep _ hlt]
      exact h
  · by_cases e : j = k
    · subst e; exact hmo.2.2
    · have := M.mo.2.2 j (by omega); omega
theorem ac_rw {ys : Nat → Nat} {V0 : World} {k : Nat} {rb : Nat → Nat} {V : World} {lv : Value} {mo : Int} (M : Ac ys V0 k rb V lv mo) : ∃ la lc, lv = .slice la k lc ∧ Rw V la k (yac ys) (fun j => some ⟨rb j, 0, none⟩) ys := by
  obtain ⟨la, lc, e, h⟩ := rds_own M.row
  have h := h (fun j => .slice (some ⟨rb j, 0, none⟩) (ys j) (ys j)) (fun j hj => by simp [List.getElem?_map, List.getElem?_range, hj])
  refine ⟨la, lc, e, fun h0 => ?_, fun i hi h0 => ?_⟩
  · obtain ⟨g, o, e1, hg, c⟩ := h.2 h0
    exact ⟨g, o, e1, hg, fun j hj => by rw [c j hj]; simp [yac]⟩
  · have hb := M.rb i hi
    refine ⟨rb i, 0, rfl, (Array.getElem?_eq_some_iff.1 hb).1, fun j hj => ?_⟩
    have hj' : j < ys i := by simpa [yac] using hj
    have e : (yac ys i)[j]'hj = (0, 0) := by simp [yac]
    rw [e]
    exact ⟨cell_of hb (by rw [Nat.zero_add]; exact made_two _ _ (by omega)), cell_of hb (by rw [Nat.zero_add]; exact made_two _ _ (by omega))⟩
def HA (T : Array Value) (ya : Option Addr) (n yc : Nat) (mo : Int) (lv : Value) : Prop := T.size = 94 ∧ T[0]? = some (.slice ya n yc) ∧ T[3]? = some (.int .i64 mo) ∧ T[4]? = some lv
section
variable {W V V0 : World} {Z : Cuts} {n yc : Nat} {ya : Option Addr} {ys : Nat → Nat}
set_option maxRecDepth 100000 in
set_option maxHeartbeats 4000000 in
theorem acts_loop (hn : n ≤ 12) (hy : 0 < n → ∃ g o, ya = some ⟨g, o, none⟩ ∧ g < V0.heap.size ∧ ∀ j, j < n → ∃ z : Nat, z < 256 ∧ z % 20 = ys j ∧ V0.cell? ⟨g, o + j, none⟩ = some (.int .u8 (z : Int)))
    (Kend : ∀ T V rb lv mo, Ac ys V0 n rb V lv mo → HA T ya n yc mo lv → To0 Try.prog (LPost W) Z V (G ((base 5).at ⟨T, []⟩ [.code DY11]) [])) :
    ∀ (m k : Nat) T V rb lv mo, m + k = n → Ac ys V0 k rb V lv mo → HA T ya n yc mo lv → T[5]? = some (.int .i64 (k : Int)) → To0 Try.prog (LPost W) Z V (G ((base 5).at ⟨T, []⟩ [.code DL1, .inLoop DL1, .inBlock 0, .code DY11]) []) := by
  intro m
  induction m with
  | zero =>
    intro k T V rb lv mo hmk M ⟨hs, t0, t3, t4⟩ t5
    obtain rfl : k = n := by omega
    have hnV := M.nrm
    have q1 : decide ((k : Int) < (k : Int)) = false := decide_eq_false (by omega)
    have Kend' := fun T h => Kend T V rb lv mo M h
    clear Kend
    obtain ⟨v0, v1, v2, v3, v4, v5, v6, v7, v8, v9, v10, v11, v12, v13, v14, v15, v16, v17, v18, v19, v20, v21, v22, v23, v24, v25, v26, v27, v28, v29, v30, v31, v32, v33, v34, v35, v36, v37, v38, v39, v40, v41, v42, v43, v44, v45, v46, v47, v48, v49, v50, v51, v52, v53, v54, v55, v56, v57, v58, v59, v60, v61, v62, v63, v64, v65, v66, v67, v68, v69, v70, v71, v72, v73, v74, v75, v76, v77, v78, v79, v80, v81, v82, v83, v84, v85, v86, v87, v88, v89, v90, v91, v92, v93, rfl⟩ := array94 T hs
    simp only [List.getElem?_toArray, List.getElem?_cons_zero, List.getElem?_cons_succ, Option.some.injEq] at t0 t3 t4 t5
    subst t0 t3 t4 t5
    refine (fun (h : ∀ X, X = DL1 → To0 Try.prog (LPost W) Z V (G ((base 5).at ⟨_, []⟩ [.code X, .inLoop DL1, .inBlock 0, .code DY11]) [])) => h DL1 rfl) ?_
    intro X hX
    simp only [DL1, DY11, DL2, DY25, DX3, DR16, DL3, DY23, B5d, nva, nvb, nvk, nvl, Try.f5, Option.getD_some] at hX
    subst hX
    obtain ⟨K, eK⟩ : ∃ K : Goroutine → Prop, K = fun g => To0 Try.prog (LPost W) Z V g := ⟨_, rfl⟩
    have hK : Mu Try.prog (fun _ => True) K := by rw [eK]; exact mu_to0
    have hV : MuV Try.prog Lone V K := by rw [eK]; exact muv_to0 hnV
    have key : ∀ g, K g → (fun g => To0 Try.prog (LPost W) Z V g) g := fun g h => by rw [eK] at h; exact h
    have yek : ∀ g, (fun g => To0 Try.prog (LPost W) Z V g) g → K g := fun g h => by rw [eK]; exact h
    refine key _ ?_
    repeat (
      first
        | with_reducible refine mu_seq hK ?_
        | with_reducible refine mu_skip hK ?_
        | (with_reducible refine mu_region_end hK ?_; try subst hkk)
        | with_reducible refine mu_block hK ?_
        | with_reducible refine mu_inBlock hK ?_
        | with_reducible refine mu_ret hK ?_
        | with_reducible refine mu_end hK ?_
        | refine mu_exit hK rfl ?_
        | (with_reducible refine mu_regionH hK (fun kk hkk => ?_); simp only [List.size_toArray, List.length_cons, List.length_nil, Nat.reduceAdd, Nat.zero_add, List.range, List.range.loop])
        | (with_reducible refine mu_cond hK false ?_ ?_; (· first | (walk_nrm; done) | (simp [Act.eval]; done)); simp only [if_true, if_false, Bool.false_eq_true, ↓reduceIte])
        | (with_reducible refine mu_cond hK true ?_ ?_; (· first | (walk_nrm; done) | (simp [Act.eval]; done)); simp only [if_true, if_false, Bool.false_eq_true, ↓reduceIte])
        | (refine mu_unwanted hK rfl rfl ?_; walk_nrm)
        | (refine muv_val hV rfl (by first | exact .inl rfl | exact .inr rfl) rfl (by kernel_rfl) (fun J hJ => ?_); go_simp; with_reducible refine hJ _ ?_; clear hJ J; walk_nrm))
    refine yek _ ?_
    clear hK hV key yek eK K
    refine Kend' _ ?_
    exact ⟨by simp, rfl, rfl, rfl⟩
  | succ m ih =>
    intro k T V rb lv mo hmk M ⟨hs, t0, t3, t4⟩ t5
    have hk : k < n := by omega
    have hnV := M.nrm
    obtain ⟨g, o, hya, hg, hc⟩ := hy (by omega)
    obtain ⟨z, hz, hzy, hcz⟩ := hc k hk
    have d1 : ∀ τ, (re V τ 0).cell? ⟨g, o + k, none⟩ = some (.int .u8 (z : Int)) := fun τ => M.kp.cell hcz
    have q1 : decide ((k : Int) < (n : Int)) = true := decide_eq_true (by omega)
    have q2 : ¬ ((k : Int) < 0) := by omega
    have q3 : ¬ ((n : Int) ≤ (k : Int)) := by omega
    have hyk : ys k < 20 := by omega
    have u1 : IntKind.i64.wrap (z : Int) = (z : Int) := by rw [IntKind.wrap_i64]; omega
    have u2 : (z : Int).tmod 20 = (ys k : Int) := by rw [Int.tmod_eq_emod_of_nonneg (by omega)]; omega
    have u4 : (z : Int) % 20 = (ys k : Int) := by omega
    have u3 : IntKind.i64.wrap (ys k : Int) = (ys k : Int) := by rw [IntKind.wrap_i64]; omega
    have u5 : IntKind.i64.wrap ((ys k : Int) + 1) = (ys k : Int) + 1 := by rw [IntKind.wrap_i64]; omega
    have w4 : IntKind.i64.wrap ((k : Int) + 1) = ((k + 1 : Nat) : Int) := by rw [IntKind.wrap_i64]; omega
    have mk : ∀ w, (Instr.makeSlice 44 (.int .i64 (ys k : Int)) (.int .i64 (ys k : Int))).run Try.prog w = .ok (.slice (some ⟨w.heap.size, 0, none⟩) (ys k) (ys k)) (w.alloc (.cells (madeCells #[.int .i64 0, .int .i64 0] (ys k * 2)) 203)) := fun w => mk203 (by omega) w
    subst hya
    clear hc hcz hy Kend hzy
    obtain ⟨mo', hmo', hmo1, hmo2, hmo3⟩ : ∃ mo' : Int, (if mo < (ys k : Int) + 1 then (ys k : Int) + 1 else mo) = mo' ∧ mo ≤ mo' ∧ mo' ≤ 20 ∧ (ys k : Int) + 1 ≤ mo' := by
      refine ⟨_, rfl, ?_⟩
      have := M.mo
      split <;> omega
    obtain ⟨v0, v1, v2, v3, v4, v5, v6, v7, v8, v9, v10, v11, v12, v13, v14, v15, v16, v17, v18, v19, v20, v21, v22, v23, v24, v25, v26, v27, v28, v29, v30, v31, v32, v33, v34, v35, v36, v37, v38, v39, v40, v41, v42, v43, v44, v45, v46, v47, v48, v49, v50, v51, v52, v53, v54, v55, v56, v57, v58, v59, v60, v61, v62, v63, v64, v65, v66, v67, v68, v69, v70, v71, v72, v73, v74, v75, v76, v77, v78, v79, v80, v81, v82, v83, v84, v85, v86, v87, v88, v89, v90, v91, v92, v93, rfl⟩ := array94 T hs
    simp only [List.getElem?_toArray, List.getElem?_cons_zero, List.getElem?_cons_succ, Option.some.injEq] at t0 t3 t4 t5
    subst t0 t3 t4 t5
    refine (fun (h : ∀ X, X = DL1 → To0 Try.prog (LPost W) Z V (G ((base 5).at ⟨_, []⟩ [.code X, .inLoop DL1, .inBlock 0, .code DY11]) [])) => h DL1 rfl) ?_
    intro X hX
    simp only [DL1, DY11, DL2, DY25, DX3, DR16, DL3, DY23, B5d, nva, nvb, nvk, nvl, Try.f5, Option.getD_some] at hX
    subst hX
    obtain ⟨K, eK⟩ : ∃ K : Goroutine → Prop, K = fun g => To0 Try.prog (LPost W) Z V g := ⟨_, rfl⟩
    have hK : Mu Try.prog (fun _ => True) K := by rw [eK]; exact mu_to0
    have hV : MuV Try.prog Lone V K := by rw [eK]; exact muv_to0 hnV
    have key : ∀ g, K g → (fun g => To0 Try.prog (LPost W) Z V g) g := fun g h => by rw [eK] at h; exact h
    have yek : ∀ g, (fun g => To0 Try.prog (LPost W) Z V g) g → K g := fun g h => by rw [eK]; exact h
    refine key _ ?_
    repeat (
      first
        | with_reducible refine mu_seq hK ?_
        | with_reducible refine mu_skip hK ?_
        | (with_reducible refine mu_region_end hK ?_; try subst hkk)
        | with_reducible refine mu_block hK ?_
        | with_reducible refine mu_inBlock hK ?_
        | with_reducible refine mu_ret hK ?_
        | with_reducible refine mu_end hK ?_
        | refine mu_exit hK rfl ?_
        | (with_reducible refine mu_regionH hK (fun kk hkk => ?_); simp only [List.size_toArray, List.length_cons, List.length_nil, Nat.reduceAdd, Nat.zero_add, List.range, List.range.loop])
        | (with_reducible refine mu_cond hK false ?_ ?_; (· first | (walk_nrm; done) | (simp [Act.eval]; done)); simp only [if_true, if_false, Bool.false_eq_true, ↓reduceIte])
        | (with_reducible refine mu_cond hK true ?_ ?_; (· first | (walk_nrm; done) | (simp [Act.eval]; done)); simp only [if_true, if_false, Bool.false_eq_true, ↓reduceIte])
        | (refine mu_unwanted hK rfl rfl ?_; walk_nrm)
        | (refine muv_val hV rfl (by first | exact .inl rfl | exact .inr rfl) rfl (by kernel_rfl) (fun J hJ => ?_); go_simp; with_reducible refine hJ _ ?_; clear hJ J; walk_nrm))
    refine yek _ ?_
    clear hK hV key yek eK K
    have hn1 : norm (V.alloc (.cells (madeCells #[.int .i64 0, .int .i64 0] (ys k * 2)) 203)) = (V.alloc (.cells (madeCells #[.int .i64 0, .int .i64 0] (ys k * 2)) 203)) := norm_al hnV _
    refine mua_put (L := Lone) (v := .slice (some ⟨V.heap.size, 0, none⟩) (ys k) (ys k)) (mua_to0 hn1) (K := fun g => To0 Try.prog (LPost W) Z V g) (K' := fun g => To0 Try.prog (LPost W) Z (V.alloc (.cells (madeCells #[.int .i64 0, .int .i64 0] (ys k * 2)) 203)) g) rfl (.inl rfl) rfl (by kernel_rfl) (fun τ => ?_) ?_
    · go_simp
      first | exact ⟨by first | rfl | assumption | (simp only [re]; omega), rfl⟩ | rfl | (simp; done)
    have sV1 : (V.alloc (.cells (madeCells #[.int .i64 0, .int .i64 0] (ys k * 2)) 203)).heap.size = V.heap.size + 1 := al_size _ _
    have kV1 : Kp V (V.alloc (.cells (madeCells #[.int .i64 0, .int .i64 0] (ys k * 2)) 203)) := kp_alloc _ _
    have rV1 : (V.alloc (.cells (madeCells #[.int .i64 0, .int .i64 0] (ys k * 2)) 203)).heap[V.heap.size]? = some (.cells (madeCells #[.int .i64 0, .int .i64 0] (ys k * 2)) 203) := by rw [al_get, if_pos rfl]
    generalize (V.alloc (.cells (madeCells #[.int .i64 0, .int .i64 0] (ys k * 2)) 203)) = V1 at *
    walk_nrm
    obtain ⟨K, eK⟩ : ∃ K : Goroutine → Prop, K = fun g => To0 Try.prog (LPost W) Z V1 g := ⟨_, rfl⟩
    have hK : Mu Try.prog (fun _ => True) K := by rw [eK]; exact mu_to0
    have hV : MuV Try.prog Lone V1 K := by rw [eK]; exact muv_to0 hn1
    have key : ∀ g, K g → (fun g => To0 Try.prog (LPost W) Z V1 g) g := fun g h => by rw [eK] at h; exact h
    have yek : ∀ g, (fun g => To0 Try.prog (LPost W) Z V1 g) g → K g := fun g h => by rw [eK]; exact h
    refine key _ ?_
    repeat (
      first
        | with_reducible refine mu_seq hK ?_
        | with_reducible refine mu_skip hK ?_
        | (with_reducible refine mu_region_end hK ?_; try subst hkk)
        | with_reducible refine mu_block hK ?_
        | with_reducible refine mu_inBlock hK ?_
        | with_reducible refine mu_ret hK ?_
        | with_reducible refine mu_end hK ?_
        | refine mu_exit hK rfl ?_
        | (with_reducible refine mu_regionH hK (fun kk hkk => ?_); simp only [List.size_toArray, List.length_cons, List.length_nil, Nat.reduceAdd, Nat.zero_add, List.range, List.range.loop])
        | (with_reducible refine mu_cond hK false ?_ ?_; (· first | (walk_nrm; done) | (simp [Act.eval]; done)); simp only [if_true, if_false, Bool.false_eq_true, ↓reduceIte])
        | (with_reducible refine mu_cond hK true ?_ ?_; (· first | (walk_nrm; done) | (simp [Act.eval]; done)); simp only [if_true, if_false, Bool.false_eq_true, ↓reduceIte])
        | (refine mu_unwanted hK rfl rfl ?_; walk_nrm)
        | (refine muv_val hV rfl (by first | exact .inl rfl | exact .inr rfl) rfl (by kernel_rfl) (fun J hJ => ?_); go_simp; with_reducible refine hJ _ ?_; clear hJ J; walk_nrm))
    refine yek _ ?_
    clear hK hV key yek eK K
    have hn2 : norm (V1.alloc (.cells #[.slice (some ⟨V.heap.size, 0, none⟩) (ys k) (ys k)] 44)) = (V1.alloc (.cells #[.slice (some ⟨V.heap.size, 0, none⟩) (ys k) (ys k)] 44)) := norm_al hn1 _
    refine mua_put (L := Lone) (v := .slice (some ⟨V1.heap.size, 0, none⟩) 1 1) (mua_to0 hn2) (K := fun g => To0 Try.prog (LPost W) Z V1 g) (K' := fun g => To0 Try.prog (LPost W) Z (V1.alloc (.cells #[.slice (some ⟨V.heap.size, 0, none⟩) (ys k) (ys k)] 44)) g) rfl (.inl rfl) rfl (by kernel_rfl) (fun τ => ?_) ?_
    · go_simp
      first | exact ⟨by first | rfl | assumption | (simp only [re]; omega), rfl⟩ | rfl | (simp; done)
    have sV2 : (V1.alloc (.cells #[.slice (some ⟨V.heap.size, 0, none⟩) (ys k) (ys k)] 44)).heap.size = V1.heap.size + 1 := al_size _ _
    have kV2 : Kp V1 (V1.alloc (.cells #[.slice (some ⟨V.heap.size, 0, none⟩) (ys k) (ys k)] 44)) := kp_alloc _ _
    have rV2 : (V1.alloc (.cells #[.slice (some ⟨V.heap.size, 0, none⟩) (ys k) (ys k)] 44)).heap[V1.heap.size]? = some (.cells #[.slice (some ⟨V.heap.size, 0, none⟩) (ys k) (ys k)] 44) := by rw [al_get, if_pos rfl]
    generalize (V1.alloc (.cells #[.slice (some ⟨V.heap.size, 0, none⟩) (ys k) (ys k)] 44)) = V2 at *
    walk_nrm
    have k2 : Kp V V2 := kV1.trans kV2
    have s2 : V2.heap.size = V.heap.size + 2 := by omega
    have c4 : V2.cell? ⟨V1.heap.size, 0, none⟩ = some (.slice (some ⟨V.heap.size, 0, none⟩) (ys k) (ys k)) := cell_of rV2 (by simp)
    have e1 : V2.heap[V.heap.size]? = some (.cells (madeCells #[.int .i64 0, .int .i64 0] (ys k * 2)) 203 (0, 0)) := by rw [kV2.keep _ (by omega)]; exact rV1
    have r4 : V2.ownsRow 0 44 1 v4 k ((List.range k).map fun j => .slice (some ⟨rb j, 0, none⟩) (ys j) (ys j)) := row_keep M.row fun b hb => k2.keep b (row_at M.row hb)
    obtain ⟨K, eK⟩ : ∃ K : Goroutine → Prop, K = fun g => To0 Try.prog (LPost W) Z V2 g := ⟨_, rfl⟩
    have hK : Mu Try.prog (fun _ => True) K := by rw [eK]; exact mu_to0
    have hV : MuV Try.prog Lone V2 K := by rw [eK]; exact muv_to0 hn2
    have key : ∀ g, K g → (fun g => To0 Try.prog (LPost W) Z V2 g) g := fun g h => by rw [eK] at h; exact h
    have yek : ∀ g, (fun g => To0 Try.prog (LPost W) Z V2 g) g → K g := fun g h => by rw [eK]; exact h
    refine key _ ?_
    repeat (
      first
        | with_reducible refine mu_seq hK ?_
        | with_reducible refine mu_skip hK ?_
        | (with_reducible refine mu_region_end hK ?_; try subst hkk)
        | with_reducible refine mu_block hK ?_
        | with_reducible refine mu_inBlock hK ?_
        | with_reducible refine mu_ret hK ?_
        | with_reducible refine mu_end hK ?_
        | refine mu_exit hK rfl ?_
        | (with_reducible refine mu_regionH hK (fun kk hkk => ?_); simp only [List.size_toArray, List.length_cons, List.length_nil, Nat.reduceAdd, Nat.zero_add, List.range, List.range.loop])
        | (with_reducible refine mu_cond hK false ?_ ?_; (· first | (walk_nrm; done) | (simp [Act.eval]; done)); simp only [if_true, if_false, Bool.false_eq_true, ↓reduceIte])
        | (with_reducible refine mu_cond hK true ?_ ?_; (· first | (walk_nrm; done) | (simp [Act.eval]; done)); simp only [if_true, if_false, Bool.false_eq_true, ↓reduceIte])
        | (refine mu_unwanted hK rfl rfl ?_; walk_nrm)
        | (refine muv_val hV rfl (by first | exact .inl rfl | exact .inr rfl) rfl (by kernel_rfl) (fun J hJ => ?_); go_simp; with_reducible refine hJ _ ?_; clear hJ J; walk_nrm))
    refine yek _ ?_
    clear hK hV key yek eK K
    refine to0_ex (L := Lone) rfl rfl rfl (by kernel_rfl) (fun v W => W.ownsRow 0 44 1 v (k + 1) (((List.range k).map fun j => .slice (some ⟨rb j, 0, none⟩) (ys j) (ys j)) ++ [.slice (some ⟨V.heap.size, 0, none⟩) (ys k) (ys k)]) ∧ (V2.heap.size ≤ W.heap.size ∧ ∀ b, b < V2.heap.size → v4.ownBlock ≠ some b → W.heap[b]? = V2.heap[b]?) ∧ (v.ownBlock = v4.ownBlock ∨ v.ownBlock = some V2.heap.size)) (fun τ => ?_) (fun lv' V3 ⟨r1, r2, r3⟩ hn3 => ?_)
    · obtain ⟨v', w', a1, a2, a3, a4⟩ := app_one (t := 22) Try.underlying22 info44 rfl (by decide) r4 c4 rfl (by omega) τ
      refine ⟨v', w', ?_, a2, a3, a4⟩
      exact run_app_opm (s := .tmp 33) (x := .tmp 36) rfl rfl rfl a1
    have M' := ac_next M s2 k2 e1 hn3 r1 r2 r3 ⟨hmo1, hmo2, hmo3⟩
    walk_nrm
    obtain ⟨K, eK⟩ : ∃ K : Goroutine → Prop, K = fun g => To0 Try.prog (LPost W) Z V3 g := ⟨_, rfl⟩
    have hK : Mu Try.prog (fun _ => True) K := by rw [eK]; exact mu_to0
    have hV : MuV Try.prog Lone V3 K := by rw [eK]; exact muv_to0 hn3
    have key : ∀ g, K g → (fun g => To0 Try.prog (LPost W) Z V3 g) g := fun g h => by rw [eK] at h; exact h
    have yek : ∀ g, (fun g => To0 Try.prog (LPost W) Z V3 g) g → K g := fun g h => by rw [eK]; exact h
    refine key _ ?_
    repeat (
      first
        | with_reducible refine mu_seq hK ?_
        | with_reducible refine mu_skip hK ?_
        | (with_reducible refine mu_region_end hK ?_; try subst hkk)
        | with_reducible refine mu_block hK ?_
        | with_reducible refine mu_inBlock hK ?_
        | with_reducible refine mu_ret hK ?_
        | with_reducible refine mu_end hK ?_
        | refine mu_exit hK rfl ?_
        | (with_reducible refine mu_regionH hK (fun kk hkk => ?_); simp only [List.size_toArray, List.length_cons, List.length_nil, Nat.reduceAdd, Nat.zero_add, List.range, List.range.loop])
        | (with_reducible refine mu_cond hK false ?_ ?_; (· first | (walk_nrm; done) | (simp [Act.eval]; done)); simp only [if_true, if_false, Bool.false_eq_true, ↓reduceIte])
        | (with_reducible refine mu_cond hK true ?_ ?_; (· first | (walk_nrm; done) | (simp [Act.eval]; done)); simp only [if_true, if_false, Bool.false_eq_true, ↓reduceIte])
        | (refine mu_unwanted hK rfl rfl ?_; walk_nrm)
        | (refine muv_val hV rfl (by first | exact .inl rfl | exact .inr rfl) rfl (by kernel_rfl) (fun J hJ => ?_); go_simp; with_reducible refine hJ _ ?_; clear hJ J; walk_nrm))
    refine mu_inLoop hK ?_
    refine yek _ ?_
    clear hK hV key yek eK K
    refine (fun (h : ∀ Y, DL1 = Y → To0 Try.prog (LPost W) Z V3 (G ((base 5).at _ [.code Y, .inLoop Y, .inBlock 0, .code DY11]) [])) => h _ (by simp only [DL1, DY11, DL2, DY25, DX3, DR16, DL3, DY23, B5d, nva, nvb, nvk, nvl, Try.f5, Option.getD_some])) ?_
    intro Y hY
    subst hY
    refine ih (k + 1) _ V3 _ lv' mo' (by omega) M' ?_ ?_
    · exact ⟨by simp, rfl, rfl, rfl⟩
    · rfl
end
end Go.Proofs.Ytibcdikfbhmheaa
