/- duty's own functions: DutyRounds, whole. -/
import Derived.Test.YtibcdikfbhmheaaQR04
set_option linter.unusedSimpArgs false
set_option linter.unusedVariables false
namespace Go.Proofs.Ytibcdikfbhmheaa
open Go Go.Conc Go.Proofs
open Go.ConcN (sumTo upd sumTo_upd upd_ne upd_same)
set_option linter.unusedVariables false
section
variable {W V : World} {Z : Cuts}
set_option maxRecDepth 100000 in
set_option maxHeartbeats 4000000 in
theorem rnd_end (L : LS W Z V) {la : Option Addr} {n lc rb : Nat} (T : Array Value) (hT : HC T la n lc rb) : To0 Try.prog (LPost W) Z V (G ((base 5).at ⟨T, []⟩ [.code DY25]) []) := by
  obtain ⟨hs, t4, t7⟩ := hT
  obtain ⟨v0, v1, v2, v3, v4, v5, v6, v7, v8, v9, v10, v11, v12, v13, v14, v15, v16, v17, v18, v19, v20, v21, v22, v23, v24, v25, v26, v27, v28, v29, v30, v31, v32, v33, v34, v35, v36, v37, v38, v39, v40, v41, v42, v43, v44, v45, v46, v47, v48, v49, v50, v51, v52, v53, v54, v55, v56, v57, v58, v59, v60, v61, v62, v63, v64, v65, v66, v67, v68, v69, v70, v71, v72, v73, v74, v75, v76, v77, v78, v79, v80, v81, v82, v83, v84, v85, v86, v87, v88, v89, v90, v91, v92, v93, rfl⟩ := array94 T hs
  simp only [List.getElem?_toArray, List.getElem?_cons_zero, List.getElem?_cons_succ, Option.some.injEq] at t4 t7
  subst t4 t7
  refine (fun (h : ∀ X, X = DY25 → To0 Try.prog (LPost W) Z V (G ((base 5).at ⟨_, []⟩ [.code X]) [])) => h DY25 rfl) ?_
  intro X hX
  simp only [DL1, DY11, DL2, DY25, DX3, DR16, DL3, DY23, B5d, nva, nvb, nvk, nvl, Try.f5, Option.getD_some] at hX
  subst hX
  obtain ⟨K, eK⟩ : ∃ K : Goroutine → Prop, K = fun g => To0 Try.prog (LPost W) Z V g := ⟨_, rfl⟩
  have hK : Mu Try.prog (fun _ => True) K := by rw [eK]; exact mu_to0
  have hV : MuV Try.prog Lone V K := by rw [eK]; exact muv_to0 L.n
  have key : ∀ g, K g → (fun g => To0 Try.prog (LPost W) Z V g) g := fun g h => by rw [eK] at h; exact h
  have yek : ∀ g, (fun g => To0 Try.prog (LPost W) Z V g) g → K g := fun g h => by rw [eK]; exact h
  refine key _ ?_
  repeat (
    first
      | with_reducible refine mu_seq hK ?_
      | with_reducible refine mu_skip hK ?_
      | (with_reducible refine mu_region_end hK ?_; try subst hkk)
      | with_reducible refine mu_block hK ?_
      | with_reducible refine mu_inBlock hK ?_
      | with_reducible refine mu_ret hK ?_
      | with_reducible refine mu_end hK ?_
      | refine mu_exit hK rfl ?_
      | (with_reducible refine mu_regionH hK (fun kk hkk => ?_); simp only [List.size_toArray, List.length_cons, List.length_nil, Nat.reduceAdd, Nat.zero_add, List.range, List.range.loop])
      | (with_reducible refine mu_cond hK false ?_ ?_; (· first | (walk_nrm; done) | (simp [Act.eval]; done)); simp only [if_true, if_false, Bool.false_eq_true, ↓reduceIte])
      | (with_reducible refine mu_cond hK true ?_ ?_; (· first | (walk_nrm; done) | (simp [Act.eval]; done)); simp only [if_true, if_false, Bool.false_eq_true, ↓reduceIte])
      | (refine mu_unwanted hK rfl rfl ?_; walk_nrm)
      | (refine muv_val hV rfl (by first | exact .inl rfl | exact .inr rfl) rfl (by kernel_rfl) (fun J hJ => ?_); go_simp; with_reducible refine hJ _ ?_; clear hJ J; walk_nrm))
  refine mu_call hK rfl rfl (by decide) rfl Try.func18 (by kernel_rfl) rfl ?_
  rw [← enter_at (P := Try.prog) _ Try.func18 rfl]
  walk_nrm
  refine yek _ ?_
  clear hK hV key yek eK K
  refine live_go L.n L.z fun Zq Vq hnq hzq hoq kq => ?_
  have Lq := L.next hnq hzq hoq kq
  walk_nrm
  obtain ⟨K, eK⟩ : ∃ K : Goroutine → Prop, K = fun g => To0 Try.prog (LPost W) Zq Vq g := ⟨_, rfl⟩
  have hK : Mu Try.prog (fun _ => True) K := by rw [eK]; exact mu_to0
  have hV : MuV Try.prog Lone Vq K := by rw [eK]; exact muv_to0 Lq.n
  have key : ∀ g, K g → (fun g => To0 Try.prog (LPost W) Zq Vq g) g := fun g h => by rw [eK] at h; exact h
  have yek : ∀ g, (fun g => To0 Try.prog (LPost W) Zq Vq g) g → K g := fun g h => by rw [eK]; exact h
  refine key _ ?_
  repeat (
    first
      | with_reducible refine mu_seq hK ?_
      | with_reducible refine mu_skip hK ?_
      | (with_reducible refine mu_region_end hK ?_; try subst hkk)
      | with_reducible refine mu_block hK ?_
      | with_reducible refine mu_inBlock hK ?_
      | with_reducible refine mu_ret hK ?_
      | with_reducible refine mu_end hK ?_
      | refine mu_exit hK rfl ?_
      | (with_reducible refine mu_regionH hK (fun kk hkk => ?_); simp only [List.size_toArray, List.length_cons, List.length_nil, Nat.reduceAdd, Nat.zero_add, List.range, List.range.loop])
      | (with_reducible refine mu_cond hK false ?_ ?_; (· first | (walk_nrm; done) | (simp [Act.eval]; done)); simp only [if_true, if_false, Bool.false_eq_true, ↓reduceIte])
      | (with_reducible refine mu_cond hK true ?_ ?_; (· first | (walk_nrm; done) | (simp [Act.eval]; done)); simp only [if_true, if_false, Bool.false_eq_true, ↓reduceIte])
      | (refine mu_unwanted hK rfl rfl ?_; walk_nrm)
      | (refine muv_val hV rfl (by first | exact .inl rfl | exact .inr rfl) rfl (by kernel_rfl) (fun J hJ => ?_); go_simp; with_reducible refine hJ _ ?_; clear hJ J; walk_nrm))
  refine yek _ ?_
  clear hK hV key yek eK K
  exact law_last (by kernel_rfl) rfl rfl Try.func5 rfl rfl Lq.o Lq.k
set_option maxRecDepth 100000 in
set_option maxHeartbeats 4000000 in
theorem duty_rounds (L : LS W Z V) {n yc : Nat} {ya : Option Addr} {ys : Nat → Nat} (hy : 0 < n → ∃ g o, ya = some ⟨g, o, none⟩ ∧ g < V.heap.size ∧ ∀ j, j < n → ∃ z : Nat, z < 256 ∧ z % 20 = ys j ∧ V.cell? ⟨g, o + j, none⟩ = some (.int .u8 (z : Int))) (hys : ∀ j, j < n → ys j < 20) :
    To0 Try.prog (LPost W) Z V (G (Frame.enter Try.prog 5 #[.slice ya n yc] .normal) []) := by
  rw [enter_at (P := Try.prog) _ Try.func5 rfl]
  simp only [Try.f5]
  walk_nrm
  by_cases hA : 12 < n
  · have q1 : decide ((12 : Int) < (n : Int)) = true := decide_eq_true (by omega)
    obtain ⟨K, eK⟩ : ∃ K : Goroutine → Prop, K = fun g => To0 Try.prog (LPost W) Z V g := ⟨_, rfl⟩
    have hK : Mu Try.prog (fun _ => True) K := by rw [eK]; exact mu_to0
    have hV : MuV Try.prog Lone V K := by rw [eK]; exact muv_to0 L.n
    have key : ∀ g, K g → (fun g => To0 Try.prog (LPost W) Z V g) g := fun g h => by rw [eK] at h; exact h
    have yek : ∀ g, (fun g => To0 Try.prog (LPost W) Z V g) g → K g := fun g h => by rw [eK]; exact h
    refine key _ ?_
    repeat (
      first
        | with_reducible refine mu_seq hK ?_
        | with_reducible refine mu_skip hK ?_
        | (with_reducible refine mu_region_end hK ?_; try subst hkk)
        | with_reducible refine mu_block hK ?_
        | with_reducible refine mu_inBlock hK ?_
        | with_reducible refine mu_ret hK ?_
        | with_reducible refine mu_end hK ?_
        | refine mu_exit hK rfl ?_
        | (with_reducible refine mu_regionH hK (fun kk hkk => ?_); simp only [List.size_toArray, List.length_cons, List.length_nil, Nat.reduceAdd, Nat.zero_add, List.range, List.range.loop])
        | (with_reducible refine mu_cond hK false ?_ ?_; (· first | (walk_nrm; done) | (simp [Act.eval]; done)); simp only [if_true, if_false, Bool.false_eq_true, ↓reduceIte])
        | (with_reducible refine mu_cond hK true ?_ ?_; (· first | (walk_nrm; done) | (simp [Act.eval]; done)); simp only [if_true, if_false, Bool.false_eq_true, ↓reduceIte])
        | (refine mu_unwanted hK rfl rfl ?_; walk_nrm)
        | (refine muv_val hV rfl (by first | exact .inl rfl | exact .inr rfl) rfl (by kernel_rfl) (fun J hJ => ?_); go_simp; with_reducible refine hJ _ ?_; clear hJ J; walk_nrm))
    refine mu_call hK rfl rfl (by decide) rfl Try.func18 (by kernel_rfl) rfl ?_
    rw [← enter_at (P := Try.prog) _ Try.func18 rfl]
    walk_nrm
    refine yek _ ?_
    clear hK hV key yek eK K
    refine live_go L.n L.z fun Zq Vq hnq hzq hoq kq => ?_
    have Lq := L.next hnq hzq hoq kq
    walk_nrm
    obtain ⟨K, eK⟩ : ∃ K : Goroutine → Prop, K = fun g => To0 Try.prog (LPost W) Zq Vq g := ⟨_, rfl⟩
    have hK : Mu Try.prog (fun _ => True) K := by rw [eK]; exact mu_to0
    have hV : MuV Try.prog Lone Vq K := by rw [eK]; exact muv_to0 Lq.n
    have key : ∀ g, K g → (fun g => To0 Try.prog (LPost W) Zq Vq g) g := fun g h => by rw [eK] at h; exact h
    have yek : ∀ g, (fun g => To0 Try.prog (LPost W) Zq Vq g) g → K g := fun g h => by rw [eK]; exact h
    refine key _ ?_
    repeat (
      first
        | with_reducible refine mu_seq hK ?_
        | with_reducible refine mu_skip hK ?_
        | (with_reducible refine mu_region_end hK ?_; try subst hkk)
        | with_reducible refine mu_block hK ?_
        | with_reducible refine mu_inBlock hK ?_
        | with_reducible refine mu_ret hK ?_
        | with_reducible refine mu_end hK ?_
        | refine mu_exit hK rfl ?_
        | (with_reducible refine mu_regionH hK (fun kk hkk => ?_); simp only [List.size_toArray, List.length_cons, List.length_nil, Nat.reduceAdd, Nat.zero_add, List.range, List.range.loop])
        | (with_reducible refine mu_cond hK false ?_ ?_; (· first | (walk_nrm; done) | (simp [Act.eval]; done)); simp only [if_true, if_false, Bool.false_eq_true, ↓reduceIte])
        | (with_reducible refine mu_cond hK true ?_ ?_; (· first | (walk_nrm; done) | (simp [Act.eval]; done)); simp only [if_true, if_false, Bool.false_eq_true, ↓reduceIte])
        | (refine mu_unwanted hK rfl rfl ?_; walk_nrm)
        | (refine muv_val hV rfl (by first | exact .inl rfl | exact .inr rfl) rfl (by kernel_rfl) (fun J hJ => ?_); go_simp; with_reducible refine hJ _ ?_; clear hJ J; walk_nrm))
    refine yek _ ?_
    clear hK hV key yek eK K
    exact law_last (by kernel_rfl) rfl rfl Try.func5 rfl rfl Lq.o Lq.k
  have q1 : decide ((12 : Int) < (n : Int)) = false := decide_eq_false (by omega)
  obtain ⟨K, eK⟩ : ∃ K : Goroutine → Prop, K = fun g => To0 Try.prog (LPost W) Z V g := ⟨_, rfl⟩
  have hK : Mu Try.prog (fun _ => True) K := by rw [eK]; exact mu_to0
  have hV : MuV Try.prog Lone V K := by rw [eK]; exact muv_to0 L.n
  have key : ∀ g, K g → (fun g => To0 Try.prog (LPost W) Z V g) g := fun g h => by rw [eK] at h; exact h
  have yek : ∀ g, (fun g => To0 Try.prog (LPost W) Z V g) g → K g := fun g h => by rw [eK]; exact h
  refine key _ ?_
  repeat (
    first
      | with_reducible refine mu_seq hK ?_
      | with_reducible refine mu_skip hK ?_
      | (with_reducible refine mu_region_end hK ?_; try subst hkk)
      | with_reducible refine mu_block hK ?_
      | with_reducible refine mu_inBlock hK ?_
      | with_reducible refine mu_ret hK ?_
      | with_reducible refine mu_end hK ?_
      | refine mu_exit hK rfl ?_
      | (with_reducible refine mu_regionH hK (fun kk hkk => ?_); simp only [List.size_toArray, List.length_cons, List.length_nil, Nat.reduceAdd, Nat.zero_add, List.range, List.range.loop])
      | (with_reducible refine mu_cond hK false ?_ ?_; (· first | (walk_nrm; done) | (simp [Act.eval]; done)); simp only [if_true, if_false, Bool.false_eq_true, ↓reduceIte])
      | (with_reducible refine mu_cond hK true ?_ ?_; (· first | (walk_nrm; done) | (simp [Act.eval]; done)); simp only [if_true, if_false, Bool.false_eq_true, ↓reduceIte])
      | (refine mu_unwanted hK rfl rfl ?_; walk_nrm)
      | (refine muv_val hV rfl (by first | exact .inl rfl | exact .inr rfl) rfl (by kernel_rfl) (fun J hJ => ?_); go_simp; with_reducible refine hJ _ ?_; clear hJ J; walk_nrm))
  refine mu_loop hK ?_
  refine yek _ ?_
  clear hK hV key yek eK K
  refine (fun (h : ∀ X Y, DL1 = X → DY11 = Y → To0 Try.prog (LPost W) Z V (G ((base 5).at _ [.code X, .inLoop X, .inBlock 0, .code Y]) [])) => h _ _ (by simp only [DL1, DY11, DL2, DY25, DX3, DR16, DL3, DY23, B5d, nva, nvb, nvk, nvl, Try.f5, Option.getD_some]) (by simp only [DL1, DY11, DL2, DY25, DX3, DR16, DL3, DY23, B5d, nva, nvb, nvk, nvl, Try.f5, Option.getD_some])) ?_
  intro X Y hX hY
  subst hX hY
  refine acts_loop (V0 := V) (ys := ys) (by omega) hy (fun T V1 rb0 lv mo M hT => ?_) n 0 _ V (fun _ => 0) (.slice none 0 0) 0 (by omega) ⟨L.n, Kp.refl _, World.ownsRow_nil _ _ _ _, fun b hb => (by cases hb), fun j hj => absurd hj (by omega), by omega, by omega, fun j hj => absurd hj (by omega)⟩ ⟨by simp, rfl, rfl, rfl⟩ rfl
  have hn1 := M.nrm
  have L1 := L.same hn1 M.kp
  obtain ⟨la, lc, rfl, hR⟩ := ac_rw M
  obtain ⟨hm0, hm20, hmy⟩ := M.mo
  obtain ⟨hs, t0, t3, t4⟩ := hT
  obtain ⟨v0, v1, v2, v3, v4, v5, v6, v7, v8, v9, v10, v11, v12, v13, v14, v15, v16, v17, v18, v19, v20, v21, v22, v23, v24, v25, v26, v27, v28, v29, v30, v31, v32, v33, v34, v35, v36, v37, v38, v39, v40, v41, v42, v43, v44, v45, v46, v47, v48, v49, v50, v51, v52, v53, v54, v55, v56, v57, v58, v59, v60, v61, v62, v63, v64, v65, v66, v67, v68, v69, v70, v71, v72, v73, v74, v75, v76, v77, v78, v79, v80, v81, v82, v83, v84, v85, v86, v87, v88, v89, v90, v91, v92, v93, rfl⟩ := array94 T hs
  simp only [List.getElem?_toArray, List.getElem?_cons_zero, List.getElem?_cons_succ, Option.some.injEq] at t0 t3 t4
  subst t0 t3 t4
  refine (fun (h : ∀ X, X = DY11 → To0 Try.prog (LPost W) Z V1 (G ((base 5).at ⟨_, []⟩ [.code X]) [])) => h DY11 rfl) ?_
  intro X hX
  simp only [DL1, DY11, DL2, DY25, DX3, DR16, DL3, DY23, B5d, nva, nvb, nvk, nvl, Try.f5, Option.getD_some] at hX
  subst hX
  obtain ⟨K, eK⟩ : ∃ K : Goroutine → Prop, K = fun g => To0 Try.prog (LPost W) Z V1 g := ⟨_, rfl⟩
  have hK : Mu Try.prog (fun _ => True) K := by rw [eK]; exact mu_to0
  have hV : MuV Try.prog Lone V1 K := by rw [eK]; exact muv_to0 hn1
  have key : ∀ g, K g → (fun g => To0 Try.prog (LPost W) Z V1 g) g := fun g h => by rw [eK] at h; exact h
  have yek : ∀ g, (fun g => To0 Try.prog (LPost W) Z V1 g) g → K g := fun g h => by rw [eK]; exact h
  refine key _ ?_
  repeat (
    first
      | with_reducible refine mu_seq hK ?_
      | with_reducible refine mu_skip hK ?_
      | (with_reducible refine mu_region_end hK ?_; try subst hkk)
      | with_reducible refine mu_block hK ?_
      | with_reducible refine mu_inBlock hK ?_
      | with_reducible refine mu_ret hK ?_
      | with_reducible refine mu_end hK ?_
      | refine mu_exit hK rfl ?_
      | (with_reducible refine mu_regionH hK (fun kk hkk => ?_); simp only [List.size_toArray, List.length_cons, List.length_nil, Nat.reduceAdd, Nat.zero_add, List.range, List.range.loop])
      | (with_reducible refine mu_cond hK false ?_ ?_; (· first | (walk_nrm; done) | (simp [Act.eval]; done)); simp only [if_true, if_false, Bool.false_eq_true, ↓reduceIte])
      | (with_reducible refine mu_cond hK true ?_ ?_; (· first | (walk_nrm; done) | (simp [Act.eval]; done)); simp only [if_true, if_false, Bool.false_eq_true, ↓reduceIte])
      | (refine mu_unwanted hK rfl rfl ?_; walk_nrm)
      | (refine muv_val hV rfl (by first | exact .inl rfl | exact .inr rfl) rfl (by kernel_rfl) (fun J hJ => ?_); go_simp; with_reducible refine hJ _ ?_; clear hJ J; walk_nrm))
  refine mu_call hK rfl rfl (by decide) rfl Try.func19 (by kernel_rfl) rfl ?_
  rw [← enter_at (P := Try.prog) _ Try.func19 rfl]
  walk_nrm
  refine yek _ ?_
  clear hK hV key yek eK K
  have hyl : ∀ i, (yac ys i).length = ys i := fun i => by simp [yac]
  have hle20 : ∀ i, i < n → (yac ys i).length ≤ 20 := fun i hi => by rw [hyl]; have := hys i hi; omega
  obtain ⟨Rn, rfl⟩ : ∃ Rn : Nat, mo = Rn := ⟨mo.toNat, by omega⟩
  have hsum : sumTo n (fun i => (yac ys i).length) < 1000000000 := by
    have h1 : sumTo n (fun i => (yac ys i).length) ≤ sumTo n (fun _ => 20) := sum_le_of fun y hy => hle20 y hy
    have h2 : ∀ k, sumTo k (fun _ => 20) = 20 * k := fun k => by
      induction k with
      | zero => rfl
      | succ k ih => simp only [sumTo, ih]; omega
    rw [h2] at h1
    omega
  refine play_go (ps := []) (Rn := Rn) hn1 L1.z (by omega) hR hsum (fun i hi => by have := hle20 i hi; omega) (fun i hi a ha => by
    have : a = (0, 0) := List.eq_of_mem_replicate ha
    rw [this]; decide) ⟨⟨none, 0, rfl, fun h => absurd h (by simp)⟩, by simp⟩ (by simp) (by rw [if_neg (by rw [if_neg (by omega)]; omega), if_neg (by omega)]) fun s xs Z' V2 ov ovr pkr lv2 wp hrun A => ?_
  have hcount : ∀ i, i < n → xs.count i = ys i + 1 ∧ cl (s.st i) = 3 := fun i hi => by
    have := rounds_law n ys Rn (fun i hi => by have := hmy i hi; omega) i hi
    rw [← hrun] at this
    exact this
  have hxl : xs.length ≤ Rn * n := by
    have := rounds_len n ys Rn
    rw [← hrun] at this
    exact this
  have hxl2 : xs.length < 1000000000 := by
    have : Rn * n ≤ 20 * 12 := Nat.mul_le_mul (by omega) (by omega)
    omega
  have L2 := L1.next A.nrm A.z A.zo A.kp
  have o1 := A.o1
  have o2 := A.o2
  have o3 := A.o3
  have hn2 := A.nrm
  obtain ⟨A1, c1, rfl, R1⟩ := rds_own o1
  obtain ⟨A2, c2, rfl, R2⟩ := rds_own o2
  obtain ⟨A3, c3, rfl, -⟩ := rds_own o3
  have R1 := R1 (fun j => .int .i64 ((xs.getD j 0 : Nat) : Int)) (fun j hj => by simp [ints, List.getElem?_map, List.getD_eq_getElem?_getD, List.getElem?_eq_getElem hj])
  have R2 := R2 (fun _ => .bool true) (fun j hj => by simp [tbl, List.getElem?_map, List.getElem?_range, hj, (hcount j hj).2])
  have hR2 := hR.kp A.kp
  clear A hrun
  walk_nrm
  obtain ⟨K, eK⟩ : ∃ K : Goroutine → Prop, K = fun g => To0 Try.prog (LPost W) Z' V2 g := ⟨_, rfl⟩
  have hK : Mu Try.prog (fun _ => True) K := by rw [eK]; exact mu_to0
  have hV : MuV Try.prog Lone V2 K := by rw [eK]; exact muv_to0 hn2
  have key : ∀ g, K g → (fun g => To0 Try.prog (LPost W) Z' V2 g) g := fun g h => by rw [eK] at h; exact h
  have yek : ∀ g, (fun g => To0 Try.prog (LPost W) Z' V2 g) g → K g := fun g h => by rw [eK]; exact h
  refine key _ ?_
  repeat (
    first
      | with_reducible refine mu_seq hK ?_
      | with_reducible refine mu_skip hK ?_
      | (with_reducible refine mu_region_end hK ?_; try subst hkk)
      | with_reducible refine mu_block hK ?_
      | with_reducible refine mu_inBlock hK ?_
      | with_reducible refine mu_ret hK ?_
      | with_reducible refine mu_end hK ?_
      | refine mu_exit hK rfl ?_
      | (with_reducible refine mu_regionH hK (fun kk hkk => ?_); simp only [List.size_toArray, List.length_cons, List.length_nil, Nat.reduceAdd, Nat.zero_add, List.range, List.range.loop])
      | (with_reducible refine mu_cond hK false ?_ ?_; (· first | (walk_nrm; done) | (simp [Act.eval]; done)); simp only [if_true, if_false, Bool.false_eq_true, ↓reduceIte])
      | (with_reducible refine mu_cond hK true ?_ ?_; (· first | (walk_nrm; done) | (simp [Act.eval]; done)); simp only [if_true, if_false, Bool.false_eq_true, ↓reduceIte])
      | (refine mu_unwanted hK rfl rfl ?_; walk_nrm)
      | (refine muv_val hV rfl (by first | exact .inl rfl | exact .inr rfl) rfl (by kernel_rfl) (fun J hJ => ?_); go_simp; with_reducible refine hJ _ ?_; clear hJ J; walk_nrm))
  refine yek _ ?_
  clear hK hV key yek eK K
  have hnV3 : norm (V2.alloc (.cells #[.slice none 0 0, .slice none 0 0, .slice none 0 0] 28)) = (V2.alloc (.cells #[.slice none 0 0, .slice none 0 0, .slice none 0 0] 28)) := norm_al hn2 _
  refine mua_put (L := Lone) (v := .pointer (some ⟨V2.heap.size, 0, none⟩)) (mua_to0 hnV3) (K := fun g => To0 Try.prog (LPost W) Z' V2 g) (K' := fun g => To0 Try.prog (LPost W) Z' (V2.alloc (.cells #[.slice none 0 0, .slice none 0 0, .slice none 0 0] 28)) g) rfl (.inl rfl) rfl (by kernel_rfl) (fun τ => ?_) ?_
  · go_simp
    first | exact ⟨by first | rfl | assumption | (simp only [re]; omega), rfl⟩ | rfl | (simp; done)
  have sV3 : (V2.alloc (.cells #[.slice none 0 0, .slice none 0 0, .slice none 0 0] 28)).heap.size = V2.heap.size + 1 := al_size _ _
  have kV3 : Kp V2 (V2.alloc (.cells #[.slice none 0 0, .slice none 0 0, .slice none 0 0] 28)) := kp_alloc _ _
  have rV3 : (V2.alloc (.cells #[.slice none 0 0, .slice none 0 0, .slice none 0 0] 28)).heap[V2.heap.size]? = some (.cells #[.slice none 0 0, .slice none 0 0, .slice none 0 0] 28) := by rw [al_get, if_pos rfl]
  generalize (V2.alloc (.cells #[.slice none 0 0, .slice none 0 0, .slice none 0 0] 28)) = V3 at *
  walk_nrm
  have f0 : ∀ τ, (re V3 τ 0).cell? ⟨V2.heap.size, 0, none⟩ = some (.slice none 0 0) := fun τ => cell_of rV3 (by simp)
  have z0 : ∀ τ, (re V3 τ 0).frozen? ⟨V2.heap.size, 0, none⟩ = false := fun τ => by simp [World.frozen?, re, rV3]
  have f1 : ∀ τ, (re V3 τ 0).cell? ⟨V2.heap.size, 1, none⟩ = some (.slice none 0 0) := fun τ => cell_of rV3 (by simp)
  have z1 : ∀ τ, (re V3 τ 0).frozen? ⟨V2.heap.size, 1, none⟩ = false := fun τ => by simp [World.frozen?, re, rV3]
  have f2 : ∀ τ, (re V3 τ 0).cell? ⟨V2.heap.size, 2, none⟩ = some (.slice none 0 0) := fun τ => cell_of rV3 (by simp)
  have z2 : ∀ τ, (re V3 τ 0).frozen? ⟨V2.heap.size, 2, none⟩ = false := fun τ => by simp [World.frozen?, re, rV3]
  have hnV4 : norm (set3 V3 V2.heap.size (.slice A1 xs.length c1) (.slice A2 n c2) (.slice A3 n c3)) = (set3 V3 V2.heap.size (.slice A1 xs.length c1) (.slice A2 n c2) (.slice A3 n c3)) := norm_set (norm_set (norm_set hnV3 _ _) _ _) _ _
  have kV4 : Kp V2 (set3 V3 V2.heap.size (.slice A1 xs.length c1) (.slice A2 n c2) (.slice A3 n c3)) := kp_set3 kV3 (Nat.le_refl _)
  have rV4 : (set3 V3 V2.heap.size (.slice A1 xs.length c1) (.slice A2 n c2) (.slice A3 n c3)).heap[V2.heap.size]? = some (.cells #[(.slice A1 xs.length c1), (.slice A2 n c2), (.slice A3 n c3)] 28 (0, 0)) := by
    unfold set3
    rw [setCell_heap, if_pos rfl, setCell_heap, if_pos rfl, setCell_heap, if_pos rfl, rV3]
    simp
  refine mus_put (L := Lone) (mus_to0 hnV4) (K := fun g => To0 Try.prog (LPost W) Z' V3 g) (K' := fun g => To0 Try.prog (LPost W) Z' (set3 V3 V2.heap.size (.slice A1 xs.length c1) (.slice A2 n c2) (.slice A3 n c3)) g) rfl (.inl rfl) rfl (by kernel_rfl) (fun τ => ?_) ?_
  · go_simp
    rfl
  clear f0 f1 f2 z0 z1 z2
  generalize (set3 V3 V2.heap.size (.slice A1 xs.length c1) (.slice A2 n c2) (.slice A3 n c3)) = V4 at *
  walk_nrm
  have L4 := L2.same hnV4 kV4
  obtain ⟨K, eK⟩ : ∃ K : Goroutine → Prop, K = fun g => To0 Try.prog (LPost W) Z' V4 g := ⟨_, rfl⟩
  have hK : Mu Try.prog (fun _ => True) K := by rw [eK]; exact mu_to0
  have hV : MuV Try.prog Lone V4 K := by rw [eK]; exact muv_to0 hnV4
  have key : ∀ g, K g → (fun g => To0 Try.prog (LPost W) Z' V4 g) g := fun g h => by rw [eK] at h; exact h
  have yek : ∀ g, (fun g => To0 Try.prog (LPost W) Z' V4 g) g → K g := fun g h => by rw [eK]; exact h
  refine key _ ?_
  repeat (
    first
      | with_reducible refine mu_seq hK ?_
      | with_reducible refine mu_skip hK ?_
      | (with_reducible refine mu_region_end hK ?_; try subst hkk)
      | with_reducible refine mu_block hK ?_
      | with_reducible refine mu_inBlock hK ?_
      | with_reducible refine mu_ret hK ?_
      | with_reducible refine mu_end hK ?_
      | refine mu_exit hK rfl ?_
      | (with_reducible refine mu_regionH hK (fun kk hkk => ?_); simp only [List.size_toArray, List.length_cons, List.length_nil, Nat.reduceAdd, Nat.zero_add, List.range, List.range.loop])
      | (with_reducible refine mu_cond hK false ?_ ?_; (· first | (walk_nrm; done) | (simp [Act.eval]; done)); simp only [if_true, if_false, Bool.false_eq_true, ↓reduceIte])
      | (with_reducible refine mu_cond hK true ?_ ?_; (· first | (walk_nrm; done) | (simp [Act.eval]; done)); simp only [if_true, if_false, Bool.false_eq_true, ↓reduceIte])
      | (refine mu_unwanted hK rfl rfl ?_; walk_nrm)
      | (refine muv_val hV rfl (by first | exact .inl rfl | exact .inr rfl) rfl (by kernel_rfl) (fun J hJ => ?_); go_simp; with_reducible refine hJ _ ?_; clear hJ J; walk_nrm))
  refine mu_loop hK ?_
  refine yek _ ?_
  clear hK hV key yek eK K
  refine (fun (h : ∀ X Y, DL2 = X → DY25 = Y → To0 Try.prog (LPost W) Z' V4 (G ((base 5).at _ [.code X, .inLoop X, .inBlock 2, .code Y]) [])) => h _ _ (by simp only [DL1, DY11, DL2, DY25, DX3, DR16, DL3, DY23, B5d, nva, nvb, nvk, nvl, Try.f5, Option.getD_some]) (by simp only [DL1, DY11, DL2, DY25, DX3, DR16, DL3, DY23, B5d, nva, nvb, nvk, nvl, Try.f5, Option.getD_some])) ?_
  intro X Y hX hY
  subst hX hY
  exact chk_loop (ys := ys) (xs := xs) hnV4 (by omega) rV4 (kV4.rds R1) (kV4.rds R2) (hR2.kp kV4) rfl hxl2 hys (fun i hi => (hcount i hi).1) (fun T hT => rnd_end L4 T hT) n 0 _ (by omega) ⟨by simp, rfl, rfl⟩ rfl
end
end Go.Proofs.Ytibcdikfbhmheaa
