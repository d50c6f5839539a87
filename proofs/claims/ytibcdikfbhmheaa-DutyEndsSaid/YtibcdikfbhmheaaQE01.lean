/- The run of threads by a beginning of the picks: the plain law. -/
import Derived.Test.YtibcdikfbhmheaaB21
import Derived.Laws.StructEq
set_option linter.unusedSimpArgs false
set_option linter.unusedVariables false
namespace Go.Proofs.Ytibcdikfbhmheaa
open Go Go.Conc Go.Proofs
open Go.ConcN (sumTo upd sumTo_upd upd_ne upd_same)
set_option linter.unusedVariables false
theorem tgo_log (n i : Nat) : ∀ (l : List (Int × Int)) (p : Nat) (s : TS), ∃ t, (tgo n i l p s).log = s.log ++ t := by
  intro l
  induction l with
  | nil => intro p s; exact ⟨[], by simp [tgo, TS.set]⟩
  | cons a r ih =>
    intro p s
    obtain ⟨d, x⟩ := a
    unfold tgo
    split
    · exact ⟨[(i, p)], rfl⟩
    · split
      · exact ⟨[(i, p)], rfl⟩
      · split
        · obtain ⟨t, h⟩ := ih (p + 1) { s.note i p with st := wake n s.st x }
          exact ⟨(i, p) :: t, by rw [h]; simp [TS.note]⟩
        · split
          · exact ⟨[(i, p)], rfl⟩
          · obtain ⟨t, h⟩ := ih (p + 1) (s.note i p)
            exact ⟨(i, p) :: t, by rw [h]; simp [TS.note]⟩
theorem cl_over (n : Nat) (st : Nat → Int) (x : Int) (j : Nat) (h : cl (st j) = 3) : cl (wake n st x j) = 3 := by
  unfold wake
  split
  · rename_i h2
    rw [upd_ne _ _ (fun e => by subst e; rw [h2.2.2] at h; exact absurd h (by decide))]
    exact h
  · exact h
theorem tgo_ov (n i : Nat) : ∀ (l : List (Int × Int)) (p : Nat) (s : TS) (j : Nat), j ≠ i → cl (s.st j) = 3 → cl ((tgo n i l p s).st j) = 3 := by
  intro l
  induction l with
  | nil => intro p s j hj h; show cl (upd s.st i 3 j) = 3; rw [upd_ne _ _ hj]; exact h
  | cons a r ih =>
    intro p s j hj h
    obtain ⟨d, x⟩ := a
    unfold tgo
    split
    · show cl (upd s.st i 1 j) = 3; rw [upd_ne _ _ hj]; exact h
    · split
      · show cl (upd s.st i 2 j) = 3; rw [upd_ne _ _ hj]; exact h
      · split
        · exact ih _ _ j hj (cl_over n s.st x j h)
        · split
          · show cl (upd s.st i 3 j) = 3; rw [upd_ne _ _ hj]; exact h
          · exact ih _ _ j hj h
/-- y is later than x. -/
structure Beh (x y : TS × List Nat) : Prop where
  lg : ∃ t, y.1.log = x.1.log ++ t
  od : ∃ t, y.2 = x.2 ++ t
  ov : ∀ j, cl (x.1.st j) = 3 → cl (y.1.st j) = 3
theorem Beh.refl (x : TS × List Nat) : Beh x x := ⟨⟨[], by simp⟩, ⟨[], by simp⟩, fun _ h => h⟩
theorem Beh.trans {x y z : TS × List Nat} (h : Beh x y) (k : Beh y z) : Beh x z := by
  obtain ⟨t, e⟩ := h.lg
  obtain ⟨t', e'⟩ := k.lg
  obtain ⟨u, f⟩ := h.od
  obtain ⟨u', f'⟩ := k.od
  exact ⟨⟨t ++ t', by rw [e', e, List.append_assoc]⟩, ⟨u ++ u', by rw [f', f, List.append_assoc]⟩, fun j hj => k.ov j (h.ov j hj)⟩
theorem tstp_beh (n : Nat) (acts : Nat → List (Int × Int)) (x : TS × List Nat) (i : Nat) : Beh x (tstp n acts x i) := by
  unfold tstp
  split
  · rename_i h
    refine ⟨tgo_log n i _ _ _, ⟨[i], rfl⟩, fun j hj => tgo_ov n i _ _ _ j (fun e => ?_) hj⟩
    subst e
    omega
  · exact Beh.refl x
theorem tpk_beh (n : Nat) (acts : Nat → List (Int × Int)) (x : TS × List Nat) (p : Int) : Beh x (tpk n acts x p) := by
  unfold tpk
  split
  · exact Beh.refl x
  · exact tstp_beh n acts x _
theorem tpks_beh (n : Nat) (acts : Nat → List (Int × Int)) : ∀ (ps : List Int) (x : TS × List Nat), Beh x (ps.foldl (tpk n acts) x) := by
  intro ps
  induction ps with
  | nil => intro x; exact Beh.refl x
  | cons p ps ih => intro x; rw [List.foldl_cons]; exact (tpk_beh n acts x p).trans (ih _)
/-- What comes by more picks begins with what came by fewer. -/
theorem trun_beh (n : Nat) (acts : Nat → List (Int × Int)) (ps : List Int) (k : Nat) : Beh (trun n acts 0 (ps.take k)) (trun n acts 0 ps) := by
  show Beh ((ps.take k).foldl (tpk n acts) (tzero, [])) (ps.foldl (tpk n acts) (tzero, []))
  have h := tpks_beh n acts (ps.drop k) ((ps.take k).foldl (tpk n acts) (tzero, []))
  rw [← List.foldl_append, List.take_append_drop] at h
  exact h
theorem notes_len (l : List (Nat × Nat)) : (notes l).length = l.length * 2 := by
  induction l with
  | nil => rfl
  | cons a l ih => show (_ :: _ :: notes l).length = _; rw [List.length_cons, List.length_cons, ih, List.length_cons]; omega
theorem notes_at : ∀ (l : List (Nat × Nat)) (j : Nat), j < l.length → (notes l)[j * 2]? = some (.int .i64 ((l.getD j (0, 0)).1 : Int)) ∧ (notes l)[j * 2 + 1]? = some (.int .i64 ((l.getD j (0, 0)).2 : Int)) := by
  intro l
  induction l with
  | nil => intro j hj; exact absurd hj (by simp)
  | cons a l ih =>
    intro j hj
    cases j with
    | zero => exact ⟨rfl, rfl⟩
    | succ j =>
      have h := ih j (by simpa using hj)
      show (_ :: _ :: notes l)[(j + 1) * 2]? = _ ∧ (_ :: _ :: notes l)[(j + 1) * 2 + 1]? = _
      rw [show (j + 1) * 2 = j * 2 + 1 + 1 by omega, List.getElem?_cons_succ, List.getElem?_cons_succ, List.getElem?_cons_succ, List.getElem?_cons_succ, List.getD_cons_succ]
      exact h
/-- A row of notes, read. -/
theorem rd_notes {w : World} {e : TypeId} {v : Value} {l : List (Nat × Nat)} (h : w.ownsRow 0 e 2 v l.length (notes l)) : ∃ A c, v = .slice A l.length c ∧ l.length ≤ 9223372036854775807 ∧ (0 < l.length → ∃ g, A = some ⟨g, 0, none⟩ ∧ g < w.heap.size ∧ ∀ j, j < l.length → w.cell? ⟨g, j * 2, none⟩ = some (.int .i64 ((l.getD j (0, 0)).1 : Int)) ∧ w.cell? ⟨g, j * 2 + 1, none⟩ = some (.int .i64 ((l.getD j (0, 0)).2 : Int))) := by
  obtain ⟨h1, h2⟩ := h
  rcases h2 with ⟨rfl, e0⟩ | ⟨g, cap, cur, rfl, _, h4, h5, h6, h7, h8⟩
  · exact ⟨_, _, by rw [e0], by omega, fun h => absurd h (by omega)⟩
  · refine ⟨_, _, rfl, by simp only [maxLen] at h6; omega, fun h0 => ⟨g, rfl, (Array.getElem?_eq_some_iff.1 h4).1, fun j hj => ?_⟩⟩
    obtain ⟨n1, n2⟩ := notes_at l j hj
    rw [← h8, List.getElem?_take, if_pos (by omega)] at n1 n2
    simp only [World.cell?, h4]
    exact ⟨by simpa using n1, by simpa using n2⟩
end Go.Proofs.Ytibcdikfbhmheaa
/- duty's own functions: DutyEnds, what was noted. -/
namespace Go.Proofs.Ytibcdikfbhmheaa
open Go Go.Conc Go.Proofs
open Go.ConcN (sumTo upd sumTo_upd upd_ne upd_same)
set_option linter.unusedVariables false
theorem array146f (T : Array Value) (h : T.size = 146) : ∃ f : Nat → Value, (∀ i v, T[i]? = some v → f i = v) ∧ T = #[f 0, f 1, f 2, f 3, f 4, f 5, f 6, f 7, f 8, f 9, f 10, f 11, f 12, f 13, f 14, f 15, f 16, f 17, f 18, f 19, f 20, f 21, f 22, f 23, f 24, f 25, f 26, f 27, f 28, f 29, f 30, f 31, f 32, f 33, f 34, f 35, f 36, f 37, f 38, f 39, f 40, f 41, f 42, f 43, f 44, f 45, f 46, f 47, f 48, f 49, f 50, f 51, f 52, f 53, f 54, f 55, f 56, f 57, f 58, f 59, f 60, f 61, f 62, f 63, f 64, f 65, f 66, f 67, f 68, f 69, f 70, f 71, f 72, f 73, f 74, f 75, f 76, f 77, f 78, f 79, f 80, f 81, f 82, f 83, f 84, f 85, f 86, f 87, f 88, f 89, f 90, f 91, f 92, f 93, f 94, f 95, f 96, f 97, f 98, f 99, f 100, f 101, f 102, f 103, f 104, f 105, f 106, f 107, f 108, f 109, f 110, f 111, f 112, f 113, f 114, f 115, f 116, f 117, f 118, f 119, f 120, f 121, f 122, f 123, f 124, f 125, f 126, f 127, f 128, f 129, f 130, f 131, f 132, f 133, f 134, f 135, f 136, f 137, f 138, f 139, f 140, f 141, f 142, f 143, f 144, f 145] := by
  refine ⟨fun i => T.getD i undef, fun i v hv => by simp [Array.getD_eq_getD_getElem?, hv], ?_⟩
  generalize hf : (fun i => T.getD i undef) = f
  have e : T.toList = (List.range 146).map f := by
    apply List.ext_getElem?
    intro i
    rw [List.getElem?_map, Array.getElem?_toList]
    by_cases hi : i < 146
    · rw [List.getElem?_range hi, Option.map_some, ← hf]
      simp [Array.getD_eq_getD_getElem?, Array.getElem?_eq_getElem (show i < T.size by omega)]
    · rw [List.getElem?_eq_none (by simp; omega), Array.getElem?_eq_none (by omega)]
      rfl
  have e2 : (List.range 146).map f = [f 0, f 1, f 2, f 3, f 4, f 5, f 6, f 7, f 8, f 9, f 10, f 11, f 12, f 13, f 14, f 15, f 16, f 17, f 18, f 19, f 20, f 21, f 22, f 23, f 24, f 25, f 26, f 27, f 28, f 29, f 30, f 31, f 32, f 33, f 34, f 35, f 36, f 37, f 38, f 39, f 40, f 41, f 42, f 43, f 44, f 45, f 46, f 47, f 48, f 49, f 50, f 51, f 52, f 53, f 54, f 55, f 56, f 57, f 58, f 59, f 60, f 61, f 62, f 63, f 64, f 65, f 66, f 67, f 68, f 69, f 70, f 71, f 72, f 73, f 74, f 75, f 76, f 77, f 78, f 79, f 80, f 81, f 82, f 83, f 84, f 85, f 86, f 87, f 88, f 89, f 90, f 91, f 92, f 93, f 94, f 95, f 96, f 97, f 98, f 99, f 100, f 101, f 102, f 103, f 104, f 105, f 106, f 107, f 108, f 109, f 110, f 111, f 112, f 113, f 114, f 115, f 116, f 117, f 118, f 119, f 120, f 121, f 122, f 123, f 124, f 125, f 126, f 127, f 128, f 129, f 130, f 131, f 132, f 133, f 134, f 135, f 136, f 137, f 138, f 139, f 140, f 141, f 142, f 143, f 144, f 145] := rfl
  rw [e2] at e
  rw [← Array.toArray_toList (xs := T), e]
noncomputable def B4e : Code := Try.f4.body.getD .skip
noncomputable def E1 : Code := nvb (nvb (nvb (nvb (nvb (nvb B4e)))))
noncomputable def EL1 : Code := nvl (nvk (nvb (nva E1)))
noncomputable def E2 : Code := nvb E1
noncomputable def EL2 : Code := nvl (nvk (nvb (nva E2)))
noncomputable def E3 : Code := nvb E2
theorem isAgg3' : ∀ w, (isAgg 3).run Try.prog w = .ok false w := fun w => by
  unfold isAgg
  rw [Sem.run_bind, run_underlying Try.underlying3 w]
  rfl
theorem size3' : ∀ w, (sizeOf 3).run Try.prog w = .ok 1 w := fun w => by
  have h : (Try.prog.info? 3).map (·.size) = some 1 := by kernel_rfl
  unfold sizeOf typeInfo
  cases e : Try.prog.info? 3 with
  | none => rw [e] at h; cases h
  | some i => rw [e] at h; simp [Sem.run_bind, e]; simpa using h
theorem eq41 (a b c d : Int) (w : World) : (Op.equalIn 10000 41 (.agg #[.int .i64 a, .int .i64 b]) (.agg #[.int .i64 c, .int .i64 d])).run Try.prog w = .ok (a == c && b == d) w := by
  have u3 := Try.underlying3
  have a3 := isAgg3'
  have z3 := size3'
  have hS : Try.prog.underlying 41 = some (.struct (Try.prog.fieldsOf 41)) := by kernel_rfl
  have hp : Try.prog.stoodInHeld 41 = false := by kernel_rfl
  rw [show (10000 : Nat) = 9999 + 1 from rfl, run_equalIn_agg w 9999 41 _ _ hS hp]
  simp only [Program.fieldsOf, Try.underlying41]
  go_simp
  by_cases h1 : a = c <;> by_cases h2 : b = d <;> simp [h1, h2]
theorem lin_nil {md : Region.Mode} {ops : Array Oper} {t : Nat} {listed : Array Bool} : Region.linearise.go md ops 0 t listed [] = [] := rfl
theorem lin_one {md : Region.Mode} {ops : Array Oper} {t n i : Nat} {listed : Array Bool} (h : Region.ready md ops listed = [i]) : Region.linearise.go md ops (n + 1) t listed [] = i :: Region.linearise.go md ops n (t / 1) (listed.setIfInBounds i true) [] := by
  simp only [Region.linearise.go]
  change (match (Region.ready md ops listed)[t % (Region.ready md ops listed).length]? with
      | some i => Region.linearise.go md ops n (t / (Region.ready md ops listed).length) (listed.setIfInBounds i true) [i]
      | none => [].reverse) = _
  rw [h]
  simp only [List.length_singleton, Nat.mod_one, List.getElem?_cons_zero]
  rw [linearise_go_acc, List.reverse_singleton, List.singleton_append]
def HEn (T : Array Value) (la : Option Addr) (n lc rb wb ln qb xb : Nat) : Prop := T.size = 146 ∧ T[0]? = some (.slice la n lc) ∧ T[7]? = some (.pointer (some ⟨rb, 0, none⟩)) ∧ T[8]? = some (.pointer (some ⟨wb, 0, none⟩)) ∧ T[10]? = some (.int .i64 (ln : Int)) ∧ T[11]? = some (.pointer (some ⟨qb, 0, none⟩)) ∧ T[12]? = some (.pointer (some ⟨xb, 0, none⟩))
section
variable {W V : World} {Z : Cuts} {n lc ln lx rb wb qb xb c1 c2 : Nat} {la A1 A2 : Option Addr} {l1 l2 : List (Nat × Nat)}
set_option maxRecDepth 100000 in
set_option maxHeartbeats 4000000 in
theorem log_loop (hn : norm V = V) (hw : V.heap[wb]? = some (.cells #[.slice A1 ln c1, .bool false] 37 (0, 0))) (hx : V.heap[xb]? = some (.cells #[.slice A2 lx c2, .bool false] 37 (0, 0))) (hln : ln ≤ 9223372036854775807) (hlx : ln ≤ lx)
    (h1 : 0 < ln → ∃ g, A1 = some ⟨g, 0, none⟩ ∧ g < V.heap.size ∧ ∀ j, j < ln → V.cell? ⟨g, j * 2, none⟩ = some (.int .i64 ((l1.getD j (0, 0)).1 : Int)) ∧ V.cell? ⟨g, j * 2 + 1, none⟩ = some (.int .i64 ((l1.getD j (0, 0)).2 : Int)))
    (h2 : 0 < lx → ∃ g, A2 = some ⟨g, 0, none⟩ ∧ g < V.heap.size ∧ ∀ j, j < lx → V.cell? ⟨g, j * 2, none⟩ = some (.int .i64 ((l2.getD j (0, 0)).1 : Int)) ∧ V.cell? ⟨g, j * 2 + 1, none⟩ = some (.int .i64 ((l2.getD j (0, 0)).2 : Int)))
    (hl : ∀ j, j < ln → l1.getD j (0, 0) = l2.getD j (0, 0))
    (Kend : ∀ T, HEn T la n lc rb wb ln qb xb → To0 Try.prog (LPost W) Z V (G ((base 4).at ⟨T, []⟩ [.code E2]) [])) :
    ∀ (m k : Nat) T, m + k = ln → HEn T la n lc rb wb ln qb xb → T[14]? = some (.int .i64 (k : Int)) → To0 Try.prog (LPost W) Z V (G ((base 4).at ⟨T, []⟩ [.code EL1, .inLoop EL1, .inBlock 0, .code E2]) []) := by
  have d1 : ∀ τ, (re V τ 0).cell? ⟨wb, 0, none⟩ = some (.slice A1 ln c1) := fun τ => cell_of hw (by simp)
  have d2 : ∀ τ, (re V τ 0).cell? ⟨xb, 0, none⟩ = some (.slice A2 lx c2) := fun τ => cell_of hx (by simp)
  intro m
  induction m with
  | zero =>
    intro k T hmk ⟨hs, t0, t7, t8, t10, t11, t12⟩ t14
    obtain rfl : k = ln := by omega
    have q1 : decide ((k : Int) < (k : Int)) = false := decide_eq_false (by omega)
    clear hw hx h1 h2 hl hln hlx
    obtain ⟨f, hf, hT⟩ := array146f T hs
    have et0 := hf 0 _ t0
    have et7 := hf 7 _ t7
    have et8 := hf 8 _ t8
    have et10 := hf 10 _ t10
    have et11 := hf 11 _ t11
    have et12 := hf 12 _ t12
    have et14 := hf 14 _ t14
    clear hf hs t0 t7 t8 t10 t11 t12 t14
    subst hT
    simp only [et0, et7, et8, et10, et11, et12, et14]
    clear et0 et7 et8 et10 et11 et12 et14
    refine (fun (h : ∀ X0, X0 = EL1 → To0 Try.prog (LPost W) Z V (G ((base 4).at ⟨_, []⟩ [.code X0, .inLoop EL1, .inBlock 0, .code E2]) [])) => h EL1 rfl) ?_
    intro X0 hX0
    simp only [E1, E2, E3, EL1, EL2, B4e, nva, nvb, nvk, nvl, Try.f4, Option.getD_some] at hX0
    subst hX0
    obtain ⟨K, eK⟩ : ∃ K : Goroutine → Prop, K = fun g => To0 Try.prog (LPost W) Z V g := ⟨_, rfl⟩
    have hK : Mu Try.prog (fun _ => True) K := by rw [eK]; exact mu_to0
    have hV : MuV Try.prog Lone V K := by rw [eK]; exact muv_to0 hn
    have key : ∀ g, K g → (fun g => To0 Try.prog (LPost W) Z V g) g := fun g h => by rw [eK] at h; exact h
    have yek : ∀ g, (fun g => To0 Try.prog (LPost W) Z V g) g → K g := fun g h => by rw [eK]; exact h
    refine key _ ?_
    repeat (
      first
        | with_reducible refine mu_seq hK ?_
        | with_reducible refine mu_skip hK ?_
        | (with_reducible refine mu_region_end hK ?_; try subst hkk)
        | with_reducible refine mu_block hK ?_
        | with_reducible refine mu_inBlock hK ?_
        | with_reducible refine mu_ret hK ?_
        | with_reducible refine mu_end hK ?_
        | refine mu_exit hK rfl ?_
        | (with_reducible refine mu_regionH hK (fun kk hkk => ?_); simp only [List.size_toArray, List.length_cons, List.length_nil, Nat.reduceAdd, Nat.zero_add, List.range, List.range.loop])
        | (with_reducible refine mu_cond hK false ?_ ?_; (· first | (walk_nrm; done) | (simp [Act.eval]; done)); simp only [if_true, if_false, Bool.false_eq_true, ↓reduceIte])
        | (with_reducible refine mu_cond hK true ?_ ?_; (· first | (walk_nrm; done) | (simp [Act.eval]; done)); simp only [if_true, if_false, Bool.false_eq_true, ↓reduceIte])
        | (refine mu_unwanted hK rfl rfl ?_; walk_nrm)
        | (refine muv_val hV rfl (by first | exact .inl rfl | exact .inr rfl) rfl (by kernel_rfl) (fun J hJ => ?_); go_simp; with_reducible refine hJ _ ?_; clear hJ J; walk_nrm))
    refine yek _ ?_
    clear hK hV key yek eK K
    exact Kend _ ⟨by simp, rfl, rfl, rfl, rfl, rfl, rfl⟩
  | succ m ih =>
    intro k T hmk ⟨hs, t0, t7, t8, t10, t11, t12⟩ t14
    have hk : k < ln := by omega
    obtain ⟨g1, e1, hg1, f1⟩ := h1 (by omega)
    obtain ⟨g2, e2, hg2, f2⟩ := h2 (by omega)
    have v1 := f1 k hk
    have v2 := f2 k (by omega)
    rw [← hl k hk] at v2
    generalize l1.getD k (0, 0) = p at *
    obtain ⟨pa, pb⟩ := p
    simp only at v1 v2
    have L1 : ∀ τ, (re V τ 0).cell? ⟨g1, k * 2, none⟩ = some (.int .i64 (pa : Int)) := fun τ => v1.1
    have L1' : ∀ τ, (re V τ 0).cell? ⟨g1, k * 2 + 1, none⟩ = some (.int .i64 (pb : Int)) := fun τ => v1.2
    have L2 : ∀ τ, (re V τ 0).cell? ⟨g2, k * 2, none⟩ = some (.int .i64 (pa : Int)) := fun τ => v2.1
    have L2' : ∀ τ, (re V τ 0).cell? ⟨g2, k * 2 + 1, none⟩ = some (.int .i64 (pb : Int)) := fun τ => v2.2
    have EQ := eq41 pa pb pa pb
    have q1 : decide ((k : Int) < (ln : Int)) = true := decide_eq_true (by omega)
    have q2 : ¬ ((k : Int) < 0) := by omega
    have q3 : ¬ ((ln : Int) ≤ (k : Int)) := by omega
    have q4 : ¬ ((lx : Int) ≤ (k : Int)) := by omega
    have q5 : k < lx := by omega
    have w4 : IntKind.i64.wrap ((k : Int) + 1) = ((k + 1 : Nat) : Int) := by rw [IntKind.wrap_i64]; omega
    subst e1 e2
    clear hw hx h1 h2 hl f1 f2 v1 v2 Kend hln hlx
    clear hg1 hg2
    obtain ⟨f, hf, hT⟩ := array146f T hs
    have et0 := hf 0 _ t0
    have et7 := hf 7 _ t7
    have et8 := hf 8 _ t8
    have et10 := hf 10 _ t10
    have et11 := hf 11 _ t11
    have et12 := hf 12 _ t12
    have et14 := hf 14 _ t14
    clear hf hs t0 t7 t8 t10 t11 t12 t14
    subst hT
    simp only [et0, et7, et8, et10, et11, et12, et14]
    clear et0 et7 et8 et10 et11 et12 et14
    refine (fun (h : ∀ X0, X0 = EL1 → To0 Try.prog (LPost W) Z V (G ((base 4).at ⟨_, []⟩ [.code X0, .inLoop EL1, .inBlock 0, .code E2]) [])) => h EL1 rfl) ?_
    intro X0 hX0
    simp only [E1, E2, E3, EL1, EL2, B4e, nva, nvb, nvk, nvl, Try.f4, Option.getD_some] at hX0
    subst hX0
    obtain ⟨K, eK⟩ : ∃ K : Goroutine → Prop, K = fun g => To0 Try.prog (LPost W) Z V g := ⟨_, rfl⟩
    have hK : Mu Try.prog (fun _ => True) K := by rw [eK]; exact mu_to0
    have hV : MuV Try.prog Lone V K := by rw [eK]; exact muv_to0 hn
    have hD : MuD Try.prog K := by rw [eK]; exact mud_to0
    have key : ∀ g, K g → (fun g => To0 Try.prog (LPost W) Z V g) g := fun g h => by rw [eK] at h; exact h
    have yek : ∀ g, (fun g => To0 Try.prog (LPost W) Z V g) g → K g := fun g h => by rw [eK]; exact h
    refine key _ ?_
    repeat (
      first
        | with_reducible refine mu_seq hK ?_
        | with_reducible refine mu_skip hK ?_
        | (with_reducible refine mu_region_end hK ?_; try subst hkk)
        | with_reducible refine mu_block hK ?_
        | with_reducible refine mu_inBlock hK ?_
        | with_reducible refine mu_ret hK ?_
        | with_reducible refine mu_end hK ?_
        | refine mu_exit hK rfl ?_
        | (with_reducible refine mu_regionH hK (fun kk hkk => ?_); simp only [List.size_toArray, List.length_cons, List.length_nil, Nat.reduceAdd, Nat.zero_add, List.range, List.range.loop])
        | (with_reducible refine mu_cond hK false ?_ ?_; (· first | (walk_nrm; done) | (simp [Act.eval]; done)); simp only [if_true, if_false, Bool.false_eq_true, ↓reduceIte])
        | (with_reducible refine mu_cond hK true ?_ ?_; (· first | (walk_nrm; done) | (simp [Act.eval]; done)); simp only [if_true, if_false, Bool.false_eq_true, ↓reduceIte])
        | (refine mu_unwanted hK rfl rfl ?_; walk_nrm)
        | (refine muv_val hV rfl (by first | exact .inl rfl | exact .inr rfl) rfl (by kernel_rfl) (fun J hJ => ?_); go_simp; with_reducible refine hJ _ ?_; clear hJ J; walk_nrm))
    refine mu_draw 14 hK hV hD (.inl rfl) (by kernel_rfl) ?_
    simp only [List.size_toArray, List.length_cons, List.length_nil, Nat.reduceAdd, Nat.zero_add, Array.replicate_succ, Array.replicate_zero, List.push_toArray, List.nil_append, List.cons_append]
    refine anyP_J (i := 0) 20 rfl (by kernel_rfl) rfl (by kernel_rfl) (by kernel_rfl) (by kernel_rfl) (by kernel_rfl) rfl (by kernel_rfl) (fun J hJ => ?_)
    go_simp
    with_reducible refine hJ _ ?_
    clear hJ J
    walk_nrm
    refine anyP_J (i := 1) 20 rfl (by kernel_rfl) rfl (by kernel_rfl) (by kernel_rfl) (by kernel_rfl) (by kernel_rfl) rfl (by kernel_rfl) (fun J hJ => ?_)
    go_simp
    with_reducible refine hJ _ ?_
    clear hJ J
    walk_nrm
    refine anyP_J (i := 2) 20 rfl (by kernel_rfl) rfl (by kernel_rfl) (by kernel_rfl) (by kernel_rfl) (by kernel_rfl) rfl (by kernel_rfl) (fun J hJ => ?_)
    go_simp
    with_reducible refine hJ _ ?_
    clear hJ J
    walk_nrm
    refine anyP_J (i := 3) 20 rfl (by kernel_rfl) rfl (by kernel_rfl) (by kernel_rfl) (by kernel_rfl) (by kernel_rfl) rfl (by kernel_rfl) (fun J hJ => ?_)
    go_simp
    with_reducible refine hJ _ ?_
    clear hJ J
    walk_nrm
    refine anyP_J (i := 4) 20 rfl (by kernel_rfl) rfl (by kernel_rfl) (by kernel_rfl) (by kernel_rfl) (by kernel_rfl) rfl (by kernel_rfl) (fun J hJ => ?_)
    go_simp
    with_reducible refine hJ _ ?_
    clear hJ J
    walk_nrm
    refine anyP_J (i := 5) 20 rfl (by kernel_rfl) rfl (by kernel_rfl) (by kernel_rfl) (by kernel_rfl) (by kernel_rfl) rfl (by kernel_rfl) (fun J hJ => ?_)
    go_simp
    with_reducible refine hJ _ ?_
    clear hJ J
    walk_nrm
    refine anyP_J (i := 6) 20 rfl (by kernel_rfl) rfl (by kernel_rfl) (by kernel_rfl) (by kernel_rfl) (by kernel_rfl) rfl (by kernel_rfl) (fun J hJ => ?_)
    go_simp
    with_reducible refine hJ _ ?_
    clear hJ J
    walk_nrm
    refine anyP_J (i := 7) 20 rfl (by kernel_rfl) rfl (by kernel_rfl) (by kernel_rfl) (by kernel_rfl) (by kernel_rfl) rfl (by kernel_rfl) (fun J hJ => ?_)
    go_simp
    with_reducible refine hJ _ ?_
    clear hJ J
    walk_nrm
    refine anyP_J (i := 8) 20 rfl (by kernel_rfl) rfl (by kernel_rfl) (by kernel_rfl) (by kernel_rfl) (by kernel_rfl) rfl (by kernel_rfl) (fun J hJ => ?_)
    go_simp
    with_reducible refine hJ _ ?_
    clear hJ J
    walk_nrm
    refine anyP_J (i := 9) 20 rfl (by kernel_rfl) rfl (by kernel_rfl) (by kernel_rfl) (by kernel_rfl) (by kernel_rfl) rfl (by kernel_rfl) (fun J hJ => ?_)
    go_simp
    with_reducible refine hJ _ ?_
    clear hJ J
    walk_nrm
    refine anyP_J (i := 10) 20 rfl (by kernel_rfl) rfl (by kernel_rfl) (by kernel_rfl) (by kernel_rfl) (by kernel_rfl) rfl (by kernel_rfl) (fun J hJ => ?_)
    go_simp
    with_reducible refine hJ _ ?_
    clear hJ J
    walk_nrm
    refine anyP_J (i := 11) 20 rfl (by kernel_rfl) rfl (by kernel_rfl) (by kernel_rfl) (by kernel_rfl) (by kernel_rfl) rfl (by kernel_rfl) (fun J hJ => ?_)
    go_simp
    with_reducible refine hJ _ ?_
    clear hJ J
    walk_nrm
    refine anyP_J (i := 12) 20 rfl (by kernel_rfl) rfl (by kernel_rfl) (by kernel_rfl) (by kernel_rfl) (by kernel_rfl) rfl (by kernel_rfl) (fun J hJ => ?_)
    go_simp
    with_reducible refine hJ _ ?_
    clear hJ J
    walk_nrm
    refine anyP_J (i := 13) 20 rfl (by kernel_rfl) rfl (by kernel_rfl) (by kernel_rfl) (by kernel_rfl) (by kernel_rfl) rfl (by kernel_rfl) (fun J hJ => ?_)
    go_simp
    with_reducible refine hJ _ ?_
    clear hJ J
    walk_nrm
    refine anyP_last (by kernel_rfl) (fun t => ?_)
    rw [lin_nil]
    repeat (
      first
        | with_reducible refine mu_seq hK ?_
        | with_reducible refine mu_skip hK ?_
        | (with_reducible refine mu_region_end hK ?_; try subst hkk)
        | with_reducible refine mu_block hK ?_
        | with_reducible refine mu_inBlock hK ?_
        | with_reducible refine mu_ret hK ?_
        | with_reducible refine mu_end hK ?_
        | refine mu_exit hK rfl ?_
        | (with_reducible refine mu_regionH hK (fun kk hkk => ?_); simp only [List.size_toArray, List.length_cons, List.length_nil, Nat.reduceAdd, Nat.zero_add, List.range, List.range.loop])
        | (with_reducible refine mu_cond hK false ?_ ?_; (· first | (walk_nrm; done) | (simp [Act.eval]; done)); simp only [if_true, if_false, Bool.false_eq_true, ↓reduceIte])
        | (with_reducible refine mu_cond hK true ?_ ?_; (· first | (walk_nrm; done) | (simp [Act.eval]; done)); simp only [if_true, if_false, Bool.false_eq_true, ↓reduceIte])
        | (refine mu_unwanted hK rfl rfl ?_; walk_nrm)
        | (refine muv_val hV rfl (by first | exact .inl rfl | exact .inr rfl) rfl (by kernel_rfl) (fun J hJ => ?_); go_simp; with_reducible refine hJ _ ?_; clear hJ J; walk_nrm))
    refine mu_inLoop hK ?_
    refine yek _ ?_
    clear hK hV hD key yek eK K
    refine (fun (h : ∀ Y0, EL1 = Y0 → To0 Try.prog (LPost W) Z V (G ((base 4).at _ [.code Y0, .inLoop Y0, .inBlock 0, .code E2]) [])) => h _ (by simp only [E1, E2, E3, EL1, EL2, B4e, nva, nvb, nvk, nvl, Try.f4, Option.getD_some])) ?_
    intro Y0 hY0
    subst hY0
    exact ih (k + 1) _ (by omega) ⟨by simp, rfl, rfl, rfl, rfl, rfl, rfl⟩ rfl
end
end Go.Proofs.Ytibcdikfbhmheaa
/- duty's own functions: DutyEnds, who was over. -/
namespace Go.Proofs.Ytibcdikfbhmheaa
open Go Go.Conc Go.Proofs
open Go.ConcN (sumTo upd sumTo_upd upd_ne upd_same)
set_option linter.unusedVariables false
def HF (T : Array Value) (la : Option Addr) (n lc rb qb : Nat) : Prop := T.size = 146 ∧ T[0]? = some (.slice la n lc) ∧ T[7]? = some (.pointer (some ⟨rb, 0, none⟩)) ∧ T[11]? = some (.pointer (some ⟨qb, 0, none⟩))
theorem cut23 {A : Option Addr} {len c k : Nat} (h : k ≤ c) (w : World) : (Instr.sliceAt 23 (.slice A len c) none (some (.int .i64 (k : Int))) none).run Try.prog w = .ok (.slice A k c) w := by
  have hu : Try.prog.underlying 23 = some (.slice (Try.prog.elem 23)) := by kernel_rfl
  have he : Try.prog.elem 23 = 3 := by kernel_rfl
  rw [run_sliceAt_slice w 23 _ _ _ _ hu, run_slice_h w 23 A len c hu .i64 (k : Int) (by omega) (by omega), he, size3']
  have ea : (A.map fun x => x.add (0 * 1)) = A := by cases A <;> simp [Addr.add]
  simp only [Result.andThen, sliced, Int.toNat_natCast, Nat.sub_zero, ea]
  split <;> rfl
theorem own_cap {w : World} {e : TypeId} {A : Option Addr} {n n' c : Nat} {xs : List Value} (h : w.ownsRow 0 e 1 (.slice A n c) n' xs) : n ≤ c := by
  obtain ⟨_, h2⟩ := h
  rcases h2 with ⟨h3, _⟩ | ⟨g, cap, cur, h3, _, _, h5, _⟩
  · injection h3 with e1 e2 e3
    omega
  · injection h3 with e1 e2 e3
    omega
section
variable {W V : World} {Z : Cuts} {n lc rb qb lr lq c1 c2 d1 d2 : Nat} {la A1 A2 B1 B2 : Option Addr} {p1 p2 : Value} {b1 b2 : Nat → Bool} {xs : Nat → Nat}
set_option maxRecDepth 100000 in
set_option maxHeartbeats 4000000 in
theorem over_loop (hn : norm V = V) (hn12 : n ≤ 12) (hr : V.heap[rb]? = some (.cells #[.slice A1 lr c1, .slice B1 n d1, p1] 28 (0, 0))) (hq : V.heap[qb]? = some (.cells #[.slice A2 lq c2, .slice B2 n d2, p2] 28 (0, 0))) (h1 : Rds V B1 n fun j => .bool (b1 j)) (h2 : Rds V B2 n fun j => .bool (b2 j)) (hb : ∀ j, j < n → b1 j = true → b2 j = true)
    (Kend : ∀ T, HF T la n lc rb qb → To0 Try.prog (LPost W) Z V (G ((base 4).at ⟨T, []⟩ [.code E3]) [])) :
    ∀ (m k : Nat) T, m + k = n → HF T la n lc rb qb → T[15]? = some (.int .i64 (k : Int)) → To0 Try.prog (LPost W) Z V (G ((base 4).at ⟨T, []⟩ [.code EL2, .inLoop EL2, .inBlock 2, .code E3]) []) := by
  have c1 : ∀ τ, (re V τ 0).cell? ⟨rb, 1, none⟩ = some (.slice B1 n d1) := fun τ => cell_of hr (by simp)
  have c2 : ∀ τ, (re V τ 0).cell? ⟨qb, 1, none⟩ = some (.slice B2 n d2) := fun τ => cell_of hq (by simp)
  intro m
  induction m with
  | zero =>
    intro k T hmk ⟨hs, t0, t7, t11⟩ t15
    obtain rfl : k = n := by omega
    have q1 : decide ((k : Int) < (k : Int)) = false := decide_eq_false (by omega)
    clear hr hq h1 h2 hb
    obtain ⟨f, hf, hT⟩ := array146f T hs
    have et0 := hf 0 _ t0
    have et7 := hf 7 _ t7
    have et11 := hf 11 _ t11
    have et15 := hf 15 _ t15
    clear hf hs t0 t7 t11 t15
    subst hT
    simp only [et0, et7, et11, et15]
    clear et0 et7 et11 et15
    refine (fun (h : ∀ X0, X0 = EL2 → To0 Try.prog (LPost W) Z V (G ((base 4).at ⟨_, []⟩ [.code X0, .inLoop EL2, .inBlock 2, .code E3]) [])) => h EL2 rfl) ?_
    intro X0 hX0
    simp only [E1, E2, E3, EL1, EL2, B4e, nva, nvb, nvk, nvl, Try.f4, Option.getD_some] at hX0
    subst hX0
    obtain ⟨K, eK⟩ : ∃ K : Goroutine → Prop, K = fun g => To0 Try.prog (LPost W) Z V g := ⟨_, rfl⟩
    have hK : Mu Try.prog (fun _ => True) K := by rw [eK]; exact mu_to0
    have hV : MuV Try.prog Lone V K := by rw [eK]; exact muv_to0 hn
    have key : ∀ g, K g → (fun g => To0 Try.prog (LPost W) Z V g) g := fun g h => by rw [eK] at h; exact h
    have yek : ∀ g, (fun g => To0 Try.prog (LPost W) Z V g) g → K g := fun g h => by rw [eK]; exact h
    refine key _ ?_
    repeat (
      first
        | with_reducible refine mu_seq hK ?_
        | with_reducible refine mu_skip hK ?_
        | (with_reducible refine mu_region_end hK ?_; try subst hkk)
        | with_reducible refine mu_block hK ?_
        | with_reducible refine mu_inBlock hK ?_
        | with_reducible refine mu_ret hK ?_
        | with_reducible refine mu_end hK ?_
        | refine mu_exit hK rfl ?_
        | (with_reducible refine mu_regionH hK (fun kk hkk => ?_); simp only [List.size_toArray, List.length_cons, List.length_nil, Nat.reduceAdd, Nat.zero_add, List.range, List.range.loop])
        | (with_reducible refine mu_cond hK false ?_ ?_; (· first | (walk_nrm; done) | (simp [Act.eval]; done)); simp only [if_true, if_false, Bool.false_eq_true, ↓reduceIte])
        | (with_reducible refine mu_cond hK true ?_ ?_; (· first | (walk_nrm; done) | (simp [Act.eval]; done)); simp only [if_true, if_false, Bool.false_eq_true, ↓reduceIte])
        | (refine mu_unwanted hK rfl rfl ?_; walk_nrm)
        | (refine muv_val hV rfl (by first | exact .inl rfl | exact .inr rfl) rfl (by kernel_rfl) (fun J hJ => ?_); go_simp; with_reducible refine hJ _ ?_; clear hJ J; walk_nrm))
    refine yek _ ?_
    clear hK hV key yek eK K
    exact Kend _ ⟨by simp, rfl, rfl, rfl⟩
  | succ m ih =>
    intro k T hmk ⟨hs, t0, t7, t11⟩ t15
    have hk : k < n := by omega
    obtain ⟨g1, o1, e1, hg1, f1⟩ := h1.2 (by omega)
    obtain ⟨g2, o2, e2, hg2, f2⟩ := h2.2 (by omega)
    have L1 : ∀ τ, (re V τ 0).cell? ⟨g1, o1 + k, none⟩ = some (.bool (b1 k)) := fun τ => f1 k hk
    have L2 : ∀ τ, (re V τ 0).cell? ⟨g2, o2 + k, none⟩ = some (.bool (b2 k)) := fun τ => f2 k hk
    have hbk := hb k hk
    have q1 : decide ((k : Int) < (n : Int)) = true := decide_eq_true (by omega)
    have q2 : ¬ ((k : Int) < 0) := by omega
    have q3 : ¬ ((n : Int) ≤ (k : Int)) := by omega
    have w4 : IntKind.i64.wrap ((k : Int) + 1) = ((k + 1 : Nat) : Int) := by rw [IntKind.wrap_i64]; omega
    subst e1 e2
    clear hr hq h1 h2 hb f1 f2 Kend hg1 hg2
    generalize b1 k = x at *
    generalize b2 k = y at *
    cases x with
    | true =>
      obtain rfl := hbk rfl
      clear hbk
      obtain ⟨f, hf, hT⟩ := array146f T hs
      have et0 := hf 0 _ t0
      have et7 := hf 7 _ t7
      have et11 := hf 11 _ t11
      have et15 := hf 15 _ t15
      clear hf hs t0 t7 t11 t15
      subst hT
      simp only [et0, et7, et11, et15]
      clear et0 et7 et11 et15
      refine (fun (h : ∀ X0, X0 = EL2 → To0 Try.prog (LPost W) Z V (G ((base 4).at ⟨_, []⟩ [.code X0, .inLoop EL2, .inBlock 2, .code E3]) [])) => h EL2 rfl) ?_
      intro X0 hX0
      simp only [E1, E2, E3, EL1, EL2, B4e, nva, nvb, nvk, nvl, Try.f4, Option.getD_some] at hX0
      subst hX0
      obtain ⟨K, eK⟩ : ∃ K : Goroutine → Prop, K = fun g => To0 Try.prog (LPost W) Z V g := ⟨_, rfl⟩
      have hK : Mu Try.prog (fun _ => True) K := by rw [eK]; exact mu_to0
      have hV : MuV Try.prog Lone V K := by rw [eK]; exact muv_to0 hn
      have key : ∀ g, K g → (fun g => To0 Try.prog (LPost W) Z V g) g := fun g h => by rw [eK] at h; exact h
      have yek : ∀ g, (fun g => To0 Try.prog (LPost W) Z V g) g → K g := fun g h => by rw [eK]; exact h
      refine key _ ?_
      repeat (
        first
          | with_reducible refine mu_seq hK ?_
          | with_reducible refine mu_skip hK ?_
          | (with_reducible refine mu_region_end hK ?_; try subst hkk)
          | with_reducible refine mu_block hK ?_
          | with_reducible refine mu_inBlock hK ?_
          | with_reducible refine mu_ret hK ?_
          | with_reducible refine mu_end hK ?_
          | refine mu_exit hK rfl ?_
          | (with_reducible refine mu_regionH hK (fun kk hkk => ?_); simp only [List.size_toArray, List.length_cons, List.length_nil, Nat.reduceAdd, Nat.zero_add, List.range, List.range.loop])
          | (with_reducible refine mu_cond hK false ?_ ?_; (· first | (walk_nrm; done) | (simp [Act.eval]; done)); simp only [if_true, if_false, Bool.false_eq_true, ↓reduceIte])
          | (with_reducible refine mu_cond hK true ?_ ?_; (· first | (walk_nrm; done) | (simp [Act.eval]; done)); simp only [if_true, if_false, Bool.false_eq_true, ↓reduceIte])
          | (refine mu_unwanted hK rfl rfl ?_; walk_nrm)
          | (refine muv_val hV rfl (by first | exact .inl rfl | exact .inr rfl) rfl (by kernel_rfl) (fun J hJ => ?_); go_simp; with_reducible refine hJ _ ?_; clear hJ J; walk_nrm))
      refine mu_inLoop hK ?_
      refine yek _ ?_
      clear hK hV key yek eK K
      refine (fun (h : ∀ Y0, EL2 = Y0 → To0 Try.prog (LPost W) Z V (G ((base 4).at _ [.code Y0, .inLoop Y0, .inBlock 2, .code E3]) [])) => h _ (by simp only [E1, E2, E3, EL1, EL2, B4e, nva, nvb, nvk, nvl, Try.f4, Option.getD_some])) ?_
      intro Y0 hY0
      subst hY0
      exact ih (k + 1) _ (by omega) ⟨by simp, rfl, rfl, rfl⟩ rfl
    | false =>
      clear hbk
      obtain ⟨f, hf, hT⟩ := array146f T hs
      have et0 := hf 0 _ t0
      have et7 := hf 7 _ t7
      have et11 := hf 11 _ t11
      have et15 := hf 15 _ t15
      clear hf hs t0 t7 t11 t15
      subst hT
      simp only [et0, et7, et11, et15]
      clear et0 et7 et11 et15
      refine (fun (h : ∀ X0, X0 = EL2 → To0 Try.prog (LPost W) Z V (G ((base 4).at ⟨_, []⟩ [.code X0, .inLoop EL2, .inBlock 2, .code E3]) [])) => h EL2 rfl) ?_
      intro X0 hX0
      simp only [E1, E2, E3, EL1, EL2, B4e, nva, nvb, nvk, nvl, Try.f4, Option.getD_some] at hX0
      subst hX0
      obtain ⟨K, eK⟩ : ∃ K : Goroutine → Prop, K = fun g => To0 Try.prog (LPost W) Z V g := ⟨_, rfl⟩
      have hK : Mu Try.prog (fun _ => True) K := by rw [eK]; exact mu_to0
      have hV : MuV Try.prog Lone V K := by rw [eK]; exact muv_to0 hn
      have key : ∀ g, K g → (fun g => To0 Try.prog (LPost W) Z V g) g := fun g h => by rw [eK] at h; exact h
      have yek : ∀ g, (fun g => To0 Try.prog (LPost W) Z V g) g → K g := fun g h => by rw [eK]; exact h
      refine key _ ?_
      repeat (
        first
          | with_reducible refine mu_seq hK ?_
          | with_reducible refine mu_skip hK ?_
          | (with_reducible refine mu_region_end hK ?_; try subst hkk)
          | with_reducible refine mu_block hK ?_
          | with_reducible refine mu_inBlock hK ?_
          | with_reducible refine mu_ret hK ?_
          | with_reducible refine mu_end hK ?_
          | refine mu_exit hK rfl ?_
          | (with_reducible refine mu_regionH hK (fun kk hkk => ?_); simp only [List.size_toArray, List.length_cons, List.length_nil, Nat.reduceAdd, Nat.zero_add, List.range, List.range.loop])
          | (with_reducible refine mu_cond hK false ?_ ?_; (· first | (walk_nrm; done) | (simp [Act.eval]; done)); simp only [if_true, if_false, Bool.false_eq_true, ↓reduceIte])
          | (with_reducible refine mu_cond hK true ?_ ?_; (· first | (walk_nrm; done) | (simp [Act.eval]; done)); simp only [if_true, if_false, Bool.false_eq_true, ↓reduceIte])
          | (refine mu_unwanted hK rfl rfl ?_; walk_nrm)
          | (refine muv_val hV rfl (by first | exact .inl rfl | exact .inr rfl) rfl (by kernel_rfl) (fun J hJ => ?_); go_simp; with_reducible refine hJ _ ?_; clear hJ J; walk_nrm))
      refine mu_inLoop hK ?_
      refine yek _ ?_
      clear hK hV key yek eK K
      refine (fun (h : ∀ Y0, EL2 = Y0 → To0 Try.prog (LPost W) Z V (G ((base 4).at _ [.code Y0, .inLoop Y0, .inBlock 2, .code E3]) [])) => h _ (by simp only [E1, E2, E3, EL1, EL2, B4e, nva, nvb, nvk, nvl, Try.f4, Option.getD_some])) ?_
      intro Y0 hY0
      subst hY0
      exact ih (k + 1) _ (by omega) ⟨by simp, rfl, rfl, rfl⟩ rfl
set_option maxRecDepth 100000 in
set_option maxHeartbeats 4000000 in
theorem ends_end (L : LS W Z V) (hr : V.heap[rb]? = some (.cells #[.slice A1 lr c1, .slice B1 n d1, p1] 28 (0, 0))) (hq : V.heap[qb]? = some (.cells #[.slice A2 lq c2, .slice B2 n d2, p2] 28 (0, 0))) (hlr : lr ≤ c2) (h1 : Rds V A1 lr fun j => .int .i64 ((xs j : Nat) : Int)) (h2 : Rds V A2 lr fun j => .int .i64 ((xs j : Nat) : Int))
    (T : Array Value) (hT : HF T la n lc rb qb) : To0 Try.prog (LPost W) Z V (G ((base 4).at ⟨T, []⟩ [.code E3]) []) := by
  have hn := L.n
  have e1 : ∀ τ, (re V τ 0).cell? ⟨rb, 0, none⟩ = some (.slice A1 lr c1) := fun τ => cell_of hr (by simp)
  have e2 : ∀ τ, (re V τ 0).cell? ⟨qb, 0, none⟩ = some (.slice A2 lq c2) := fun τ => cell_of hq (by simp)
  have sl : ∀ w, (Instr.sliceAt 23 (.slice A2 lq c2) none (some (.int .i64 (lr : Int))) none).run Try.prog w = .ok (.slice A2 lr c2) w := cut23 hlr
  obtain ⟨hs, t0, t7, t11⟩ := hT
  clear hr hq
  obtain ⟨f, hf, hT⟩ := array146f T hs
  have et0 := hf 0 _ t0
  have et7 := hf 7 _ t7
  have et11 := hf 11 _ t11
  clear hf hs t0 t7 t11
  subst hT
  simp only [et0, et7, et11]
  clear et0 et7 et11
  refine (fun (h : ∀ X0, X0 = E3 → To0 Try.prog (LPost W) Z V (G ((base 4).at ⟨_, []⟩ [.code X0]) [])) => h E3 rfl) ?_
  intro X0 hX0
  simp only [E1, E2, E3, EL1, EL2, B4e, nva, nvb, nvk, nvl, Try.f4, Option.getD_some] at hX0
  subst hX0
  obtain ⟨K, eK⟩ : ∃ K : Goroutine → Prop, K = fun g => To0 Try.prog (LPost W) Z V g := ⟨_, rfl⟩
  have hK : Mu Try.prog (fun _ => True) K := by rw [eK]; exact mu_to0
  have hV : MuV Try.prog Lone V K := by rw [eK]; exact muv_to0 hn
  have hD : MuD Try.prog K := by rw [eK]; exact mud_to0
  have key : ∀ g, K g → (fun g => To0 Try.prog (LPost W) Z V g) g := fun g h => by rw [eK] at h; exact h
  have yek : ∀ g, (fun g => To0 Try.prog (LPost W) Z V g) g → K g := fun g h => by rw [eK]; exact h
  refine key _ ?_
  repeat (
    first
      | with_reducible refine mu_seq hK ?_
      | with_reducible refine mu_skip hK ?_
      | (with_reducible refine mu_region_end hK ?_; try subst hkk)
      | with_reducible refine mu_block hK ?_
      | with_reducible refine mu_inBlock hK ?_
      | with_reducible refine mu_ret hK ?_
      | with_reducible refine mu_end hK ?_
      | refine mu_exit hK rfl ?_
      | (with_reducible refine mu_regionH hK (fun kk hkk => ?_); simp only [List.size_toArray, List.length_cons, List.length_nil, Nat.reduceAdd, Nat.zero_add, List.range, List.range.loop])
      | (with_reducible refine mu_cond hK false ?_ ?_; (· first | (walk_nrm; done) | (simp [Act.eval]; done)); simp only [if_true, if_false, Bool.false_eq_true, ↓reduceIte])
      | (with_reducible refine mu_cond hK true ?_ ?_; (· first | (walk_nrm; done) | (simp [Act.eval]; done)); simp only [if_true, if_false, Bool.false_eq_true, ↓reduceIte])
      | (refine mu_unwanted hK rfl rfl ?_; walk_nrm)
      | (refine muv_val hV rfl (by first | exact .inl rfl | exact .inr rfl) rfl (by kernel_rfl) (fun J hJ => ?_); go_simp; with_reducible refine hJ _ ?_; clear hJ J; walk_nrm))
  refine mu_draw 8 hK hV hD (.inl rfl) (by kernel_rfl) ?_
  simp only [List.size_toArray, List.length_cons, List.length_nil, Nat.reduceAdd, Nat.zero_add, Array.replicate_succ, Array.replicate_zero, List.push_toArray, List.nil_append, List.cons_append]
  refine anyP_J (i := 0) 20 rfl (by kernel_rfl) rfl (by kernel_rfl) (by kernel_rfl) (by kernel_rfl) (by kernel_rfl) rfl (by kernel_rfl) (fun J hJ => ?_)
  go_simp
  with_reducible refine hJ _ ?_
  clear hJ J
  walk_nrm
  refine anyP_J (i := 1) 20 rfl (by kernel_rfl) rfl (by kernel_rfl) (by kernel_rfl) (by kernel_rfl) (by kernel_rfl) rfl (by kernel_rfl) (fun J hJ => ?_)
  go_simp
  with_reducible refine hJ _ ?_
  clear hJ J
  walk_nrm
  refine anyP_J (i := 2) 20 rfl (by kernel_rfl) rfl (by kernel_rfl) (by kernel_rfl) (by kernel_rfl) (by kernel_rfl) rfl (by kernel_rfl) (fun J hJ => ?_)
  go_simp
  with_reducible refine hJ _ ?_
  clear hJ J
  walk_nrm
  refine anyP_J (i := 3) 20 rfl (by kernel_rfl) rfl (by kernel_rfl) (by kernel_rfl) (by kernel_rfl) (by kernel_rfl) rfl (by kernel_rfl) (fun J hJ => ?_)
  go_simp
  with_reducible refine hJ _ ?_
  clear hJ J
  walk_nrm
  refine anyP_J (i := 4) 20 rfl (by kernel_rfl) rfl (by kernel_rfl) (by kernel_rfl) (by kernel_rfl) (by kernel_rfl) rfl (by kernel_rfl) (fun J hJ => ?_)
  go_simp
  with_reducible refine hJ _ ?_
  clear hJ J
  walk_nrm
  refine anyP_J (i := 5) 20 rfl (by kernel_rfl) rfl (by kernel_rfl) (by kernel_rfl) (by kernel_rfl) (by kernel_rfl) rfl (by kernel_rfl) (fun J hJ => ?_)
  go_simp
  with_reducible refine hJ _ ?_
  clear hJ J
  walk_nrm
  refine anyP_J (i := 6) 20 rfl (by kernel_rfl) rfl (by kernel_rfl) (by kernel_rfl) (by kernel_rfl) (by kernel_rfl) rfl (by kernel_rfl) (fun J hJ => ?_)
  go_simp
  with_reducible refine hJ _ ?_
  clear hJ J
  walk_nrm
  refine anyP_J (i := 7) 20 rfl (by kernel_rfl) rfl (by kernel_rfl) (by kernel_rfl) (by kernel_rfl) (by kernel_rfl) rfl (by kernel_rfl) (fun J hJ => ?_)
  go_simp
  with_reducible refine hJ _ ?_
  clear hJ J
  walk_nrm
  refine anyP_last (by kernel_rfl) (fun t => ?_)
  rw [lin_one (i := 9) (by kernel_rfl), lin_one (i := 10) (by kernel_rfl), lin_one (i := 11) (by kernel_rfl), lin_one (i := 12) (by kernel_rfl), lin_nil]
  refine mu_call hK rfl rfl (by decide) rfl Try.func21 (by kernel_rfl) rfl ?_
  rw [← enter_at (P := Try.prog) _ Try.func21 rfl]
  walk_nrm
  refine yek _ ?_
  clear hK hV hD key yek eK K
  refine to0_new (by decide) (fun τ => same21 A1 A2 lr c1 c2 (fun j => ((xs j : Nat) : Int)) _ h1 h2) fun V1 hn1 k1 => ?_
  have L1 := L.same hn1 k1
  rw [Frame.finish_at]
  walk_nrm
  clear e1 e2 sl
  obtain ⟨K, eK⟩ : ∃ K : Goroutine → Prop, K = fun g => To0 Try.prog (LPost W) Z V1 g := ⟨_, rfl⟩
  have hK : Mu Try.prog (fun _ => True) K := by rw [eK]; exact mu_to0
  have hV : MuV Try.prog Lone V1 K := by rw [eK]; exact muv_to0 hn1
  have key : ∀ g, K g → (fun g => To0 Try.prog (LPost W) Z V1 g) g := fun g h => by rw [eK] at h; exact h
  have yek : ∀ g, (fun g => To0 Try.prog (LPost W) Z V1 g) g → K g := fun g h => by rw [eK]; exact h
  refine key _ ?_
  repeat (
    first
      | with_reducible refine mu_seq hK ?_
      | with_reducible refine mu_skip hK ?_
      | (with_reducible refine mu_region_end hK ?_; try subst hkk)
      | with_reducible refine mu_block hK ?_
      | with_reducible refine mu_inBlock hK ?_
      | with_reducible refine mu_ret hK ?_
      | with_reducible refine mu_end hK ?_
      | refine mu_exit hK rfl ?_
      | (with_reducible refine mu_regionH hK (fun kk hkk => ?_); simp only [List.size_toArray, List.length_cons, List.length_nil, Nat.reduceAdd, Nat.zero_add, List.range, List.range.loop])
      | (with_reducible refine mu_cond hK false ?_ ?_; (· first | (walk_nrm; done) | (simp [Act.eval]; done)); simp only [if_true, if_false, Bool.false_eq_true, ↓reduceIte])
      | (with_reducible refine mu_cond hK true ?_ ?_; (· first | (walk_nrm; done) | (simp [Act.eval]; done)); simp only [if_true, if_false, Bool.false_eq_true, ↓reduceIte])
      | (refine mu_unwanted hK rfl rfl ?_; walk_nrm)
      | (refine muv_val hV rfl (by first | exact .inl rfl | exact .inr rfl) rfl (by kernel_rfl) (fun J hJ => ?_); go_simp; with_reducible refine hJ _ ?_; clear hJ J; walk_nrm))
  refine mu_call hK rfl rfl (by decide) rfl Try.func18 (by kernel_rfl) rfl ?_
  rw [← enter_at (P := Try.prog) _ Try.func18 rfl]
  walk_nrm
  refine yek _ ?_
  clear hK hV key yek eK K
  refine live_go L1.n L1.z fun Zq Vq hnq hzq hoq kq => ?_
  have Lq := L1.next hnq hzq hoq kq
  walk_nrm
  obtain ⟨K, eK⟩ : ∃ K : Goroutine → Prop, K = fun g => To0 Try.prog (LPost W) Zq Vq g := ⟨_, rfl⟩
  have hK : Mu Try.prog (fun _ => True) K := by rw [eK]; exact mu_to0
  have hV : MuV Try.prog Lone Vq K := by rw [eK]; exact muv_to0 Lq.n
  have key : ∀ g, K g → (fun g => To0 Try.prog (LPost W) Zq Vq g) g := fun g h => by rw [eK] at h; exact h
  have yek : ∀ g, (fun g => To0 Try.prog (LPost W) Zq Vq g) g → K g := fun g h => by rw [eK]; exact h
  refine key _ ?_
  repeat (
    first
      | with_reducible refine mu_seq hK ?_
      | with_reducible refine mu_skip hK ?_
      | (with_reducible refine mu_region_end hK ?_; try subst hkk)
      | with_reducible refine mu_block hK ?_
      | with_reducible refine mu_inBlock hK ?_
      | with_reducible refine mu_ret hK ?_
      | with_reducible refine mu_end hK ?_
      | refine mu_exit hK rfl ?_
      | (with_reducible refine mu_regionH hK (fun kk hkk => ?_); simp only [List.size_toArray, List.length_cons, List.length_nil, Nat.reduceAdd, Nat.zero_add, List.range, List.range.loop])
      | (with_reducible refine mu_cond hK false ?_ ?_; (· first | (walk_nrm; done) | (simp [Act.eval]; done)); simp only [if_true, if_false, Bool.false_eq_true, ↓reduceIte])
      | (with_reducible refine mu_cond hK true ?_ ?_; (· first | (walk_nrm; done) | (simp [Act.eval]; done)); simp only [if_true, if_false, Bool.false_eq_true, ↓reduceIte])
      | (refine mu_unwanted hK rfl rfl ?_; walk_nrm)
      | (refine muv_val hV rfl (by first | exact .inl rfl | exact .inr rfl) rfl (by kernel_rfl) (fun J hJ => ?_); go_simp; with_reducible refine hJ _ ?_; clear hJ J; walk_nrm))
  refine yek _ ?_
  clear hK hV key yek eK K
  exact law_last (by kernel_rfl) rfl rfl Try.func4 rfl rfl Lq.o Lq.k
end
end Go.Proofs.Ytibcdikfbhmheaa
/- duty's own functions: DutyEnds, whole. -/
namespace Go.Proofs.Ytibcdikfbhmheaa
open Go Go.Conc Go.Proofs
open Go.ConcN (sumTo upd sumTo_upd upd_ne upd_same)
set_option linter.unusedVariables false
theorem pks_take {V : World} {own : Nat → Prop} {a : Option Addr} {n c : Nat} {ps : List Int} (h : Pks V own (.slice a n c) ps) {k : Nat} (hk : k ≤ ps.length) : Pks V own (.slice a k c) (ps.take k) := by
  obtain ⟨b, c', e, h1⟩ := h.v
  injection e with e1 e2 e3
  subst e1 e3
  have hl : (ps.take k).length = k := by rw [List.length_take]; omega
  refine ⟨⟨a, c, by rw [hl], fun h0 => ?_⟩, fun p hp => h.r p (List.mem_of_mem_take hp)⟩
  rw [hl] at h0
  obtain ⟨g, o, e4, h2, h3, h4⟩ := h1 (by omega)
  refine ⟨g, o, e4, h2, h3, fun j hj => ?_⟩
  have hj' : j < k := by rw [hl] at hj; exact hj
  rw [h4 j (by omega)]
  simp
theorem Pks.kp {V V' : World} {pv : Value} {ps : List Int} (h : Pks V (fun _ => False) pv ps) (k : Kp V V') : Pks V' (fun _ => False) pv ps := by
  obtain ⟨b, c, e, h1⟩ := h.v
  refine ⟨⟨b, c, e, fun h0 => ?_⟩, h.r⟩
  obtain ⟨g, o, e1, h2, h3, h4⟩ := h1 h0
  exact ⟨g, o, e1, Nat.lt_of_lt_of_le h2 k.size, h3, fun j hj => k.cell (h4 j hj)⟩
theorem Kp.at_ {V V' : World} (k : Kp V V') {b : Nat} {o : Obj} (h : V.heap[b]? = some o) : V'.heap[b]? = some o := by
  rw [k.keep b (Array.getElem?_eq_some_iff.1 h).1]; exact h
def Nts (V : World) (A : Option Addr) (l : List (Nat × Nat)) : Prop := 0 < l.length → ∃ g, A = some ⟨g, 0, none⟩ ∧ g < V.heap.size ∧ ∀ j, j < l.length → V.cell? ⟨g, j * 2, none⟩ = some (.int .i64 ((l.getD j (0, 0)).1 : Int)) ∧ V.cell? ⟨g, j * 2 + 1, none⟩ = some (.int .i64 ((l.getD j (0, 0)).2 : Int))
theorem Nts.kp {V V' : World} {A : Option Addr} {l : List (Nat × Nat)} (h : Nts V A l) (k : Kp V V') : Nts V' A l := fun h0 => by
  obtain ⟨g, e, hg, c⟩ := h h0
  exact ⟨g, e, Nat.lt_of_lt_of_le hg k.size, fun j hj => ⟨k.cell (c j hj).1, k.cell (c j hj).2⟩⟩
theorem Rds.upto {V : World} {A : Option Addr} {n m : Nat} {f g : Nat → Value} (h : Rds V A n f) (hm : m ≤ n) (hf : ∀ j, j < m → f j = g j) : Rds V A m g := ⟨Nat.le_trans hm h.1, fun h0 => by
  obtain ⟨b, o, e, hg, c⟩ := h.2 (by omega)
  exact ⟨b, o, e, hg, fun j hj => by rw [c j (by omega), hf j hj]⟩⟩
theorem sum_one (n : Nat) (f : Nat → Nat) (i : Nat) (hi : i < n) : f i ≤ sumTo n f := by
  induction n with
  | zero => omega
  | succ n ih =>
    simp only [sumTo]
    by_cases h : i = n
    · subst h; omega
    · have := ih (by omega); omega
theorem getD_app {α : Type} {l t : List α} {j : Nat} {d : α} (h : j < l.length) : (l ++ t).getD j d = l.getD j d := by
  simp [List.getD_eq_getElem?_getD, List.getElem?_append_left h]
section
variable {W V : World} {Z : Cuts} {n lc pl pc : Nat} {la pa : Option Addr} {acts : Nat → List (Int × Int)} {ra : Nat → Option Addr} {rc : Nat → Nat} {ps : List Int}
set_option maxRecDepth 100000 in
set_option maxHeartbeats 4000000 in
theorem duty_ends (L : LS W Z V) (hR : Rw V la n acts ra rc) (hln : ∀ i, i < n → (acts i).length ≤ 10000000000000) (hps : ps.length = pl) (hpc : pl ≤ pc) (hp : Pks V (fun _ => False) (.slice pa pl pc) ps) {cu : Nat} (hcu : cu < 256) :
    To0 Try.prog (LPost W) Z V (G (Frame.enter Try.prog 4 #[.slice la n lc, .slice pa pl pc, .int .u8 (cu : Int)] .normal) []) := by
  have hn := L.n
  rw [enter_at (P := Try.prog) _ Try.func4 rfl]
  simp only [Try.f4]
  walk_nrm
  obtain ⟨K, eK⟩ : ∃ K : Goroutine → Prop, K = fun g => To0 Try.prog (LPost W) Z V g := ⟨_, rfl⟩
  have hK : Mu Try.prog (fun _ => True) K := by rw [eK]; exact mu_to0
  have hV : MuV Try.prog Lone V K := by rw [eK]; exact muv_to0 hn
  have key : ∀ g, K g → (fun g => To0 Try.prog (LPost W) Z V g) g := fun g h => by rw [eK] at h; exact h
  have yek : ∀ g, (fun g => To0 Try.prog (LPost W) Z V g) g → K g := fun g h => by rw [eK]; exact h
  refine key _ ?_
  repeat (
    first
      | with_reducible refine mu_seq hK ?_
      | with_reducible refine mu_skip hK ?_
      | (with_reducible refine mu_region_end hK ?_; try subst hkk)
      | with_reducible refine mu_block hK ?_
      | with_reducible refine mu_inBlock hK ?_
      | with_reducible refine mu_ret hK ?_
      | with_reducible refine mu_end hK ?_
      | refine mu_exit hK rfl ?_
      | (with_reducible refine mu_regionH hK (fun kk hkk => ?_); simp only [List.size_toArray, List.length_cons, List.length_nil, Nat.reduceAdd, Nat.zero_add, List.range, List.range.loop])
      | (with_reducible refine mu_cond hK false ?_ ?_; (· first | (walk_nrm; done) | (simp [Act.eval]; done)); simp only [if_true, if_false, Bool.false_eq_true, ↓reduceIte])
      | (with_reducible refine mu_cond hK true ?_ ?_; (· first | (walk_nrm; done) | (simp [Act.eval]; done)); simp only [if_true, if_false, Bool.false_eq_true, ↓reduceIte])
      | (refine mu_unwanted hK rfl rfl ?_; walk_nrm)
      | (refine muv_val hV rfl (by first | exact .inl rfl | exact .inr rfl) rfl (by kernel_rfl) (fun J hJ => ?_); go_simp; with_reducible refine hJ _ ?_; clear hJ J; walk_nrm))
  refine mu_call hK rfl rfl (by decide) rfl Try.func17 (by kernel_rfl) rfl ?_
  rw [← enter_at (P := Try.prog) _ Try.func17 rfl]
  walk_nrm
  refine yek _ ?_
  clear hK hV key yek eK K
  refine great_go hn hR hln (fun b hb => ?_)
  walk_nrm
  cases b with
  | true =>
    clear hb hR hln hp
    obtain ⟨K, eK⟩ : ∃ K : Goroutine → Prop, K = fun g => To0 Try.prog (LPost W) Z V g := ⟨_, rfl⟩
    have hK : Mu Try.prog (fun _ => True) K := by rw [eK]; exact mu_to0
    have hV : MuV Try.prog Lone V K := by rw [eK]; exact muv_to0 hn
    have key : ∀ g, K g → (fun g => To0 Try.prog (LPost W) Z V g) g := fun g h => by rw [eK] at h; exact h
    have yek : ∀ g, (fun g => To0 Try.prog (LPost W) Z V g) g → K g := fun g h => by rw [eK]; exact h
    refine key _ ?_
    repeat (
      first
        | with_reducible refine mu_seq hK ?_
        | with_reducible refine mu_skip hK ?_
        | (with_reducible refine mu_region_end hK ?_; try subst hkk)
        | with_reducible refine mu_block hK ?_
        | with_reducible refine mu_inBlock hK ?_
        | with_reducible refine mu_ret hK ?_
        | with_reducible refine mu_end hK ?_
        | refine mu_exit hK rfl ?_
        | (with_reducible refine mu_regionH hK (fun kk hkk => ?_); simp only [List.size_toArray, List.length_cons, List.length_nil, Nat.reduceAdd, Nat.zero_add, List.range, List.range.loop])
        | (with_reducible refine mu_cond hK false ?_ ?_; (· first | (walk_nrm; done) | (simp [Act.eval]; done)); simp only [if_true, if_false, Bool.false_eq_true, ↓reduceIte])
        | (with_reducible refine mu_cond hK true ?_ ?_; (· first | (walk_nrm; done) | (simp [Act.eval]; done)); simp only [if_true, if_false, Bool.false_eq_true, ↓reduceIte])
        | (refine mu_unwanted hK rfl rfl ?_; walk_nrm)
        | (refine muv_val hV rfl (by first | exact .inl rfl | exact .inr rfl) rfl (by kernel_rfl) (fun J hJ => ?_); go_simp; with_reducible refine hJ _ ?_; clear hJ J; walk_nrm))
    refine mu_call hK rfl rfl (by decide) rfl Try.func18 (by kernel_rfl) rfl ?_
    rw [← enter_at (P := Try.prog) _ Try.func18 rfl]
    walk_nrm
    refine yek _ ?_
    clear hK hV key yek eK K
    refine live_go L.n L.z fun Zq Vq hnq hzq hoq kq => ?_
    have Lq := L.next hnq hzq hoq kq
    walk_nrm
    obtain ⟨K, eK⟩ : ∃ K : Goroutine → Prop, K = fun g => To0 Try.prog (LPost W) Zq Vq g := ⟨_, rfl⟩
    have hK : Mu Try.prog (fun _ => True) K := by rw [eK]; exact mu_to0
    have hV : MuV Try.prog Lone Vq K := by rw [eK]; exact muv_to0 Lq.n
    have key : ∀ g, K g → (fun g => To0 Try.prog (LPost W) Zq Vq g) g := fun g h => by rw [eK] at h; exact h
    have yek : ∀ g, (fun g => To0 Try.prog (LPost W) Zq Vq g) g → K g := fun g h => by rw [eK]; exact h
    refine key _ ?_
    repeat (
      first
        | with_reducible refine mu_seq hK ?_
        | with_reducible refine mu_skip hK ?_
        | (with_reducible refine mu_region_end hK ?_; try subst hkk)
        | with_reducible refine mu_block hK ?_
        | with_reducible refine mu_inBlock hK ?_
        | with_reducible refine mu_ret hK ?_
        | with_reducible refine mu_end hK ?_
        | refine mu_exit hK rfl ?_
        | (with_reducible refine mu_regionH hK (fun kk hkk => ?_); simp only [List.size_toArray, List.length_cons, List.length_nil, Nat.reduceAdd, Nat.zero_add, List.range, List.range.loop])
        | (with_reducible refine mu_cond hK false ?_ ?_; (· first | (walk_nrm; done) | (simp [Act.eval]; done)); simp only [if_true, if_false, Bool.false_eq_true, ↓reduceIte])
        | (with_reducible refine mu_cond hK true ?_ ?_; (· first | (walk_nrm; done) | (simp [Act.eval]; done)); simp only [if_true, if_false, Bool.false_eq_true, ↓reduceIte])
        | (refine mu_unwanted hK rfl rfl ?_; walk_nrm)
        | (refine muv_val hV rfl (by first | exact .inl rfl | exact .inr rfl) rfl (by kernel_rfl) (fun J hJ => ?_); go_simp; with_reducible refine hJ _ ?_; clear hJ J; walk_nrm))
    refine yek _ ?_
    clear hK hV key yek eK K
    exact law_last (by kernel_rfl) rfl rfl Try.func4 rfl rfl Lq.o Lq.k
  | false =>
  obtain ⟨hn12, hsum, hpl⟩ := hb rfl
  clear hb
  obtain ⟨kc, hkc⟩ : ∃ kc, pl * cu / 255 = kc := ⟨_, rfl⟩
  have hkl : kc ≤ pl := by
    rw [← hkc]
    calc pl * cu / 255 ≤ pl * 255 / 255 := Nat.div_le_div_right (Nat.mul_le_mul_left _ (by omega))
      _ = pl := Nat.mul_div_cancel _ (by omega)
  have hmul : pl * cu ≤ 200 * 255 := Nat.mul_le_mul hpl (by omega)
  have hmi : (pl : Int) * (cu : Int) = ((pl * cu : Nat) : Int) := by rw [Int.natCast_mul]
  have u0 : IntKind.i64.wrap (cu : Int) = (cu : Int) := by rw [IntKind.wrap_i64]; omega
  have u1 : IntKind.i64.wrap ((pl : Int) * (cu : Int)) = ((pl * cu : Nat) : Int) := by rw [hmi, IntKind.wrap_i64]; omega
  have u2 : (((pl * cu : Nat) : Int)).tdiv 255 = (kc : Int) := by rw [← hkc]; exact (Int.ofNat_tdiv (pl * cu) 255).symm
  have u4 : (((pl * cu : Nat) : Int)) / 255 = (kc : Int) := by rw [← hkc]; exact (Int.natCast_ediv (pl * cu) 255).symm
  have u3 : IntKind.i64.wrap (kc : Int) = (kc : Int) := by rw [IntKind.wrap_i64]; omega
  have sl : ∀ w, (Instr.sliceAt 23 (.slice pa pl pc) none (some (.int .i64 (kc : Int))) none).run Try.prog w = .ok (.slice pa kc pc) w := cut23 (by omega)
  have hpk := pks_take hp (k := kc) (by omega)
  generalize pl * cu = pm at *
  have hs9 : sumTo n (fun i => (acts i).length) < 1000000000 := by omega
  have hl9 : ∀ i, i < n → (acts i).length < 1000000000 := fun i hi => by
    have h1 : (acts i).length ≤ sumTo n (fun i => (acts i).length) := sum_one n (fun i => (acts i).length) i hi
    omega
  clear hln hmi hkc
  obtain ⟨K, eK⟩ : ∃ K : Goroutine → Prop, K = fun g => To0 Try.prog (LPost W) Z V g := ⟨_, rfl⟩
  have hK : Mu Try.prog (fun _ => True) K := by rw [eK]; exact mu_to0
  have hV : MuV Try.prog Lone V K := by rw [eK]; exact muv_to0 hn
  have key : ∀ g, K g → (fun g => To0 Try.prog (LPost W) Z V g) g := fun g h => by rw [eK] at h; exact h
  have yek : ∀ g, (fun g => To0 Try.prog (LPost W) Z V g) g → K g := fun g h => by rw [eK]; exact h
  refine key _ ?_
  repeat (
    first
      | with_reducible refine mu_seq hK ?_
      | with_reducible refine mu_skip hK ?_
      | (with_reducible refine mu_region_end hK ?_; try subst hkk)
      | with_reducible refine mu_block hK ?_
      | with_reducible refine mu_inBlock hK ?_
      | with_reducible refine mu_ret hK ?_
      | with_reducible refine mu_end hK ?_
      | refine mu_exit hK rfl ?_
      | (with_reducible refine mu_regionH hK (fun kk hkk => ?_); simp only [List.size_toArray, List.length_cons, List.length_nil, Nat.reduceAdd, Nat.zero_add, List.range, List.range.loop])
      | (with_reducible refine mu_cond hK false ?_ ?_; (· first | (walk_nrm; done) | (simp [Act.eval]; done)); simp only [if_true, if_false, Bool.false_eq_true, ↓reduceIte])
      | (with_reducible refine mu_cond hK true ?_ ?_; (· first | (walk_nrm; done) | (simp [Act.eval]; done)); simp only [if_true, if_false, Bool.false_eq_true, ↓reduceIte])
      | (refine mu_unwanted hK rfl rfl ?_; walk_nrm)
      | (refine muv_val hV rfl (by first | exact .inl rfl | exact .inr rfl) rfl (by kernel_rfl) (fun J hJ => ?_); go_simp; with_reducible refine hJ _ ?_; clear hJ J; walk_nrm))
  refine mu_call hK rfl rfl (by decide) rfl Try.func19 (by kernel_rfl) rfl ?_
  rw [← enter_at (P := Try.prog) _ Try.func19 rfl]
  walk_nrm
  refine yek _ ?_
  clear hK hV key yek eK K
  refine play_go (ps := ps.take kc) (Rn := 0) hn L.z (by omega) hR hs9 hl9 hpk (by rw [List.length_take]; omega) (by simp) fun s1 xs1 Z1 V1 ov ovr pkr lv wp hrun1 A => ?_
  have L1 := L.next A.nrm A.z A.zo A.kp
  have hn1 := A.nrm
  have hR1 := hR.kp A.kp
  have hp1 := hp.kp A.kp
  have o1 := A.o1
  have o2 := A.o2
  have o3 := A.o3
  have cp1 := A.o1
  obtain ⟨A1, c1, rfl, R1⟩ := rds_own o1
  obtain ⟨B1, d1, rfl, S1⟩ := rds_own o2
  obtain ⟨C1, y1, rfl, -⟩ := rds_own o3
  obtain ⟨G1, g1, rfl, nl1, N1⟩ := rd_notes A.lg
  have N1 : Nts V1 G1 s1.log := N1
  have R1 := R1 (fun j => .int .i64 ((xs1.getD j 0 : Nat) : Int)) (fun j hj => by simp [ints, List.getElem?_map, List.getD_eq_getElem?_getD, List.getElem?_eq_getElem hj])
  have S1 := S1 (fun j => .bool (cl (s1.st j) == 3)) (fun j hj => by simp [tbl, List.getElem?_map, List.getElem?_range, hj])
  have hw1 := A.w
  have cap1 := own_cap cp1
  clear A u0 u1 u2 u3 u4 sl hpk hp hR cp1
  walk_nrm
  obtain ⟨K, eK⟩ : ∃ K : Goroutine → Prop, K = fun g => To0 Try.prog (LPost W) Z1 V1 g := ⟨_, rfl⟩
  have hK : Mu Try.prog (fun _ => True) K := by rw [eK]; exact mu_to0
  have hV : MuV Try.prog Lone V1 K := by rw [eK]; exact muv_to0 hn1
  have key : ∀ g, K g → (fun g => To0 Try.prog (LPost W) Z1 V1 g) g := fun g h => by rw [eK] at h; exact h
  have yek : ∀ g, (fun g => To0 Try.prog (LPost W) Z1 V1 g) g → K g := fun g h => by rw [eK]; exact h
  refine key _ ?_
  repeat (
    first
      | with_reducible refine mu_seq hK ?_
      | with_reducible refine mu_skip hK ?_
      | (with_reducible refine mu_region_end hK ?_; try subst hkk)
      | with_reducible refine mu_block hK ?_
      | with_reducible refine mu_inBlock hK ?_
      | with_reducible refine mu_ret hK ?_
      | with_reducible refine mu_end hK ?_
      | refine mu_exit hK rfl ?_
      | (with_reducible refine mu_regionH hK (fun kk hkk => ?_); simp only [List.size_toArray, List.length_cons, List.length_nil, Nat.reduceAdd, Nat.zero_add, List.range, List.range.loop])
      | (with_reducible refine mu_cond hK false ?_ ?_; (· first | (walk_nrm; done) | (simp [Act.eval]; done)); simp only [if_true, if_false, Bool.false_eq_true, ↓reduceIte])
      | (with_reducible refine mu_cond hK true ?_ ?_; (· first | (walk_nrm; done) | (simp [Act.eval]; done)); simp only [if_true, if_false, Bool.false_eq_true, ↓reduceIte])
      | (refine mu_unwanted hK rfl rfl ?_; walk_nrm)
      | (refine muv_val hV rfl (by first | exact .inl rfl | exact .inr rfl) rfl (by kernel_rfl) (fun J hJ => ?_); go_simp; with_reducible refine hJ _ ?_; clear hJ J; walk_nrm))
  refine yek _ ?_
  clear hK hV key yek eK K
  have hnV2 : norm (V1.alloc (.cells #[.slice none 0 0, .slice none 0 0, .slice none 0 0] 28)) = (V1.alloc (.cells #[.slice none 0 0, .slice none 0 0, .slice none 0 0] 28)) := norm_al hn1 _
  refine mua_put (L := Lone) (v := .pointer (some ⟨V1.heap.size, 0, none⟩)) (mua_to0 hnV2) (K := fun g => To0 Try.prog (LPost W) Z1 V1 g) (K' := fun g => To0 Try.prog (LPost W) Z1 (V1.alloc (.cells #[.slice none 0 0, .slice none 0 0, .slice none 0 0] 28)) g) rfl (.inl rfl) rfl (by kernel_rfl) (fun τ => ?_) ?_
  · go_simp
    first | exact ⟨by first | rfl | assumption | (simp only [re]; omega), rfl⟩ | rfl | (simp; done)
  have sV2 : (V1.alloc (.cells #[.slice none 0 0, .slice none 0 0, .slice none 0 0] 28)).heap.size = V1.heap.size + 1 := al_size _ _
  have kV2 : Kp V1 (V1.alloc (.cells #[.slice none 0 0, .slice none 0 0, .slice none 0 0] 28)) := kp_alloc _ _
  have rV2 : (V1.alloc (.cells #[.slice none 0 0, .slice none 0 0, .slice none 0 0] 28)).heap[V1.heap.size]? = some (.cells #[.slice none 0 0, .slice none 0 0, .slice none 0 0] 28) := by rw [al_get, if_pos rfl]
  generalize (V1.alloc (.cells #[.slice none 0 0, .slice none 0 0, .slice none 0 0] 28)) = V2 at *
  walk_nrm
  have f0 : ∀ τ, (re V2 τ 0).cell? ⟨V1.heap.size, 0, none⟩ = some (.slice none 0 0) := fun τ => cell_of rV2 (by simp)
  have z0 : ∀ τ, (re V2 τ 0).frozen? ⟨V1.heap.size, 0, none⟩ = false := fun τ => by simp [World.frozen?, re, rV2]
  have f1 : ∀ τ, (re V2 τ 0).cell? ⟨V1.heap.size, 1, none⟩ = some (.slice none 0 0) := fun τ => cell_of rV2 (by simp)
  have z1 : ∀ τ, (re V2 τ 0).frozen? ⟨V1.heap.size, 1, none⟩ = false := fun τ => by simp [World.frozen?, re, rV2]
  have f2 : ∀ τ, (re V2 τ 0).cell? ⟨V1.heap.size, 2, none⟩ = some (.slice none 0 0) := fun τ => cell_of rV2 (by simp)
  have z2 : ∀ τ, (re V2 τ 0).frozen? ⟨V1.heap.size, 2, none⟩ = false := fun τ => by simp [World.frozen?, re, rV2]
  have hnV3 : norm (set3 V2 V1.heap.size (.slice A1 xs1.length c1) (.slice B1 n d1) (.slice C1 n y1)) = (set3 V2 V1.heap.size (.slice A1 xs1.length c1) (.slice B1 n d1) (.slice C1 n y1)) := norm_set (norm_set (norm_set hnV2 _ _) _ _) _ _
  have kV3 : Kp V1 (set3 V2 V1.heap.size (.slice A1 xs1.length c1) (.slice B1 n d1) (.slice C1 n y1)) := kp_set3 kV2 (Nat.le_refl _)
  have rV3 : (set3 V2 V1.heap.size (.slice A1 xs1.length c1) (.slice B1 n d1) (.slice C1 n y1)).heap[V1.heap.size]? = some (.cells #[(.slice A1 xs1.length c1), (.slice B1 n d1), (.slice C1 n y1)] 28 (0, 0)) := by
    unfold set3
    rw [setCell_heap, if_pos rfl, setCell_heap, if_pos rfl, setCell_heap, if_pos rfl, rV2]
    simp
  refine mus_put (L := Lone) (mus_to0 hnV3) (K := fun g => To0 Try.prog (LPost W) Z1 V2 g) (K' := fun g => To0 Try.prog (LPost W) Z1 (set3 V2 V1.heap.size (.slice A1 xs1.length c1) (.slice B1 n d1) (.slice C1 n y1)) g) rfl (.inl rfl) rfl (by kernel_rfl) (fun τ => ?_) ?_
  · go_simp
    rfl
  clear f0 f1 f2 z0 z1 z2
  generalize (set3 V2 V1.heap.size (.slice A1 xs1.length c1) (.slice B1 n d1) (.slice C1 n y1)) = V3 at *
  walk_nrm
  have L3 := L1.same hnV3 kV3
  have hR3 := hR1.kp kV3
  have hp3 := hp1.kp kV3
  have hw1 := kV3.at_ hw1
  have S1 := kV3.rds S1
  have R1 := kV3.rds R1
  have N1 := N1.kp kV3
  obtain ⟨rb, erb⟩ : ∃ rb, rb = V1.heap.size := ⟨_, rfl⟩
  rw [← erb] at rV3 ⊢
  clear erb hR1 hp1 kV2 rV2 sV2
  have D1 : ∀ τ, (re V3 τ 0).cell? ⟨wp, 0, none⟩ = some (.slice G1 s1.log.length g1) := fun τ => cell_of hw1 (by simp)
  obtain ⟨K, eK⟩ : ∃ K : Goroutine → Prop, K = fun g => To0 Try.prog (LPost W) Z1 V3 g := ⟨_, rfl⟩
  have hK : Mu Try.prog (fun _ => True) K := by rw [eK]; exact mu_to0
  have hV : MuV Try.prog Lone V3 K := by rw [eK]; exact muv_to0 hnV3
  have key : ∀ g, K g → (fun g => To0 Try.prog (LPost W) Z1 V3 g) g := fun g h => by rw [eK] at h; exact h
  have yek : ∀ g, (fun g => To0 Try.prog (LPost W) Z1 V3 g) g → K g := fun g h => by rw [eK]; exact h
  refine key _ ?_
  repeat (
    first
      | with_reducible refine mu_seq hK ?_
      | with_reducible refine mu_skip hK ?_
      | (with_reducible refine mu_region_end hK ?_; try subst hkk)
      | with_reducible refine mu_block hK ?_
      | with_reducible refine mu_inBlock hK ?_
      | with_reducible refine mu_ret hK ?_
      | with_reducible refine mu_end hK ?_
      | refine mu_exit hK rfl ?_
      | (with_reducible refine mu_regionH hK (fun kk hkk => ?_); simp only [List.size_toArray, List.length_cons, List.length_nil, Nat.reduceAdd, Nat.zero_add, List.range, List.range.loop])
      | (with_reducible refine mu_cond hK false ?_ ?_; (· first | (walk_nrm; done) | (simp [Act.eval]; done)); simp only [if_true, if_false, Bool.false_eq_true, ↓reduceIte])
      | (with_reducible refine mu_cond hK true ?_ ?_; (· first | (walk_nrm; done) | (simp [Act.eval]; done)); simp only [if_true, if_false, Bool.false_eq_true, ↓reduceIte])
      | (refine mu_unwanted hK rfl rfl ?_; walk_nrm)
      | (refine muv_val hV rfl (by first | exact .inl rfl | exact .inr rfl) rfl (by kernel_rfl) (fun J hJ => ?_); go_simp; with_reducible refine hJ _ ?_; clear hJ J; walk_nrm))
  refine mu_call hK rfl rfl (by decide) rfl Try.func19 (by kernel_rfl) rfl ?_
  rw [← enter_at (P := Try.prog) _ Try.func19 rfl]
  walk_nrm
  refine yek _ ?_
  clear hK hV key yek eK K
  clear D1
  refine play_go (ps := ps) (Rn := 0) hnV3 L3.z (by omega) hR3 hs9 hl9 hp3 (by omega) (by simp) fun s2 xs2 Z2 V4 ov ovr pkr lv xp hrun2 A => ?_
  have L4 := L3.next A.nrm A.z A.zo A.kp
  have hn4 := A.nrm
  have rV4 := A.kp.at_ rV3
  have hw1 := A.kp.at_ hw1
  have S1 := A.kp.rds S1
  have R1 := A.kp.rds R1
  have N1 := N1.kp A.kp
  have o1 := A.o1
  have o2 := A.o2
  have o3 := A.o3
  have cp2 := A.o1
  obtain ⟨A2, c2, rfl, R2⟩ := rds_own o1
  obtain ⟨B2, d2, rfl, S2⟩ := rds_own o2
  obtain ⟨C2, y2, rfl, -⟩ := rds_own o3
  obtain ⟨G2, g2, rfl, nl2, N2⟩ := rd_notes A.lg
  have N2 : Nts V4 G2 s2.log := N2
  have R2 := R2 (fun j => .int .i64 ((xs2.getD j 0 : Nat) : Int)) (fun j hj => by simp [ints, List.getElem?_map, List.getD_eq_getElem?_getD, List.getElem?_eq_getElem hj])
  have S2 := S2 (fun j => .bool (cl (s2.st j) == 3)) (fun j hj => by simp [tbl, List.getElem?_map, List.getElem?_range, hj])
  have hw2 := A.w
  have cap2 := own_cap cp2
  have hb : Beh (s1, xs1) (s2, xs2) := by rw [hrun1, hrun2]; exact trun_beh n acts ps kc
  obtain ⟨⟨t1, et1⟩, ⟨t2, et2⟩, hov⟩ := hb
  simp only at et1 et2 hov
  have hlo : s1.log.length ≤ s2.log.length := by rw [et1, List.length_append]; omega
  have hxo : xs1.length ≤ xs2.length := by rw [et2, List.length_append]; omega
  have hlg : ∀ j, j < s1.log.length → s1.log.getD j (0, 0) = s2.log.getD j (0, 0) := fun j hj => by rw [et1, getD_app hj]
  have hxg : ∀ j, j < xs1.length → xs2.getD j 0 = xs1.getD j 0 := fun j hj => by rw [et2, getD_app hj]
  clear A hp3 hR3 hrun1 hrun2 et1 et2 cp2
  generalize s1.log = l1 at *
  generalize s2.log = l2 at *
  walk_nrm
  obtain ⟨K, eK⟩ : ∃ K : Goroutine → Prop, K = fun g => To0 Try.prog (LPost W) Z2 V4 g := ⟨_, rfl⟩
  have hK : Mu Try.prog (fun _ => True) K := by rw [eK]; exact mu_to0
  have hV : MuV Try.prog Lone V4 K := by rw [eK]; exact muv_to0 hn4
  have key : ∀ g, K g → (fun g => To0 Try.prog (LPost W) Z2 V4 g) g := fun g h => by rw [eK] at h; exact h
  have yek : ∀ g, (fun g => To0 Try.prog (LPost W) Z2 V4 g) g → K g := fun g h => by rw [eK]; exact h
  refine key _ ?_
  repeat (
    first
      | with_reducible refine mu_seq hK ?_
      | with_reducible refine mu_skip hK ?_
      | (with_reducible refine mu_region_end hK ?_; try subst hkk)
      | with_reducible refine mu_block hK ?_
      | with_reducible refine mu_inBlock hK ?_
      | with_reducible refine mu_ret hK ?_
      | with_reducible refine mu_end hK ?_
      | refine mu_exit hK rfl ?_
      | (with_reducible refine mu_regionH hK (fun kk hkk => ?_); simp only [List.size_toArray, List.length_cons, List.length_nil, Nat.reduceAdd, Nat.zero_add, List.range, List.range.loop])
      | (with_reducible refine mu_cond hK false ?_ ?_; (· first | (walk_nrm; done) | (simp [Act.eval]; done)); simp only [if_true, if_false, Bool.false_eq_true, ↓reduceIte])
      | (with_reducible refine mu_cond hK true ?_ ?_; (· first | (walk_nrm; done) | (simp [Act.eval]; done)); simp only [if_true, if_false, Bool.false_eq_true, ↓reduceIte])
      | (refine mu_unwanted hK rfl rfl ?_; walk_nrm)
      | (refine muv_val hV rfl (by first | exact .inl rfl | exact .inr rfl) rfl (by kernel_rfl) (fun J hJ => ?_); go_simp; with_reducible refine hJ _ ?_; clear hJ J; walk_nrm))
  refine yek _ ?_
  clear hK hV key yek eK K
  have hnV5 : norm (V4.alloc (.cells #[.slice none 0 0, .slice none 0 0, .slice none 0 0] 28)) = (V4.alloc (.cells #[.slice none 0 0, .slice none 0 0, .slice none 0 0] 28)) := norm_al hn4 _
  refine mua_put (L := Lone) (v := .pointer (some ⟨V4.heap.size, 0, none⟩)) (mua_to0 hnV5) (K := fun g => To0 Try.prog (LPost W) Z2 V4 g) (K' := fun g => To0 Try.prog (LPost W) Z2 (V4.alloc (.cells #[.slice none 0 0, .slice none 0 0, .slice none 0 0] 28)) g) rfl (.inl rfl) rfl (by kernel_rfl) (fun τ => ?_) ?_
  · go_simp
    first | exact ⟨by first | rfl | assumption | (simp only [re]; omega), rfl⟩ | rfl | (simp; done)
  have sV5 : (V4.alloc (.cells #[.slice none 0 0, .slice none 0 0, .slice none 0 0] 28)).heap.size = V4.heap.size + 1 := al_size _ _
  have kV5 : Kp V4 (V4.alloc (.cells #[.slice none 0 0, .slice none 0 0, .slice none 0 0] 28)) := kp_alloc _ _
  have rV5 : (V4.alloc (.cells #[.slice none 0 0, .slice none 0 0, .slice none 0 0] 28)).heap[V4.heap.size]? = some (.cells #[.slice none 0 0, .slice none 0 0, .slice none 0 0] 28) := by rw [al_get, if_pos rfl]
  generalize (V4.alloc (.cells #[.slice none 0 0, .slice none 0 0, .slice none 0 0] 28)) = V5 at *
  walk_nrm
  have f0 : ∀ τ, (re V5 τ 0).cell? ⟨V4.heap.size, 0, none⟩ = some (.slice none 0 0) := fun τ => cell_of rV5 (by simp)
  have z0 : ∀ τ, (re V5 τ 0).frozen? ⟨V4.heap.size, 0, none⟩ = false := fun τ => by simp [World.frozen?, re, rV5]
  have f1 : ∀ τ, (re V5 τ 0).cell? ⟨V4.heap.size, 1, none⟩ = some (.slice none 0 0) := fun τ => cell_of rV5 (by simp)
  have z1 : ∀ τ, (re V5 τ 0).frozen? ⟨V4.heap.size, 1, none⟩ = false := fun τ => by simp [World.frozen?, re, rV5]
  have f2 : ∀ τ, (re V5 τ 0).cell? ⟨V4.heap.size, 2, none⟩ = some (.slice none 0 0) := fun τ => cell_of rV5 (by simp)
  have z2 : ∀ τ, (re V5 τ 0).frozen? ⟨V4.heap.size, 2, none⟩ = false := fun τ => by simp [World.frozen?, re, rV5]
  have hnV6 : norm (set3 V5 V4.heap.size (.slice A2 xs2.length c2) (.slice B2 n d2) (.slice C2 n y2)) = (set3 V5 V4.heap.size (.slice A2 xs2.length c2) (.slice B2 n d2) (.slice C2 n y2)) := norm_set (norm_set (norm_set hnV5 _ _) _ _) _ _
  have kV6 : Kp V4 (set3 V5 V4.heap.size (.slice A2 xs2.length c2) (.slice B2 n d2) (.slice C2 n y2)) := kp_set3 kV5 (Nat.le_refl _)
  have rV6 : (set3 V5 V4.heap.size (.slice A2 xs2.length c2) (.slice B2 n d2) (.slice C2 n y2)).heap[V4.heap.size]? = some (.cells #[(.slice A2 xs2.length c2), (.slice B2 n d2), (.slice C2 n y2)] 28 (0, 0)) := by
    unfold set3
    rw [setCell_heap, if_pos rfl, setCell_heap, if_pos rfl, setCell_heap, if_pos rfl, rV5]
    simp
  refine mus_put (L := Lone) (mus_to0 hnV6) (K := fun g => To0 Try.prog (LPost W) Z2 V5 g) (K' := fun g => To0 Try.prog (LPost W) Z2 (set3 V5 V4.heap.size (.slice A2 xs2.length c2) (.slice B2 n d2) (.slice C2 n y2)) g) rfl (.inl rfl) rfl (by kernel_rfl) (fun τ => ?_) ?_
  · go_simp
    rfl
  clear f0 f1 f2 z0 z1 z2
  generalize (set3 V5 V4.heap.size (.slice A2 xs2.length c2) (.slice B2 n d2) (.slice C2 n y2)) = V6 at *
  walk_nrm
  have L6 := L4.same hnV6 kV6
  have hw1 := kV6.at_ hw1
  have hw2 := kV6.at_ hw2
  have rV7 := kV6.at_ rV4
  have S1 := kV6.rds S1
  have R1 := kV6.rds R1
  have N1 := N1.kp kV6
  have S2 := kV6.rds S2
  have R2 := kV6.rds R2
  have N2 := N2.kp kV6
  obtain ⟨qb, eqb⟩ : ∃ qb, qb = V4.heap.size := ⟨_, rfl⟩
  rw [← eqb] at rV6 ⊢
  clear eqb kV5 rV5 sV5
  have D1 : ∀ τ, (re V6 τ 0).cell? ⟨wp, 0, none⟩ = some (.slice G1 l1.length g1) := fun τ => cell_of hw1 (by simp)
  have D2 : ∀ τ, (re V6 τ 0).cell? ⟨xp, 0, none⟩ = some (.slice G2 l2.length g2) := fun τ => cell_of hw2 (by simp)
  have D3 : ∀ τ, (re V6 τ 0).cell? ⟨rb, 0, none⟩ = some (.slice A1 xs1.length c1) := fun τ => cell_of rV7 (by simp)
  have D4 : ∀ τ, (re V6 τ 0).cell? ⟨rb, 1, none⟩ = some (.slice B1 n d1) := fun τ => cell_of rV7 (by simp)
  have D5 : ∀ τ, (re V6 τ 0).cell? ⟨qb, 0, none⟩ = some (.slice A2 xs2.length c2) := fun τ => cell_of rV6 (by simp)
  have D6 : ∀ τ, (re V6 τ 0).cell? ⟨qb, 1, none⟩ = some (.slice B2 n d2) := fun τ => cell_of rV6 (by simp)
  have q1 : decide ((l2.length : Int) < (l1.length : Int)) = false := decide_eq_false (by omega)
  have q2 : decide ((xs2.length : Int) < (xs1.length : Int)) = false := decide_eq_false (by omega)
  have q1' : decide (l2.length < l1.length) = false := decide_eq_false (by omega)
  have q2' : decide (xs2.length < xs1.length) = false := decide_eq_false (by omega)
  have LOGK := fun K => log_loop (W := W) (Z := Z2) (la := la) (n := n) (lc := lc) (rb := rb) (qb := qb) hnV6 hw1 hw2 nl1 hlo N1 N2 hlg K
  have OVK := fun K => over_loop (W := W) (Z := Z2) (la := la) (n := n) (lc := lc) (b1 := fun j => cl (s1.st j) == 3) (b2 := fun j => cl (s2.st j) == 3) hnV6 hn12 rV7 rV6 S1 S2 (fun j hj h => by
    have h1 : cl (s1.st j) = 3 := by simpa using h
    simpa using hov j h1) K
  have ENK := ends_end (la := la) (lc := lc) (xs := fun j => xs1.getD j 0) L6 rV7 rV6 (by omega) R1 (R2.upto hxo fun j hj => by rw [hxg j hj])
  clear hw1 hw2 rV7 rV6 S1 S2 R1 R2 N1 N2 hlg hxg hov cap1 cap2 nl1 nl2 hlo hxo hs9 hl9 hsum
  obtain ⟨K, eK⟩ : ∃ K : Goroutine → Prop, K = fun g => To0 Try.prog (LPost W) Z2 V6 g := ⟨_, rfl⟩
  have hK : Mu Try.prog (fun _ => True) K := by rw [eK]; exact mu_to0
  have hV : MuV Try.prog Lone V6 K := by rw [eK]; exact muv_to0 hnV6
  have key : ∀ g, K g → (fun g => To0 Try.prog (LPost W) Z2 V6 g) g := fun g h => by rw [eK] at h; exact h
  have yek : ∀ g, (fun g => To0 Try.prog (LPost W) Z2 V6 g) g → K g := fun g h => by rw [eK]; exact h
  refine key _ ?_
  repeat (
    first
      | with_reducible refine mu_seq hK ?_
      | with_reducible refine mu_skip hK ?_
      | (with_reducible refine mu_region_end hK ?_; try subst hkk)
      | with_reducible refine mu_block hK ?_
      | with_reducible refine mu_inBlock hK ?_
      | with_reducible refine mu_ret hK ?_
      | with_reducible refine mu_end hK ?_
      | refine mu_exit hK rfl ?_
      | (with_reducible refine mu_regionH hK (fun kk hkk => ?_); simp only [List.size_toArray, List.length_cons, List.length_nil, Nat.reduceAdd, Nat.zero_add, List.range, List.range.loop])
      | (with_reducible refine mu_cond hK false ?_ ?_; (· first | (walk_nrm; done) | (simp [Act.eval]; done)); simp only [if_true, if_false, Bool.false_eq_true, ↓reduceIte])
      | (with_reducible refine mu_cond hK true ?_ ?_; (· first | (walk_nrm; done) | (simp [Act.eval]; done)); simp only [if_true, if_false, Bool.false_eq_true, ↓reduceIte])
      | (refine mu_unwanted hK rfl rfl ?_; walk_nrm)
      | (refine muv_val hV rfl (by first | exact .inl rfl | exact .inr rfl) rfl (by kernel_rfl) (fun J hJ => ?_); go_simp; with_reducible refine hJ _ ?_; clear hJ J; walk_nrm))
  refine mu_loop hK ?_
  refine yek _ ?_
  clear hK hV key yek eK K
  refine (fun (h : ∀ Y0 Y1, EL1 = Y0 → E2 = Y1 → To0 Try.prog (LPost W) Z2 V6 (G ((base 4).at _ [.code Y0, .inLoop Y0, .inBlock 0, .code Y1]) [])) => h _ _ (by simp only [E1, E2, E3, EL1, EL2, B4e, nva, nvb, nvk, nvl, Try.f4, Option.getD_some]) (by simp only [E1, E2, E3, EL1, EL2, B4e, nva, nvb, nvk, nvl, Try.f4, Option.getD_some])) ?_
  intro Y0 Y1 hY0 hY1
  subst hY0 hY1
  refine LOGK (fun T hT => ?_) l1.length 0 _ (by omega) ⟨by simp, rfl, rfl, rfl, rfl, rfl, rfl⟩ rfl
  clear LOGK D1 D2 D3 D4 D5 D6
  obtain ⟨hs, t0, t7, t8, t10, t11, t12⟩ := hT
  clear t8 t10 t12
  obtain ⟨f, hf, hT⟩ := array146f T hs
  have et0 := hf 0 _ t0
  have et7 := hf 7 _ t7
  have et11 := hf 11 _ t11
  clear hf hs t0 t7 t11
  subst hT
  simp only [et0, et7, et11]
  clear et0 et7 et11
  refine (fun (h : ∀ X0, X0 = E2 → To0 Try.prog (LPost W) Z2 V6 (G ((base 4).at ⟨_, []⟩ [.code X0]) [])) => h E2 rfl) ?_
  intro X0 hX0
  simp only [E1, E2, E3, EL1, EL2, B4e, nva, nvb, nvk, nvl, Try.f4, Option.getD_some] at hX0
  subst hX0
  obtain ⟨K, eK⟩ : ∃ K : Goroutine → Prop, K = fun g => To0 Try.prog (LPost W) Z2 V6 g := ⟨_, rfl⟩
  have hK : Mu Try.prog (fun _ => True) K := by rw [eK]; exact mu_to0
  have hV : MuV Try.prog Lone V6 K := by rw [eK]; exact muv_to0 hnV6
  have key : ∀ g, K g → (fun g => To0 Try.prog (LPost W) Z2 V6 g) g := fun g h => by rw [eK] at h; exact h
  have yek : ∀ g, (fun g => To0 Try.prog (LPost W) Z2 V6 g) g → K g := fun g h => by rw [eK]; exact h
  refine key _ ?_
  repeat (
    first
      | with_reducible refine mu_seq hK ?_
      | with_reducible refine mu_skip hK ?_
      | (with_reducible refine mu_region_end hK ?_; try subst hkk)
      | with_reducible refine mu_block hK ?_
      | with_reducible refine mu_inBlock hK ?_
      | with_reducible refine mu_ret hK ?_
      | with_reducible refine mu_end hK ?_
      | refine mu_exit hK rfl ?_
      | (with_reducible refine mu_regionH hK (fun kk hkk => ?_); simp only [List.size_toArray, List.length_cons, List.length_nil, Nat.reduceAdd, Nat.zero_add, List.range, List.range.loop])
      | (with_reducible refine mu_cond hK false ?_ ?_; (· first | (walk_nrm; done) | (simp [Act.eval]; done)); simp only [if_true, if_false, Bool.false_eq_true, ↓reduceIte])
      | (with_reducible refine mu_cond hK true ?_ ?_; (· first | (walk_nrm; done) | (simp [Act.eval]; done)); simp only [if_true, if_false, Bool.false_eq_true, ↓reduceIte])
      | (refine mu_unwanted hK rfl rfl ?_; walk_nrm)
      | (refine muv_val hV rfl (by first | exact .inl rfl | exact .inr rfl) rfl (by kernel_rfl) (fun J hJ => ?_); go_simp; with_reducible refine hJ _ ?_; clear hJ J; walk_nrm))
  refine mu_loop hK ?_
  refine yek _ ?_
  clear hK hV key yek eK K
  refine (fun (h : ∀ Y0 Y1, EL2 = Y0 → E3 = Y1 → To0 Try.prog (LPost W) Z2 V6 (G ((base 4).at _ [.code Y0, .inLoop Y0, .inBlock 2, .code Y1]) [])) => h _ _ (by simp only [E1, E2, E3, EL1, EL2, B4e, nva, nvb, nvk, nvl, Try.f4, Option.getD_some]) (by simp only [E1, E2, E3, EL1, EL2, B4e, nva, nvb, nvk, nvl, Try.f4, Option.getD_some])) ?_
  intro Y0 Y1 hY0 hY1
  subst hY0 hY1
  exact OVK (fun T hT => ENK T hT) n 0 _ (by omega) ⟨by simp, rfl, rfl, rfl⟩ rfl
end
end Go.Proofs.Ytibcdikfbhmheaa
