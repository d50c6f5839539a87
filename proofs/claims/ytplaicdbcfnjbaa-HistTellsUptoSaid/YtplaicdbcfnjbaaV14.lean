/- HistAhead: the walk. -/
import Derived.Test.YtplaicdbcfnjbaaV12
import Derived.Test.YtplaicdbcfnjbaaV08
import Derived.Test.YtplaicdbcfnjbaaV13
set_option linter.unusedSimpArgs false
set_option linter.unusedVariables false
namespace Go.Proofs.Ytplaicdbcfnjbaa
open Go.RowKit
set_option linter.unusedVariables false

theorem cmpI_self (a : Int) : cmpI a a = 0 := by unfold cmpI; rw [if_neg (by omega), if_neg (by omega)]
theorem cmpK_self (c : DT → DT → Int) (hc : ∀ a, c a a = 0) (l : List DT) : ∀ n, cmpK c l l n = 0
  | 0 => rfl
  | n + 1 => by unfold cmpK; rw [cmpK_self c hc l n, if_neg (by simp)]; exact hc _
theorem cmpD_self : ∀ (f : Nat) (a : DT), cmpD f a a = 0
  | 0, _ => rfl
  | f + 1, a => by
    unfold cmpD
    rw [cmpI_self, cmpI_self, cmpI_self, if_neg (by decide)]
    exact cmpK_self _ (cmpD_self f) _ _
theorem oneO_self (f : Nat) (a : OD) : oneO f a a = true := by
  simp [oneO, eq2, eqR, alikeT, sameD, cmpD_self]
def pair (a b : OD) (i : Nat) : OD := if i = 0 then a else b
def trip (a b c : OD) (i : Nat) : OD := if i = 0 then a else if i = 1 then b else c
theorem same_pair (f : Nat) (a b c : OD) : sameO f 2 2 (pair a b) (pair a c) = oneO f b c := by
  cases h : oneO f b c
  · exact sameO_no 1 (by decide) h
  · refine sameO_yes fun i hi => ?_
    match i, hi with
    | 0, _ => exact oneO_self f a
    | 1, _ => exact h
theorem same_nil (f : Nat) (o p : Nat → OD) : sameO f 1 0 o p = false := sameO_len (by decide)
theorem noT {ea sb eb sc : Int} (hx : aheadB ea sb = true) (hy : aheadB eb sc = true) (hz : aheadB ea sc = false) : decide (sb < eb) = false := by
  simp only [aheadB, Bool.and_eq_true, bne_iff_ne, ne_eq, decide_eq_true_eq] at hx hy
  refine decide_eq_false fun h => ?_
  have : aheadB ea sc = true := by
    simp only [aheadB, Bool.and_eq_true, bne_iff_ne, ne_eq, decide_eq_true_eq]
    exact ⟨hx.1, by omega⟩
  rw [this] at hz; cases hz
attribute [local irreducible] Go.wpList
set_option maxRecDepth 100000 in
set_option maxHeartbeats 4000000 in
theorem ahead_walk (f : Nat) (a b c : OD) (w : World) (hA : IsO w f a) (hB : IsO w f b) (hC : IsO w f c) (ha : nodes f a.td.d ≤ 4000000) (hb : nodes f b.td.d ≤ 4000000) (hc : nodes f c.td.d ≤ 4000000) :
    Calls Try.prog 3 #[.agg (ocs a), .agg (ocs b), .agg (ocs c)] w fun x w' => x = .returned (.bool true) ∧ New w w' := by
  have IA := Lib.hid (ocs_op a)
  have IB := Lib.hid (ocs_op b)
  have IC := Lib.hid (ocs_op c)
  have HO := Lib.hid (fun w' (n : New w w') => (⟨hA.new n, hB.new n, hC.new n⟩ : IsO w' f a ∧ IsO w' f b ∧ IsO w' f c))
  have A1 := Lib.hid (fun w => ahead_any (ocs a) (ocs b) a.e b.s w rfl rfl)
  have A2 := Lib.hid (fun w => ahead_any (ocs b) (ocs c) b.e c.s w rfl rfl)
  have A3 := Lib.hid (fun w => ahead_any (ocs a) (ocs c) a.e c.s w rfl rfl)
  have R1 := Lib.hid (fun w => rahead_any (ocs a) (ocs b) a.e b.s w rfl rfl)
  have R2 := Lib.hid (fun w => rahead_any (ocs b) (ocs c) b.e c.s w rfl rfl)
  have R3 := Lib.hid (fun w => rahead_any (ocs a) (ocs c) a.e c.s w rfl rfl)
  have HT := Lib.hid (fun (w' : World) (A : Option Addr) (n : New w w') (h : ∃ ad, A = some ad ∧ ∀ i, i < 3 → OpAt w' (ad.add (i * 19)) (ocs (trip a b c i))) =>
    (great_any f 3 (trip a b c) A 3 w' ⟨by decide, fun i _ => by unfold trip; split; exact hA.new n; split; exact hB.new n; exact hC.new n, fun _ => h⟩ (fun i _ _ => by unfold trip; split; exact ha; split; exact hb; exact hc)))
  have HP1 := Lib.hid (fun (w' : World) (A : Option Addr) (n : New w w') (h : ∃ ad, A = some ad ∧ ∀ i, i < 2 → OpAt w' (ad.add (i * 19)) (ocs (pair a b i))) => (⟨by decide, fun i _ => by unfold pair; split; exact hA.new n; exact hB.new n, fun _ => h⟩ : RowO w' f A 2 (pair a b)))
  have HP2 := Lib.hid (fun (w' : World) (A : Option Addr) (n : New w w') (h : ∃ ad, A = some ad ∧ ∀ i, i < 2 → OpAt w' (ad.add (i * 19)) (ocs (pair a c i))) => (⟨by decide, fun i _ => by unfold pair; split; exact hA.new n; exact hC.new n, fun _ => h⟩ : RowO w' f A 2 (pair a c)))
  have HP3 := Lib.hid (fun (w' : World) (A : Option Addr) (n : New w w') (h : ∃ ad, A = some ad ∧ ∀ i, i < 1 → OpAt w' (ad.add (i * 19)) (ocs a)) => (⟨by decide, fun i _ => hA.new n, fun _ => h⟩ : RowO w' f A 1 (fun _ => a)))
  have HP0 := Lib.hid (fun (w' : World) => (⟨by decide, fun i h => absurd h (by omega), fun h => absurd h (by decide)⟩ : RowO w' f none 0 (fun _ => a)))
  have SS1 := Lib.hid (fun (w' : World) (A B : Option Addr) (ca cb : Nat) (h : RowO w' f A 2 (pair a b)) (h' : RowO w' f B 2 (pair a c)) => (hsame_any f 2 2 _ _ A ca B cb w' h h').mono (R' := fun x w'' => x = .returned (.bool (oneO f b c)) ∧ New w' w'') fun e w'' ⟨h1, h2⟩ => ⟨by rw [h1, same_pair], h2⟩)
  have SS2 := Lib.hid (fun (w' : World) (A : Option Addr) (ca : Nat) (h : RowO w' f A 1 (fun _ => a)) (h' : RowO w' f none 0 (fun _ => a)) => (hsame_any f 1 0 _ _ A ca none 0 w' h h').mono (R' := fun x w'' => x = .returned (.bool false) ∧ New w' w'') fun e w'' ⟨h1, h2⟩ => ⟨by rw [h1, same_nil], h2⟩)
  have ON := Lib.hid (fun (w' : World) (n : New w w') => one_any f b c w' (hB.new n) (hC.new n))
  have HI3 := Lib.hid (fun i => (show IsOp (ocs (trip a b c i)) from ocs_op _))
  have HIab := Lib.hid (fun i => (show IsOp (ocs (pair a b i)) from ocs_op _))
  have HIac := Lib.hid (fun i => (show IsOp (ocs (pair a c i)) from ocs_op _))
  have F17 := Lib.hid (show (ocs b)[17]? = some (.int .i64 b.s) from rfl)
  have F18 := Lib.hid (show (ocs b)[18]? = some (.int .i64 b.e) from rfl)
  have NT := Lib.hid (fun hx hy hz => noT (ea := a.e) (sb := b.s) (eb := b.e) (sc := c.s) hx hy hz)
  clear hA hB hC ha hb hc
  have T0' : ocs (trip a b c 0) = ocs a := rfl
  have T1' : ocs (trip a b c 1) = ocs b := rfl
  have T2' : ocs (trip a b c 2) = ocs c := rfl
  have P0' : ocs (pair a b 0) = ocs a := rfl
  have P1' : ocs (pair a b 1) = ocs b := rfl
  have Q0' : ocs (pair a c 0) = ocs a := rfl
  have Q1' : ocs (pair a c 1) = ocs c := rfl
  generalize ocs a = ra at *
  generalize ocs b = rb at *
  generalize ocs c = rc at *
  have TE := Lib.hid (⟨T0', T1', T2'⟩ : _ ∧ _ ∧ _)
  have PE := Lib.hid (⟨P0', P1'⟩ : _ ∧ _)
  have QE := Lib.hid (⟨Q0', Q1'⟩ : _ ∧ _)
  clear T0' T1' T2' P0' P1' Q0' Q1'
  have HW := Lib.hid (show New w (((w.alloc (.cells ra 36)).alloc (.cells rb 36)).alloc (.cells rc 36)) from (((New.refl w).alloc _).alloc _).alloc _)
  have BB := Lib.hid (fun w' (m : New (((w.alloc (.cells ra 36)).alloc (.cells rb 36)).alloc (.cells rc 36)) w') => (⟨(((Box.made w 36 ra).alloc _).alloc _).new m, ((Box.made' (w.alloc (.cells ra 36)) 36 rb (by simp)).alloc _).new m, (Box.made' ((w.alloc (.cells ra 36)).alloc (.cells rb 36)) 36 rc (by simp)).new m⟩ : Box w' w.heap.size 36 ra ∧ Box w' (w.heap.size + 1) 36 rb ∧ Box w' (w.heap.size + 1 + 1) 36 rc))
  have LA := Lib.hid (fun w' (m : New (((w.alloc (.cells ra 36)).alloc (.cells rb 36)).alloc (.cells rc 36)) w') => OpAt.of_box (BB.out w' m).1 IA.out)
  have LB := Lib.hid (fun w' (m : New (((w.alloc (.cells ra 36)).alloc (.cells rb 36)).alloc (.cells rc 36)) w') => OpAt.of_box (BB.out w' m).2.1 IB.out)
  have LC := Lib.hid (fun w' (m : New (((w.alloc (.cells ra 36)).alloc (.cells rb 36)).alloc (.cells rc 36)) w') => OpAt.of_box (BB.out w' m).2.2 IC.out)
  have HZ0 := Lib.hid (show (((w.alloc (.cells ra 36)).alloc (.cells rb 36)).alloc (.cells rc 36)).heap.size = w.heap.size + 1 + 1 + 1 from by simp)
  have LA0 := Lib.hid (LA.out _ (New.refl _))
  have LB0 := Lib.hid (LB.out _ (New.refl _))
  have LC0 := Lib.hid (LC.out _ (New.refl _))
  generalize aheadB a.e b.s = X at *
  generalize aheadB b.e c.s = Y at *
  generalize aheadB a.e c.s = Z at *
  generalize b.s = sb at *
  generalize b.e = eb at *
  generalize oneO f b c = U at *
  generalize greatO f 3 (trip a b c) = G at *
  have ta0 : True := trivial
  have ta1 : True := trivial
  have ta2 : True := trivial
  have ta3 : True := trivial
  have ta4 : True := trivial
  cases G
  rotate_left
  · have ta5 : True := trivial
    go_enter Try.func3, Try.ntmps3
    go_wp2_with (first
    | (have tk_ := ta0; refine wpl_load rfl rfl LA0.out rfl ?_; clear ta0 tk_)
    | (have tk_ := ta1; refine wpl_load rfl rfl LB0.out rfl ?_; clear ta1 tk_)
    | (have tk_ := ta2; refine wpl_load rfl rfl LC0.out rfl ?_; clear ta2 tk_)
    | (have tk_ := ta3; refine wpl_rows (c := fun i => ocs (trip a b c i)) rfl rfl (by rw [Array.toList_map]; show [(0, Value.agg ra), (1, Value.agg rb), (2, Value.agg rc)] = [(0, .agg (ocs (trip a b c 0))), (1, .agg (ocs (trip a b c 1))), (2, .agg (ocs (trip a b c 2)))]; rw [TE.out.1, TE.out.2.1, TE.out.2.2]) (by decide) (by decide) HI3.out (fun w5 n5 d5 => ?_); rw [HZ0.out] at d5; have m5 := Lib.hid n5; have C5 := Lib.hid (HT.out w5 _ (HW.out.trans n5) ⟨_, rfl, d5⟩); clear d5 n5; clear ta3 tk_)
    | (have tk_ := ta4; go_at_call 6; refine C5.out.mono ?_; rintro e w6 ⟨rfl, n6⟩; have m6 := Lib.hid (m5.out.trans n6); clear n6; clear ta4 tk_)
    | (have tk_ := ta5; go_at_call 7; refine (live_any _).mono ?_; rintro e w7 ⟨rfl, n7⟩; have m7 := Lib.hid (m6.out.trans n7); clear n7; clear ta5 tk_))
    exact bodyPost_ret (by simp [results, Try.results3, go_sem]) rfl ⟨rfl, HW.out.trans m7.out⟩
  go_enter Try.func3, Try.ntmps3
  go_upto_region 3 with (first
    | (have tk_ := ta0; refine wpl_load rfl rfl LA0.out rfl ?_; clear ta0 tk_)
    | (have tk_ := ta1; refine wpl_load rfl rfl LB0.out rfl ?_; clear ta1 tk_)
    | (have tk_ := ta2; refine wpl_load rfl rfl LC0.out rfl ?_; clear ta2 tk_)
    | (have tk_ := ta3; refine wpl_rows (c := fun i => ocs (trip a b c i)) rfl rfl (by rw [Array.toList_map]; show [(0, Value.agg ra), (1, Value.agg rb), (2, Value.agg rc)] = [(0, .agg (ocs (trip a b c 0))), (1, .agg (ocs (trip a b c 1))), (2, .agg (ocs (trip a b c 2)))]; rw [TE.out.1, TE.out.2.1, TE.out.2.2]) (by decide) (by decide) HI3.out (fun w5 n5 d5 => ?_); rw [HZ0.out] at d5; have m5 := Lib.hid n5; have C5 := Lib.hid (HT.out w5 _ (HW.out.trans n5) ⟨_, rfl, d5⟩); clear d5 n5; clear ta3 tk_)
    | (have tk_ := ta4; go_at_call 6; refine C5.out.mono ?_; rintro e w6 ⟨rfl, n6⟩; have m6 := Lib.hid (m5.out.trans n6); clear n6; clear ta4 tk_))
  go_cut [7, 8, 9] (fun s7 s8 s9 wx => s7 = .bool X ∧ s8 = .bool Y ∧ s9 = .bool Z ∧ New (((w.alloc (.cells ra 36)).alloc (.cells rb 36)).alloc (.cells rc 36)) wx)
  case first =>
    refine wp_region_held_drew (S := (fun w' => New (((w.alloc (.cells ra 36)).alloc (.cells rb 36)).alloc (.cells rc 36)) w')) (by kernel_rfl) m6.out.drew (fun hH => ?_)
    refine wpAnyH_take (i := 0) (oi := { dst := some 16, op := Go.Op.load 36 (Go.Operand.tmp 3), type := 36, pos := "law.go:72", after := #[], guard := none }) (v := .agg ra) rfl (by kernel_rfl) (by kernel_rfl) (by kernel_rfl) (fun _ _ _ h => h) (Or.inl ⟨by rfl, ?_⟩) hH ?_
    (intro w5 hS5; refine yl_ld rfl rfl (lda_at _ _ _ (LA.out _ hS5)))
    try simp only [Act.put, List.setIfInBounds_toArray, List.set_cons_zero, List.set_cons_succ]
    refine wpAnyH_take (i := 1) (oi := { dst := some 17, op := Go.Op.load 36 (Go.Operand.tmp 4), type := 36, pos := "law.go:72", after := #[], guard := none }) (v := .agg rb) rfl (by kernel_rfl) (by kernel_rfl) (by kernel_rfl) (fun _ _ _ h => h) (Or.inl ⟨by rfl, ?_⟩) hH ?_
    (intro w5 hS5; refine yl_ld rfl rfl (lda_at _ _ _ (LB.out _ hS5)))
    try simp only [Act.put, List.setIfInBounds_toArray, List.set_cons_zero, List.set_cons_succ]
    refine wpAnyH_take (i := 3) (oi := { dst := some 19, op := Go.Op.load 36 (Go.Operand.tmp 4), type := 36, pos := "law.go:72", after := #[], guard := none }) (v := .agg rb) rfl (by kernel_rfl) (by kernel_rfl) (by kernel_rfl) (fun _ _ _ h => h) (Or.inl ⟨by rfl, ?_⟩) hH ?_
    (intro w5 hS5; refine yl_ld rfl rfl (lda_at _ _ _ (LB.out _ hS5)))
    try simp only [Act.put, List.setIfInBounds_toArray, List.set_cons_zero, List.set_cons_succ]
    refine wpAnyH_take (i := 4) (oi := { dst := some 20, op := Go.Op.load 36 (Go.Operand.tmp 5), type := 36, pos := "law.go:72", after := #[], guard := none }) (v := .agg rc) rfl (by kernel_rfl) (by kernel_rfl) (by kernel_rfl) (fun _ _ _ h => h) (Or.inl ⟨by rfl, ?_⟩) hH ?_
    (intro w5 hS5; refine yl_ld rfl rfl (lda_at _ _ _ (LC.out _ hS5)))
    try simp only [Act.put, List.setIfInBounds_toArray, List.set_cons_zero, List.set_cons_succ]
    refine wpAnyH_take (i := 6) (oi := { dst := some 22, op := Go.Op.load 36 (Go.Operand.tmp 3), type := 36, pos := "law.go:72", after := #[], guard := none }) (v := .agg ra) rfl (by kernel_rfl) (by kernel_rfl) (by kernel_rfl) (fun _ _ _ h => h) (Or.inl ⟨by rfl, ?_⟩) hH ?_
    (intro w5 hS5; refine yl_ld rfl rfl (lda_at _ _ _ (LA.out _ hS5)))
    try simp only [Act.put, List.setIfInBounds_toArray, List.set_cons_zero, List.set_cons_succ]
    refine wpAnyH_take (i := 7) (oi := { dst := some 23, op := Go.Op.load 36 (Go.Operand.tmp 5), type := 36, pos := "law.go:72", after := #[], guard := none }) (v := .agg rc) rfl (by kernel_rfl) (by kernel_rfl) (by kernel_rfl) (fun _ _ _ h => h) (Or.inl ⟨by rfl, ?_⟩) hH ?_
    (intro w5 hS5; refine yl_ld rfl rfl (lda_at _ _ _ (LC.out _ hS5)))
    try simp only [Act.put, List.setIfInBounds_toArray, List.set_cons_zero, List.set_cons_succ]
    refine wpAnyH_ready (rs := [2]) (by kernel_rfl) (by simp) ?_
    refine AllReadyH.cons (o := { dst := some 18, op := Go.Op.call { callee := Go.Callee.value (Go.Operand.func 8), args := #[Go.Operand.tmp 16, Go.Operand.tmp 17], argTypes := #[36, 36] }, type := 4, pos := "law.go:72", after := #[{ on := 0, ground := Go.Ground.data }, { on := 1, ground := Go.Ground.data }], guard := none }) rfl (fun K5 hK5 => ?_) AllReadyH.nil
    go_simp
    refine (A1.out _).mono ?_; rintro e w12 ⟨rfl, n12⟩
    refine hK5.out _ _ (New.trans hH n12) (fun h2 => ?_)
    clear hK5 K5
    try simp only [Act.put, List.setIfInBounds_toArray, List.set_cons_zero, List.set_cons_succ]
    refine wpAnyH_ready (rs := [5]) (by kernel_rfl) (by simp) ?_
    refine AllReadyH.cons (o := { dst := some 21, op := Go.Op.call { callee := Go.Callee.value (Go.Operand.func 8), args := #[Go.Operand.tmp 19, Go.Operand.tmp 20], argTypes := #[36, 36] }, type := 4, pos := "law.go:72", after := #[{ on := 3, ground := Go.Ground.data }, { on := 4, ground := Go.Ground.data }, { on := 2, ground := Go.Ground.chain }], guard := none }) rfl (fun K5 hK5 => ?_) AllReadyH.nil
    go_simp
    refine (A2.out _).mono ?_; rintro e w15 ⟨rfl, n15⟩
    refine hK5.out _ _ (New.trans h2 n15) (fun h5 => ?_)
    clear hK5 K5
    try simp only [Act.put, List.setIfInBounds_toArray, List.set_cons_zero, List.set_cons_succ]
    refine wpAnyH_ready (rs := [8]) (by kernel_rfl) (by simp) ?_
    refine AllReadyH.cons (o := { dst := some 24, op := Go.Op.call { callee := Go.Callee.value (Go.Operand.func 8), args := #[Go.Operand.tmp 22, Go.Operand.tmp 23], argTypes := #[36, 36] }, type := 4, pos := "law.go:72", after := #[{ on := 6, ground := Go.Ground.data }, { on := 7, ground := Go.Ground.data }, { on := 5, ground := Go.Ground.chain }], guard := none }) rfl (fun K5 hK5 => ?_) AllReadyH.nil
    go_simp
    refine (A3.out _).mono ?_; rintro e w18 ⟨rfl, n18⟩
    refine hK5.out _ _ (New.trans h5 n18) (fun h8 => ?_)
    clear hK5 K5
    try simp only [Act.put, List.setIfInBounds_toArray, List.set_cons_zero, List.set_cons_succ]
    refine wpAnyH_take (i := 9) (oi := { dst := some 7, op := Go.Op.assign (Go.Operand.tmp 18), type := 4, pos := "law.go:72", after := #[{ on := 2, ground := Go.Ground.data }, { on := 8, ground := Go.Ground.chain }, { on := 0, ground := Go.Ground.phase }, { on := 1, ground := Go.Ground.phase }, { on := 2, ground := Go.Ground.phase }, { on := 3, ground := Go.Ground.textOnly Go.Departure.lateStores }, { on := 4, ground := Go.Ground.textOnly Go.Departure.lateStores }, { on := 5, ground := Go.Ground.textOnly Go.Departure.lateStoresUnsure }, { on := 6, ground := Go.Ground.textOnly Go.Departure.lateStores }, { on := 7, ground := Go.Ground.textOnly Go.Departure.lateStores }, { on := 8, ground := Go.Ground.textOnly Go.Departure.lateStoresUnsure }], guard := none }) (v := .bool X) rfl (by kernel_rfl) (by kernel_rfl) (by kernel_rfl) (fun _ _ _ h => h) (Or.inl ⟨by rfl, ?_⟩) h8 ?_
    (intro w5 hS5; go_simp; try rfl)
    try simp only [Act.put, List.setIfInBounds_toArray, List.set_cons_zero, List.set_cons_succ]
    refine wpAnyH_take (i := 10) (oi := { dst := some 8, op := Go.Op.assign (Go.Operand.tmp 21), type := 4, pos := "law.go:72", after := #[{ on := 5, ground := Go.Ground.data }, { on := 9, ground := Go.Ground.chain }, { on := 0, ground := Go.Ground.phase }, { on := 1, ground := Go.Ground.phase }, { on := 2, ground := Go.Ground.phase }, { on := 3, ground := Go.Ground.phase }, { on := 4, ground := Go.Ground.phase }, { on := 5, ground := Go.Ground.phase }, { on := 6, ground := Go.Ground.textOnly Go.Departure.lateStores }, { on := 7, ground := Go.Ground.textOnly Go.Departure.lateStores }, { on := 8, ground := Go.Ground.textOnly Go.Departure.lateStoresUnsure }, { on := 9, ground := Go.Ground.phase }], guard := none }) (v := .bool Y) rfl (by kernel_rfl) (by kernel_rfl) (by kernel_rfl) (fun _ _ _ h => h) (Or.inl ⟨by rfl, ?_⟩) h8 ?_
    (intro w5 hS5; go_simp; try rfl)
    try simp only [Act.put, List.setIfInBounds_toArray, List.set_cons_zero, List.set_cons_succ]
    refine wpAnyH_take (i := 11) (oi := { dst := some 9, op := Go.Op.assign (Go.Operand.tmp 24), type := 4, pos := "law.go:72", after := #[{ on := 8, ground := Go.Ground.data }, { on := 10, ground := Go.Ground.chain }, { on := 0, ground := Go.Ground.phase }, { on := 1, ground := Go.Ground.phase }, { on := 2, ground := Go.Ground.phase }, { on := 3, ground := Go.Ground.phase }, { on := 4, ground := Go.Ground.phase }, { on := 5, ground := Go.Ground.phase }, { on := 6, ground := Go.Ground.phase }, { on := 7, ground := Go.Ground.phase }, { on := 8, ground := Go.Ground.phase }, { on := 9, ground := Go.Ground.phase }, { on := 10, ground := Go.Ground.phase }], guard := none }) (v := .bool Z) rfl (by kernel_rfl) (by kernel_rfl) (by kernel_rfl) (fun _ _ _ h => h) (Or.inl ⟨by rfl, ?_⟩) h8 ?_
    (intro w5 hS5; go_simp; try rfl)
    try simp only [Act.put, List.setIfInBounds_toArray, List.set_cons_zero, List.set_cons_succ]
    refine wpAnyH_done (by kernel_rfl) ?_ _
    have HZ := Lib.hid h8
    clear h2 h5 h8 hH
    go_wp2_with fail
    go_meet
    exact ⟨rfl, rfl, rfl, HZ.out⟩
  case rest =>
    obtain ⟨rfl, rfl, rfl, nx⟩ := hcut
    have NX := Lib.hid nx
    clear nx m5 m6 C5 LA0 LB0 LC0
    go_upto_region 4 with fail
    go_cut [43] (fun s43 wy => s43 = .bool false ∧ New (((w.alloc (.cells ra 36)).alloc (.cells rb 36)).alloc (.cells rc 36)) wy)
    case first =>
      have tb0 : True := trivial
      have tb1 : True := trivial
      have tb2 : True := trivial
      have tb3 : True := trivial
      have tb4 : True := trivial
      have tb5 : True := trivial
      have tb6 : True := trivial
      have tb7 : True := trivial
      have tb8 : True := trivial
      have ne : ∀ x : Bool, (x != x) = false := fun x => by cases x <;> rfl
      go_wp2_with (first
    | (have tk_ := tb0; refine wpl_load rfl rfl (LA.out _ NX.out) rfl ?_; clear tb0 tk_)
    | (have tk_ := tb1; refine wpl_load rfl rfl (LB.out _ NX.out) rfl ?_; clear tb1 tk_)
    | (have tk_ := tb2; go_at_call 9; refine (R1.out _).mono ?_; rintro e w20 ⟨rfl, n20⟩; have y0 := Lib.hid (New.trans NX.out n20); clear n20; clear tb2 tk_)
    | (have tk_ := tb3; refine wpl_load rfl rfl (LB.out _ y0.out) rfl ?_; clear tb3 tk_)
    | (have tk_ := tb4; refine wpl_load rfl rfl (LC.out _ y0.out) rfl ?_; clear tb4 tk_)
    | (have tk_ := tb5; go_at_call 9; refine (R2.out _).mono ?_; rintro e w21 ⟨rfl, n21⟩; have y1 := Lib.hid (New.trans y0.out n21); clear n21; clear tb5 tk_)
    | (have tk_ := tb6; refine wpl_load rfl rfl (LA.out _ y1.out) rfl ?_; clear tb6 tk_)
    | (have tk_ := tb7; refine wpl_load rfl rfl (LC.out _ y1.out) rfl ?_; clear tb7 tk_)
    | (have tk_ := tb8; go_at_call 9; refine (R3.out _).mono ?_; rintro e w22 ⟨rfl, n22⟩; have y2 := Lib.hid (New.trans y1.out n22); clear n22; clear tb8 tk_))
      go_meet
      exact ⟨rfl, y2.out⟩
    case rest =>
      obtain ⟨rfl, ny⟩ := hcut
      have NY := Lib.hid ny
      clear ny NX
      go_upto_region 6 with fail
      go_cut [58] (fun s58 wz => s58 = .bool false ∧ New (((w.alloc (.cells ra 36)).alloc (.cells rb 36)).alloc (.cells rc 36)) wz)
      case first =>
        cases X
        · go_wp2
          go_meet
          exact ⟨rfl, NY.out⟩
        cases Y
        · go_wp2
          go_meet
          exact ⟨rfl, NY.out⟩
        cases Z
        rotate_left
        · go_wp2
          go_meet
          exact ⟨rfl, NY.out⟩
        have nt := NT.out (by trivial) (by trivial) (by trivial)
        have c17 := ((BB.out _ NY.out).2.1.cell 17).trans F17.out
        have c18 := ((BB.out _ NY.out).2.1.cell 18).trans F18.out
        go_wp2
        go_meet
        exact ⟨rfl, NY.out⟩
      case rest =>
        obtain ⟨rfl, nz⟩ := hcut
        have NZ := Lib.hid nz
        clear nz NY NT A1 A2 A3 R1 R2 R3
        go_upto_region 8 with fail
        refine wp_region_held_drew (S := (fun w' => New (((w.alloc (.cells ra 36)).alloc (.cells rb 36)).alloc (.cells rc 36)) w')) (by kernel_rfl) NZ.out.drew (fun hH => ?_)
        refine wpAnyH_take (i := 0) (oi := { dst := some 59, op := Go.Op.load 36 (Go.Operand.tmp 3), type := 36, pos := "law.go:79", after := #[], guard := none }) (v := .agg ra) rfl (by kernel_rfl) (by kernel_rfl) (by kernel_rfl) (fun _ _ _ h => h) (Or.inl ⟨by rfl, ?_⟩) hH ?_
        (intro w5 hS5; refine yl_ld rfl rfl (lda_at _ _ _ (LA.out _ hS5)))
        try simp only [Act.put, List.setIfInBounds_toArray, List.set_cons_zero, List.set_cons_succ]
        refine wpAnyH_take (i := 1) (oi := { dst := some 60, op := Go.Op.load 36 (Go.Operand.tmp 4), type := 36, pos := "law.go:79", after := #[], guard := none }) (v := .agg rb) rfl (by kernel_rfl) (by kernel_rfl) (by kernel_rfl) (fun _ _ _ h => h) (Or.inl ⟨by rfl, ?_⟩) hH ?_
        (intro w5 hS5; refine yl_ld rfl rfl (lda_at _ _ _ (LB.out _ hS5)))
        try simp only [Act.put, List.setIfInBounds_toArray, List.set_cons_zero, List.set_cons_succ]
        refine wpAnyH_take (i := 3) (oi := { dst := some 62, op := Go.Op.load 36 (Go.Operand.tmp 3), type := 36, pos := "law.go:79", after := #[], guard := none }) (v := .agg ra) rfl (by kernel_rfl) (by kernel_rfl) (by kernel_rfl) (fun _ _ _ h => h) (Or.inl ⟨by rfl, ?_⟩) hH ?_
        (intro w5 hS5; refine yl_ld rfl rfl (lda_at _ _ _ (LA.out _ hS5)))
        try simp only [Act.put, List.setIfInBounds_toArray, List.set_cons_zero, List.set_cons_succ]
        refine wpAnyH_take (i := 4) (oi := { dst := some 63, op := Go.Op.load 36 (Go.Operand.tmp 5), type := 36, pos := "law.go:79", after := #[], guard := none }) (v := .agg rc) rfl (by kernel_rfl) (by kernel_rfl) (by kernel_rfl) (fun _ _ _ h => h) (Or.inl ⟨by rfl, ?_⟩) hH ?_
        (intro w5 hS5; refine yl_ld rfl rfl (lda_at _ _ _ (LC.out _ hS5)))
        try simp only [Act.put, List.setIfInBounds_toArray, List.set_cons_zero, List.set_cons_succ]
        refine wpAnyH_take (i := 7) (oi := { dst := some 66, op := Go.Op.load 36 (Go.Operand.tmp 4), type := 36, pos := "law.go:79", after := #[], guard := none }) (v := .agg rb) rfl (by kernel_rfl) (by kernel_rfl) (by kernel_rfl) (fun _ _ _ h => h) (Or.inl ⟨by rfl, ?_⟩) hH ?_
        (intro w5 hS5; refine yl_ld rfl rfl (lda_at _ _ _ (LB.out _ hS5)))
        try simp only [Act.put, List.setIfInBounds_toArray, List.set_cons_zero, List.set_cons_succ]
        refine wpAnyH_take (i := 8) (oi := { dst := some 67, op := Go.Op.load 36 (Go.Operand.tmp 5), type := 36, pos := "law.go:79", after := #[], guard := none }) (v := .agg rc) rfl (by kernel_rfl) (by kernel_rfl) (by kernel_rfl) (fun _ _ _ h => h) (Or.inl ⟨by rfl, ?_⟩) hH ?_
        (intro w5 hS5; refine yl_ld rfl rfl (lda_at _ _ _ (LC.out _ hS5)))
        try simp only [Act.put, List.setIfInBounds_toArray, List.set_cons_zero, List.set_cons_succ]
        refine wpAnyH_ready (rs := [2, 5]) (by kernel_rfl) (by simp) ?_
        refine AllReadyH.cons (o := { dst := some 61, op := Go.Op.buildSlice 38 2 #[(0, Go.Operand.tmp 59), (1, Go.Operand.tmp 60)], type := 38, pos := "law.go:79", after := #[{ on := 0, ground := Go.Ground.data }, { on := 1, ground := Go.Ground.data }], guard := none }) rfl (fun K5 hK5 => ?_) (AllReadyH.cons (o := { dst := some 64, op := Go.Op.buildSlice 38 2 #[(0, Go.Operand.tmp 62), (1, Go.Operand.tmp 63)], type := 38, pos := "law.go:79", after := #[{ on := 3, ground := Go.Ground.data }, { on := 4, ground := Go.Ground.data }], guard := none }) rfl (fun K5 hK5 => ?_) AllReadyH.nil)
        · rw [if_pos (by rfl)]
          refine wp_rows (c := fun i => ocs (pair a b i)) rfl (by rw [Array.toList_map]; show [(0, Value.agg ra), (1, Value.agg rb)] = [(0, .agg (ocs (pair a b 0))), (1, .agg (ocs (pair a b 1)))]; rw [PE.out.1, PE.out.2]) (by decide) (by decide) HIab.out (fun v2 k2 d2 => ?_)
          have D2 := Lib.hid (HP1.out v2 _ (HW.out.trans (New.trans hH k2)) ⟨_, rfl, d2⟩)
          clear d2
          refine hK5.out _ _ (New.trans hH k2) (fun e1 => ?_)
          clear hK5 K5
          try simp only [Act.put, List.setIfInBounds_toArray, List.set_cons_zero, List.set_cons_succ]
          refine wpAnyH_ready (rs := [5]) (by kernel_rfl) (by simp) ?_
          refine AllReadyH.cons (o := { dst := some 64, op := Go.Op.buildSlice 38 2 #[(0, Go.Operand.tmp 62), (1, Go.Operand.tmp 63)], type := 38, pos := "law.go:79", after := #[{ on := 3, ground := Go.Ground.data }, { on := 4, ground := Go.Ground.data }], guard := none }) rfl (fun K5 hK5 => ?_) AllReadyH.nil
          rw [if_pos (by rfl)]
          refine wp_rows (c := fun i => ocs (pair a c i)) rfl (by rw [Array.toList_map]; show [(0, Value.agg ra), (1, Value.agg rc)] = [(0, .agg (ocs (pair a c 0))), (1, .agg (ocs (pair a c 1)))]; rw [QE.out.1, QE.out.2]) (by decide) (by decide) HIac.out (fun v5 k5 d5 => ?_)
          have D5 := Lib.hid (HP2.out v5 _ (HW.out.trans (New.trans e1 k5)) ⟨_, rfl, d5⟩)
          clear d5
          have D2 := Lib.hid (RowO.new D2.out k5)
          refine hK5.out _ _ (New.trans e1 k5) (fun e2 => ?_)
          clear hK5 K5
          try simp only [Act.put, List.setIfInBounds_toArray, List.set_cons_zero, List.set_cons_succ]
          refine wpAnyH_ready (rs := [6]) (by kernel_rfl) (by simp) ?_
          refine AllReadyH.cons (o := { dst := some 65, op := Go.Op.call { callee := Go.Callee.value (Go.Operand.func 10), args := #[Go.Operand.tmp 61, Go.Operand.tmp 64], argTypes := #[38, 38] }, type := 4, pos := "law.go:79", after := #[{ on := 2, ground := Go.Ground.data }, { on := 5, ground := Go.Ground.data }], guard := none }) rfl (fun K5 hK5 => ?_) AllReadyH.nil
          go_simp
          refine (SS1.out _ _ _ _ _ D2.out D5.out).mono ?_; rintro e v6 ⟨rfl, k6⟩
          refine hK5.out _ _ (New.trans e2 k6) (fun g6 => ?_)
          clear hK5 K5
          try simp only [Act.put, List.setIfInBounds_toArray, List.set_cons_zero, List.set_cons_succ]
          refine wpAnyH_ready (rs := [9]) (by kernel_rfl) (by simp) ?_
          refine AllReadyH.cons (o := { dst := some 68, op := Go.Op.call { callee := Go.Callee.value (Go.Operand.func 11), args := #[Go.Operand.tmp 66, Go.Operand.tmp 67], argTypes := #[36, 36] }, type := 4, pos := "law.go:79", after := #[{ on := 7, ground := Go.Ground.data }, { on := 8, ground := Go.Ground.data }, { on := 6, ground := Go.Ground.chain }], guard := none }) rfl (fun K5 hK5 => ?_) AllReadyH.nil
          go_simp
          refine (ON.out _ (HW.out.trans g6)).mono ?_; rintro e v9 ⟨rfl, k9⟩
          refine hK5.out _ _ (New.trans g6 k9) (fun g9 => ?_)
          clear hK5 K5
          try simp only [Act.put, List.setIfInBounds_toArray, List.set_cons_zero, List.set_cons_succ]
          refine wpAnyH_take (i := 10) (oi := { dst := some 69, op := Go.Op.binOp Go.BinOp.eql 4 (Go.Operand.tmp 65) (Go.Operand.tmp 68) 4, type := 4, pos := "law.go:79", after := #[{ on := 6, ground := Go.Ground.data }, { on := 9, ground := Go.Ground.data }], guard := none }) (v := .bool true) rfl (by kernel_rfl) (by kernel_rfl) (by kernel_rfl) (fun _ _ _ h => h) (Or.inl ⟨by rfl, ?_⟩) g9 ?_
          (intro w5 hS5; cases U <;> (go_simp; try rfl))
          try simp only [Act.put, List.setIfInBounds_toArray, List.set_cons_zero, List.set_cons_succ]
          refine wpAnyH_take (i := 11) (oi := { dst := some 70, op := Go.Op.move (Go.Operand.tmp 69), type := 4, pos := "law.go:79", after := #[{ on := 10, ground := Go.Ground.data }, { on := 9, ground := Go.Ground.chain }], guard := none }) (v := .bool true) rfl (by kernel_rfl) (by kernel_rfl) (by kernel_rfl) (fun _ _ _ h => h) (Or.inl ⟨by rfl, ?_⟩) g9 ?_
          (intro w5 hS5; go_simp; try rfl)
          try simp only [Act.put, List.setIfInBounds_toArray, List.set_cons_zero, List.set_cons_succ]
          refine wpAnyH_take (i := 12) (oi := { dst := some 71, op := Go.Op.load 36 (Go.Operand.tmp 3), type := 36, pos := "law.go:79", after := #[{ on := 11, ground := Go.Ground.guard }], guard := some (11, true) }) (v := .agg ra) rfl (by kernel_rfl) (by kernel_rfl) (by kernel_rfl) (fun _ _ _ h => h) (Or.inl ⟨by rfl, ?_⟩) g9 ?_
          (intro w5 hS5; refine yl_ld rfl rfl (lda_at _ _ _ (LA.out _ hS5)))
          try simp only [Act.put, List.setIfInBounds_toArray, List.set_cons_zero, List.set_cons_succ]
          refine wpAnyH_ready (rs := [13]) (by kernel_rfl) (by simp) ?_
          refine AllReadyH.cons (o := { dst := some 72, op := Go.Op.buildSlice 38 1 #[(0, Go.Operand.tmp 71)], type := 38, pos := "law.go:79", after := #[{ on := 12, ground := Go.Ground.data }, { on := 11, ground := Go.Ground.guard }], guard := some (11, true) }) rfl (fun K5 hK5 => ?_) AllReadyH.nil
          rw [if_pos (by rfl)]
          refine wp_rows (c := fun _ => ra) rfl (by rw [Array.toList_map]; rfl) (by decide) (by decide) (fun _ => IA.out) (fun v13 k13 d13 => ?_)
          have D13 := Lib.hid (HP3.out v13 _ (HW.out.trans (New.trans g9 k13)) ⟨_, rfl, d13⟩)
          clear d13
          refine hK5.out _ _ (New.trans g9 k13) (fun g13 => ?_)
          clear hK5 K5
          try simp only [Act.put, List.setIfInBounds_toArray, List.set_cons_zero, List.set_cons_succ]
          refine wpAnyH_ready (rs := [14]) (by kernel_rfl) (by simp) ?_
          refine AllReadyH.cons (o := { dst := some 73, op := Go.Op.call { callee := Go.Callee.value (Go.Operand.func 10), args := #[Go.Operand.tmp 72, Go.Operand.const (Go.Value.slice none 0 0)], argTypes := #[38, 38] }, type := 4, pos := "law.go:79", after := #[{ on := 13, ground := Go.Ground.data }, { on := 11, ground := Go.Ground.chain }, { on := 11, ground := Go.Ground.guard }], guard := some (11, true) }) rfl (fun K5 hK5 => ?_) AllReadyH.nil
          go_simp
          refine (SS2.out _ _ _ D13.out (HP0.out _)).mono ?_; rintro e v14 ⟨rfl, k14⟩
          refine hK5.out _ _ (New.trans g13 k14) (fun g14 => ?_)
          clear hK5 K5
          try simp only [Act.put, List.setIfInBounds_toArray, List.set_cons_zero, List.set_cons_succ]
          refine wpAnyH_take (i := 15) (oi := { dst := some 74, op := Go.Op.unOp Go.UnOp.not 4 (Go.Operand.tmp 73), type := 4, pos := "law.go:79", after := #[{ on := 14, ground := Go.Ground.data }, { on := 11, ground := Go.Ground.guard }], guard := some (11, true) }) (v := .bool true) rfl (by kernel_rfl) (by kernel_rfl) (by kernel_rfl) (fun _ _ _ h => h) (Or.inl ⟨by rfl, ?_⟩) g14 ?_
          (intro w5 hS5; go_simp; try rfl)
          try simp only [Act.put, List.setIfInBounds_toArray, List.set_cons_zero, List.set_cons_succ]
          refine wpAnyH_take (i := 16) (oi := { dst := some 75, op := Go.Op.pick (Go.Operand.tmp 70) (Go.Operand.tmp 74) (Go.Operand.const (Go.Value.bool false)), type := 4, pos := "law.go:79", after := #[{ on := 11, ground := Go.Ground.data }, { on := 15, ground := Go.Ground.data }], guard := none }) (v := .bool true) rfl (by kernel_rfl) (by kernel_rfl) (by kernel_rfl) (fun _ _ _ h => h) (Or.inl ⟨by rfl, ?_⟩) g14 ?_
          (intro w5 hS5; go_simp; try rfl)
          try simp only [Act.put, List.setIfInBounds_toArray, List.set_cons_zero, List.set_cons_succ]
          refine wpAnyH_take (i := 17) (oi := { dst := some 76, op := Go.Op.move (Go.Operand.tmp 75), type := 4, pos := "law.go:79", after := #[{ on := 16, ground := Go.Ground.data }, { on := 14, ground := Go.Ground.chain }], guard := none }) (v := .bool true) rfl (by kernel_rfl) (by kernel_rfl) (by kernel_rfl) (fun _ _ _ h => h) (Or.inl ⟨by rfl, ?_⟩) g14 ?_
          (intro w5 hS5; go_simp; try rfl)
          try simp only [Act.put, List.setIfInBounds_toArray, List.set_cons_zero, List.set_cons_succ]
          refine wpAnyH_ready (rs := [18]) (by kernel_rfl) (by simp) ?_
          refine AllReadyH.cons (o := { dst := some 77, op := Go.Op.call { callee := Go.Callee.value (Go.Operand.func 7), args := #[], argTypes := #[] }, type := 4, pos := "law.go:79", after := #[{ on := 17, ground := Go.Ground.chain }, { on := 17, ground := Go.Ground.guard }], guard := some (17, true) }) rfl (fun K5 hK5 => ?_) AllReadyH.nil
          go_simp
          refine (live_any _).mono ?_; rintro e v18 ⟨rfl, k18⟩
          refine hK5.out _ _ (New.trans g14 k18) (fun g18 => ?_)
          clear hK5 K5
          try simp only [Act.put, List.setIfInBounds_toArray, List.set_cons_zero, List.set_cons_succ]
          refine wpAnyH_take (i := 19) (oi := { dst := some 78, op := Go.Op.pick (Go.Operand.tmp 76) (Go.Operand.tmp 77) (Go.Operand.const (Go.Value.bool false)), type := 4, pos := "law.go:79", after := #[{ on := 17, ground := Go.Ground.data }, { on := 18, ground := Go.Ground.data }], guard := none }) (v := .bool true) rfl (by kernel_rfl) (by kernel_rfl) (by kernel_rfl) (fun _ _ _ h => h) (Or.inl ⟨by rfl, ?_⟩) g18 ?_
          (intro w5 hS5; go_simp; try rfl)
          try simp only [Act.put, List.setIfInBounds_toArray, List.set_cons_zero, List.set_cons_succ]
          refine wpAnyH_take (i := 20) (oi := { dst := some 6, op := Go.Op.assign (Go.Operand.tmp 78), type := 4, pos := "law.go:79", after := #[{ on := 19, ground := Go.Ground.data }, { on := 18, ground := Go.Ground.chain }, { on := 0, ground := Go.Ground.phase }, { on := 1, ground := Go.Ground.phase }, { on := 2, ground := Go.Ground.phase }, { on := 3, ground := Go.Ground.phase }, { on := 4, ground := Go.Ground.phase }, { on := 5, ground := Go.Ground.phase }, { on := 6, ground := Go.Ground.phase }, { on := 7, ground := Go.Ground.phase }, { on := 8, ground := Go.Ground.phase }, { on := 9, ground := Go.Ground.phase }, { on := 10, ground := Go.Ground.phase }, { on := 11, ground := Go.Ground.phase }, { on := 12, ground := Go.Ground.phase }, { on := 13, ground := Go.Ground.phase }, { on := 14, ground := Go.Ground.phase }, { on := 15, ground := Go.Ground.phase }, { on := 16, ground := Go.Ground.phase }, { on := 17, ground := Go.Ground.phase }, { on := 18, ground := Go.Ground.phase }, { on := 19, ground := Go.Ground.phase }], guard := none }) (v := .bool true) rfl (by kernel_rfl) (by kernel_rfl) (by kernel_rfl) (fun _ _ _ h => h) (Or.inl ⟨by rfl, ?_⟩) g18 ?_
          (intro w5 hS5; go_simp; try rfl)
          try simp only [Act.put, List.setIfInBounds_toArray, List.set_cons_zero, List.set_cons_succ]
          refine wpAnyH_done (by kernel_rfl) ?_ _
          have HZ := Lib.hid g18
          clear g6 g9 g13 g14 g18 hH e2
          go_wp2_with fail
          exact bodyPost_ret (by simp [results, Try.results3, go_sem]) rfl ⟨rfl, HW.out.trans HZ.out⟩
        · rw [if_pos (by rfl)]
          refine wp_rows (c := fun i => ocs (pair a c i)) rfl (by rw [Array.toList_map]; show [(0, Value.agg ra), (1, Value.agg rc)] = [(0, .agg (ocs (pair a c 0))), (1, .agg (ocs (pair a c 1)))]; rw [QE.out.1, QE.out.2]) (by decide) (by decide) HIac.out (fun v5 k5 d5 => ?_)
          have D5 := Lib.hid (HP2.out v5 _ (HW.out.trans (New.trans hH k5)) ⟨_, rfl, d5⟩)
          clear d5
          refine hK5.out _ _ (New.trans hH k5) (fun e1 => ?_)
          clear hK5 K5
          try simp only [Act.put, List.setIfInBounds_toArray, List.set_cons_zero, List.set_cons_succ]
          refine wpAnyH_ready (rs := [2]) (by kernel_rfl) (by simp) ?_
          refine AllReadyH.cons (o := { dst := some 61, op := Go.Op.buildSlice 38 2 #[(0, Go.Operand.tmp 59), (1, Go.Operand.tmp 60)], type := 38, pos := "law.go:79", after := #[{ on := 0, ground := Go.Ground.data }, { on := 1, ground := Go.Ground.data }], guard := none }) rfl (fun K5 hK5 => ?_) AllReadyH.nil
          rw [if_pos (by rfl)]
          refine wp_rows (c := fun i => ocs (pair a b i)) rfl (by rw [Array.toList_map]; show [(0, Value.agg ra), (1, Value.agg rb)] = [(0, .agg (ocs (pair a b 0))), (1, .agg (ocs (pair a b 1)))]; rw [PE.out.1, PE.out.2]) (by decide) (by decide) HIab.out (fun v2 k2 d2 => ?_)
          have D2 := Lib.hid (HP1.out v2 _ (HW.out.trans (New.trans e1 k2)) ⟨_, rfl, d2⟩)
          clear d2
          have D5 := Lib.hid (RowO.new D5.out k2)
          refine hK5.out _ _ (New.trans e1 k2) (fun e2 => ?_)
          clear hK5 K5
          try simp only [Act.put, List.setIfInBounds_toArray, List.set_cons_zero, List.set_cons_succ]
          refine wpAnyH_ready (rs := [6]) (by kernel_rfl) (by simp) ?_
          refine AllReadyH.cons (o := { dst := some 65, op := Go.Op.call { callee := Go.Callee.value (Go.Operand.func 10), args := #[Go.Operand.tmp 61, Go.Operand.tmp 64], argTypes := #[38, 38] }, type := 4, pos := "law.go:79", after := #[{ on := 2, ground := Go.Ground.data }, { on := 5, ground := Go.Ground.data }], guard := none }) rfl (fun K5 hK5 => ?_) AllReadyH.nil
          go_simp
          refine (SS1.out _ _ _ _ _ D2.out D5.out).mono ?_; rintro e v6 ⟨rfl, k6⟩
          refine hK5.out _ _ (New.trans e2 k6) (fun g6 => ?_)
          clear hK5 K5
          try simp only [Act.put, List.setIfInBounds_toArray, List.set_cons_zero, List.set_cons_succ]
          refine wpAnyH_ready (rs := [9]) (by kernel_rfl) (by simp) ?_
          refine AllReadyH.cons (o := { dst := some 68, op := Go.Op.call { callee := Go.Callee.value (Go.Operand.func 11), args := #[Go.Operand.tmp 66, Go.Operand.tmp 67], argTypes := #[36, 36] }, type := 4, pos := "law.go:79", after := #[{ on := 7, ground := Go.Ground.data }, { on := 8, ground := Go.Ground.data }, { on := 6, ground := Go.Ground.chain }], guard := none }) rfl (fun K5 hK5 => ?_) AllReadyH.nil
          go_simp
          refine (ON.out _ (HW.out.trans g6)).mono ?_; rintro e v9 ⟨rfl, k9⟩
          refine hK5.out _ _ (New.trans g6 k9) (fun g9 => ?_)
          clear hK5 K5
          try simp only [Act.put, List.setIfInBounds_toArray, List.set_cons_zero, List.set_cons_succ]
          refine wpAnyH_take (i := 10) (oi := { dst := some 69, op := Go.Op.binOp Go.BinOp.eql 4 (Go.Operand.tmp 65) (Go.Operand.tmp 68) 4, type := 4, pos := "law.go:79", after := #[{ on := 6, ground := Go.Ground.data }, { on := 9, ground := Go.Ground.data }], guard := none }) (v := .bool true) rfl (by kernel_rfl) (by kernel_rfl) (by kernel_rfl) (fun _ _ _ h => h) (Or.inl ⟨by rfl, ?_⟩) g9 ?_
          (intro w5 hS5; cases U <;> (go_simp; try rfl))
          try simp only [Act.put, List.setIfInBounds_toArray, List.set_cons_zero, List.set_cons_succ]
          refine wpAnyH_take (i := 11) (oi := { dst := some 70, op := Go.Op.move (Go.Operand.tmp 69), type := 4, pos := "law.go:79", after := #[{ on := 10, ground := Go.Ground.data }, { on := 9, ground := Go.Ground.chain }], guard := none }) (v := .bool true) rfl (by kernel_rfl) (by kernel_rfl) (by kernel_rfl) (fun _ _ _ h => h) (Or.inl ⟨by rfl, ?_⟩) g9 ?_
          (intro w5 hS5; go_simp; try rfl)
          try simp only [Act.put, List.setIfInBounds_toArray, List.set_cons_zero, List.set_cons_succ]
          refine wpAnyH_take (i := 12) (oi := { dst := some 71, op := Go.Op.load 36 (Go.Operand.tmp 3), type := 36, pos := "law.go:79", after := #[{ on := 11, ground := Go.Ground.guard }], guard := some (11, true) }) (v := .agg ra) rfl (by kernel_rfl) (by kernel_rfl) (by kernel_rfl) (fun _ _ _ h => h) (Or.inl ⟨by rfl, ?_⟩) g9 ?_
          (intro w5 hS5; refine yl_ld rfl rfl (lda_at _ _ _ (LA.out _ hS5)))
          try simp only [Act.put, List.setIfInBounds_toArray, List.set_cons_zero, List.set_cons_succ]
          refine wpAnyH_ready (rs := [13]) (by kernel_rfl) (by simp) ?_
          refine AllReadyH.cons (o := { dst := some 72, op := Go.Op.buildSlice 38 1 #[(0, Go.Operand.tmp 71)], type := 38, pos := "law.go:79", after := #[{ on := 12, ground := Go.Ground.data }, { on := 11, ground := Go.Ground.guard }], guard := some (11, true) }) rfl (fun K5 hK5 => ?_) AllReadyH.nil
          rw [if_pos (by rfl)]
          refine wp_rows (c := fun _ => ra) rfl (by rw [Array.toList_map]; rfl) (by decide) (by decide) (fun _ => IA.out) (fun v13 k13 d13 => ?_)
          have D13 := Lib.hid (HP3.out v13 _ (HW.out.trans (New.trans g9 k13)) ⟨_, rfl, d13⟩)
          clear d13
          refine hK5.out _ _ (New.trans g9 k13) (fun g13 => ?_)
          clear hK5 K5
          try simp only [Act.put, List.setIfInBounds_toArray, List.set_cons_zero, List.set_cons_succ]
          refine wpAnyH_ready (rs := [14]) (by kernel_rfl) (by simp) ?_
          refine AllReadyH.cons (o := { dst := some 73, op := Go.Op.call { callee := Go.Callee.value (Go.Operand.func 10), args := #[Go.Operand.tmp 72, Go.Operand.const (Go.Value.slice none 0 0)], argTypes := #[38, 38] }, type := 4, pos := "law.go:79", after := #[{ on := 13, ground := Go.Ground.data }, { on := 11, ground := Go.Ground.chain }, { on := 11, ground := Go.Ground.guard }], guard := some (11, true) }) rfl (fun K5 hK5 => ?_) AllReadyH.nil
          go_simp
          refine (SS2.out _ _ _ D13.out (HP0.out _)).mono ?_; rintro e v14 ⟨rfl, k14⟩
          refine hK5.out _ _ (New.trans g13 k14) (fun g14 => ?_)
          clear hK5 K5
          try simp only [Act.put, List.setIfInBounds_toArray, List.set_cons_zero, List.set_cons_succ]
          refine wpAnyH_take (i := 15) (oi := { dst := some 74, op := Go.Op.unOp Go.UnOp.not 4 (Go.Operand.tmp 73), type := 4, pos := "law.go:79", after := #[{ on := 14, ground := Go.Ground.data }, { on := 11, ground := Go.Ground.guard }], guard := some (11, true) }) (v := .bool true) rfl (by kernel_rfl) (by kernel_rfl) (by kernel_rfl) (fun _ _ _ h => h) (Or.inl ⟨by rfl, ?_⟩) g14 ?_
          (intro w5 hS5; go_simp; try rfl)
          try simp only [Act.put, List.setIfInBounds_toArray, List.set_cons_zero, List.set_cons_succ]
          refine wpAnyH_take (i := 16) (oi := { dst := some 75, op := Go.Op.pick (Go.Operand.tmp 70) (Go.Operand.tmp 74) (Go.Operand.const (Go.Value.bool false)), type := 4, pos := "law.go:79", after := #[{ on := 11, ground := Go.Ground.data }, { on := 15, ground := Go.Ground.data }], guard := none }) (v := .bool true) rfl (by kernel_rfl) (by kernel_rfl) (by kernel_rfl) (fun _ _ _ h => h) (Or.inl ⟨by rfl, ?_⟩) g14 ?_
          (intro w5 hS5; go_simp; try rfl)
          try simp only [Act.put, List.setIfInBounds_toArray, List.set_cons_zero, List.set_cons_succ]
          refine wpAnyH_take (i := 17) (oi := { dst := some 76, op := Go.Op.move (Go.Operand.tmp 75), type := 4, pos := "law.go:79", after := #[{ on := 16, ground := Go.Ground.data }, { on := 14, ground := Go.Ground.chain }], guard := none }) (v := .bool true) rfl (by kernel_rfl) (by kernel_rfl) (by kernel_rfl) (fun _ _ _ h => h) (Or.inl ⟨by rfl, ?_⟩) g14 ?_
          (intro w5 hS5; go_simp; try rfl)
          try simp only [Act.put, List.setIfInBounds_toArray, List.set_cons_zero, List.set_cons_succ]
          refine wpAnyH_ready (rs := [18]) (by kernel_rfl) (by simp) ?_
          refine AllReadyH.cons (o := { dst := some 77, op := Go.Op.call { callee := Go.Callee.value (Go.Operand.func 7), args := #[], argTypes := #[] }, type := 4, pos := "law.go:79", after := #[{ on := 17, ground := Go.Ground.chain }, { on := 17, ground := Go.Ground.guard }], guard := some (17, true) }) rfl (fun K5 hK5 => ?_) AllReadyH.nil
          go_simp
          refine (live_any _).mono ?_; rintro e v18 ⟨rfl, k18⟩
          refine hK5.out _ _ (New.trans g14 k18) (fun g18 => ?_)
          clear hK5 K5
          try simp only [Act.put, List.setIfInBounds_toArray, List.set_cons_zero, List.set_cons_succ]
          refine wpAnyH_take (i := 19) (oi := { dst := some 78, op := Go.Op.pick (Go.Operand.tmp 76) (Go.Operand.tmp 77) (Go.Operand.const (Go.Value.bool false)), type := 4, pos := "law.go:79", after := #[{ on := 17, ground := Go.Ground.data }, { on := 18, ground := Go.Ground.data }], guard := none }) (v := .bool true) rfl (by kernel_rfl) (by kernel_rfl) (by kernel_rfl) (fun _ _ _ h => h) (Or.inl ⟨by rfl, ?_⟩) g18 ?_
          (intro w5 hS5; go_simp; try rfl)
          try simp only [Act.put, List.setIfInBounds_toArray, List.set_cons_zero, List.set_cons_succ]
          refine wpAnyH_take (i := 20) (oi := { dst := some 6, op := Go.Op.assign (Go.Operand.tmp 78), type := 4, pos := "law.go:79", after := #[{ on := 19, ground := Go.Ground.data }, { on := 18, ground := Go.Ground.chain }, { on := 0, ground := Go.Ground.phase }, { on := 1, ground := Go.Ground.phase }, { on := 2, ground := Go.Ground.phase }, { on := 3, ground := Go.Ground.phase }, { on := 4, ground := Go.Ground.phase }, { on := 5, ground := Go.Ground.phase }, { on := 6, ground := Go.Ground.phase }, { on := 7, ground := Go.Ground.phase }, { on := 8, ground := Go.Ground.phase }, { on := 9, ground := Go.Ground.phase }, { on := 10, ground := Go.Ground.phase }, { on := 11, ground := Go.Ground.phase }, { on := 12, ground := Go.Ground.phase }, { on := 13, ground := Go.Ground.phase }, { on := 14, ground := Go.Ground.phase }, { on := 15, ground := Go.Ground.phase }, { on := 16, ground := Go.Ground.phase }, { on := 17, ground := Go.Ground.phase }, { on := 18, ground := Go.Ground.phase }, { on := 19, ground := Go.Ground.phase }], guard := none }) (v := .bool true) rfl (by kernel_rfl) (by kernel_rfl) (by kernel_rfl) (fun _ _ _ h => h) (Or.inl ⟨by rfl, ?_⟩) g18 ?_
          (intro w5 hS5; go_simp; try rfl)
          try simp only [Act.put, List.setIfInBounds_toArray, List.set_cons_zero, List.set_cons_succ]
          refine wpAnyH_done (by kernel_rfl) ?_ _
          have HZ := Lib.hid g18
          clear g6 g9 g13 g14 g18 hH e2
          go_wp2_with fail
          exact bodyPost_ret (by simp [results, Try.results3, go_sem]) rfl ⟨rfl, HW.out.trans HZ.out⟩
end Go.Proofs.Ytplaicdbcfnjbaa
