/- The program's test that two calls are the same (the closure of hist.Same). -/
import Derived.Test.YtplaicdbcfnjbaaV05
import Derived.Laws.Tables
import Derived.Deep.Cut
import Derived.Deep.DeepCutAuto
import Derived.Deep.RegionHeld
set_option linter.unusedSimpArgs false
set_option linter.unusedVariables false
namespace Go.Proofs.Ytplaicdbcfnjbaa
open Go.RowKit
set_option linter.unusedVariables false

theorem size28 : (Try.prog.info? 28).map (·.size) = some 7 := by kernel_rfl
theorem yl_ld {o : Oper} {f : Operand → Value} {w : World} {t : TypeId} {x : Operand} {p : Addr} {v : Value} (ho : o.op = .load t x) (hx : f x = .pointer (some p)) (h : (Instr.loadAt t (.pointer (some p))).run Try.prog w = .ok v w) : (execOp f o).run Try.prog w = .ok (.value v) w := by
  unfold execOp
  simp only [ho, hx, Sem.run_bind, Sem.run_pure, Result.andThen_ok, h]
def z28 : Array Value := #[.int .i64 0, .int .i64 0, .int .i64 0, .string ByteArray.empty, .int .i64 0, .int .i64 0, .slice none 0 0]
theorem run_z28 (w : World) : (Instr.alloc 28 true (.tuple #[])).run Try.prog w = .ok (.pointer (some ⟨w.heap.size, 0, none⟩)) (w.alloc (.cells z28 28)) := by
  kernel_rfl
theorem wp_alloc28 {o : Oper} {a : Act} {w : World} {K : Act → World → Prop} {Q : Exit → Act → World → Prop} (ho : o.op = .alloc 28)
    (hk : ∀ w', New w w' → Box w' w.heap.size 28 z28 → K (a.put o.dst (.pointer (some ⟨w.heap.size, 0, none⟩))) w') : o.wp Try.prog a w K Q := by
  unfold Oper.wp execOp
  simp only [ho, Sem.run_bind, run_z28, Result.andThen_ok, Sem.run_pure]
  exact hk _ ((New.refl w).alloc _) (Box.made w 28 z28)
theorem New.setRow {a w : World} {g : Nat} (h : New a w) (hg : a.heap.size ≤ g) (cs : Array Value) : New a (w.setRow g cs) :=
  Below.trans h ⟨rfl, rfl, rfl, by simp [World.setRow], fun k hk => setRow_other w g k cs (by omega)⟩
theorem wp_store28 {o : Oper} {a : Act} {w : World} {K : Act → World → Prop} {Q : Exit → Act → World → Prop} {x y : Operand} {g : Nat} {c c' : Array Value} (ho : o.op = .store 28 x y)
    (hx : a.eval x = .pointer (some ⟨g, 0, none⟩)) (hy : a.eval y = .agg c') (hb : Box w g 28 c) (hs : c.size = 7) (hs' : c'.size = 7) (h1 : c'.all (·.oneCell') = true)
    (hk : ∀ w', (∀ g' t d, g' ≠ g → Box w g' t d → Box w' g' t d) → Box w' g 28 c' → (∀ a : World, a.heap.size ≤ g → New a w → New a w') → K (a.put o.dst undef) w') : o.wp Try.prog a w K Q := by
  refine wp_store_row 28 x y ho g c' hx hy 28 c hb (by rw [size28, hs']) (by rw [hs, hs']) h1 (hk _ ?_ ?_ ?_)
  · intro g' t d hne h
    simp only [Box, World.setRow] at h ⊢
    rw [Array.getElem?_modify, if_neg (fun e => hne e.symm)]; exact h
  · simp only [Box, World.setRow] at hb ⊢
    simp [Array.getElem?_modify, hb]
  · intro a ha h
    exact h.setRow ha _

set_option maxRecDepth 100000 in
set_option maxHeartbeats 4000000 in
theorem hone_any (f : Nat) (a b : OD) (w : World) (hA : IsO w f a) (hB : IsO w f b) :
    Calls Try.prog 24 #[.agg (ocs a), .agg (ocs b)] w fun e w' => e = .returned (.bool (oneO f a b)) ∧ New w w' := by
  have HX := Lib.hid (fun w' (m : New w w') => eq_any a.nx b.nx a.x b.x a.X a.cx b.X b.cx w' (hA.x.new m) (hB.x.new m))
  have HT := Lib.hid (fun w' (m : New w w') => alike_any f a.td b.td a.A a.ca a.Y a.cy b.A b.ca b.Y b.cy w' (hA.t.new m) (hB.t.new m))
  have hr : oneO f a b = (eq2 a.r0 a.r1 b.r0 b.r1 && (a.s == b.s) && (a.e == b.e) && (a.kd == b.kd) && eq2 a.k0 a.k1 b.k0 b.k1 && (a.tx.toList == b.tx.toList) && eq2 a.o0 a.o1 b.o0 b.o1 && eqR a.nx b.nx a.x b.x && alikeT f a.td b.td) := rfl
  clear hA hB
  have LA := Lib.hid (fun (w' : World) (g : Nat) (h : Box w' g 36 (ocs a)) => lda_told h)
  have LB := Lib.hid (fun (w' : World) (g : Nat) (h : Box w' g 36 (ocs b)) => lda_told h)
  have MA := Lib.hid (fun (w' : World) (g : Nat) (h : Box w' g 36 (ocs a)) => lda_ask h)
  have MB := Lib.hid (fun (w' : World) (g : Nat) (h : Box w' g 36 (ocs b)) => lda_ask h)
  have q1 := fun w => eql23 a.r0 a.r1 b.r0 b.r1 w
  have q2 := fun w => eql25 a.k0 a.k1 b.k0 b.k1 w
  have q3 := fun w => eql23 a.o0 a.o1 b.o0 b.o1 w
  have FA : (ocs a)[0]? = some (.int .i64 a.r0) ∧ (ocs a)[1]? = some (.int .i64 a.r1) ∧ (ocs a)[17]? = some (.int .i64 a.s) ∧ (ocs a)[18]? = some (.int .i64 a.e) ∧ (acs a)[0]? = some (.int .i64 a.kd) ∧ (acs a)[1]? = some (.int .i64 a.k0) ∧ (acs a)[2]? = some (.int .i64 a.k1) ∧ (acs a)[3]? = some (.string a.tx) ∧ (acs a)[4]? = some (.int .i64 a.o0) ∧ (acs a)[5]? = some (.int .i64 a.o1) ∧ (acs a)[6]? = some (.slice a.X a.nx a.cx) ∧ (acs a).size = 7 ∧ (acs a).all (·.oneCell') = true := ⟨rfl, rfl, rfl, rfl, rfl, rfl, rfl, rfl, rfl, rfl, rfl, rfl, by simp [acs, Value.oneCell']⟩
  have FB : (ocs b)[0]? = some (.int .i64 b.r0) ∧ (ocs b)[1]? = some (.int .i64 b.r1) ∧ (ocs b)[17]? = some (.int .i64 b.s) ∧ (ocs b)[18]? = some (.int .i64 b.e) ∧ (acs b)[0]? = some (.int .i64 b.kd) ∧ (acs b)[1]? = some (.int .i64 b.k0) ∧ (acs b)[2]? = some (.int .i64 b.k1) ∧ (acs b)[3]? = some (.string b.tx) ∧ (acs b)[4]? = some (.int .i64 b.o0) ∧ (acs b)[5]? = some (.int .i64 b.o1) ∧ (acs b)[6]? = some (.slice b.X b.nx b.cx) ∧ (acs b).size = 7 ∧ (acs b).all (·.oneCell') = true := ⟨rfl, rfl, rfl, rfl, rfl, rfl, rfl, rfl, rfl, rfl, rfl, rfl, by simp [acs, Value.oneCell']⟩
  generalize ocs a = ra at *
  generalize ocs b = rb at *
  generalize acs a = qa at *
  generalize acs b = qb at *
  obtain ⟨a0, a1, a17, a18, u0, u1, u2, u3, u4, u5, u6, us, uo⟩ := FA
  obtain ⟨b0, b1, b17, b18, v0, v1, v2, v3, v4, v5, v6, vs, vo⟩ := FB
  generalize tcs a.td a.A a.ca a.Y a.cy = ta at *
  generalize tcs b.td b.A b.ca b.Y b.cy = tb at *
  generalize oneO f a b = R at *
  generalize eqR a.nx b.nx a.x b.x = SX at *
  generalize alikeT f a.td b.td = ST at *
  generalize eq2 a.r0 a.r1 b.r0 b.r1 = B1 at *
  generalize eq2 a.k0 a.k1 b.k0 b.k1 = B5 at *
  generalize eq2 a.o0 a.o1 b.o0 b.o1 = B7 at *
  obtain ⟨ar0, ar1, akd, ak0, ak1, atx, ao0, ao1, anx, ax, aX, acx, atd, aA, aca, aY, acy, as_, ae⟩ := a
  obtain ⟨br0, br1, bkd, bk0, bk1, btx, bo0, bo1, bnx, bx, bX, bcx, btd, bA, bca, bY, bcy, bs, be⟩ := b
  simp only [] at *
  clear ax bx atd btd aA aca aY acy bA bca bY bcy
  have HR := Lib.hid hr
  clear hr
  have S0 := Lib.hid (fun w' (m : New ((w.alloc (.cells ra 36)).alloc (.cells rb 36)) w') => (⟨(((Box.made w 36 ra).alloc _).new m), ((Box.made' (w.alloc (.cells _ 36)) 36 rb (by simp)).new m)⟩ : Box w' w.heap.size 36 _ ∧ Box w' (w.heap.size + 1) 36 _))
  have HW := Lib.hid (show New w ((w.alloc (.cells ra 36)).alloc (.cells rb 36)) from ((New.refl w).alloc _).alloc _)
  have HF := Lib.hid (⟨a0, a1, a17, a18, b0, b1, b17, b18⟩ : _ ∧ _ ∧ _ ∧ _ ∧ _ ∧ _ ∧ _ ∧ _)
  have HU := Lib.hid (⟨u0, u1, u2, u3, u4, u5, u6⟩ : _ ∧ _ ∧ _ ∧ _ ∧ _ ∧ _ ∧ _)
  have HV := Lib.hid (⟨v0, v1, v2, v3, v4, v5, v6⟩ : _ ∧ _ ∧ _ ∧ _ ∧ _ ∧ _ ∧ _)
  have hq1 := Lib.hid q1
  have hq2 := Lib.hid q2
  have hq3 := Lib.hid q3
  clear q1 q2 q3 a0 a1 a17 a18 b0 b1 b17 b18 u0 u1 u2 u3 u4 u5 u6 v0 v1 v2 v3 v4 v5 v6
  have hs : ((w.alloc (.cells ra 36)).alloc (.cells rb 36)).heap.size = w.heap.size + 1 + 1 := by simp
  have HS := Lib.hid hs
  clear hs
  go_enter Try.func24, Try.ntmps24
  go_upto_region 1 with fail
  go_cut [5, 6] (fun s5 s6 wx => ∃ g5 g6, s5 = .pointer (some ⟨g5, 0, none⟩) ∧ s6 = .pointer (some ⟨g6, 0, none⟩) ∧ Box wx g5 28 qa ∧ Box wx g6 28 qb ∧ New ((w.alloc (.cells ra 36)).alloc (.cells rb 36)) wx)
  case first =>
    refine wp_region_held_drew (S := (fun w' => New ((w.alloc (.cells ra 36)).alloc (.cells rb 36)) w')) (by kernel_rfl) (New.refl _).drew (fun hH => ?_)
    refine wpAnyH_take (i := 0) (oi := { dst := some 7, op := Go.Op.fieldAddr 36 (Go.Operand.tmp 2) 1, type := 0, pos := "hist.go:142", after := #[], guard := none }) (v := .pointer (some ⟨w.heap.size, 2, none⟩)) rfl (by kernel_rfl) (by kernel_rfl) (by kernel_rfl) (fun _ _ _ h => h) (Or.inl ⟨by rfl, ?_⟩) hH ?_
    (intro w5 hS5; go_simp; try rfl)
    try simp only [Act.put, List.setIfInBounds_toArray, List.set_cons_zero, List.set_cons_succ]
    refine wpAnyH_take (i := 1) (oi := { dst := some 8, op := Go.Op.load 28 (Go.Operand.tmp 7), type := 28, pos := "hist.go:142", after := #[{ on := 0, ground := Go.Ground.data }], guard := none }) (v := .agg qa) rfl (by kernel_rfl) (by kernel_rfl) (by kernel_rfl) (fun _ _ _ h => h) (Or.inl ⟨by rfl, ?_⟩) hH ?_
    (intro w5 hS5; refine yl_ld rfl rfl (MA.out _ _ (S0.out _ hS5).1))
    try simp only [Act.put, List.setIfInBounds_toArray, List.set_cons_zero, List.set_cons_succ]
    refine wpAnyH_take (i := 2) (oi := { dst := some 9, op := Go.Op.fieldAddr 36 (Go.Operand.tmp 3) 1, type := 0, pos := "hist.go:142", after := #[{ on := 6, ground := Go.Ground.gcOnly Go.Departure.lateStores }], guard := none }) (v := .pointer (some ⟨w.heap.size + 1, 2, none⟩)) rfl (by kernel_rfl) (by kernel_rfl) (by kernel_rfl) (fun _ _ _ h => h) (Or.inl ⟨by rfl, ?_⟩) hH ?_
    (intro w5 hS5; go_simp; try rfl)
    try simp only [Act.put, List.setIfInBounds_toArray, List.set_cons_zero, List.set_cons_succ]
    refine wpAnyH_take (i := 3) (oi := { dst := some 10, op := Go.Op.load 28 (Go.Operand.tmp 9), type := 28, pos := "hist.go:142", after := #[{ on := 2, ground := Go.Ground.data }, { on := 6, ground := Go.Ground.gcOnly Go.Departure.lateStores }], guard := none }) (v := .agg qb) rfl (by kernel_rfl) (by kernel_rfl) (by kernel_rfl) (fun _ _ _ h => h) (Or.inl ⟨by rfl, ?_⟩) hH ?_
    (intro w5 hS5; refine yl_ld rfl rfl (MB.out _ _ (S0.out _ hS5).2))
    try simp only [Act.put, List.setIfInBounds_toArray, List.set_cons_zero, List.set_cons_succ]
    refine wpAnyH_ready (rs := [4, 5]) (by kernel_rfl) (by simp) ?_
    refine (AllReadyH.cons (o := { dst := some 5, op := Go.Op.alloc 28, type := 0, pos := "hist.go:142", after := #[], guard := none }) rfl (fun K5 hK5 => ?_) (AllReadyH.cons (o := { dst := some 6, op := Go.Op.alloc 28, type := 0, pos := "hist.go:142", after := #[], guard := none }) rfl (fun K5 hK5 => ?_) AllReadyH.nil))
    · rw [if_pos (by rfl)]
      refine wp_alloc28 rfl (fun w1 n1 m1 => ?_)
      have s1 := New.trans hH n1
      have lows_4 := New.lt hH
      refine hK5.out _ _ s1 (fun _ => ?_)
      clear hK5 K5
      try simp only [Act.put, List.setIfInBounds_toArray, List.set_cons_zero, List.set_cons_succ]
      refine wpAnyH_ready (rs := [5]) (by kernel_rfl) (by simp) ?_
      refine (AllReadyH.cons (o := { dst := some 6, op := Go.Op.alloc 28, type := 0, pos := "hist.go:142", after := #[], guard := none }) rfl (fun K5 hK5 => ?_) AllReadyH.nil)
      rw [if_pos (by rfl)]
      refine wp_alloc28 rfl (fun w2 n2 m2 => ?_)
      have s2 := New.trans s1 n2
      have e2_4 := Box.new m1 n2
      have ne2 := Nat.ne_of_lt (Box.lt m1)
      have lows_5 := New.lt s1
      have nes := Lib.hid ne2
      clear ne2
      refine hK5.out _ _ s2 (fun _ => ?_)
      clear hK5 K5
      try simp only [Act.put, List.setIfInBounds_toArray, List.set_cons_zero, List.set_cons_succ]
      refine wpAnyH_ready (rs := [6]) (by kernel_rfl) (by simp) ?_
      refine (AllReadyH.cons (o := { dst := none, op := Go.Op.store 28 (Go.Operand.tmp 5) (Go.Operand.tmp 8), type := 0, pos := "hist.go:142", after := #[{ on := 4, ground := Go.Ground.data }, { on := 1, ground := Go.Ground.data }, { on := 0, ground := Go.Ground.phase }, { on := 1, ground := Go.Ground.phase }, { on := 2, ground := Go.Ground.textOnly Go.Departure.lateStores }, { on := 3, ground := Go.Ground.textOnly Go.Departure.lateStores }, { on := 4, ground := Go.Ground.phase }, { on := 5, ground := Go.Ground.phase }], guard := none }) rfl (fun K5 hK5 => ?_) AllReadyH.nil)
      rw [if_pos (by rfl)]
      refine wp_store28 (x := .tmp 5) (y := .tmp 8) rfl rfl rfl e2_4 rfl us uo (fun w3 k3 m3 r3 => ?_)
      have s3 := r3 _ (by have := New.lt s2; have := HS.out; have := Box.lt e2_4; first | exact lows_4 | omega) s2
      have e3_5 := k3 _ _ _ (by first | exact nes.out | exact nes.out.symm) m2
      refine hK5.out _ _ s3 (fun _ => ?_)
      clear hK5 K5
      try simp only [Act.put, List.setIfInBounds_toArray, List.set_cons_zero, List.set_cons_succ]
      refine wpAnyH_ready (rs := [7]) (by kernel_rfl) (by simp) ?_
      refine (AllReadyH.cons (o := { dst := none, op := Go.Op.store 28 (Go.Operand.tmp 6) (Go.Operand.tmp 10), type := 0, pos := "hist.go:142", after := #[{ on := 5, ground := Go.Ground.data }, { on := 3, ground := Go.Ground.data }, { on := 6, ground := Go.Ground.chain }, { on := 0, ground := Go.Ground.phase }, { on := 1, ground := Go.Ground.phase }, { on := 2, ground := Go.Ground.phase }, { on := 3, ground := Go.Ground.phase }, { on := 4, ground := Go.Ground.phase }, { on := 5, ground := Go.Ground.phase }, { on := 6, ground := Go.Ground.phase }], guard := none }) rfl (fun K5 hK5 => ?_) AllReadyH.nil)
      rw [if_pos (by rfl)]
      refine wp_store28 (x := .tmp 6) (y := .tmp 10) rfl rfl rfl e3_5 rfl vs vo (fun w4 k4 m4 r4 => ?_)
      have s4 := r4 _ (by have := New.lt s3; have := HS.out; have := Box.lt e3_5; first | exact lows_5 | omega) s3
      have e4_4 := k4 _ _ _ (by first | exact nes.out | exact nes.out.symm) m3
      refine hK5.out _ _ s4 (fun _ => ?_)
      clear hK5 K5
      try simp only [Act.put, List.setIfInBounds_toArray, List.set_cons_zero, List.set_cons_succ]
      refine wpAnyH_done (by kernel_rfl) ?_ _
      have HZ := Lib.hid (⟨e4_4, m4, s4⟩ : _ ∧ _ ∧ _)
      clear e4_4 m4 s4
      go_wp2_with fail
      go_meet
      exact ⟨_, _, rfl, rfl, HZ.out.1, HZ.out.2.1, HZ.out.2.2⟩
    · rw [if_pos (by rfl)]
      refine wp_alloc28 rfl (fun w5 n5 m5 => ?_)
      have s5 := New.trans hH n5
      have lows_5 := New.lt hH
      refine hK5.out _ _ s5 (fun _ => ?_)
      clear hK5 K5
      try simp only [Act.put, List.setIfInBounds_toArray, List.set_cons_zero, List.set_cons_succ]
      refine wpAnyH_ready (rs := [4]) (by kernel_rfl) (by simp) ?_
      refine (AllReadyH.cons (o := { dst := some 5, op := Go.Op.alloc 28, type := 0, pos := "hist.go:142", after := #[], guard := none }) rfl (fun K5 hK5 => ?_) AllReadyH.nil)
      rw [if_pos (by rfl)]
      refine wp_alloc28 rfl (fun w6 n6 m6 => ?_)
      have s6 := New.trans s5 n6
      have e6_5 := Box.new m5 n6
      have ne6 := Nat.ne_of_lt (Box.lt m5)
      have lows_4 := New.lt s5
      have nes := Lib.hid ne6
      clear ne6
      refine hK5.out _ _ s6 (fun _ => ?_)
      clear hK5 K5
      try simp only [Act.put, List.setIfInBounds_toArray, List.set_cons_zero, List.set_cons_succ]
      refine wpAnyH_ready (rs := [6]) (by kernel_rfl) (by simp) ?_
      refine (AllReadyH.cons (o := { dst := none, op := Go.Op.store 28 (Go.Operand.tmp 5) (Go.Operand.tmp 8), type := 0, pos := "hist.go:142", after := #[{ on := 4, ground := Go.Ground.data }, { on := 1, ground := Go.Ground.data }, { on := 0, ground := Go.Ground.phase }, { on := 1, ground := Go.Ground.phase }, { on := 2, ground := Go.Ground.textOnly Go.Departure.lateStores }, { on := 3, ground := Go.Ground.textOnly Go.Departure.lateStores }, { on := 4, ground := Go.Ground.phase }, { on := 5, ground := Go.Ground.phase }], guard := none }) rfl (fun K5 hK5 => ?_) AllReadyH.nil)
      rw [if_pos (by rfl)]
      refine wp_store28 (x := .tmp 5) (y := .tmp 8) rfl rfl rfl m6 rfl us uo (fun w7 k7 m7 r7 => ?_)
      have s7 := r7 _ (by have := New.lt s6; have := HS.out; have := Box.lt m6; first | exact lows_4 | omega) s6
      have e7_5 := k7 _ _ _ (by first | exact nes.out | exact nes.out.symm) e6_5
      refine hK5.out _ _ s7 (fun _ => ?_)
      clear hK5 K5
      try simp only [Act.put, List.setIfInBounds_toArray, List.set_cons_zero, List.set_cons_succ]
      refine wpAnyH_ready (rs := [7]) (by kernel_rfl) (by simp) ?_
      refine (AllReadyH.cons (o := { dst := none, op := Go.Op.store 28 (Go.Operand.tmp 6) (Go.Operand.tmp 10), type := 0, pos := "hist.go:142", after := #[{ on := 5, ground := Go.Ground.data }, { on := 3, ground := Go.Ground.data }, { on := 6, ground := Go.Ground.chain }, { on := 0, ground := Go.Ground.phase }, { on := 1, ground := Go.Ground.phase }, { on := 2, ground := Go.Ground.phase }, { on := 3, ground := Go.Ground.phase }, { on := 4, ground := Go.Ground.phase }, { on := 5, ground := Go.Ground.phase }, { on := 6, ground := Go.Ground.phase }], guard := none }) rfl (fun K5 hK5 => ?_) AllReadyH.nil)
      rw [if_pos (by rfl)]
      refine wp_store28 (x := .tmp 6) (y := .tmp 10) rfl rfl rfl e7_5 rfl vs vo (fun w8 k8 m8 r8 => ?_)
      have s8 := r8 _ (by have := New.lt s7; have := HS.out; have := Box.lt e7_5; first | exact lows_5 | omega) s7
      have e8_4 := k8 _ _ _ (by first | exact nes.out | exact nes.out.symm) m7
      refine hK5.out _ _ s8 (fun _ => ?_)
      clear hK5 K5
      try simp only [Act.put, List.setIfInBounds_toArray, List.set_cons_zero, List.set_cons_succ]
      refine wpAnyH_done (by kernel_rfl) ?_ _
      have HZ := Lib.hid (⟨e8_4, m8, s8⟩ : _ ∧ _ ∧ _)
      clear e8_4 m8 s8
      go_wp2_with fail
      go_meet
      exact ⟨_, _, rfl, rfl, HZ.out.1, HZ.out.2.1, HZ.out.2.2⟩
  case rest =>
    obtain ⟨g5, g6, rfl, rfl, b5, b6, nx⟩ := hcut
    have pa0 := Lib.hid (((S0.out _ nx).1.cell 0).trans (HF.out.1))
    have pa1 := Lib.hid (((S0.out _ nx).1.cell 1).trans (HF.out.2.1))
    have pa17 := Lib.hid (((S0.out _ nx).1.cell 17).trans (HF.out.2.2.1))
    have pa18 := Lib.hid (((S0.out _ nx).1.cell 18).trans (HF.out.2.2.2.1))
    have pb0 := Lib.hid (((S0.out _ nx).2.cell 0).trans (HF.out.2.2.2.2.1))
    have pb1 := Lib.hid (((S0.out _ nx).2.cell 1).trans (HF.out.2.2.2.2.2.1))
    have pb17 := Lib.hid (((S0.out _ nx).2.cell 17).trans (HF.out.2.2.2.2.2.2.1))
    have pb18 := Lib.hid (((S0.out _ nx).2.cell 18).trans (HF.out.2.2.2.2.2.2.2))
    have ya0 := Lib.hid ((b5.cell 0).trans (HU.out.1))
    have ya1 := Lib.hid ((b5.cell 1).trans (HU.out.2.1))
    have ya2 := Lib.hid ((b5.cell 2).trans (HU.out.2.2.1))
    have ya3 := Lib.hid ((b5.cell 3).trans (HU.out.2.2.2.1))
    have ya4 := Lib.hid ((b5.cell 4).trans (HU.out.2.2.2.2.1))
    have ya5 := Lib.hid ((b5.cell 5).trans (HU.out.2.2.2.2.2.1))
    have ya6 := Lib.hid ((b5.cell 6).trans (HU.out.2.2.2.2.2.2))
    have yb0 := Lib.hid ((b6.cell 0).trans (HV.out.1))
    have yb1 := Lib.hid ((b6.cell 1).trans (HV.out.2.1))
    have yb2 := Lib.hid ((b6.cell 2).trans (HV.out.2.2.1))
    have yb3 := Lib.hid ((b6.cell 3).trans (HV.out.2.2.2.1))
    have yb4 := Lib.hid ((b6.cell 4).trans (HV.out.2.2.2.2.1))
    have yb5 := Lib.hid ((b6.cell 5).trans (HV.out.2.2.2.2.2.1))
    have yb6 := Lib.hid ((b6.cell 6).trans (HV.out.2.2.2.2.2.2))
    have NX := Lib.hid nx
    clear nx b5 b6
    cases B1
    · have cap0 := pa0.out
      have cbp0 := pb0.out
      have cap1 := pa1.out
      have cbp1 := pb1.out
      have rq1 := hq1.out
      have hR : R = false := by rw [HR.out]; simp only [Bool.true_and, Bool.and_false, Bool.false_and]
      subst hR
      iterate 3 (first | go_values | go_skip | go_guarded | go_step | go_upon)
      try simp only [List.append_eq, List.cons_append, List.nil_append]
      go_wp2
      go_ret
      exact ⟨rfl, HW.out.trans NX.out⟩
    by_cases t2 : (as_ == bs) = true
    rotate_left
    · have u2 : (as_ == bs) = false := by simpa using t2
      clear t2
      have cap0 := pa0.out
      have cbp0 := pb0.out
      have cap1 := pa1.out
      have cbp1 := pb1.out
      have cap17 := pa17.out
      have cbp17 := pb17.out
      have rq1 := hq1.out
      have hR : R = false := by rw [HR.out]; simp only [u2, Bool.and_false, Bool.false_and]
      subst hR
      iterate 3 (first | go_values | go_skip | go_guarded | go_step | go_upon)
      try simp only [List.append_eq, List.cons_append, List.nil_append]
      go_wp2
      go_ret
      exact ⟨rfl, HW.out.trans NX.out⟩
    by_cases t3 : (ae == be) = true
    rotate_left
    · have u3 : (ae == be) = false := by simpa using t3
      clear t3
      have cap0 := pa0.out
      have cbp0 := pb0.out
      have cap1 := pa1.out
      have cbp1 := pb1.out
      have cap17 := pa17.out
      have cbp17 := pb17.out
      have cap18 := pa18.out
      have cbp18 := pb18.out
      have rq1 := hq1.out
      have hR : R = false := by rw [HR.out]; simp only [u3, t2, Bool.and_false, Bool.false_and]
      subst hR
      iterate 3 (first | go_values | go_skip | go_guarded | go_step | go_upon)
      try simp only [List.append_eq, List.cons_append, List.nil_append]
      go_wp2
      go_ret
      exact ⟨rfl, HW.out.trans NX.out⟩
    by_cases t4 : (akd == bkd) = true
    rotate_left
    · have u4 : (akd == bkd) = false := by simpa using t4
      clear t4
      have cap0 := pa0.out
      have cbp0 := pb0.out
      have cap1 := pa1.out
      have cbp1 := pb1.out
      have cap17 := pa17.out
      have cbp17 := pb17.out
      have cap18 := pa18.out
      have cbp18 := pb18.out
      have cay0 := ya0.out
      have cby0 := yb0.out
      have rq1 := hq1.out
      have hR : R = false := by rw [HR.out]; simp only [u4, t2, t3, Bool.and_false, Bool.false_and]
      subst hR
      iterate 3 (first | go_values | go_skip | go_guarded | go_step | go_upon)
      try simp only [List.append_eq, List.cons_append, List.nil_append]
      go_wp2
      go_ret
      exact ⟨rfl, HW.out.trans NX.out⟩
    cases B5
    · have cap0 := pa0.out
      have cbp0 := pb0.out
      have cap1 := pa1.out
      have cbp1 := pb1.out
      have cap17 := pa17.out
      have cbp17 := pb17.out
      have cap18 := pa18.out
      have cbp18 := pb18.out
      have cay0 := ya0.out
      have cby0 := yb0.out
      have cay1 := ya1.out
      have cby1 := yb1.out
      have cay2 := ya2.out
      have cby2 := yb2.out
      have rq1 := hq1.out
      have rq2 := hq2.out
      have hR : R = false := by rw [HR.out]; simp only [t2, t3, t4, Bool.and_false, Bool.false_and]
      subst hR
      iterate 3 (first | go_values | go_skip | go_guarded | go_step | go_upon)
      try simp only [List.append_eq, List.cons_append, List.nil_append]
      go_wp2
      go_ret
      exact ⟨rfl, HW.out.trans NX.out⟩
    by_cases t6 : (atx.toList == btx.toList) = true
    rotate_left
    · have u6 : (atx.toList == btx.toList) = false := by simpa using t6
      clear t6
      have cap0 := pa0.out
      have cbp0 := pb0.out
      have cap1 := pa1.out
      have cbp1 := pb1.out
      have cap17 := pa17.out
      have cbp17 := pb17.out
      have cap18 := pa18.out
      have cbp18 := pb18.out
      have cay0 := ya0.out
      have cby0 := yb0.out
      have cay1 := ya1.out
      have cby1 := yb1.out
      have cay2 := ya2.out
      have cby2 := yb2.out
      have cay3 := ya3.out
      have cby3 := yb3.out
      have rq1 := hq1.out
      have rq2 := hq2.out
      have hR : R = false := by rw [HR.out]; simp only [u6, t2, t3, t4, Bool.and_false, Bool.false_and]
      subst hR
      iterate 3 (first | go_values | go_skip | go_guarded | go_step | go_upon)
      try simp only [List.append_eq, List.cons_append, List.nil_append]
      go_wp2
      go_ret
      exact ⟨rfl, HW.out.trans NX.out⟩
    cases B7
    · have cap0 := pa0.out
      have cbp0 := pb0.out
      have cap1 := pa1.out
      have cbp1 := pb1.out
      have cap17 := pa17.out
      have cbp17 := pb17.out
      have cap18 := pa18.out
      have cbp18 := pb18.out
      have cay0 := ya0.out
      have cby0 := yb0.out
      have cay1 := ya1.out
      have cby1 := yb1.out
      have cay2 := ya2.out
      have cby2 := yb2.out
      have cay3 := ya3.out
      have cby3 := yb3.out
      have cay4 := ya4.out
      have cby4 := yb4.out
      have cay5 := ya5.out
      have cby5 := yb5.out
      have rq1 := hq1.out
      have rq2 := hq2.out
      have rq3 := hq3.out
      have hR : R = false := by rw [HR.out]; simp only [t2, t3, t4, t6, Bool.and_false, Bool.false_and]
      subst hR
      iterate 3 (first | go_values | go_skip | go_guarded | go_step | go_upon)
      try simp only [List.append_eq, List.cons_append, List.nil_append]
      go_wp2
      go_ret
      exact ⟨rfl, HW.out.trans NX.out⟩
    have hR : R = (SX && ST) := by rw [HR.out]; simp only [t2, t3, t4, t6, Bool.true_and]
    have HR2 := Lib.hid hR
    clear hR
    cases SX
    · have cap0 := pa0.out
      have cbp0 := pb0.out
      have cap1 := pa1.out
      have cbp1 := pb1.out
      have cap17 := pa17.out
      have cbp17 := pb17.out
      have cap18 := pa18.out
      have cbp18 := pb18.out
      have cay0 := ya0.out
      have cby0 := yb0.out
      have cay1 := ya1.out
      have cby1 := yb1.out
      have cay2 := ya2.out
      have cby2 := yb2.out
      have cay3 := ya3.out
      have cby3 := yb3.out
      have cay4 := ya4.out
      have cby4 := yb4.out
      have cay5 := ya5.out
      have cby5 := yb5.out
      have cay6 := ya6.out
      have cby6 := yb6.out
      have rq1 := hq1.out
      have rq2 := hq2.out
      have rq3 := hq3.out
      have hR : R = false := by rw [HR2.out]; rfl
      subst hR
      iterate 3 (first | go_values | go_skip | go_guarded | go_step | go_upon)
      try simp only [List.append_eq, List.cons_append, List.nil_append]
      go_wp2_with (first | (go_at_call 25; refine (HX.out _ (HW.out.trans NX.out)).mono ?_; rintro e w9 ⟨rfl, n9⟩; have la := Lib.hid (LA.out _ _ (S0.out _ (NX.out.trans n9)).1); have lb := Lib.hid (LB.out _ _ (S0.out _ (NX.out.trans n9)).2)))
      go_ret
      exact ⟨rfl, (HW.out.trans NX.out).trans n9⟩
    · have cap0 := pa0.out
      have cbp0 := pb0.out
      have cap1 := pa1.out
      have cbp1 := pb1.out
      have cap17 := pa17.out
      have cbp17 := pb17.out
      have cap18 := pa18.out
      have cbp18 := pb18.out
      have cay0 := ya0.out
      have cby0 := yb0.out
      have cay1 := ya1.out
      have cby1 := yb1.out
      have cay2 := ya2.out
      have cby2 := yb2.out
      have cay3 := ya3.out
      have cby3 := yb3.out
      have cay4 := ya4.out
      have cby4 := yb4.out
      have cay5 := ya5.out
      have cby5 := yb5.out
      have cay6 := ya6.out
      have cby6 := yb6.out
      have rq1 := hq1.out
      have rq2 := hq2.out
      have rq3 := hq3.out
      have hR : R = ST := by rw [HR2.out]; rfl
      subst hR
      iterate 3 (first | go_values | go_skip | go_guarded | go_step | go_upon)
      try simp only [List.append_eq, List.cons_append, List.nil_append]
      go_wp2_with (first | (apply wpl_ld (t := 34) (h := la.out); exact rfl; exact rfl; exact rfl) | (apply wpl_ld (t := 34) (h := lb.out); exact rfl; exact rfl; exact rfl) | (go_at_call 25; refine (HX.out _ (HW.out.trans NX.out)).mono ?_; rintro e w9 ⟨rfl, n9⟩; have la := Lib.hid (LA.out _ _ (S0.out _ (NX.out.trans n9)).1); have lb := Lib.hid (LB.out _ _ (S0.out _ (NX.out.trans n9)).2)) | (go_at_call 26; refine (HT.out _ ((HW.out.trans NX.out).trans n9)).mono ?_; rintro e w8 ⟨rfl, n8⟩))
      go_ret
      exact ⟨rfl, ((HW.out.trans NX.out).trans n9).trans n8⟩
end Go.Proofs.Ytplaicdbcfnjbaa
