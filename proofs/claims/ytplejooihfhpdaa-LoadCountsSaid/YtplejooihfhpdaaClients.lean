/- Clients: a map from each client to its load. -/
import Derived.Test.YtplejooihfhpdaaMapL
namespace Go.Proofs.Ytplejooihfhpdaa
open Go.RowKit
set_option linter.unusedVariables false

def ClMap (n : Nat) (z : Nat → Nm) (w : World) (e : Ending) (w' : World) : Prop :=
  ∃ b, e = .returned (.map (some b)) ∧ MapL w' b n (fun q => accL z (wP z q) n) (manyW z n) ∧ New w w'
theorem cl_step (z : Nat → Nm) (k : Nat) : (fun q => accL z (wP z q) (k + 1)) = fun x => if x = (z k).who then pl (accL z (wP z (z k).who) k) (oneL (z k)) else accL z (wP z x) k := by
  funext x
  by_cases hx : x = (z k).who
  · rw [if_pos hx, hx]
    exact accL_yes (by unfold wP; simp)
  · rw [if_neg hx]
    exact accL_no (by unfold wP; simpa using fun e => hx e.symm)
theorem cl_many (z : Nat → Nm) (k : Nat) : manyW z (k + 1) = if (accL z (wP z (z k).who) k).c = 0 then manyW z k + 1 else manyW z k := by
  show manyW z k + (if newW z k = true then 1 else 0) = _
  rw [acc_c]
  unfold newW
  by_cases h : (sel (wP z (z k).who) k).length = 0
  · rw [h]; simp
  · rw [if_neg (by simpa using h), if_neg (by simpa using h), Nat.add_zero]
theorem cl_pos (z : Nat → Nm) (P : Nat → Bool) (k : Nat) (x : Nm) : (pl (accL z P k) (oneL x)).c ≠ 0 := by
  have h := (lin_acc z P k).1.1
  have h1 : (oneL x).c = 1 := by unfold oneL; split <;> rfl
  show (accL z P k).c + (oneL x).c ≠ 0
  omega
set_option maxRecDepth 100000 in
set_option maxHeartbeats 4000000 in
theorem clients_any (A : Option Addr) (n cap : Nat) (o : Nat → Array Value) (z : Nat → Nm) (hn : n ≤ 60) (w : World) (hL : Ops w A n o z) :
    Calls Try.prog 14 #[.slice A n cap] w (ClMap n z w) := by
  have hmm := @run_makeMap Try.prog
  go_enter Try.func14, Try.ntmps14
  go_wp2_with fail
  go_loopg [9] n (fun g i wr => ∃ k : Nat, k + g = n ∧ i = .int .i64 k ∧ New w wr ∧ MapL wr w.heap.size k (fun q => accL z (wP z q) k) (manyW z k))
  case atStart => exact ⟨0, by omega, rfl, (New.refl _).alloc _, MapL.made w⟩
  case round =>
    obtain ⟨k, hk, rfl, nw, hM⟩ := hrel
    by_cases hlt : k < n
    · obtain ⟨ad, rfl, hc⟩ := hL.2 (by omega)
      have hR := hL.1 k hlt
      have LA := (hc k hlt).new nw
      have HC21 := Lib.hid (fun w => one_any (o k) (z k) hR w)
      have IA := Lib.hid hR.1
      have OA8 : OpAt (wr.alloc (.cells (o k) 45)).drew ⟨wr.heap.size, 0, none⟩ (o k) := (OpAt.made wr (o k) hR.1).new (New.refl _).drew
      have c0 : (wr.alloc (.cells (o k) 45)).drew.cell? ⟨wr.heap.size, 0, none⟩ = some (.int .i64 (z k).who) := ((Box.made wr 45 (o k)).cell 0).trans hR.2.2.1
      have nw8 : New w (wr.alloc (.cells (o k) 45)).drew := (nw.alloc _).drew
      have hM8 : MapL (wr.alloc (.cells (o k) 45)).drew w.heap.size k (fun q => accL z (wP z q) k) (manyW z k) := hM.new (((New.refl wr).alloc _).drew)
      have lM := hM.lt
      have HL := Lib.hid (⟨hL, hc, hM⟩ : _ ∧ _ ∧ _)
      have lin1 := lin_one (z k)
      have lin8 := lin_acc z (wP z (z k).who) k
      have he := hR.2.1.1
      have HS1 := Lib.hid (⟨cl_step z k, cl_many z k⟩ : _ ∧ _)
      have HPOS := Lib.hid (cl_pos z (wP z (z k).who) k (z k))
      clear hL hc hR hM
      generalize o k = oo at *
      go_wp2_with (first | (refine wpl_load rfl rfl LA rfl ?_) | (refine wpl_store rfl rfl rfl rfl IA.out rfl ?_))
      refine wp_region_held_drew (S := (fun w' => New w w' ∧ OpAt w' ⟨wr.heap.size, 0, none⟩ oo ∧ w'.cell? ⟨wr.heap.size, 0, none⟩ = some (.int .i64 (z k).who))) (by kernel_rfl) ⟨nw8, OA8, c0⟩ (fun hH => ?_)
      refine wpAnyH_take (i := 0) (oi := { dst := some 13, op := Go.Op.move (Go.Operand.tmp 3), type := 55, pos := "load.go:69", after := #[], guard := none }) (v := ?_) rfl (by kernel_rfl) (by kernel_rfl) (by kernel_rfl) (fun _ _ _ h => h) (Or.inl ⟨by rfl, ?_⟩) hH ?_
      rotate_left; (intro w5 hS5; go_simp; try rfl)
      try simp only [Act.put, List.setIfInBounds_toArray, List.set_cons_zero, List.set_cons_succ]
      refine wpAnyH_take (i := 1) (oi := { dst := some 14, op := Go.Op.fieldAddr 45 (Go.Operand.tmp 5) 0, type := 0, pos := "load.go:69", after := #[], guard := none }) (v := ?_) rfl (by kernel_rfl) (by kernel_rfl) (by kernel_rfl) (fun _ _ _ h => h) (Or.inl ⟨by rfl, ?_⟩) hH ?_
      rotate_left; (intro w5 hS5; go_simp; try rfl)
      try simp only [Act.put, List.setIfInBounds_toArray, List.set_cons_zero, List.set_cons_succ]
      refine wpAnyH_take (i := 2) (oi := { dst := some 15, op := Go.Op.fieldAddr 39 (Go.Operand.tmp 14) 0, type := 0, pos := "load.go:69", after := #[{ on := 1, ground := Go.Ground.data }], guard := none }) (v := ?_) rfl (by kernel_rfl) (by kernel_rfl) (by kernel_rfl) (fun _ _ _ h => h) (Or.inl ⟨by rfl, ?_⟩) hH ?_
      rotate_left; (intro w5 hS5; go_simp; try rfl)
      try simp only [Act.put, List.setIfInBounds_toArray, List.set_cons_zero, List.set_cons_succ]
      refine wpAnyH_take (i := 3) (oi := { dst := some 16, op := Go.Op.load 3 (Go.Operand.tmp 15), type := 3, pos := "load.go:69", after := #[{ on := 2, ground := Go.Ground.data }], guard := none }) (v := ?_) rfl (by kernel_rfl) (by kernel_rfl) (by kernel_rfl) (fun _ _ _ h => h) (Or.inl ⟨by rfl, ?_⟩) hH ?_
      rotate_left; (intro w5 hS5; (obtain ⟨-, -, c5⟩ := hS5; go_simp; try rfl))
      try simp only [Act.put, List.setIfInBounds_toArray, List.set_cons_zero, List.set_cons_succ]
      refine wpAnyH_take (i := 4) (oi := { dst := some 17, op := Go.Op.move (Go.Operand.tmp 3), type := 55, pos := "load.go:69", after := #[], guard := none }) (v := ?_) rfl (by kernel_rfl) (by kernel_rfl) (by kernel_rfl) (fun _ _ _ h => h) (Or.inl ⟨by rfl, ?_⟩) hH ?_
      rotate_left; (intro w5 hS5; go_simp; try rfl)
      try simp only [Act.put, List.setIfInBounds_toArray, List.set_cons_zero, List.set_cons_succ]
      refine wpAnyH_take (i := 5) (oi := { dst := some 18, op := Go.Op.fieldAddr 45 (Go.Operand.tmp 5) 0, type := 0, pos := "load.go:69", after := #[], guard := none }) (v := ?_) rfl (by kernel_rfl) (by kernel_rfl) (by kernel_rfl) (fun _ _ _ h => h) (Or.inl ⟨by rfl, ?_⟩) hH ?_
      rotate_left; (intro w5 hS5; go_simp; try rfl)
      try simp only [Act.put, List.setIfInBounds_toArray, List.set_cons_zero, List.set_cons_succ]
      refine wpAnyH_take (i := 6) (oi := { dst := some 19, op := Go.Op.fieldAddr 39 (Go.Operand.tmp 18) 0, type := 0, pos := "load.go:69", after := #[{ on := 5, ground := Go.Ground.data }], guard := none }) (v := ?_) rfl (by kernel_rfl) (by kernel_rfl) (by kernel_rfl) (fun _ _ _ h => h) (Or.inl ⟨by rfl, ?_⟩) hH ?_
      rotate_left; (intro w5 hS5; go_simp; try rfl)
      try simp only [Act.put, List.setIfInBounds_toArray, List.set_cons_zero, List.set_cons_succ]
      refine wpAnyH_take (i := 7) (oi := { dst := some 20, op := Go.Op.load 3 (Go.Operand.tmp 19), type := 3, pos := "load.go:69", after := #[{ on := 6, ground := Go.Ground.data }], guard := none }) (v := ?_) rfl (by kernel_rfl) (by kernel_rfl) (by kernel_rfl) (fun _ _ _ h => h) (Or.inl ⟨by rfl, ?_⟩) hH ?_
      rotate_left; (intro w5 hS5; (obtain ⟨-, -, c5⟩ := hS5; go_simp; try rfl))
      try simp only [Act.put, List.setIfInBounds_toArray, List.set_cons_zero, List.set_cons_succ]
      refine wpAnyH_take (i := 9) (oi := { dst := some 22, op := Go.Op.load 45 (Go.Operand.tmp 5), type := 45, pos := "load.go:69", after := #[], guard := none }) (v := .agg oo) rfl (by kernel_rfl) (by kernel_rfl) (by kernel_rfl) (fun _ _ _ h => h) (Or.inl ⟨by rfl, ?_⟩) hH ?_
      (intro w5 hS5; refine yl_load (x := .tmp 5) ?_ ?_ hS5.2.1 <;> rfl)
      try simp only [Act.put, List.setIfInBounds_toArray, List.set_cons_zero, List.set_cons_succ]
      refine wpAnyH_ready (rs := [8, 10]) (by kernel_rfl) (by simp) ?_
      refine AllReadyH.cons (o := { dst := some 21, op := Go.Op.lookup 55 (Go.Operand.tmp 17) (Go.Operand.tmp 20) false, type := 25, pos := "load.go:69", after := #[{ on := 4, ground := Go.Ground.data }, { on := 7, ground := Go.Ground.data }], guard := none }) rfl (fun K5 hK5 => ?_) (AllReadyH.cons (o := { dst := some 23, op := Go.Op.call { callee := Go.Callee.value (Go.Operand.func 21), args := #[Go.Operand.tmp 22], argTypes := #[45] }, type := 25, pos := "load.go:69", after := #[{ on := 9, ground := Go.Ground.data }], guard := none }) rfl (fun K5 hK5 => ?_) AllReadyH.nil)
      · rw [if_pos (by rfl)]
        refine wp_lookL (m := .tmp 17) (x := .tmp 20) rfl rfl rfl hM8 he ?_
        refine hK5.out _ _ hH (fun hH1 => ?_)
        clear hK5 K5
        try simp only [Act.put, List.setIfInBounds_toArray, List.set_cons_zero, List.set_cons_succ]
        refine wpAnyH_ready (rs := [10]) (by kernel_rfl) (by simp) ?_
        refine AllReadyH.cons (o := { dst := some 23, op := Go.Op.call { callee := Go.Callee.value (Go.Operand.func 21), args := #[Go.Operand.tmp 22], argTypes := #[45] }, type := 25, pos := "load.go:69", after := #[{ on := 9, ground := Go.Ground.data }], guard := none }) rfl (fun K5 hK5 => ?_) AllReadyH.nil
        go_simp
        refine (HC21.out _).mono ?_; rintro e w1 ⟨rfl, n1⟩
        refine hK5.out _ _ ⟨hH.1.trans n1, hH.2.1.new n1, (n1.cell (p := ⟨wr.heap.size, 0, none⟩) hH.2.1.2.1).trans hH.2.2⟩ (fun hH2 => ?_)
        clear hK5 K5
        try simp only [Act.put, List.setIfInBounds_toArray, List.set_cons_zero, List.set_cons_succ]
        refine wpAnyH_ready (rs := [11]) (by kernel_rfl) (by simp) ?_
        refine AllReadyH.cons (o := { dst := some 24, op := Go.Op.buildSlice 22 2 #[(0, Go.Operand.tmp 21), (1, Go.Operand.tmp 23)], type := 22, pos := "load.go:69", after := #[{ on := 8, ground := Go.Ground.data }, { on := 10, ground := Go.Ground.data }], guard := none }) rfl (fun K5 hK5 => ?_) AllReadyH.nil
        rw [if_pos (by rfl)]
        refine wp_build2 (x := .tmp 21) (y := .tmp 23) rfl rfl rfl ?_
        refine hK5.out _ _ ⟨hH2.1.alloc _, hH2.2.1.new ((New.refl _).alloc _), (World.cell?_alloc_lt _ _ _ hH2.2.1.2.1).trans hH2.2.2⟩ (fun hH3 => ?_)
        clear hK5 K5
        try simp only [Act.put, List.setIfInBounds_toArray, List.set_cons_zero, List.set_cons_succ]
        refine wpAnyH_ready (rs := [12]) (by kernel_rfl) (by simp) ?_
        refine AllReadyH.cons (o := { dst := some 25, op := Go.Op.call { callee := Go.Callee.value (Go.Operand.func 7), args := #[Go.Operand.tmp 24], argTypes := #[22] }, type := 25, pos := "load.go:69", after := #[{ on := 11, ground := Go.Ground.data }, { on := 10, ground := Go.Ground.chain }], guard := none }) rfl (fun K5 hK5 => ?_) AllReadyH.nil
        go_simp
        refine (sum2_any _ _ lin8 lin1 (by omega) (by decide) w1).mono ?_
        rintro e w2 ⟨rfl, n2⟩
        refine hK5.out _ _ ⟨hH2.1.trans n2, hH2.2.1.new n2, (n2.cell (p := ⟨wr.heap.size, 0, none⟩) hH2.2.1.2.1).trans hH2.2.2⟩ (fun hH4 => ?_)
        clear hK5 K5
        try simp only [Act.put, List.setIfInBounds_toArray, List.set_cons_zero, List.set_cons_succ]
        have BG2 := MapL.new (hM8.new n1) n2
        refine wpAnyH_ready (rs := [13]) (by kernel_rfl) (by simp) ?_
        refine AllReadyH.cons (o := { dst := none, op := Go.Op.mapUpdate 55 (Go.Operand.tmp 13) (Go.Operand.tmp 16) (Go.Operand.tmp 25), type := 0, pos := "load.go:69", after := #[{ on := 0, ground := Go.Ground.data }, { on := 3, ground := Go.Ground.data }, { on := 12, ground := Go.Ground.data }, { on := 12, ground := Go.Ground.chain }, { on := 0, ground := Go.Ground.phase }, { on := 1, ground := Go.Ground.phase }, { on := 2, ground := Go.Ground.phase }, { on := 3, ground := Go.Ground.phase }, { on := 4, ground := Go.Ground.phase }, { on := 5, ground := Go.Ground.phase }, { on := 6, ground := Go.Ground.phase }, { on := 7, ground := Go.Ground.phase }, { on := 8, ground := Go.Ground.phase }, { on := 9, ground := Go.Ground.phase }, { on := 10, ground := Go.Ground.phase }, { on := 11, ground := Go.Ground.phase }, { on := 12, ground := Go.Ground.phase }], guard := none }) rfl (fun K5 hK5 => ?_) AllReadyH.nil
        rw [if_pos (by rfl)]
        refine wp_putL (m := .tmp 13) (x := .tmp 16) (y := .tmp 25) rfl rfl rfl rfl BG2 he (by unfold maxLen; omega) HPOS.out (fun w3 M3 g3 => ?_)
        have O3 : OpAt w3 ⟨wr.heap.size, 0, none⟩ oo := hH4.2.1.grown g3 (by dsimp only; omega)
        have C3 : w3.cell? ⟨wr.heap.size, 0, none⟩ = some (.int .i64 (z k).who) := by have := hH4.2.2; unfold World.cell? at this ⊢; rw [g3.block _ hH4.2.1.2.1 (by simp; omega)]; exact this
        refine hK5.out _ _ ⟨hH4.1.grown g3 (fun k hk => by cases hk; exact Nat.le_refl _), O3, C3⟩ (fun hH5 => ?_)
        clear hK5 K5
        try simp only [Act.put, List.setIfInBounds_toArray, List.set_cons_zero, List.set_cons_succ]
        refine wpAnyH_done (by kernel_rfl) ?_ _
        have HF := Lib.hid (⟨hH5.1, M3⟩ : _ ∧ _)
        clear hH5 M3 BG2 hH4 hH3 g3 O3 C3
        go_wp2_with fail
        go_roundg (gk - 1)
        case rel =>
          obtain ⟨h1, h3⟩ := HF.out
          exact ⟨k + 1, by omega, by go_num, h1, by rw [HS1.out.1, HS1.out.2]; exact h3⟩
        case measure => omega
      · go_simp
        refine (HC21.out _).mono ?_; rintro e w1 ⟨rfl, n1⟩
        refine hK5.out _ _ ⟨hH.1.trans n1, hH.2.1.new n1, (n1.cell (p := ⟨wr.heap.size, 0, none⟩) hH.2.1.2.1).trans hH.2.2⟩ (fun hH2 => ?_)
        clear hK5 K5
        try simp only [Act.put, List.setIfInBounds_toArray, List.set_cons_zero, List.set_cons_succ]
        refine wpAnyH_ready (rs := [8]) (by kernel_rfl) (by simp) ?_
        refine AllReadyH.cons (o := { dst := some 21, op := Go.Op.lookup 55 (Go.Operand.tmp 17) (Go.Operand.tmp 20) false, type := 25, pos := "load.go:69", after := #[{ on := 4, ground := Go.Ground.data }, { on := 7, ground := Go.Ground.data }], guard := none }) rfl (fun K5 hK5 => ?_) AllReadyH.nil
        rw [if_pos (by rfl)]
        refine wp_lookL (m := .tmp 17) (x := .tmp 20) rfl rfl rfl (hM8.new n1) he ?_
        refine hK5.out _ _ hH2 (fun hH2b => ?_)
        clear hK5 K5
        try simp only [Act.put, List.setIfInBounds_toArray, List.set_cons_zero, List.set_cons_succ]
        refine wpAnyH_ready (rs := [11]) (by kernel_rfl) (by simp) ?_
        refine AllReadyH.cons (o := { dst := some 24, op := Go.Op.buildSlice 22 2 #[(0, Go.Operand.tmp 21), (1, Go.Operand.tmp 23)], type := 22, pos := "load.go:69", after := #[{ on := 8, ground := Go.Ground.data }, { on := 10, ground := Go.Ground.data }], guard := none }) rfl (fun K5 hK5 => ?_) AllReadyH.nil
        rw [if_pos (by rfl)]
        refine wp_build2 (x := .tmp 21) (y := .tmp 23) rfl rfl rfl ?_
        refine hK5.out _ _ ⟨hH2.1.alloc _, hH2.2.1.new ((New.refl _).alloc _), (World.cell?_alloc_lt _ _ _ hH2.2.1.2.1).trans hH2.2.2⟩ (fun hH3 => ?_)
        clear hK5 K5
        try simp only [Act.put, List.setIfInBounds_toArray, List.set_cons_zero, List.set_cons_succ]
        refine wpAnyH_ready (rs := [12]) (by kernel_rfl) (by simp) ?_
        refine AllReadyH.cons (o := { dst := some 25, op := Go.Op.call { callee := Go.Callee.value (Go.Operand.func 7), args := #[Go.Operand.tmp 24], argTypes := #[22] }, type := 25, pos := "load.go:69", after := #[{ on := 11, ground := Go.Ground.data }, { on := 10, ground := Go.Ground.chain }], guard := none }) rfl (fun K5 hK5 => ?_) AllReadyH.nil
        go_simp
        refine (sum2_any _ _ lin8 lin1 (by omega) (by decide) w1).mono ?_
        rintro e w2 ⟨rfl, n2⟩
        refine hK5.out _ _ ⟨hH2.1.trans n2, hH2.2.1.new n2, (n2.cell (p := ⟨wr.heap.size, 0, none⟩) hH2.2.1.2.1).trans hH2.2.2⟩ (fun hH4 => ?_)
        clear hK5 K5
        try simp only [Act.put, List.setIfInBounds_toArray, List.set_cons_zero, List.set_cons_succ]
        have BG2 := MapL.new (hM8.new n1) n2
        refine wpAnyH_ready (rs := [13]) (by kernel_rfl) (by simp) ?_
        refine AllReadyH.cons (o := { dst := none, op := Go.Op.mapUpdate 55 (Go.Operand.tmp 13) (Go.Operand.tmp 16) (Go.Operand.tmp 25), type := 0, pos := "load.go:69", after := #[{ on := 0, ground := Go.Ground.data }, { on := 3, ground := Go.Ground.data }, { on := 12, ground := Go.Ground.data }, { on := 12, ground := Go.Ground.chain }, { on := 0, ground := Go.Ground.phase }, { on := 1, ground := Go.Ground.phase }, { on := 2, ground := Go.Ground.phase }, { on := 3, ground := Go.Ground.phase }, { on := 4, ground := Go.Ground.phase }, { on := 5, ground := Go.Ground.phase }, { on := 6, ground := Go.Ground.phase }, { on := 7, ground := Go.Ground.phase }, { on := 8, ground := Go.Ground.phase }, { on := 9, ground := Go.Ground.phase }, { on := 10, ground := Go.Ground.phase }, { on := 11, ground := Go.Ground.phase }, { on := 12, ground := Go.Ground.phase }], guard := none }) rfl (fun K5 hK5 => ?_) AllReadyH.nil
        rw [if_pos (by rfl)]
        refine wp_putL (m := .tmp 13) (x := .tmp 16) (y := .tmp 25) rfl rfl rfl rfl BG2 he (by unfold maxLen; omega) HPOS.out (fun w3 M3 g3 => ?_)
        have O3 : OpAt w3 ⟨wr.heap.size, 0, none⟩ oo := hH4.2.1.grown g3 (by dsimp only; omega)
        have C3 : w3.cell? ⟨wr.heap.size, 0, none⟩ = some (.int .i64 (z k).who) := by have := hH4.2.2; unfold World.cell? at this ⊢; rw [g3.block _ hH4.2.1.2.1 (by simp; omega)]; exact this
        refine hK5.out _ _ ⟨hH4.1.grown g3 (fun k hk => by cases hk; exact Nat.le_refl _), O3, C3⟩ (fun hH5 => ?_)
        clear hK5 K5
        try simp only [Act.put, List.setIfInBounds_toArray, List.set_cons_zero, List.set_cons_succ]
        refine wpAnyH_done (by kernel_rfl) ?_ _
        have HF := Lib.hid (⟨hH5.1, M3⟩ : _ ∧ _)
        clear hH5 M3 BG2 hH4 hH3 g3 O3 C3
        go_wp2_with fail
        go_roundg (gk - 1)
        case rel =>
          obtain ⟨h1, h3⟩ := HF.out
          exact ⟨k + 1, by omega, by go_num, h1, by rw [HS1.out.1, HS1.out.2]; exact h3⟩
        case measure => omega
    · have hke : k = n := by omega
      subst hke
      clear hL
      have HM := Lib.hid hM
      clear hM
      go_wp2_with fail
      go_ret
      exact ⟨_, rfl, HM.out, nw⟩
end Go.Proofs.Ytplejooihfhpdaa
