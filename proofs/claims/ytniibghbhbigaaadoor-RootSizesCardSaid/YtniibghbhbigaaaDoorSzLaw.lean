/- RootSizes, the walk. -/
import Derived.Test.YtniibghbhbigaaaDoorSizes
import Derived.Test.YtniibghbhbigaaaDoorRoot
import Derived.BigQuiet
import Derived.Deep.QuietTactic
import Derived.Deep.LoopGhost
import Derived.Deep.RegionHeld3
namespace Go.Proofs.YtniibghbhbigaaaDoor
open Go.RowKit
set_option linter.unusedVariables false

/-- a slice of the sizes up to m -/
def RowSz (w : World) (A : Option Addr) (n m : Nat) : Prop := 0 < n → ∃ g, A = some ⟨g, 0, none⟩ ∧ g < w.heap.size ∧ ∀ j, j < n → w.cell? ⟨g, j, none⟩ = some (.int .i64 (sz m j : Nat))
theorem RowSz.new {w w' : World} {A : Option Addr} {n m : Nat} (h : RowSz w A n m) (hn : New w w') : RowSz w' A n m := fun h0 => by
  obtain ⟨g, e, h1, h2⟩ := h h0
  exact ⟨g, e, Nat.lt_of_lt_of_le h1 hn.lt, fun j hj => (hn.cell h1).trans (h2 j hj)⟩
def SizesOf (m : Nat) (w : World) (e : Ending) (w' : World) : Prop := ∃ A cap, e = .returned (.slice A (szs m).length cap) ∧ RowSz w' A (szs m).length m ∧ New w w'
theorem sizes_any (a : Int) (m : Nat) (hM : (min a 16777216).toNat = m) (w : World) (hT : Table w) : Calls Tryd.prog 9 #[.int .i64 a] w (SizesOf m w) := by
  have hm : m ≤ 16777216 := by omega
  have hw : 0 < w.heap.size := block_lt_of_cell hT.1
  refine (callsIn_wide (n := 3)).1 ((sizes_in 3 (Nat.le_refl _) a _ rfl m hM hm w hT hw).mono ?_)
  rintro e w' ⟨v, rfl, ho, hb⟩
  obtain ⟨A, cap, rfl, h2, h3⟩ := own_slice ho
  rw [sizesI_len] at h3 ⊢
  refine ⟨A, cap, rfl, fun h0 => ?_, hb⟩
  obtain ⟨g, e2, _, h5, h6⟩ := h3 h0
  refine ⟨g, e2, h5, fun j hj => ?_⟩
  rw [h6 j (by omega), List.getElem?_map, List.getElem?_eq_getElem (by rw [sizesI_len]; exact hj)]
  have := (sz_at hm hj).1
  rw [getD_at (by rw [sizesI_len]; exact hj)] at this
  rw [this]
  rfl
theorem szs_pos {m : Nat} (h1 : 1 ≤ m) (hm : m ≤ 16777216) : 0 < (szs m).length := by
  have : 1 ∈ szs m := by
    rw [szs_filter hm]
    exact List.mem_filter.2 ⟨one_in, by simpa using h1⟩
  exact List.length_pos_of_mem this
theorem cntH_le : ∀ n, cntH n ≤ n
  | 0 => Nat.le_refl _
  | n + 1 => by have := cntH_le n; unfold cntH; split <;> omega
theorem hasB_yes {n : Nat} (h1 : 1 ≤ n) (h2 : n ≤ 16777216) (h3 : PM % n = 0) : hasB n = true := by rw [hasB_in h1 h2, h3]; rfl
theorem is_one (w : World) : Calls Tryd.prog 11 #[.int .i64 1] w fun e w' => e = .returned (.bool true) ∧ w = w' := by
  go_enter Tryd.func11, Tryd.ntmps11
  go_wp2
  go_ret
  exact ⟨rfl, rfl⟩
set_option maxRecDepth 100000 in
set_option maxHeartbeats 400000 in
theorem sizes_walk (a : Int) (ha : (Lit.int .i64 a).wf = true) (w : World) (hT : Table w) : Calls Tryd.prog 4 #[.int .i64 a] w fun e w' => e = .returned (.bool true) ∧ New w w' := by
  obtain ⟨m, hM⟩ : ∃ m, (min a 16777216).toNat = m := ⟨_, rfl⟩
  have hm : m ≤ 16777216 := by omega
  have HS := Lib.hid (sizes_any a m hM w hT)
  have HL := Lib.hid live_any
  have HI := Lib.hid is_one
  have hlen := szs_len hm
  have HB : -9223372036854775808 ≤ a ∧ a ≤ 9223372036854775807 := by
    simp [Lit.wf, IntKind.min, IntKind.max, IntKind.signed, IntKind.bits] at ha
    omega
  have HF := Lib.hid (fun k (h : k < (szs m).length) => (show (1 ≤ sz m k ∧ sz m k ≤ m ∧ PM % sz m k = 0) ∧ ∀ j, k = j + 1 → sz m j < sz m (j + 1) from ⟨(sz_at hm h).2, fun j e => by subst e; exact sz_lt (i := j) hm h⟩))
  have HZ := Lib.hid (⟨hM, hm, HB, hlen⟩ : _ ∧ _ ∧ _ ∧ _)
  unfold SizesOf at HS
  obtain ⟨L, hL⟩ : ∃ L, L = (szs m).length := ⟨_, rfl⟩
  rw [← hL] at HS HF hlen
  have HLL := Lib.hid hL
  clear ha hT hL hM hm
  go_enter Tryd.func4, Tryd.ntmps4
  go_wp2_with (first | (go_at_call 9; refine HS.out.mono ?_; rintro e w1 ⟨A, cap, rfl, R1, n1⟩))
  go_loopg [4] L (fun g i wr => ∃ k : Nat, k + g = L ∧ i = .int .i64 k ∧ New w wr ∧ RowSz wr A L m)
  case atStart => exact ⟨0, by omega, rfl, n1, R1⟩
  case round =>
    obtain ⟨k, hk, rfl, nw, hR⟩ := hrel
    by_cases hlt : k < L
    · obtain ⟨g, rfl, hg, hc⟩ := hR (by omega)
      obtain ⟨⟨s1, s2, s3⟩, s4⟩ := HF.out k hlt
      have ck := hc k hlt
      have HRk := Lib.hid (fun w => (show Calls Tryd.prog 10 #[.int .i64 (sz m k : Nat)] w fun e w' => e = .returned (.bool true) ∧ w = w' by have := refhas_any (sz m k : Nat) w; rwa [hasB_yes s1 (by have := HZ.out.2.1; omega) s3] at this))
      have hle : (sz m k : Int) ≤ a := by have := HZ.out.1; omega
      have hlt' : (k : Int) < (L : Int) := by omega
      have HK := Lib.hid hR
      by_cases h0 : k = 0
      · subst h0
        clear hR hc s1 s2 s3 s4 HF
        generalize hs : sz m 0 = s at *
        have tg : decide (a < (s : Int)) = false := by simpa using hle
        go_wp2
        refine wp_region_held_drew (S := (fun w' => New w w' ∧ w'.cell? ⟨g, 0, none⟩ = some (.int .i64 (s : Nat)))) (by kernel_rfl) ⟨nw.drew, ck⟩ (fun hH => ?_)
        refine wpAnyH_take (i := 0) (oi := { dst := some 15, op := Go.Op.move (Go.Operand.tmp 3), type := 30, pos := "law.go:66", after := #[], guard := none }) (v := ?_) rfl (by kernel_rfl) (by kernel_rfl) (by kernel_rfl) (fun _ _ _ h => h) (Or.inl ⟨by rfl, ?_⟩) hH ?_
        rotate_left; (intro w5 hS5; go_simp; try rfl)
        try simp only [Act.put, List.setIfInBounds_toArray, List.set_cons_zero, List.set_cons_succ]
        refine wpAnyH_take (i := 1) (oi := { dst := some 16, op := Go.Op.move (Go.Operand.tmp 4), type := 3, pos := "law.go:66", after := #[], guard := none }) (v := ?_) rfl (by kernel_rfl) (by kernel_rfl) (by kernel_rfl) (fun _ _ _ h => h) (Or.inl ⟨by rfl, ?_⟩) hH ?_
        rotate_left; (intro w5 hS5; go_simp; try rfl)
        try simp only [Act.put, List.setIfInBounds_toArray, List.set_cons_zero, List.set_cons_succ]
        refine wpAnyH_take (i := 2) (oi := { dst := some 17, op := Go.Op.indexAddr 30 (Go.Operand.tmp 15) (Go.Operand.tmp 16), type := 0, pos := "law.go:66", after := #[{ on := 0, ground := Go.Ground.data }, { on := 1, ground := Go.Ground.data }], guard := none }) (v := ?_) rfl (by kernel_rfl) (by kernel_rfl) (by kernel_rfl) (fun _ _ _ h => h) (Or.inl ⟨by rfl, ?_⟩) hH ?_
        rotate_left; (intro w5 hS5; go_simp; try rfl)
        try simp only [Act.put, List.setIfInBounds_toArray, List.set_cons_zero, List.set_cons_succ]
        refine wpAnyH_take (i := 3) (oi := { dst := some 18, op := Go.Op.load 3 (Go.Operand.tmp 17), type := 3, pos := "law.go:66", after := #[{ on := 2, ground := Go.Ground.data }], guard := none }) (v := ?_) rfl (by kernel_rfl) (by kernel_rfl) (by kernel_rfl) (fun _ _ _ h => h) (Or.inl ⟨by rfl, ?_⟩) hH ?_
        rotate_left; (intro w5 hS5; (obtain ⟨-, c5⟩ := hS5; go_simp; try rfl))
        try simp only [Act.put, List.setIfInBounds_toArray, List.set_cons_zero, List.set_cons_succ]
        refine wpAnyH_ready (rs := [4]) (by kernel_rfl) (by simp) ?_
        refine AllReadyH.cons (o := { dst := some 19, op := Go.Op.call { callee := Go.Callee.value (Go.Operand.func 10), args := #[Go.Operand.tmp 18], argTypes := #[3] }, type := 4, pos := "law.go:66", after := #[{ on := 3, ground := Go.Ground.data }], guard := none }) rfl (fun K5 hK5 => ?_) AllReadyH.nil
        go_simp
        refine (HRk.out _).mono ?_
        rintro e w5 ⟨rfl, rfl⟩
        refine hK5.out _ _ hH (fun hH2 => ?_)
        clear hK5 K5
        try simp only [Act.put, List.setIfInBounds_toArray, List.set_cons_zero, List.set_cons_succ]
        refine wpAnyH_take (i := 5) (oi := { dst := some 20, op := Go.Op.unOp Go.UnOp.not 4 (Go.Operand.tmp 19), type := 4, pos := "law.go:66", after := #[{ on := 4, ground := Go.Ground.data }], guard := none }) (v := ?_) rfl (by kernel_rfl) (by kernel_rfl) (by kernel_rfl) (fun _ _ _ h => h) (Or.inl ⟨by rfl, ?_⟩) hH2 ?_
        rotate_left; (intro w5 hS5; go_simp; try rfl)
        try simp only [Act.put, List.setIfInBounds_toArray, List.set_cons_zero, List.set_cons_succ]
        refine wpAnyH_take (i := 6) (oi := { dst := some 21, op := Go.Op.move (Go.Operand.tmp 20), type := 4, pos := "law.go:66", after := #[{ on := 5, ground := Go.Ground.data }, { on := 4, ground := Go.Ground.chain }], guard := none }) (v := ?_) rfl (by kernel_rfl) (by kernel_rfl) (by kernel_rfl) (fun _ _ _ h => h) (Or.inl ⟨by rfl, ?_⟩) hH2 ?_
        rotate_left; (intro w5 hS5; go_simp; try rfl)
        try simp only [Act.put, List.setIfInBounds_toArray, List.set_cons_zero, List.set_cons_succ]
        refine wpAnyH_take (i := 7) (oi := { dst := some 22, op := Go.Op.move (Go.Operand.tmp 3), type := 30, pos := "law.go:66", after := #[{ on := 6, ground := Go.Ground.guard }], guard := some (6, false) }) (v := ?_) rfl (by kernel_rfl) (by kernel_rfl) (by kernel_rfl) (fun _ _ _ h => h) (Or.inl ⟨by rfl, ?_⟩) hH2 ?_
        rotate_left; (intro w5 hS5; go_simp; try rfl)
        try simp only [Act.put, List.setIfInBounds_toArray, List.set_cons_zero, List.set_cons_succ]
        refine wpAnyH_take (i := 8) (oi := { dst := some 23, op := Go.Op.move (Go.Operand.tmp 4), type := 3, pos := "law.go:66", after := #[{ on := 6, ground := Go.Ground.guard }], guard := some (6, false) }) (v := ?_) rfl (by kernel_rfl) (by kernel_rfl) (by kernel_rfl) (fun _ _ _ h => h) (Or.inl ⟨by rfl, ?_⟩) hH2 ?_
        rotate_left; (intro w5 hS5; go_simp; try rfl)
        try simp only [Act.put, List.setIfInBounds_toArray, List.set_cons_zero, List.set_cons_succ]
        refine wpAnyH_take (i := 9) (oi := { dst := some 24, op := Go.Op.indexAddr 30 (Go.Operand.tmp 22) (Go.Operand.tmp 23), type := 0, pos := "law.go:66", after := #[{ on := 7, ground := Go.Ground.data }, { on := 8, ground := Go.Ground.data }, { on := 6, ground := Go.Ground.guard }], guard := some (6, false) }) (v := ?_) rfl (by kernel_rfl) (by kernel_rfl) (by kernel_rfl) (fun _ _ _ h => h) (Or.inl ⟨by rfl, ?_⟩) hH2 ?_
        rotate_left; (intro w5 hS5; go_simp; try rfl)
        try simp only [Act.put, List.setIfInBounds_toArray, List.set_cons_zero, List.set_cons_succ]
        refine wpAnyH_take (i := 10) (oi := { dst := some 25, op := Go.Op.load 3 (Go.Operand.tmp 24), type := 3, pos := "law.go:66", after := #[{ on := 9, ground := Go.Ground.data }, { on := 6, ground := Go.Ground.guard }], guard := some (6, false) }) (v := ?_) rfl (by kernel_rfl) (by kernel_rfl) (by kernel_rfl) (fun _ _ _ h => h) (Or.inl ⟨by rfl, ?_⟩) hH2 ?_
        rotate_left; (intro w5 hS5; (obtain ⟨-, c5⟩ := hS5; go_simp; try rfl))
        try simp only [Act.put, List.setIfInBounds_toArray, List.set_cons_zero, List.set_cons_succ]
        refine wpAnyH_take (i := 11) (oi := { dst := some 26, op := Go.Op.move (Go.Operand.tmp 0), type := 3, pos := "law.go:66", after := #[{ on := 6, ground := Go.Ground.guard }], guard := some (6, false) }) (v := ?_) rfl (by kernel_rfl) (by kernel_rfl) (by kernel_rfl) (fun _ _ _ h => h) (Or.inl ⟨by rfl, ?_⟩) hH2 ?_
        rotate_left; (intro w5 hS5; go_simp; try rfl)
        try simp only [Act.put, List.setIfInBounds_toArray, List.set_cons_zero, List.set_cons_succ]
        refine wpAnyH_take (i := 12) (oi := { dst := some 27, op := Go.Op.binOp Go.BinOp.gtr 3 (Go.Operand.tmp 25) (Go.Operand.tmp 26) 3, type := 4, pos := "law.go:66", after := #[{ on := 10, ground := Go.Ground.data }, { on := 11, ground := Go.Ground.data }, { on := 6, ground := Go.Ground.guard }], guard := some (6, false) }) (v := ?_) rfl (by kernel_rfl) (by kernel_rfl) (by kernel_rfl) (fun _ _ _ h => h) (Or.inl ⟨by rfl, ?_⟩) hH2 ?_
        rotate_left; (intro w5 hS5; go_simp; try rfl)
        try simp only [Act.put, List.setIfInBounds_toArray, List.set_cons_zero, List.set_cons_succ]
        refine wpAnyH_take (i := 13) (oi := { dst := some 28, op := Go.Op.pick (Go.Operand.tmp 21) (Go.Operand.const (Go.Value.bool true)) (Go.Operand.tmp 27), type := 4, pos := "law.go:66", after := #[{ on := 6, ground := Go.Ground.data }, { on := 12, ground := Go.Ground.data }], guard := none }) (v := ?_) rfl (by kernel_rfl) (by kernel_rfl) (by kernel_rfl) (fun _ _ _ h => h) (Or.inl ⟨by rfl, ?_⟩) hH2 ?_
        rotate_left; (intro w5 hS5; go_simp; try rfl)
        try simp only [Act.put, List.setIfInBounds_toArray, List.set_cons_zero, List.set_cons_succ]
        refine wpAnyH_take (i := 14) (oi := { dst := some 29, op := Go.Op.move (Go.Operand.tmp 28), type := 4, pos := "law.go:66", after := #[{ on := 13, ground := Go.Ground.data }, { on := 6, ground := Go.Ground.chain }], guard := none }) (v := ?_) rfl (by kernel_rfl) (by kernel_rfl) (by kernel_rfl) (fun _ _ _ h => h) (Or.inl ⟨by rfl, ?_⟩) hH2 ?_
        rotate_left; (intro w5 hS5; go_simp; try rfl)
        try simp only [Act.put, List.setIfInBounds_toArray, List.set_cons_zero, List.set_cons_succ]
        refine wpAnyH_take (i := 15) (oi := { dst := some 30, op := Go.Op.move (Go.Operand.tmp 4), type := 3, pos := "law.go:66", after := #[{ on := 14, ground := Go.Ground.guard }], guard := some (14, false) }) (v := ?_) rfl (by kernel_rfl) (by kernel_rfl) (by kernel_rfl) (fun _ _ _ h => h) (Or.inl ⟨by rfl, ?_⟩) hH2 ?_
        rotate_left; (intro w5 hS5; go_simp; try rfl)
        try simp only [Act.put, List.setIfInBounds_toArray, List.set_cons_zero, List.set_cons_succ]
        refine wpAnyH_take (i := 16) (oi := { dst := some 31, op := Go.Op.binOp Go.BinOp.gtr 3 (Go.Operand.tmp 30) (Go.Operand.const (Go.Value.int Go.IntKind.i64 0)) 3, type := 4, pos := "law.go:66", after := #[{ on := 15, ground := Go.Ground.data }, { on := 14, ground := Go.Ground.guard }], guard := some (14, false) }) (v := ?_) rfl (by kernel_rfl) (by kernel_rfl) (by kernel_rfl) (fun _ _ _ h => h) (Or.inl ⟨by rfl, ?_⟩) hH2 ?_
        rotate_left; (intro w5 hS5; go_simp; try rfl)
        try simp only [Act.put, List.setIfInBounds_toArray, List.set_cons_zero, List.set_cons_succ]
        refine wpAnyH_take (i := 17) (oi := { dst := some 32, op := Go.Op.move (Go.Operand.tmp 31), type := 4, pos := "law.go:66", after := #[{ on := 16, ground := Go.Ground.data }, { on := 14, ground := Go.Ground.chain }, { on := 14, ground := Go.Ground.guard }], guard := some (14, false) }) (v := ?_) rfl (by kernel_rfl) (by kernel_rfl) (by kernel_rfl) (fun _ _ _ h => h) (Or.inl ⟨by rfl, ?_⟩) hH2 ?_
        rotate_left; (intro w5 hS5; go_simp; try rfl)
        try simp only [Act.put, List.setIfInBounds_toArray, List.set_cons_zero, List.set_cons_succ]
        refine wpAnyH_take (i := 18) (oi := { dst := some 33, op := Go.Op.move (Go.Operand.tmp 3), type := 30, pos := "law.go:66", after := #[{ on := 17, ground := Go.Ground.guard }], guard := some (17, true) }) (v := undef) rfl (by kernel_rfl) (by kernel_rfl) (by kernel_rfl) (fun _ _ _ h => h) (Or.inr ⟨by rfl, rfl⟩) hH2 ?_
        try simp only [Act.put, List.setIfInBounds_toArray, List.set_cons_zero, List.set_cons_succ]
        refine wpAnyH_take (i := 19) (oi := { dst := some 34, op := Go.Op.move (Go.Operand.tmp 4), type := 3, pos := "law.go:66", after := #[{ on := 17, ground := Go.Ground.guard }], guard := some (17, true) }) (v := undef) rfl (by kernel_rfl) (by kernel_rfl) (by kernel_rfl) (fun _ _ _ h => h) (Or.inr ⟨by rfl, rfl⟩) hH2 ?_
        try simp only [Act.put, List.setIfInBounds_toArray, List.set_cons_zero, List.set_cons_succ]
        refine wpAnyH_take (i := 20) (oi := { dst := some 35, op := Go.Op.indexAddr 30 (Go.Operand.tmp 33) (Go.Operand.tmp 34), type := 0, pos := "law.go:66", after := #[{ on := 18, ground := Go.Ground.data }, { on := 19, ground := Go.Ground.data }, { on := 17, ground := Go.Ground.guard }], guard := some (17, true) }) (v := undef) rfl (by kernel_rfl) (by kernel_rfl) (by kernel_rfl) (fun _ _ _ h => h) (Or.inr ⟨by rfl, rfl⟩) hH2 ?_
        try simp only [Act.put, List.setIfInBounds_toArray, List.set_cons_zero, List.set_cons_succ]
        refine wpAnyH_take (i := 21) (oi := { dst := some 36, op := Go.Op.load 3 (Go.Operand.tmp 35), type := 3, pos := "law.go:66", after := #[{ on := 20, ground := Go.Ground.data }, { on := 17, ground := Go.Ground.guard }], guard := some (17, true) }) (v := undef) rfl (by kernel_rfl) (by kernel_rfl) (by kernel_rfl) (fun _ _ _ h => h) (Or.inr ⟨by rfl, rfl⟩) hH2 ?_
        try simp only [Act.put, List.setIfInBounds_toArray, List.set_cons_zero, List.set_cons_succ]
        refine wpAnyH_take (i := 22) (oi := { dst := some 37, op := Go.Op.move (Go.Operand.tmp 3), type := 30, pos := "law.go:66", after := #[{ on := 17, ground := Go.Ground.guard }], guard := some (17, true) }) (v := undef) rfl (by kernel_rfl) (by kernel_rfl) (by kernel_rfl) (fun _ _ _ h => h) (Or.inr ⟨by rfl, rfl⟩) hH2 ?_
        try simp only [Act.put, List.setIfInBounds_toArray, List.set_cons_zero, List.set_cons_succ]
        refine wpAnyH_take (i := 23) (oi := { dst := some 38, op := Go.Op.move (Go.Operand.tmp 4), type := 3, pos := "law.go:66", after := #[{ on := 17, ground := Go.Ground.guard }], guard := some (17, true) }) (v := undef) rfl (by kernel_rfl) (by kernel_rfl) (by kernel_rfl) (fun _ _ _ h => h) (Or.inr ⟨by rfl, rfl⟩) hH2 ?_
        try simp only [Act.put, List.setIfInBounds_toArray, List.set_cons_zero, List.set_cons_succ]
        refine wpAnyH_take (i := 24) (oi := { dst := some 39, op := Go.Op.binOp Go.BinOp.sub 3 (Go.Operand.tmp 38) (Go.Operand.const (Go.Value.int Go.IntKind.i64 1)) 3, type := 3, pos := "law.go:66", after := #[{ on := 23, ground := Go.Ground.data }, { on := 17, ground := Go.Ground.guard }], guard := some (17, true) }) (v := undef) rfl (by kernel_rfl) (by kernel_rfl) (by kernel_rfl) (fun _ _ _ h => h) (Or.inr ⟨by rfl, rfl⟩) hH2 ?_
        try simp only [Act.put, List.setIfInBounds_toArray, List.set_cons_zero, List.set_cons_succ]
        refine wpAnyH_take (i := 25) (oi := { dst := some 40, op := Go.Op.indexAddr 30 (Go.Operand.tmp 37) (Go.Operand.tmp 39), type := 0, pos := "law.go:66", after := #[{ on := 22, ground := Go.Ground.data }, { on := 24, ground := Go.Ground.data }, { on := 17, ground := Go.Ground.guard }], guard := some (17, true) }) (v := undef) rfl (by kernel_rfl) (by kernel_rfl) (by kernel_rfl) (fun _ _ _ h => h) (Or.inr ⟨by rfl, rfl⟩) hH2 ?_
        try simp only [Act.put, List.setIfInBounds_toArray, List.set_cons_zero, List.set_cons_succ]
        refine wpAnyH_take (i := 26) (oi := { dst := some 41, op := Go.Op.load 3 (Go.Operand.tmp 40), type := 3, pos := "law.go:66", after := #[{ on := 25, ground := Go.Ground.data }, { on := 17, ground := Go.Ground.guard }], guard := some (17, true) }) (v := undef) rfl (by kernel_rfl) (by kernel_rfl) (by kernel_rfl) (fun _ _ _ h => h) (Or.inr ⟨by rfl, rfl⟩) hH2 ?_
        try simp only [Act.put, List.setIfInBounds_toArray, List.set_cons_zero, List.set_cons_succ]
        refine wpAnyH_take (i := 27) (oi := { dst := some 42, op := Go.Op.binOp Go.BinOp.leq 3 (Go.Operand.tmp 36) (Go.Operand.tmp 41) 3, type := 4, pos := "law.go:66", after := #[{ on := 21, ground := Go.Ground.data }, { on := 26, ground := Go.Ground.data }, { on := 17, ground := Go.Ground.guard }], guard := some (17, true) }) (v := undef) rfl (by kernel_rfl) (by kernel_rfl) (by kernel_rfl) (fun _ _ _ h => h) (Or.inr ⟨by rfl, rfl⟩) hH2 ?_
        try simp only [Act.put, List.setIfInBounds_toArray, List.set_cons_zero, List.set_cons_succ]
        refine wpAnyH_take (i := 28) (oi := { dst := some 43, op := Go.Op.pick (Go.Operand.tmp 32) (Go.Operand.tmp 42) (Go.Operand.const (Go.Value.bool false)), type := 4, pos := "law.go:66", after := #[{ on := 17, ground := Go.Ground.data }, { on := 27, ground := Go.Ground.data }, { on := 14, ground := Go.Ground.guard }], guard := some (14, false) }) (v := ?_) rfl (by kernel_rfl) (by kernel_rfl) (by kernel_rfl) (fun _ _ _ h => h) (Or.inl ⟨by rfl, ?_⟩) hH2 ?_
        rotate_left; (intro w5 hS5; go_simp; try rfl)
        try simp only [Act.put, List.setIfInBounds_toArray, List.set_cons_zero, List.set_cons_succ]
        refine wpAnyH_take (i := 29) (oi := { dst := some 44, op := Go.Op.pick (Go.Operand.tmp 29) (Go.Operand.const (Go.Value.bool true)) (Go.Operand.tmp 43), type := 4, pos := "law.go:66", after := #[{ on := 14, ground := Go.Ground.data }, { on := 28, ground := Go.Ground.data }], guard := none }) (v := ?_) rfl (by kernel_rfl) (by kernel_rfl) (by kernel_rfl) (fun _ _ _ h => h) (Or.inl ⟨by rfl, ?_⟩) hH2 ?_
        rotate_left; (intro w5 hS5; go_simp; try rfl)
        try simp only [Act.put, List.setIfInBounds_toArray, List.set_cons_zero, List.set_cons_succ]
        refine wpAnyH_done (by kernel_rfl) ?_ _
        clear hH2
        have HN := Lib.hid (⟨hH.1, HK.out.new (New.refl _).drew⟩ : _ ∧ _)
        clear hH
        go_wp2
        go_roundg (gk - 1)
        case rel => exact ⟨1, by omega, by go_num, HN.out.1, HN.out.2⟩
        case measure => omega
      · obtain ⟨j, rfl⟩ : ∃ j, k = j + 1 := ⟨k - 1, by omega⟩
        have cj := hc j (by omega)
        have hls := s4 j rfl
        have hls' : ((sz m j : Nat) : Int) < ((sz m (j + 1) : Nat) : Int) := by omega
        clear hR hc s1 s2 s3 s4 hls h0 HF
        generalize sz m (j + 1) = s at *
        generalize sz m j = s' at *
        have tg : decide (a < (s : Int)) = false := by simpa using hle
        have tl : decide ((s : Int) ≤ (s' : Int)) = false := by simpa using hls'
        have tj : decide ((0 : Int) < (j : Int) + 1) = true := by simp
        have hjL : (j : Int) < (L : Int) := by omega
        have hwj : IntKind.i64.wrap (j : Int) = (j : Int) := by rw [IntKind.wrap_i64]; omega
        go_wp2
        refine wp_region_held_drew (S := (fun w' => New w w' ∧ w'.cell? ⟨g, j + 1, none⟩ = some (.int .i64 (s : Nat)) ∧ w'.cell? ⟨g, j, none⟩ = some (.int .i64 (s' : Nat)))) (by kernel_rfl) ⟨nw.drew, ck, cj⟩ (fun hH => ?_)
        refine wpAnyH_take (i := 0) (oi := { dst := some 15, op := Go.Op.move (Go.Operand.tmp 3), type := 30, pos := "law.go:66", after := #[], guard := none }) (v := ?_) rfl (by kernel_rfl) (by kernel_rfl) (by kernel_rfl) (fun _ _ _ h => h) (Or.inl ⟨by rfl, ?_⟩) hH ?_
        rotate_left; (intro w5 hS5; go_simp; try rfl)
        try simp only [Act.put, List.setIfInBounds_toArray, List.set_cons_zero, List.set_cons_succ]
        refine wpAnyH_take (i := 1) (oi := { dst := some 16, op := Go.Op.move (Go.Operand.tmp 4), type := 3, pos := "law.go:66", after := #[], guard := none }) (v := ?_) rfl (by kernel_rfl) (by kernel_rfl) (by kernel_rfl) (fun _ _ _ h => h) (Or.inl ⟨by rfl, ?_⟩) hH ?_
        rotate_left; (intro w5 hS5; go_simp; try rfl)
        try simp only [Act.put, List.setIfInBounds_toArray, List.set_cons_zero, List.set_cons_succ]
        refine wpAnyH_take (i := 2) (oi := { dst := some 17, op := Go.Op.indexAddr 30 (Go.Operand.tmp 15) (Go.Operand.tmp 16), type := 0, pos := "law.go:66", after := #[{ on := 0, ground := Go.Ground.data }, { on := 1, ground := Go.Ground.data }], guard := none }) (v := ?_) rfl (by kernel_rfl) (by kernel_rfl) (by kernel_rfl) (fun _ _ _ h => h) (Or.inl ⟨by rfl, ?_⟩) hH ?_
        rotate_left; (intro w5 hS5; go_simp; try rfl)
        try simp only [Act.put, List.setIfInBounds_toArray, List.set_cons_zero, List.set_cons_succ]
        refine wpAnyH_take (i := 3) (oi := { dst := some 18, op := Go.Op.load 3 (Go.Operand.tmp 17), type := 3, pos := "law.go:66", after := #[{ on := 2, ground := Go.Ground.data }], guard := none }) (v := ?_) rfl (by kernel_rfl) (by kernel_rfl) (by kernel_rfl) (fun _ _ _ h => h) (Or.inl ⟨by rfl, ?_⟩) hH ?_
        rotate_left; (intro w5 hS5; (obtain ⟨-, c5, c6⟩ := hS5; go_simp; try rfl))
        try simp only [Act.put, List.setIfInBounds_toArray, List.set_cons_zero, List.set_cons_succ]
        refine wpAnyH_ready (rs := [4]) (by kernel_rfl) (by simp) ?_
        refine AllReadyH.cons (o := { dst := some 19, op := Go.Op.call { callee := Go.Callee.value (Go.Operand.func 10), args := #[Go.Operand.tmp 18], argTypes := #[3] }, type := 4, pos := "law.go:66", after := #[{ on := 3, ground := Go.Ground.data }], guard := none }) rfl (fun K5 hK5 => ?_) AllReadyH.nil
        go_simp
        refine (HRk.out _).mono ?_
        rintro e w5 ⟨rfl, rfl⟩
        refine hK5.out _ _ hH (fun hH2 => ?_)
        clear hK5 K5
        try simp only [Act.put, List.setIfInBounds_toArray, List.set_cons_zero, List.set_cons_succ]
        refine wpAnyH_take (i := 5) (oi := { dst := some 20, op := Go.Op.unOp Go.UnOp.not 4 (Go.Operand.tmp 19), type := 4, pos := "law.go:66", after := #[{ on := 4, ground := Go.Ground.data }], guard := none }) (v := ?_) rfl (by kernel_rfl) (by kernel_rfl) (by kernel_rfl) (fun _ _ _ h => h) (Or.inl ⟨by rfl, ?_⟩) hH2 ?_
        rotate_left; (intro w5 hS5; go_simp; try rfl)
        try simp only [Act.put, List.setIfInBounds_toArray, List.set_cons_zero, List.set_cons_succ]
        refine wpAnyH_take (i := 6) (oi := { dst := some 21, op := Go.Op.move (Go.Operand.tmp 20), type := 4, pos := "law.go:66", after := #[{ on := 5, ground := Go.Ground.data }, { on := 4, ground := Go.Ground.chain }], guard := none }) (v := ?_) rfl (by kernel_rfl) (by kernel_rfl) (by kernel_rfl) (fun _ _ _ h => h) (Or.inl ⟨by rfl, ?_⟩) hH2 ?_
        rotate_left; (intro w5 hS5; go_simp; try rfl)
        try simp only [Act.put, List.setIfInBounds_toArray, List.set_cons_zero, List.set_cons_succ]
        refine wpAnyH_take (i := 7) (oi := { dst := some 22, op := Go.Op.move (Go.Operand.tmp 3), type := 30, pos := "law.go:66", after := #[{ on := 6, ground := Go.Ground.guard }], guard := some (6, false) }) (v := ?_) rfl (by kernel_rfl) (by kernel_rfl) (by kernel_rfl) (fun _ _ _ h => h) (Or.inl ⟨by rfl, ?_⟩) hH2 ?_
        rotate_left; (intro w5 hS5; go_simp; try rfl)
        try simp only [Act.put, List.setIfInBounds_toArray, List.set_cons_zero, List.set_cons_succ]
        refine wpAnyH_take (i := 8) (oi := { dst := some 23, op := Go.Op.move (Go.Operand.tmp 4), type := 3, pos := "law.go:66", after := #[{ on := 6, ground := Go.Ground.guard }], guard := some (6, false) }) (v := ?_) rfl (by kernel_rfl) (by kernel_rfl) (by kernel_rfl) (fun _ _ _ h => h) (Or.inl ⟨by rfl, ?_⟩) hH2 ?_
        rotate_left; (intro w5 hS5; go_simp; try rfl)
        try simp only [Act.put, List.setIfInBounds_toArray, List.set_cons_zero, List.set_cons_succ]
        refine wpAnyH_take (i := 9) (oi := { dst := some 24, op := Go.Op.indexAddr 30 (Go.Operand.tmp 22) (Go.Operand.tmp 23), type := 0, pos := "law.go:66", after := #[{ on := 7, ground := Go.Ground.data }, { on := 8, ground := Go.Ground.data }, { on := 6, ground := Go.Ground.guard }], guard := some (6, false) }) (v := ?_) rfl (by kernel_rfl) (by kernel_rfl) (by kernel_rfl) (fun _ _ _ h => h) (Or.inl ⟨by rfl, ?_⟩) hH2 ?_
        rotate_left; (intro w5 hS5; go_simp; try rfl)
        try simp only [Act.put, List.setIfInBounds_toArray, List.set_cons_zero, List.set_cons_succ]
        refine wpAnyH_take (i := 10) (oi := { dst := some 25, op := Go.Op.load 3 (Go.Operand.tmp 24), type := 3, pos := "law.go:66", after := #[{ on := 9, ground := Go.Ground.data }, { on := 6, ground := Go.Ground.guard }], guard := some (6, false) }) (v := ?_) rfl (by kernel_rfl) (by kernel_rfl) (by kernel_rfl) (fun _ _ _ h => h) (Or.inl ⟨by rfl, ?_⟩) hH2 ?_
        rotate_left; (intro w5 hS5; (obtain ⟨-, c5, c6⟩ := hS5; go_simp; try rfl))
        try simp only [Act.put, List.setIfInBounds_toArray, List.set_cons_zero, List.set_cons_succ]
        refine wpAnyH_take (i := 11) (oi := { dst := some 26, op := Go.Op.move (Go.Operand.tmp 0), type := 3, pos := "law.go:66", after := #[{ on := 6, ground := Go.Ground.guard }], guard := some (6, false) }) (v := ?_) rfl (by kernel_rfl) (by kernel_rfl) (by kernel_rfl) (fun _ _ _ h => h) (Or.inl ⟨by rfl, ?_⟩) hH2 ?_
        rotate_left; (intro w5 hS5; go_simp; try rfl)
        try simp only [Act.put, List.setIfInBounds_toArray, List.set_cons_zero, List.set_cons_succ]
        refine wpAnyH_take (i := 12) (oi := { dst := some 27, op := Go.Op.binOp Go.BinOp.gtr 3 (Go.Operand.tmp 25) (Go.Operand.tmp 26) 3, type := 4, pos := "law.go:66", after := #[{ on := 10, ground := Go.Ground.data }, { on := 11, ground := Go.Ground.data }, { on := 6, ground := Go.Ground.guard }], guard := some (6, false) }) (v := ?_) rfl (by kernel_rfl) (by kernel_rfl) (by kernel_rfl) (fun _ _ _ h => h) (Or.inl ⟨by rfl, ?_⟩) hH2 ?_
        rotate_left; (intro w5 hS5; go_simp; try rfl)
        try simp only [Act.put, List.setIfInBounds_toArray, List.set_cons_zero, List.set_cons_succ]
        refine wpAnyH_take (i := 13) (oi := { dst := some 28, op := Go.Op.pick (Go.Operand.tmp 21) (Go.Operand.const (Go.Value.bool true)) (Go.Operand.tmp 27), type := 4, pos := "law.go:66", after := #[{ on := 6, ground := Go.Ground.data }, { on := 12, ground := Go.Ground.data }], guard := none }) (v := ?_) rfl (by kernel_rfl) (by kernel_rfl) (by kernel_rfl) (fun _ _ _ h => h) (Or.inl ⟨by rfl, ?_⟩) hH2 ?_
        rotate_left; (intro w5 hS5; go_simp; try rfl)
        try simp only [Act.put, List.setIfInBounds_toArray, List.set_cons_zero, List.set_cons_succ]
        refine wpAnyH_take (i := 14) (oi := { dst := some 29, op := Go.Op.move (Go.Operand.tmp 28), type := 4, pos := "law.go:66", after := #[{ on := 13, ground := Go.Ground.data }, { on := 6, ground := Go.Ground.chain }], guard := none }) (v := ?_) rfl (by kernel_rfl) (by kernel_rfl) (by kernel_rfl) (fun _ _ _ h => h) (Or.inl ⟨by rfl, ?_⟩) hH2 ?_
        rotate_left; (intro w5 hS5; go_simp; try rfl)
        try simp only [Act.put, List.setIfInBounds_toArray, List.set_cons_zero, List.set_cons_succ]
        refine wpAnyH_take (i := 15) (oi := { dst := some 30, op := Go.Op.move (Go.Operand.tmp 4), type := 3, pos := "law.go:66", after := #[{ on := 14, ground := Go.Ground.guard }], guard := some (14, false) }) (v := ?_) rfl (by kernel_rfl) (by kernel_rfl) (by kernel_rfl) (fun _ _ _ h => h) (Or.inl ⟨by rfl, ?_⟩) hH2 ?_
        rotate_left; (intro w5 hS5; go_simp; try rfl)
        try simp only [Act.put, List.setIfInBounds_toArray, List.set_cons_zero, List.set_cons_succ]
        refine wpAnyH_take (i := 16) (oi := { dst := some 31, op := Go.Op.binOp Go.BinOp.gtr 3 (Go.Operand.tmp 30) (Go.Operand.const (Go.Value.int Go.IntKind.i64 0)) 3, type := 4, pos := "law.go:66", after := #[{ on := 15, ground := Go.Ground.data }, { on := 14, ground := Go.Ground.guard }], guard := some (14, false) }) (v := ?_) rfl (by kernel_rfl) (by kernel_rfl) (by kernel_rfl) (fun _ _ _ h => h) (Or.inl ⟨by rfl, ?_⟩) hH2 ?_
        rotate_left; (intro w5 hS5; go_simp; try rfl)
        try simp only [Act.put, List.setIfInBounds_toArray, List.set_cons_zero, List.set_cons_succ]
        refine wpAnyH_take (i := 17) (oi := { dst := some 32, op := Go.Op.move (Go.Operand.tmp 31), type := 4, pos := "law.go:66", after := #[{ on := 16, ground := Go.Ground.data }, { on := 14, ground := Go.Ground.chain }, { on := 14, ground := Go.Ground.guard }], guard := some (14, false) }) (v := ?_) rfl (by kernel_rfl) (by kernel_rfl) (by kernel_rfl) (fun _ _ _ h => h) (Or.inl ⟨by rfl, ?_⟩) hH2 ?_
        rotate_left; (intro w5 hS5; go_simp; try rfl)
        try simp only [Act.put, List.setIfInBounds_toArray, List.set_cons_zero, List.set_cons_succ]
        refine wpAnyH_take (i := 18) (oi := { dst := some 33, op := Go.Op.move (Go.Operand.tmp 3), type := 30, pos := "law.go:66", after := #[{ on := 17, ground := Go.Ground.guard }], guard := some (17, true) }) (v := ?_) rfl (by kernel_rfl) (by kernel_rfl) (by kernel_rfl) (fun _ _ _ h => h) (Or.inl ⟨by rfl, ?_⟩) hH2 ?_
        rotate_left; (intro w5 hS5; go_simp; try rfl)
        try simp only [Act.put, List.setIfInBounds_toArray, List.set_cons_zero, List.set_cons_succ]
        refine wpAnyH_take (i := 19) (oi := { dst := some 34, op := Go.Op.move (Go.Operand.tmp 4), type := 3, pos := "law.go:66", after := #[{ on := 17, ground := Go.Ground.guard }], guard := some (17, true) }) (v := ?_) rfl (by kernel_rfl) (by kernel_rfl) (by kernel_rfl) (fun _ _ _ h => h) (Or.inl ⟨by rfl, ?_⟩) hH2 ?_
        rotate_left; (intro w5 hS5; go_simp; try rfl)
        try simp only [Act.put, List.setIfInBounds_toArray, List.set_cons_zero, List.set_cons_succ]
        refine wpAnyH_take (i := 20) (oi := { dst := some 35, op := Go.Op.indexAddr 30 (Go.Operand.tmp 33) (Go.Operand.tmp 34), type := 0, pos := "law.go:66", after := #[{ on := 18, ground := Go.Ground.data }, { on := 19, ground := Go.Ground.data }, { on := 17, ground := Go.Ground.guard }], guard := some (17, true) }) (v := ?_) rfl (by kernel_rfl) (by kernel_rfl) (by kernel_rfl) (fun _ _ _ h => h) (Or.inl ⟨by rfl, ?_⟩) hH2 ?_
        rotate_left; (intro w5 hS5; go_simp; try rfl)
        try simp only [Act.put, List.setIfInBounds_toArray, List.set_cons_zero, List.set_cons_succ]
        refine wpAnyH_take (i := 21) (oi := { dst := some 36, op := Go.Op.load 3 (Go.Operand.tmp 35), type := 3, pos := "law.go:66", after := #[{ on := 20, ground := Go.Ground.data }, { on := 17, ground := Go.Ground.guard }], guard := some (17, true) }) (v := ?_) rfl (by kernel_rfl) (by kernel_rfl) (by kernel_rfl) (fun _ _ _ h => h) (Or.inl ⟨by rfl, ?_⟩) hH2 ?_
        rotate_left; (intro w5 hS5; (obtain ⟨-, c5, c6⟩ := hS5; go_simp; try rfl))
        try simp only [Act.put, List.setIfInBounds_toArray, List.set_cons_zero, List.set_cons_succ]
        refine wpAnyH_take (i := 22) (oi := { dst := some 37, op := Go.Op.move (Go.Operand.tmp 3), type := 30, pos := "law.go:66", after := #[{ on := 17, ground := Go.Ground.guard }], guard := some (17, true) }) (v := ?_) rfl (by kernel_rfl) (by kernel_rfl) (by kernel_rfl) (fun _ _ _ h => h) (Or.inl ⟨by rfl, ?_⟩) hH2 ?_
        rotate_left; (intro w5 hS5; go_simp; try rfl)
        try simp only [Act.put, List.setIfInBounds_toArray, List.set_cons_zero, List.set_cons_succ]
        refine wpAnyH_take (i := 23) (oi := { dst := some 38, op := Go.Op.move (Go.Operand.tmp 4), type := 3, pos := "law.go:66", after := #[{ on := 17, ground := Go.Ground.guard }], guard := some (17, true) }) (v := ?_) rfl (by kernel_rfl) (by kernel_rfl) (by kernel_rfl) (fun _ _ _ h => h) (Or.inl ⟨by rfl, ?_⟩) hH2 ?_
        rotate_left; (intro w5 hS5; go_simp; try rfl)
        try simp only [Act.put, List.setIfInBounds_toArray, List.set_cons_zero, List.set_cons_succ]
        refine wpAnyH_take (i := 24) (oi := { dst := some 39, op := Go.Op.binOp Go.BinOp.sub 3 (Go.Operand.tmp 38) (Go.Operand.const (Go.Value.int Go.IntKind.i64 1)) 3, type := 3, pos := "law.go:66", after := #[{ on := 23, ground := Go.Ground.data }, { on := 17, ground := Go.Ground.guard }], guard := some (17, true) }) (v := ?_) rfl (by kernel_rfl) (by kernel_rfl) (by kernel_rfl) (fun _ _ _ h => h) (Or.inl ⟨by rfl, ?_⟩) hH2 ?_
        rotate_left; (intro w5 hS5; go_simp; try rfl)
        try simp only [Act.put, List.setIfInBounds_toArray, List.set_cons_zero, List.set_cons_succ]
        refine wpAnyH_take (i := 25) (oi := { dst := some 40, op := Go.Op.indexAddr 30 (Go.Operand.tmp 37) (Go.Operand.tmp 39), type := 0, pos := "law.go:66", after := #[{ on := 22, ground := Go.Ground.data }, { on := 24, ground := Go.Ground.data }, { on := 17, ground := Go.Ground.guard }], guard := some (17, true) }) (v := ?_) rfl (by kernel_rfl) (by kernel_rfl) (by kernel_rfl) (fun _ _ _ h => h) (Or.inl ⟨by rfl, ?_⟩) hH2 ?_
        rotate_left; (intro w5 hS5; go_simp; try rfl)
        try simp only [Act.put, List.setIfInBounds_toArray, List.set_cons_zero, List.set_cons_succ]
        refine wpAnyH_take (i := 26) (oi := { dst := some 41, op := Go.Op.load 3 (Go.Operand.tmp 40), type := 3, pos := "law.go:66", after := #[{ on := 25, ground := Go.Ground.data }, { on := 17, ground := Go.Ground.guard }], guard := some (17, true) }) (v := ?_) rfl (by kernel_rfl) (by kernel_rfl) (by kernel_rfl) (fun _ _ _ h => h) (Or.inl ⟨by rfl, ?_⟩) hH2 ?_
        rotate_left; (intro w5 hS5; (obtain ⟨-, c5, c6⟩ := hS5; go_simp; try rfl))
        try simp only [Act.put, List.setIfInBounds_toArray, List.set_cons_zero, List.set_cons_succ]
        refine wpAnyH_take (i := 27) (oi := { dst := some 42, op := Go.Op.binOp Go.BinOp.leq 3 (Go.Operand.tmp 36) (Go.Operand.tmp 41) 3, type := 4, pos := "law.go:66", after := #[{ on := 21, ground := Go.Ground.data }, { on := 26, ground := Go.Ground.data }, { on := 17, ground := Go.Ground.guard }], guard := some (17, true) }) (v := ?_) rfl (by kernel_rfl) (by kernel_rfl) (by kernel_rfl) (fun _ _ _ h => h) (Or.inl ⟨by rfl, ?_⟩) hH2 ?_
        rotate_left; (intro w5 hS5; go_simp; try rfl)
        try simp only [Act.put, List.setIfInBounds_toArray, List.set_cons_zero, List.set_cons_succ]
        refine wpAnyH_take (i := 28) (oi := { dst := some 43, op := Go.Op.pick (Go.Operand.tmp 32) (Go.Operand.tmp 42) (Go.Operand.const (Go.Value.bool false)), type := 4, pos := "law.go:66", after := #[{ on := 17, ground := Go.Ground.data }, { on := 27, ground := Go.Ground.data }, { on := 14, ground := Go.Ground.guard }], guard := some (14, false) }) (v := ?_) rfl (by kernel_rfl) (by kernel_rfl) (by kernel_rfl) (fun _ _ _ h => h) (Or.inl ⟨by rfl, ?_⟩) hH2 ?_
        rotate_left; (intro w5 hS5; go_simp; try rfl)
        try simp only [Act.put, List.setIfInBounds_toArray, List.set_cons_zero, List.set_cons_succ]
        refine wpAnyH_take (i := 29) (oi := { dst := some 44, op := Go.Op.pick (Go.Operand.tmp 29) (Go.Operand.const (Go.Value.bool true)) (Go.Operand.tmp 43), type := 4, pos := "law.go:66", after := #[{ on := 14, ground := Go.Ground.data }, { on := 28, ground := Go.Ground.data }], guard := none }) (v := ?_) rfl (by kernel_rfl) (by kernel_rfl) (by kernel_rfl) (fun _ _ _ h => h) (Or.inl ⟨by rfl, ?_⟩) hH2 ?_
        rotate_left; (intro w5 hS5; go_simp; try rfl)
        try simp only [Act.put, List.setIfInBounds_toArray, List.set_cons_zero, List.set_cons_succ]
        refine wpAnyH_done (by kernel_rfl) ?_ _
        clear hH2
        have HN := Lib.hid (⟨hH.1, HK.out.new (New.refl _).drew⟩ : _ ∧ _)
        clear hH
        go_wp2
        go_roundg (gk - 1)
        case rel => exact ⟨j + 2, by omega, by go_num, HN.out.1, HN.out.2⟩
        case measure => omega
    · have hke : k = L := by omega
      subst hke
      have hL1 : 16777216 < 16777217 := by decide
      by_cases hbig : 20000 < a
      · have hpos : 0 < k := by
          have := HZ.out.1
          rw [HLL.out]
          exact szs_pos (by omega) HZ.out.2.1
        have hpos' : (0 : Int) < (k : Int) := by omega
        clear hR HF
        go_wp2_with (go_at_call 7; refine (HL.out _).mono ?_; rintro e w5 ⟨rfl, rfl⟩)
        go_ret
        exact ⟨rfl, nw⟩
      · have hcnt : a ≤ 0 ∨ (0 < a ∧ (m : Int) = a) := by have := HZ.out.1; omega
        clear hR
        go_wp2
        obtain ⟨go, hgo⟩ : ∃ go : Nat, go = a.toNat := ⟨_, rfl⟩
        go_loopg [5, 6] go (fun g s i wq => ∃ n : Nat, n + g = go ∧ i = .int .i64 ((n : Int) + 1) ∧ s = .int .i64 (cntH n : Nat) ∧ n ≤ 20000 ∧ (n = 0 ∨ (n : Int) ≤ a) ∧ wq = wr)
        case atStart => exact ⟨0, by omega, rfl, rfl, by omega, Or.inl rfl, rfl⟩
        case round =>
          obtain ⟨n, hn, rfl, rfl, hn2, hn3, rfl⟩ := hrel
          by_cases hna : (n : Int) + 1 ≤ a
          · have hcs : cntH (n + 1) = cntH n + if PM % (n + 1) = 0 then 1 else 0 := rfl
            have hcb := cntH_le n
            have hrf : hasB ((n : Int) + 1) = (PM % (n + 1) == 0) := by
              have := hasB_in (n := n + 1) (by omega) (by omega)
              simpa using this
            have HRn := Lib.hid (fun w => (show Calls Tryd.prog 10 #[.int .i64 ((n : Int) + 1)] w fun e w' => e = .returned (.bool (PM % (n + 1) == 0)) ∧ w = w' by rw [← hrf]; exact refhas_any _ w))
            clear hrf
            by_cases hp : PM % (n + 1) = 0
            · have hpb : (PM % (n + 1) == 0) = true := by simpa using hp
              rw [hpb] at HRn
              rw [if_pos hp] at hcs
              have HC := Lib.hid hcs
              clear hcs hp hpb
              generalize cntH n = c at *
              go_wp2_with (go_at_call 10; refine (HRn.out _).mono ?_; rintro e w5 ⟨rfl, rfl⟩)
              go_roundg (gk - 1)
              case rel => exact ⟨n + 1, by omega, by go_num, by rw [HC.out]; go_num, by omega, Or.inr (by omega), rfl⟩
              case measure => omega
            · have hpb : (PM % (n + 1) == 0) = false := by simpa using hp
              rw [hpb] at HRn
              rw [if_neg hp] at hcs
              have HC := Lib.hid hcs
              clear hcs hp hpb
              generalize cntH n = c at *
              go_wp2_with (go_at_call 10; refine (HRn.out _).mono ?_; rintro e w5 ⟨rfl, rfl⟩)
              go_roundg (gk - 1)
              case rel => exact ⟨n + 1, by omega, by go_num, by rw [HC.out]; rfl, by omega, Or.inr (by omega), rfl⟩
              case measure => omega
          · have hlk : cntH n = k := by
              have hz := HZ.out.1
              have hmn : m = n := by omega
              rw [HLL.out, hmn]
              exact cnt_len n hn2
            rw [hlk]
            clear hlk
            go_wp2_with (first | (go_at_call 11; refine (HI.out _).mono ?_; rintro e w5 ⟨rfl, rfl⟩) | (go_at_call 7; refine (HL.out _).mono ?_; rintro e w6 ⟨rfl, rfl⟩))
            go_ret
            exact ⟨rfl, nw⟩
end Go.Proofs.YtniibghbhbigaaaDoor
