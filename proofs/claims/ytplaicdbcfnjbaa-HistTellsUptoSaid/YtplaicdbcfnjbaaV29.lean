/- Sort: the reference's. -/
import Derived.Test.YtplaicdbcfnjbaaV28
import Derived.Test.YtplaicdbcfnjbaaV24
set_option linter.unusedSimpArgs false
set_option linter.unusedVariables false
namespace Go.Proofs.Ytplaicdbcfnjbaa
open Go.RowKit Go.Sort
set_option linter.unusedVariables false
set_option maxRecDepth 100000
attribute [local irreducible] Go.wpList
set_option maxHeartbeats 8000000 in
theorem rsort_any (f n : Nat) (o : Nat → OD) (A : Option Addr) (cap : Nat) (w : World) (hA : RowO w f A n o) (hn : n ≤ 40) :
    Calls Try.prog 12 #[.slice A n cap] w fun e w' => ∃ v d, e = .returned v ∧ OwnO w' w.heap.size v (d.map o) ∧ InsOk (fun i => (o i).s) n d ∧ New w w' := by
  have HA := Lib.hid hA
  clear hA
  go_enter Try.func12, Try.ntmps12
  go_wp2_with fail
  go_loopg [4, 3] n (fun z i v wr => ∃ (k : Nat) (d : List Nat), k + z = n ∧ i = .int .i64 k ∧ Hid (OwnO wr w.heap.size v (d.map o)) ∧ Hid (InsOk (fun i => (o i).s) k d) ∧ Hid (New w wr))
  case atStart => exact ⟨0, [], by omega, rfl, Lib.hid (World.ownsRow_nil _ _ _ _), Lib.hid (InsOk.zero _), Lib.hid (New.refl _)⟩
  case round =>
    obtain ⟨k, d, hk, rfl, OW, IO, NW⟩ := hrel
    obtain ⟨gq, hgq⟩ : ∃ gq : Nat, gq = gk := ⟨_, rfl⟩
    replace hgq := Lib.hid hgq
    obtain ⟨wo, hwo⟩ : ∃ wo : World, wo = wr := ⟨_, rfl⟩
    subst hwo
    by_cases hkn : k < n
    · obtain ⟨ad, rfl, ca⟩ := HA.out.2.2 (by omega)
      have hkn' : (k : Int) < n := by omega
      have La := Lib.hid (fun w' (m : New wo w') => ((ca k hkn).new NW.out).new m)
      have IK := Lib.hid (ocs_op (o k))
      have SK := Lib.hid (show (ocs (o k))[17]? = some (.int .i64 (o k).s) from rfl)
      have dl := IO.out.len
      obtain ⟨l, hl⟩ : ∃ l, d.map o = l := ⟨_, rfl⟩
      have ll : l.length = k := by rw [← hl, List.length_map]; exact dl
      rw [hl] at OW
      obtain ⟨A', cap', rfl, FM⟩ := OW.out.form
      have SQ := Lib.hid (show ∀ q, q < k → (ocs (lk l q))[17]? = some (.int .i64 (o (d.getD q 0)).s) from fun q hq => by rw [← hl, lk_map o d q (by omega)]; rfl)
      have INS := Lib.hid (fun p (hp : p ≤ k) (h1 : ∀ q, p ≤ q → q < k → (o k).s < (o (d.getD q 0)).s) (h2 : p = 0 ∨ ¬ (o k).s < (o (d.getD (p - 1) 0)).s) => IO.out.ins hp h1 h2)
      have MAP := Lib.hid (show ∀ p, (d.take p ++ [k] ++ d.drop p).map o = l.take p ++ [o k] ++ l.drop p from fun p => by rw [← hl]; simp)
      have lw := Lib.hid NW.out.lt
      replace dl := Lib.hid dl
      clear ca
      rw [ll]
      rw [ll] at OW FM
      replace FM := Lib.hid FM
      replace hl := Lib.hid hl
      replace ll := Lib.hid ll
      generalize hsk : (o k).s = sk at *
      clear hsk
      obtain ⟨x, hx⟩ : ∃ x, o k = x := ⟨_, rfl⟩
      rw [hx] at La IK SK MAP
      replace hx := Lib.hid hx
      obtain ⟨r, hr⟩ : ∃ r, ocs x = r := ⟨_, rfl⟩
      rw [hr] at La IK SK
      replace hr := Lib.hid hr
      go_wp2_with fail
      go_loopg [5] k (fun z j wx => ∃ p : Nat, p = z ∧ j = .int .i64 p ∧ p ≤ k ∧ Hid (New wo wx) ∧ Hid (∀ q, p ≤ q → q < k → sk < (o (d.getD q 0)).s))
      case atStart => exact ⟨k, rfl, rfl, Nat.le_refl _, Lib.hid (New.refl _), Lib.hid (fun q h1 h2 => absurd h1 (by omega))⟩
      case round =>
        obtain ⟨p, hz, rfl, hpk, NX, GT⟩ := hrel
        replace hz := Lib.hid hz
        by_cases hp0 : p = 0
        · subst hp0
          have INS0 := Lib.hid (INS.out 0 (Nat.zero_le _) GT.out (.inl rfl))
          have MAP0 := Lib.hid (MAP.out 0)
          clear INS MAP GT
          go_wp2_with fail
          refine wp_region_held_drew (S := fun w' => New wo w') (by kernel_rfl) NX.out.drew (fun hH => ?_)
          clear NX
          refine wpAnyH_take (i := 0) (oi := { dst := some 14, op := Go.Op.move (Go.Operand.tmp 5), type := 3, pos := "ref.go:63", after := #[], guard := none }) (v := .int .i64 (0 : Nat)) rfl (by kernel_rfl) (by kernel_rfl) (by kernel_rfl) (fun _ _ _ h => h) (Or.inl ⟨by rfl, ?_⟩) hH ?_
          (intro w5 hS5; go_simp; try rfl)
          try simp only [Act.put, List.setIfInBounds_toArray, List.set_cons_zero, List.set_cons_succ]
          refine wpAnyH_take (i := 1) (oi := { dst := some 15, op := Go.Op.binOp Go.BinOp.gtr 3 (Go.Operand.tmp 14) (Go.Operand.const (Go.Value.int Go.IntKind.i64 0)) 3, type := 4, pos := "ref.go:63", after := #[{ on := 0, ground := Go.Ground.data }], guard := none }) (v := .bool false) rfl (by kernel_rfl) (by kernel_rfl) (by kernel_rfl) (fun _ _ _ h => h) (Or.inl ⟨by rfl, ?_⟩) hH ?_
          (intro w5 hS5; go_simp; try rfl)
          try simp only [Act.put, List.setIfInBounds_toArray, List.set_cons_zero, List.set_cons_succ]
          refine wpAnyH_take (i := 2) (oi := { dst := some 16, op := Go.Op.move (Go.Operand.tmp 15), type := 4, pos := "ref.go:63", after := #[{ on := 1, ground := Go.Ground.data }], guard := none }) (v := .bool false) rfl (by kernel_rfl) (by kernel_rfl) (by kernel_rfl) (fun _ _ _ h => h) (Or.inl ⟨by rfl, ?_⟩) hH ?_
          (intro w5 hS5; go_simp; try rfl)
          try simp only [Act.put, List.setIfInBounds_toArray, List.set_cons_zero, List.set_cons_succ]
          refine wpAnyH_take (i := 3) (oi := { dst := some 17, op := Go.Op.move (Go.Operand.tmp 0), type := 38, pos := "ref.go:63", after := #[{ on := 2, ground := Go.Ground.guard }], guard := some (2, true) }) (v := undef) rfl (by kernel_rfl) (by kernel_rfl) (by kernel_rfl) (fun _ _ _ h => h) (Or.inr ⟨by rfl, rfl⟩) hH ?_
          try simp only [Act.put, List.setIfInBounds_toArray, List.set_cons_zero, List.set_cons_succ]
          refine wpAnyH_take (i := 4) (oi := { dst := some 18, op := Go.Op.move (Go.Operand.tmp 4), type := 3, pos := "ref.go:63", after := #[{ on := 2, ground := Go.Ground.guard }], guard := some (2, true) }) (v := undef) rfl (by kernel_rfl) (by kernel_rfl) (by kernel_rfl) (fun _ _ _ h => h) (Or.inr ⟨by rfl, rfl⟩) hH ?_
          try simp only [Act.put, List.setIfInBounds_toArray, List.set_cons_zero, List.set_cons_succ]
          refine wpAnyH_take (i := 5) (oi := { dst := some 19, op := Go.Op.indexAddr 38 (Go.Operand.tmp 17) (Go.Operand.tmp 18), type := 0, pos := "ref.go:63", after := #[{ on := 3, ground := Go.Ground.data }, { on := 4, ground := Go.Ground.data }, { on := 2, ground := Go.Ground.guard }], guard := some (2, true) }) (v := undef) rfl (by kernel_rfl) (by kernel_rfl) (by kernel_rfl) (fun _ _ _ h => h) (Or.inr ⟨by rfl, rfl⟩) hH ?_
          try simp only [Act.put, List.setIfInBounds_toArray, List.set_cons_zero, List.set_cons_succ]
          refine wpAnyH_take (i := 6) (oi := { dst := some 20, op := Go.Op.fieldAddr 36 (Go.Operand.tmp 19) 3, type := 0, pos := "ref.go:63", after := #[{ on := 5, ground := Go.Ground.data }, { on := 2, ground := Go.Ground.guard }], guard := some (2, true) }) (v := undef) rfl (by kernel_rfl) (by kernel_rfl) (by kernel_rfl) (fun _ _ _ h => h) (Or.inr ⟨by rfl, rfl⟩) hH ?_
          try simp only [Act.put, List.setIfInBounds_toArray, List.set_cons_zero, List.set_cons_succ]
          refine wpAnyH_take (i := 7) (oi := { dst := some 21, op := Go.Op.load 3 (Go.Operand.tmp 20), type := 3, pos := "ref.go:63", after := #[{ on := 6, ground := Go.Ground.data }, { on := 2, ground := Go.Ground.guard }], guard := some (2, true) }) (v := undef) rfl (by kernel_rfl) (by kernel_rfl) (by kernel_rfl) (fun _ _ _ h => h) (Or.inr ⟨by rfl, rfl⟩) hH ?_
          try simp only [Act.put, List.setIfInBounds_toArray, List.set_cons_zero, List.set_cons_succ]
          refine wpAnyH_take (i := 8) (oi := { dst := some 22, op := Go.Op.move (Go.Operand.tmp 3), type := 38, pos := "ref.go:63", after := #[{ on := 2, ground := Go.Ground.guard }], guard := some (2, true) }) (v := undef) rfl (by kernel_rfl) (by kernel_rfl) (by kernel_rfl) (fun _ _ _ h => h) (Or.inr ⟨by rfl, rfl⟩) hH ?_
          try simp only [Act.put, List.setIfInBounds_toArray, List.set_cons_zero, List.set_cons_succ]
          refine wpAnyH_take (i := 9) (oi := { dst := some 23, op := Go.Op.move (Go.Operand.tmp 5), type := 3, pos := "ref.go:63", after := #[{ on := 2, ground := Go.Ground.guard }], guard := some (2, true) }) (v := undef) rfl (by kernel_rfl) (by kernel_rfl) (by kernel_rfl) (fun _ _ _ h => h) (Or.inr ⟨by rfl, rfl⟩) hH ?_
          try simp only [Act.put, List.setIfInBounds_toArray, List.set_cons_zero, List.set_cons_succ]
          refine wpAnyH_take (i := 10) (oi := { dst := some 24, op := Go.Op.binOp Go.BinOp.sub 3 (Go.Operand.tmp 23) (Go.Operand.const (Go.Value.int Go.IntKind.i64 1)) 3, type := 3, pos := "ref.go:63", after := #[{ on := 9, ground := Go.Ground.data }, { on := 2, ground := Go.Ground.guard }], guard := some (2, true) }) (v := undef) rfl (by kernel_rfl) (by kernel_rfl) (by kernel_rfl) (fun _ _ _ h => h) (Or.inr ⟨by rfl, rfl⟩) hH ?_
          try simp only [Act.put, List.setIfInBounds_toArray, List.set_cons_zero, List.set_cons_succ]
          refine wpAnyH_take (i := 11) (oi := { dst := some 25, op := Go.Op.indexAddr 38 (Go.Operand.tmp 22) (Go.Operand.tmp 24), type := 0, pos := "ref.go:63", after := #[{ on := 8, ground := Go.Ground.data }, { on := 10, ground := Go.Ground.data }, { on := 2, ground := Go.Ground.guard }], guard := some (2, true) }) (v := undef) rfl (by kernel_rfl) (by kernel_rfl) (by kernel_rfl) (fun _ _ _ h => h) (Or.inr ⟨by rfl, rfl⟩) hH ?_
          try simp only [Act.put, List.setIfInBounds_toArray, List.set_cons_zero, List.set_cons_succ]
          refine wpAnyH_take (i := 12) (oi := { dst := some 26, op := Go.Op.fieldAddr 36 (Go.Operand.tmp 25) 3, type := 0, pos := "ref.go:63", after := #[{ on := 11, ground := Go.Ground.data }, { on := 2, ground := Go.Ground.guard }], guard := some (2, true) }) (v := undef) rfl (by kernel_rfl) (by kernel_rfl) (by kernel_rfl) (fun _ _ _ h => h) (Or.inr ⟨by rfl, rfl⟩) hH ?_
          try simp only [Act.put, List.setIfInBounds_toArray, List.set_cons_zero, List.set_cons_succ]
          refine wpAnyH_take (i := 13) (oi := { dst := some 27, op := Go.Op.load 3 (Go.Operand.tmp 26), type := 3, pos := "ref.go:63", after := #[{ on := 12, ground := Go.Ground.data }, { on := 2, ground := Go.Ground.guard }], guard := some (2, true) }) (v := undef) rfl (by kernel_rfl) (by kernel_rfl) (by kernel_rfl) (fun _ _ _ h => h) (Or.inr ⟨by rfl, rfl⟩) hH ?_
          try simp only [Act.put, List.setIfInBounds_toArray, List.set_cons_zero, List.set_cons_succ]
          refine wpAnyH_take (i := 14) (oi := { dst := some 28, op := Go.Op.binOp Go.BinOp.lss 3 (Go.Operand.tmp 21) (Go.Operand.tmp 27) 3, type := 4, pos := "ref.go:63", after := #[{ on := 7, ground := Go.Ground.data }, { on := 13, ground := Go.Ground.data }, { on := 2, ground := Go.Ground.guard }], guard := some (2, true) }) (v := undef) rfl (by kernel_rfl) (by kernel_rfl) (by kernel_rfl) (fun _ _ _ h => h) (Or.inr ⟨by rfl, rfl⟩) hH ?_
          try simp only [Act.put, List.setIfInBounds_toArray, List.set_cons_zero, List.set_cons_succ]
          refine wpAnyH_take (i := 15) (oi := { dst := some 29, op := Go.Op.pick (Go.Operand.tmp 16) (Go.Operand.tmp 28) (Go.Operand.const (Go.Value.bool false)), type := 4, pos := "ref.go:63", after := #[{ on := 2, ground := Go.Ground.data }, { on := 14, ground := Go.Ground.data }], guard := none }) (v := .bool false) rfl (by kernel_rfl) (by kernel_rfl) (by kernel_rfl) (fun _ _ _ h => h) (Or.inl ⟨by rfl, ?_⟩) hH ?_
          (intro w5 hS5; go_simp; try rfl)
          try simp only [Act.put, List.setIfInBounds_toArray, List.set_cons_zero, List.set_cons_succ]
          refine wpAnyH_done (by kernel_rfl) ?_ _
          have HZ := Lib.hid hH
          clear hH
          go_wp2_with fail
          rcases FM.out with ⟨rfl, rfl, rfl⟩ | ⟨g, rfl, hcap, hrow, hcell⟩
          · skip
            have hk0 : k = 0 := by have := ll.out; simpa using this.symm
            subst hk0
            have AR1 := Lib.hid (show ∀ w', New wo w' → ArgL w' (.slice none 0 0) ([] : List OD) from fun _ _ => .inl ⟨rfl, rfl⟩)
            have AR2 := AR1
            refine wp_region_held_drew (S := fun w' => New wo w') (by kernel_rfl) HZ.out.drew (fun hH => ?_)
            clear HZ
            refine wpAnyH_take (i := 1) (oi := { dst := some 33, op := Go.Op.move (Go.Operand.tmp 3), type := 38, pos := "ref.go:66", after := #[], guard := none }) (v := .slice none 0 0) rfl (by kernel_rfl) (by kernel_rfl) (by kernel_rfl) (fun _ _ _ h => h) (Or.inl ⟨by rfl, ?_⟩) hH ?_
            (intro w5 hS5; go_simp; try rfl)
            try simp only [Act.put, List.setIfInBounds_toArray, List.set_cons_zero, List.set_cons_succ]
            refine wpAnyH_take (i := 2) (oi := { dst := some 34, op := Go.Op.move (Go.Operand.tmp 5), type := 3, pos := "ref.go:66", after := #[], guard := none }) (v := .int .i64 (0 : Nat)) rfl (by kernel_rfl) (by kernel_rfl) (by kernel_rfl) (fun _ _ _ h => h) (Or.inl ⟨by rfl, ?_⟩) hH ?_
            (intro w5 hS5; go_simp; try rfl)
            try simp only [Act.put, List.setIfInBounds_toArray, List.set_cons_zero, List.set_cons_succ]
            refine wpAnyH_take (i := 3) (oi := { dst := some 35, op := Go.Op.slice 38 (Go.Operand.tmp 33) none (some (Go.Operand.tmp 34)) none, type := 38, pos := "ref.go:66", after := #[{ on := 1, ground := Go.Ground.data }, { on := 2, ground := Go.Ground.data }], guard := none }) (v := .slice none 0 0) rfl (by kernel_rfl) (by kernel_rfl) (by kernel_rfl) (fun _ _ _ h => h) (Or.inl ⟨by rfl, ?_⟩) hH ?_
            (intro w5 hS5; go_simp; (try rfl); (try (intro h5; omega)))
            try simp only [Act.put, List.setIfInBounds_toArray, List.set_cons_zero, List.set_cons_succ]
            refine wpAnyH_take (i := 5) (oi := { dst := some 37, op := Go.Op.move (Go.Operand.tmp 0), type := 38, pos := "ref.go:66", after := #[], guard := none }) (v := .slice (some ad) n cap) rfl (by kernel_rfl) (by kernel_rfl) (by kernel_rfl) (fun _ _ _ h => h) (Or.inl ⟨by rfl, ?_⟩) hH ?_
            (intro w5 hS5; go_simp; try rfl)
            try simp only [Act.put, List.setIfInBounds_toArray, List.set_cons_zero, List.set_cons_succ]
            refine wpAnyH_take (i := 6) (oi := { dst := some 38, op := Go.Op.move (Go.Operand.tmp 4), type := 3, pos := "ref.go:66", after := #[], guard := none }) (v := .int .i64 (0 : Nat)) rfl (by kernel_rfl) (by kernel_rfl) (by kernel_rfl) (fun _ _ _ h => h) (Or.inl ⟨by rfl, ?_⟩) hH ?_
            (intro w5 hS5; go_simp; try rfl)
            try simp only [Act.put, List.setIfInBounds_toArray, List.set_cons_zero, List.set_cons_succ]
            refine wpAnyH_take (i := 7) (oi := { dst := some 39, op := Go.Op.indexAddr 38 (Go.Operand.tmp 37) (Go.Operand.tmp 38), type := 0, pos := "ref.go:66", after := #[{ on := 5, ground := Go.Ground.data }, { on := 6, ground := Go.Ground.data }], guard := none }) (v := .pointer (some (ad.add ((0 : Nat) * 19)))) rfl (by kernel_rfl) (by kernel_rfl) (by kernel_rfl) (fun _ _ _ h => h) (Or.inl ⟨by rfl, ?_⟩) hH ?_
            (intro w5 hS5; go_simp; try rfl)
            try simp only [Act.put, List.setIfInBounds_toArray, List.set_cons_zero, List.set_cons_succ]
            refine wpAnyH_take (i := 8) (oi := { dst := some 40, op := Go.Op.load 36 (Go.Operand.tmp 39), type := 36, pos := "ref.go:66", after := #[{ on := 7, ground := Go.Ground.data }], guard := none }) (v := .agg r) rfl (by kernel_rfl) (by kernel_rfl) (by kernel_rfl) (fun _ _ _ h => h) (Or.inl ⟨by rfl, ?_⟩) hH ?_
            (intro w5 hS5; refine yl_ld rfl rfl (lda_at _ _ _ (La.out _ hS5)))
            try simp only [Act.put, List.setIfInBounds_toArray, List.set_cons_zero, List.set_cons_succ]
            refine wpAnyH_take (i := 11) (oi := { dst := some 43, op := Go.Op.move (Go.Operand.tmp 3), type := 38, pos := "ref.go:66", after := #[], guard := none }) (v := .slice none 0 0) rfl (by kernel_rfl) (by kernel_rfl) (by kernel_rfl) (fun _ _ _ h => h) (Or.inl ⟨by rfl, ?_⟩) hH ?_
            (intro w5 hS5; go_simp; try rfl)
            try simp only [Act.put, List.setIfInBounds_toArray, List.set_cons_zero, List.set_cons_succ]
            refine wpAnyH_take (i := 12) (oi := { dst := some 44, op := Go.Op.move (Go.Operand.tmp 5), type := 3, pos := "ref.go:66", after := #[], guard := none }) (v := .int .i64 (0 : Nat)) rfl (by kernel_rfl) (by kernel_rfl) (by kernel_rfl) (fun _ _ _ h => h) (Or.inl ⟨by rfl, ?_⟩) hH ?_
            (intro w5 hS5; go_simp; try rfl)
            try simp only [Act.put, List.setIfInBounds_toArray, List.set_cons_zero, List.set_cons_succ]
            refine wpAnyH_take (i := 13) (oi := { dst := some 45, op := Go.Op.slice 38 (Go.Operand.tmp 43) (some (Go.Operand.tmp 44)) none none, type := 38, pos := "ref.go:66", after := #[{ on := 11, ground := Go.Ground.data }, { on := 12, ground := Go.Ground.data }], guard := none }) (v := .slice none 0 0) rfl (by kernel_rfl) (by kernel_rfl) (by kernel_rfl) (fun _ _ _ h => h) (Or.inl ⟨by rfl, ?_⟩) hH ?_
            (intro w5 hS5; go_simp; (try rfl); (try (have hz2 := haz.out; rw [← hz2])); (try (split <;> rfl)))
            try simp only [Act.put, List.setIfInBounds_toArray, List.set_cons_zero, List.set_cons_succ]
            refine wpAnyH_ready (rs := [0, 9]) (by kernel_rfl) (by simp) ?_
            refine AllReadyH.cons (o := { dst := some 32, op := Go.Op.buildSlice 38 0 #[], type := 38, pos := "ref.go:66", after := #[], guard := none }) rfl (fun K5 hK5 => ?_) (AllReadyH.cons (o := { dst := some 41, op := Go.Op.buildSlice 38 1 #[(0, Go.Operand.tmp 40)], type := 38, pos := "ref.go:66", after := #[{ on := 8, ground := Go.Ground.data }], guard := none }) rfl (fun K5 hK5 => ?_) AllReadyH.nil)
            · rw [if_pos (by rfl)]
              refine wp_emp rfl ?_
              intro w1 oe ne se; have oe2 := own_base oe (show wo.heap.size ≤ _ from (hH).lt)
              refine hK5.out _ _ ((hH).trans ne) (fun hH1 => ?_)
              clear hK5 K5
              try simp only [Act.put, List.setIfInBounds_toArray, List.set_cons_zero, List.set_cons_succ]
              refine wpAnyH_ready (rs := [4, 9]) (by kernel_rfl) (by simp) ?_
              refine AllReadyH.cons (o := { dst := some 36, op := Go.Op.call { callee := Go.Callee.builtin Go.Builtin.append, args := #[Go.Operand.tmp 32, Go.Operand.tmp 35], argTypes := #[38, 38] }, type := 38, pos := "ref.go:66", after := #[{ on := 0, ground := Go.Ground.data }, { on := 3, ground := Go.Ground.data }], guard := none }) rfl (fun K5 hK5 => ?_) (AllReadyH.cons (o := { dst := some 41, op := Go.Op.buildSlice 38 1 #[(0, Go.Operand.tmp 40)], type := 38, pos := "ref.go:66", after := #[{ on := 8, ground := Go.Ground.data }], guard := none }) rfl (fun K5 hK5 => ?_) AllReadyH.nil)
              · rw [if_pos (by rfl)]
                refine wp_app (.tmp 32) (.tmp 35) rfl _ _ [] ([] : List OD) wo.heap.size rfl oe2 (fun e => by have e2 : Value.slice (some _) 0 0 = Value.slice none 0 0 := e; cases e2) rfl (AR1.out _ hH1) (by first | (simp; done) | (simp; have := ll.out; omega)) (hH1).lt ?_
                intro v2 w2 o2 ne2 g2 h2; rw [List.nil_append] at o2
                refine hK5.out _ _ ((hH1).grown g2 (fun b e => (oe2.lt _ e).1)) (fun hH2 => ?_)
                clear hK5 K5
                try simp only [Act.put, List.setIfInBounds_toArray, List.set_cons_zero, List.set_cons_succ]
                refine wpAnyH_ready (rs := [9]) (by kernel_rfl) (by simp) ?_
                refine AllReadyH.cons (o := { dst := some 41, op := Go.Op.buildSlice 38 1 #[(0, Go.Operand.tmp 40)], type := 38, pos := "ref.go:66", after := #[{ on := 8, ground := Go.Ground.data }], guard := none }) rfl (fun K5 hK5 => ?_) AllReadyH.nil
                rw [if_pos (by rfl)]
                refine wp_rows (n := 1) (c := fun _ => r) rfl (by rw [Array.toList_map]; rfl) (by decide) (by decide) (fun _ => IK.out) ?_
                intro w3 mb hp2; have P2 := hp2 0 (by decide); rw [Addr.add_mid] at P2; simp only [Nat.zero_mul, Nat.add_zero] at P2; clear hp2
                refine hK5.out _ _ ((hH2).trans mb) (fun hH3 => ?_)
                clear hK5 K5
                try simp only [Act.put, List.setIfInBounds_toArray, List.set_cons_zero, List.set_cons_succ]
                replace o2 := own_new o2 mb
                refine wpAnyH_ready (rs := [10]) (by kernel_rfl) (by simp) ?_
                refine AllReadyH.cons (o := { dst := some 42, op := Go.Op.call { callee := Go.Callee.builtin Go.Builtin.append, args := #[Go.Operand.tmp 36, Go.Operand.tmp 41], argTypes := #[38, 38] }, type := 38, pos := "ref.go:66", after := #[{ on := 4, ground := Go.Ground.data }, { on := 9, ground := Go.Ground.data }, { on := 4, ground := Go.Ground.chain }], guard := none }) rfl (fun K5 hK5 => ?_) AllReadyH.nil
                rw [if_pos (by rfl)]
                refine wp_puta (.tmp 36) (.tmp 41) rfl v2 ([] : List OD) wo.heap.size x _ rfl o2 rfl (hr.out.symm ▸ P2) (by first | (simp; done) | (simp; have := ll.out; omega)) (hH3).lt ?_
                intro v3 w8 o8 g8 h8; have ne8 := put_ne o8
                refine hK5.out _ _ ((hH3).grown g8 (fun b e => (o2.lt _ e).1)) (fun hH8 => ?_)
                clear hK5 K5
                try simp only [Act.put, List.setIfInBounds_toArray, List.set_cons_zero, List.set_cons_succ]
                refine wpAnyH_ready (rs := [14]) (by kernel_rfl) (by simp) ?_
                refine AllReadyH.cons (o := { dst := some 46, op := Go.Op.call { callee := Go.Callee.builtin Go.Builtin.append, args := #[Go.Operand.tmp 42, Go.Operand.tmp 45], argTypes := #[38, 38] }, type := 38, pos := "ref.go:66", after := #[{ on := 10, ground := Go.Ground.data }, { on := 13, ground := Go.Ground.data }, { on := 10, ground := Go.Ground.chain }], guard := none }) rfl (fun K5 hK5 => ?_) AllReadyH.nil
                rw [if_pos (by rfl)]
                refine wp_app (.tmp 42) (.tmp 45) rfl v3 _ (([] : List OD) ++ [x]) ([] : List OD) wo.heap.size rfl o8 ne8 rfl (AR2.out _ hH8) (by first | (simp; done) | (simp; have := ll.out; omega)) hH8.lt ?_
                intro v9 w9 o9 ne9 g9 h9
                refine hK5.out _ _ (hH8.grown g9 (fun b e => (o8.lt _ e).1)) (fun hH9 => ?_)
                clear hK5 K5
                try simp only [Act.put, List.setIfInBounds_toArray, List.set_cons_zero, List.set_cons_succ]
                refine wpAnyH_take (i := 15) (oi := { dst := some 3, op := Go.Op.assign (Go.Operand.tmp 46), type := 38, pos := "ref.go:66", after := #[{ on := 14, ground := Go.Ground.data }, { on := 14, ground := Go.Ground.chain }, { on := 0, ground := Go.Ground.phase }, { on := 1, ground := Go.Ground.phase }, { on := 2, ground := Go.Ground.phase }, { on := 3, ground := Go.Ground.phase }, { on := 4, ground := Go.Ground.phase }, { on := 5, ground := Go.Ground.phase }, { on := 6, ground := Go.Ground.phase }, { on := 7, ground := Go.Ground.phase }, { on := 8, ground := Go.Ground.phase }, { on := 9, ground := Go.Ground.phase }, { on := 10, ground := Go.Ground.phase }, { on := 11, ground := Go.Ground.phase }, { on := 12, ground := Go.Ground.phase }, { on := 13, ground := Go.Ground.phase }, { on := 14, ground := Go.Ground.phase }], guard := none }) (v := v9) rfl (by kernel_rfl) (by kernel_rfl) (by kernel_rfl) (fun _ _ _ h => h) (Or.inl ⟨by rfl, ?_⟩) hH9 ?_
                (intro w5 hS5; go_simp; try rfl)
                try simp only [Act.put, List.setIfInBounds_toArray, List.set_cons_zero, List.set_cons_succ]
                refine wpAnyH_done (by kernel_rfl) ?_ _
                have HF := Lib.hid (⟨o9, hH9⟩ : _ ∧ _)
                clear o9 hH9 hH8 o8 o2 P2 g8 g9 h8 h9 ne8 ne9 hH hH1 hH2 hH3
                go_wp2_with fail
                go_roundg (gq - 1)
                case rel => have hq := hgq.out; exact ⟨_, _, by omega, by go_num, Lib.hid (by rw [MAP0.out]; exact own_base (by first | exact HF.out.1 | (have hh := HF.out.1; simp only [List.take_zero, List.drop_zero, List.nil_append, List.append_nil, List.take_nil, List.drop_nil, List.append_assoc] at hh ⊢; exact hh)) lw.out), INS0, Lib.hid (NW.out.trans HF.out.2)⟩
                case measure => have hq := hgq.out; omega
              · rw [if_pos (by rfl)]
                refine wp_rows (n := 1) (c := fun _ => r) rfl (by rw [Array.toList_map]; rfl) (by decide) (by decide) (fun _ => IK.out) ?_
                intro w2 mb hp2; have P2 := hp2 0 (by decide); rw [Addr.add_mid] at P2; simp only [Nat.zero_mul, Nat.add_zero] at P2; clear hp2
                refine hK5.out _ _ ((hH1).trans mb) (fun hH2 => ?_)
                clear hK5 K5
                try simp only [Act.put, List.setIfInBounds_toArray, List.set_cons_zero, List.set_cons_succ]
                refine wpAnyH_ready (rs := [4]) (by kernel_rfl) (by simp) ?_
                refine AllReadyH.cons (o := { dst := some 36, op := Go.Op.call { callee := Go.Callee.builtin Go.Builtin.append, args := #[Go.Operand.tmp 32, Go.Operand.tmp 35], argTypes := #[38, 38] }, type := 38, pos := "ref.go:66", after := #[{ on := 0, ground := Go.Ground.data }, { on := 3, ground := Go.Ground.data }], guard := none }) rfl (fun K5 hK5 => ?_) AllReadyH.nil
                rw [if_pos (by rfl)]
                have oe3 := own_new oe2 mb
                refine wp_app (.tmp 32) (.tmp 35) rfl _ _ [] ([] : List OD) wo.heap.size rfl oe3 (fun e => by have e2 : Value.slice (some _) 0 0 = Value.slice none 0 0 := e; cases e2) rfl (AR1.out _ hH2) (by first | (simp; done) | (simp; have := ll.out; omega)) (hH2).lt ?_
                intro v2 w3 o2 ne2 g2 h2; rw [List.nil_append] at o2
                refine hK5.out _ _ ((hH2).grown g2 (fun b e => (oe3.lt _ e).1)) (fun hH3 => ?_)
                clear hK5 K5
                try simp only [Act.put, List.setIfInBounds_toArray, List.set_cons_zero, List.set_cons_succ]
                replace P2 := P2.grownBy g2 (fun e => by have e2 : _ = _ := Option.some.inj e; have h7 := se; simp at e2 h7; omega)
                refine wpAnyH_ready (rs := [10]) (by kernel_rfl) (by simp) ?_
                refine AllReadyH.cons (o := { dst := some 42, op := Go.Op.call { callee := Go.Callee.builtin Go.Builtin.append, args := #[Go.Operand.tmp 36, Go.Operand.tmp 41], argTypes := #[38, 38] }, type := 38, pos := "ref.go:66", after := #[{ on := 4, ground := Go.Ground.data }, { on := 9, ground := Go.Ground.data }, { on := 4, ground := Go.Ground.chain }], guard := none }) rfl (fun K5 hK5 => ?_) AllReadyH.nil
                rw [if_pos (by rfl)]
                refine wp_puta (.tmp 36) (.tmp 41) rfl v2 ([] : List OD) wo.heap.size x _ rfl o2 rfl (hr.out.symm ▸ P2) (by first | (simp; done) | (simp; have := ll.out; omega)) (hH3).lt ?_
                intro v3 w8 o8 g8 h8; have ne8 := put_ne o8
                refine hK5.out _ _ ((hH3).grown g8 (fun b e => (o2.lt _ e).1)) (fun hH8 => ?_)
                clear hK5 K5
                try simp only [Act.put, List.setIfInBounds_toArray, List.set_cons_zero, List.set_cons_succ]
                refine wpAnyH_ready (rs := [14]) (by kernel_rfl) (by simp) ?_
                refine AllReadyH.cons (o := { dst := some 46, op := Go.Op.call { callee := Go.Callee.builtin Go.Builtin.append, args := #[Go.Operand.tmp 42, Go.Operand.tmp 45], argTypes := #[38, 38] }, type := 38, pos := "ref.go:66", after := #[{ on := 10, ground := Go.Ground.data }, { on := 13, ground := Go.Ground.data }, { on := 10, ground := Go.Ground.chain }], guard := none }) rfl (fun K5 hK5 => ?_) AllReadyH.nil
                rw [if_pos (by rfl)]
                refine wp_app (.tmp 42) (.tmp 45) rfl v3 _ (([] : List OD) ++ [x]) ([] : List OD) wo.heap.size rfl o8 ne8 rfl (AR2.out _ hH8) (by first | (simp; done) | (simp; have := ll.out; omega)) hH8.lt ?_
                intro v9 w9 o9 ne9 g9 h9
                refine hK5.out _ _ (hH8.grown g9 (fun b e => (o8.lt _ e).1)) (fun hH9 => ?_)
                clear hK5 K5
                try simp only [Act.put, List.setIfInBounds_toArray, List.set_cons_zero, List.set_cons_succ]
                refine wpAnyH_take (i := 15) (oi := { dst := some 3, op := Go.Op.assign (Go.Operand.tmp 46), type := 38, pos := "ref.go:66", after := #[{ on := 14, ground := Go.Ground.data }, { on := 14, ground := Go.Ground.chain }, { on := 0, ground := Go.Ground.phase }, { on := 1, ground := Go.Ground.phase }, { on := 2, ground := Go.Ground.phase }, { on := 3, ground := Go.Ground.phase }, { on := 4, ground := Go.Ground.phase }, { on := 5, ground := Go.Ground.phase }, { on := 6, ground := Go.Ground.phase }, { on := 7, ground := Go.Ground.phase }, { on := 8, ground := Go.Ground.phase }, { on := 9, ground := Go.Ground.phase }, { on := 10, ground := Go.Ground.phase }, { on := 11, ground := Go.Ground.phase }, { on := 12, ground := Go.Ground.phase }, { on := 13, ground := Go.Ground.phase }, { on := 14, ground := Go.Ground.phase }], guard := none }) (v := v9) rfl (by kernel_rfl) (by kernel_rfl) (by kernel_rfl) (fun _ _ _ h => h) (Or.inl ⟨by rfl, ?_⟩) hH9 ?_
                (intro w5 hS5; go_simp; try rfl)
                try simp only [Act.put, List.setIfInBounds_toArray, List.set_cons_zero, List.set_cons_succ]
                refine wpAnyH_done (by kernel_rfl) ?_ _
                have HF := Lib.hid (⟨o9, hH9⟩ : _ ∧ _)
                clear o9 hH9 hH8 o8 o2 P2 g8 g9 h8 h9 ne8 ne9 hH hH1 hH2 hH3
                go_wp2_with fail
                go_roundg (gq - 1)
                case rel => have hq := hgq.out; exact ⟨_, _, by omega, by go_num, Lib.hid (by rw [MAP0.out]; exact own_base (by first | exact HF.out.1 | (have hh := HF.out.1; simp only [List.take_zero, List.drop_zero, List.nil_append, List.append_nil, List.take_nil, List.drop_nil, List.append_assoc] at hh ⊢; exact hh)) lw.out), INS0, Lib.hid (NW.out.trans HF.out.2)⟩
                case measure => have hq := hgq.out; omega
            · rw [if_pos (by rfl)]
              refine wp_rows (n := 1) (c := fun _ => r) rfl (by rw [Array.toList_map]; rfl) (by decide) (by decide) (fun _ => IK.out) ?_
              intro w1 mb hp2; have P2 := hp2 0 (by decide); rw [Addr.add_mid] at P2; simp only [Nat.zero_mul, Nat.add_zero] at P2; clear hp2
              refine hK5.out _ _ ((hH).trans mb) (fun hH1 => ?_)
              clear hK5 K5
              try simp only [Act.put, List.setIfInBounds_toArray, List.set_cons_zero, List.set_cons_succ]
              have hPb := P2.2.1
              refine wpAnyH_ready (rs := [0]) (by kernel_rfl) (by simp) ?_
              refine AllReadyH.cons (o := { dst := some 32, op := Go.Op.buildSlice 38 0 #[], type := 38, pos := "ref.go:66", after := #[], guard := none }) rfl (fun K5 hK5 => ?_) AllReadyH.nil
              rw [if_pos (by rfl)]
              refine wp_emp rfl ?_
              intro w2 oe ne se; have oe2 := own_base oe (show wo.heap.size ≤ _ from (hH1).lt)
              refine hK5.out _ _ ((hH1).trans ne) (fun hH2 => ?_)
              clear hK5 K5
              try simp only [Act.put, List.setIfInBounds_toArray, List.set_cons_zero, List.set_cons_succ]
              replace P2 := P2.new ne
              refine wpAnyH_ready (rs := [4]) (by kernel_rfl) (by simp) ?_
              refine AllReadyH.cons (o := { dst := some 36, op := Go.Op.call { callee := Go.Callee.builtin Go.Builtin.append, args := #[Go.Operand.tmp 32, Go.Operand.tmp 35], argTypes := #[38, 38] }, type := 38, pos := "ref.go:66", after := #[{ on := 0, ground := Go.Ground.data }, { on := 3, ground := Go.Ground.data }], guard := none }) rfl (fun K5 hK5 => ?_) AllReadyH.nil
              rw [if_pos (by rfl)]
              refine wp_app (.tmp 32) (.tmp 35) rfl _ _ [] ([] : List OD) wo.heap.size rfl oe2 (fun e => by have e2 : Value.slice (some _) 0 0 = Value.slice none 0 0 := e; cases e2) rfl (AR1.out _ hH2) (by first | (simp; done) | (simp; have := ll.out; omega)) (hH2).lt ?_
              intro v2 w3 o2 ne2 g2 h2; rw [List.nil_append] at o2
              refine hK5.out _ _ ((hH2).grown g2 (fun b e => (oe2.lt _ e).1)) (fun hH3 => ?_)
              clear hK5 K5
              try simp only [Act.put, List.setIfInBounds_toArray, List.set_cons_zero, List.set_cons_succ]
              replace P2 := P2.grownBy g2 (fun e => by have e2 : _ = _ := Option.some.inj e; simp at e2 hPb; omega)
              refine wpAnyH_ready (rs := [10]) (by kernel_rfl) (by simp) ?_
              refine AllReadyH.cons (o := { dst := some 42, op := Go.Op.call { callee := Go.Callee.builtin Go.Builtin.append, args := #[Go.Operand.tmp 36, Go.Operand.tmp 41], argTypes := #[38, 38] }, type := 38, pos := "ref.go:66", after := #[{ on := 4, ground := Go.Ground.data }, { on := 9, ground := Go.Ground.data }, { on := 4, ground := Go.Ground.chain }], guard := none }) rfl (fun K5 hK5 => ?_) AllReadyH.nil
              rw [if_pos (by rfl)]
              refine wp_puta (.tmp 36) (.tmp 41) rfl v2 ([] : List OD) wo.heap.size x _ rfl o2 rfl (hr.out.symm ▸ P2) (by first | (simp; done) | (simp; have := ll.out; omega)) (hH3).lt ?_
              intro v3 w8 o8 g8 h8; have ne8 := put_ne o8
              refine hK5.out _ _ ((hH3).grown g8 (fun b e => (o2.lt _ e).1)) (fun hH8 => ?_)
              clear hK5 K5
              try simp only [Act.put, List.setIfInBounds_toArray, List.set_cons_zero, List.set_cons_succ]
              refine wpAnyH_ready (rs := [14]) (by kernel_rfl) (by simp) ?_
              refine AllReadyH.cons (o := { dst := some 46, op := Go.Op.call { callee := Go.Callee.builtin Go.Builtin.append, args := #[Go.Operand.tmp 42, Go.Operand.tmp 45], argTypes := #[38, 38] }, type := 38, pos := "ref.go:66", after := #[{ on := 10, ground := Go.Ground.data }, { on := 13, ground := Go.Ground.data }, { on := 10, ground := Go.Ground.chain }], guard := none }) rfl (fun K5 hK5 => ?_) AllReadyH.nil
              rw [if_pos (by rfl)]
              refine wp_app (.tmp 42) (.tmp 45) rfl v3 _ (([] : List OD) ++ [x]) ([] : List OD) wo.heap.size rfl o8 ne8 rfl (AR2.out _ hH8) (by first | (simp; done) | (simp; have := ll.out; omega)) hH8.lt ?_
              intro v9 w9 o9 ne9 g9 h9
              refine hK5.out _ _ (hH8.grown g9 (fun b e => (o8.lt _ e).1)) (fun hH9 => ?_)
              clear hK5 K5
              try simp only [Act.put, List.setIfInBounds_toArray, List.set_cons_zero, List.set_cons_succ]
              refine wpAnyH_take (i := 15) (oi := { dst := some 3, op := Go.Op.assign (Go.Operand.tmp 46), type := 38, pos := "ref.go:66", after := #[{ on := 14, ground := Go.Ground.data }, { on := 14, ground := Go.Ground.chain }, { on := 0, ground := Go.Ground.phase }, { on := 1, ground := Go.Ground.phase }, { on := 2, ground := Go.Ground.phase }, { on := 3, ground := Go.Ground.phase }, { on := 4, ground := Go.Ground.phase }, { on := 5, ground := Go.Ground.phase }, { on := 6, ground := Go.Ground.phase }, { on := 7, ground := Go.Ground.phase }, { on := 8, ground := Go.Ground.phase }, { on := 9, ground := Go.Ground.phase }, { on := 10, ground := Go.Ground.phase }, { on := 11, ground := Go.Ground.phase }, { on := 12, ground := Go.Ground.phase }, { on := 13, ground := Go.Ground.phase }, { on := 14, ground := Go.Ground.phase }], guard := none }) (v := v9) rfl (by kernel_rfl) (by kernel_rfl) (by kernel_rfl) (fun _ _ _ h => h) (Or.inl ⟨by rfl, ?_⟩) hH9 ?_
              (intro w5 hS5; go_simp; try rfl)
              try simp only [Act.put, List.setIfInBounds_toArray, List.set_cons_zero, List.set_cons_succ]
              refine wpAnyH_done (by kernel_rfl) ?_ _
              have HF := Lib.hid (⟨o9, hH9⟩ : _ ∧ _)
              clear o9 hH9 hH8 o8 o2 P2 g8 g9 h8 h9 ne8 ne9 hH hH1 hH2 hH3
              go_wp2_with fail
              go_roundg (gq - 1)
              case rel => have hq := hgq.out; exact ⟨_, _, by omega, by go_num, Lib.hid (by rw [MAP0.out]; exact own_base (by first | exact HF.out.1 | (have hh := HF.out.1; simp only [List.take_zero, List.drop_zero, List.nil_append, List.append_nil, List.take_nil, List.drop_nil, List.append_assoc] at hh ⊢; exact hh)) lw.out), INS0, Lib.hid (NW.out.trans HF.out.2)⟩
              case measure => have hq := hgq.out; omega
          · skip
            obtain ⟨ag, hag⟩ : ∃ ag : Addr, (⟨g, 0, none⟩ : Addr) = ag := ⟨_, rfl⟩
            rw [hag]
            replace hag := Lib.hid hag
            clear hrow
            have kc : (k : Int) ≤ cap' := by have := ll.out; omega
            have AR1 := Lib.hid (show ∀ w', New wo w' → ArgL w' (.slice (some ag) 0 cap') (l.take 0) from fun w' m => .inr ⟨ag, cap', by rw [List.length_take, ll.out, Nat.min_eq_left (by omega)], fun j u hu => by rw [← hag.out, Addr.add_mid, Nat.zero_add]; exact (m.cell (p := ⟨g, j, none⟩) (World.block_lt_of_cell? _ _ (hcell _ _ (rcells_take hu)))).trans (hcell _ _ (rcells_take hu))⟩)
            have AR2 := Lib.hid (show ∀ w', New wo w' → ArgL w' (.slice (some (ag.add (0 * 19))) (k - 0) (cap' - 0)) (l.drop 0) from fun w' m => .inr ⟨_, cap' - 0, by rw [List.length_drop, ll.out], fun j u hu => by rw [← hag.out, Addr.add_mid, Addr.add_mid]; have hh := (m.cell (p := ⟨g, 0 * 19 + j, none⟩) (World.block_lt_of_cell? _ _ (hcell _ _ (rcells_drop (by rw [ll.out]; omega) hu)))).trans (hcell _ _ (rcells_drop (by rw [ll.out]; omega) hu)); first | exact hh | (simp only [Nat.zero_add, Nat.zero_mul] at hh ⊢; exact hh)⟩)
            refine wp_region_held_drew (S := fun w' => New wo w') (by kernel_rfl) HZ.out.drew (fun hH => ?_)
            clear HZ
            refine wpAnyH_take (i := 1) (oi := { dst := some 33, op := Go.Op.move (Go.Operand.tmp 3), type := 38, pos := "ref.go:66", after := #[], guard := none }) (v := .slice (some ag) k cap') rfl (by kernel_rfl) (by kernel_rfl) (by kernel_rfl) (fun _ _ _ h => h) (Or.inl ⟨by rfl, ?_⟩) hH ?_
            (intro w5 hS5; go_simp; try rfl)
            try simp only [Act.put, List.setIfInBounds_toArray, List.set_cons_zero, List.set_cons_succ]
            refine wpAnyH_take (i := 2) (oi := { dst := some 34, op := Go.Op.move (Go.Operand.tmp 5), type := 3, pos := "ref.go:66", after := #[], guard := none }) (v := .int .i64 (0 : Nat)) rfl (by kernel_rfl) (by kernel_rfl) (by kernel_rfl) (fun _ _ _ h => h) (Or.inl ⟨by rfl, ?_⟩) hH ?_
            (intro w5 hS5; go_simp; try rfl)
            try simp only [Act.put, List.setIfInBounds_toArray, List.set_cons_zero, List.set_cons_succ]
            refine wpAnyH_take (i := 3) (oi := { dst := some 35, op := Go.Op.slice 38 (Go.Operand.tmp 33) none (some (Go.Operand.tmp 34)) none, type := 38, pos := "ref.go:66", after := #[{ on := 1, ground := Go.Ground.data }, { on := 2, ground := Go.Ground.data }], guard := none }) (v := .slice (some ag) 0 cap') rfl (by kernel_rfl) (by kernel_rfl) (by kernel_rfl) (fun _ _ _ h => h) (Or.inl ⟨by rfl, ?_⟩) hH ?_
            (intro w5 hS5; go_simp; (try rfl); (try (intro h5; omega)))
            try simp only [Act.put, List.setIfInBounds_toArray, List.set_cons_zero, List.set_cons_succ]
            refine wpAnyH_take (i := 5) (oi := { dst := some 37, op := Go.Op.move (Go.Operand.tmp 0), type := 38, pos := "ref.go:66", after := #[], guard := none }) (v := .slice (some ad) n cap) rfl (by kernel_rfl) (by kernel_rfl) (by kernel_rfl) (fun _ _ _ h => h) (Or.inl ⟨by rfl, ?_⟩) hH ?_
            (intro w5 hS5; go_simp; try rfl)
            try simp only [Act.put, List.setIfInBounds_toArray, List.set_cons_zero, List.set_cons_succ]
            refine wpAnyH_take (i := 6) (oi := { dst := some 38, op := Go.Op.move (Go.Operand.tmp 4), type := 3, pos := "ref.go:66", after := #[], guard := none }) (v := .int .i64 (k : Nat)) rfl (by kernel_rfl) (by kernel_rfl) (by kernel_rfl) (fun _ _ _ h => h) (Or.inl ⟨by rfl, ?_⟩) hH ?_
            (intro w5 hS5; go_simp; try rfl)
            try simp only [Act.put, List.setIfInBounds_toArray, List.set_cons_zero, List.set_cons_succ]
            refine wpAnyH_take (i := 7) (oi := { dst := some 39, op := Go.Op.indexAddr 38 (Go.Operand.tmp 37) (Go.Operand.tmp 38), type := 0, pos := "ref.go:66", after := #[{ on := 5, ground := Go.Ground.data }, { on := 6, ground := Go.Ground.data }], guard := none }) (v := .pointer (some (ad.add (k * 19)))) rfl (by kernel_rfl) (by kernel_rfl) (by kernel_rfl) (fun _ _ _ h => h) (Or.inl ⟨by rfl, ?_⟩) hH ?_
            (intro w5 hS5; go_simp; try rfl)
            try simp only [Act.put, List.setIfInBounds_toArray, List.set_cons_zero, List.set_cons_succ]
            refine wpAnyH_take (i := 8) (oi := { dst := some 40, op := Go.Op.load 36 (Go.Operand.tmp 39), type := 36, pos := "ref.go:66", after := #[{ on := 7, ground := Go.Ground.data }], guard := none }) (v := .agg r) rfl (by kernel_rfl) (by kernel_rfl) (by kernel_rfl) (fun _ _ _ h => h) (Or.inl ⟨by rfl, ?_⟩) hH ?_
            (intro w5 hS5; refine yl_ld rfl rfl (lda_at _ _ _ (La.out _ hS5)))
            try simp only [Act.put, List.setIfInBounds_toArray, List.set_cons_zero, List.set_cons_succ]
            refine wpAnyH_take (i := 11) (oi := { dst := some 43, op := Go.Op.move (Go.Operand.tmp 3), type := 38, pos := "ref.go:66", after := #[], guard := none }) (v := .slice (some ag) k cap') rfl (by kernel_rfl) (by kernel_rfl) (by kernel_rfl) (fun _ _ _ h => h) (Or.inl ⟨by rfl, ?_⟩) hH ?_
            (intro w5 hS5; go_simp; try rfl)
            try simp only [Act.put, List.setIfInBounds_toArray, List.set_cons_zero, List.set_cons_succ]
            refine wpAnyH_take (i := 12) (oi := { dst := some 44, op := Go.Op.move (Go.Operand.tmp 5), type := 3, pos := "ref.go:66", after := #[], guard := none }) (v := .int .i64 (0 : Nat)) rfl (by kernel_rfl) (by kernel_rfl) (by kernel_rfl) (fun _ _ _ h => h) (Or.inl ⟨by rfl, ?_⟩) hH ?_
            (intro w5 hS5; go_simp; try rfl)
            try simp only [Act.put, List.setIfInBounds_toArray, List.set_cons_zero, List.set_cons_succ]
            refine wpAnyH_take (i := 13) (oi := { dst := some 45, op := Go.Op.slice 38 (Go.Operand.tmp 43) (some (Go.Operand.tmp 44)) none none, type := 38, pos := "ref.go:66", after := #[{ on := 11, ground := Go.Ground.data }, { on := 12, ground := Go.Ground.data }], guard := none }) (v := .slice (some (ag.add (0 * 19))) (k - 0) (cap' - 0)) rfl (by kernel_rfl) (by kernel_rfl) (by kernel_rfl) (fun _ _ _ h => h) (Or.inl ⟨by rfl, ?_⟩) hH ?_
            (intro w5 hS5; go_simp; (try rfl); (try (have hz2 := haz.out; rw [← hz2])); (try (split <;> rfl)))
            try simp only [Act.put, List.setIfInBounds_toArray, List.set_cons_zero, List.set_cons_succ]
            refine wpAnyH_ready (rs := [0, 9]) (by kernel_rfl) (by simp) ?_
            refine AllReadyH.cons (o := { dst := some 32, op := Go.Op.buildSlice 38 0 #[], type := 38, pos := "ref.go:66", after := #[], guard := none }) rfl (fun K5 hK5 => ?_) (AllReadyH.cons (o := { dst := some 41, op := Go.Op.buildSlice 38 1 #[(0, Go.Operand.tmp 40)], type := 38, pos := "ref.go:66", after := #[{ on := 8, ground := Go.Ground.data }], guard := none }) rfl (fun K5 hK5 => ?_) AllReadyH.nil)
            · rw [if_pos (by rfl)]
              refine wp_emp rfl ?_
              intro w1 oe ne se; have oe2 := own_base oe (show wo.heap.size ≤ _ from (hH).lt)
              refine hK5.out _ _ ((hH).trans ne) (fun hH1 => ?_)
              clear hK5 K5
              try simp only [Act.put, List.setIfInBounds_toArray, List.set_cons_zero, List.set_cons_succ]
              refine wpAnyH_ready (rs := [4, 9]) (by kernel_rfl) (by simp) ?_
              refine AllReadyH.cons (o := { dst := some 36, op := Go.Op.call { callee := Go.Callee.builtin Go.Builtin.append, args := #[Go.Operand.tmp 32, Go.Operand.tmp 35], argTypes := #[38, 38] }, type := 38, pos := "ref.go:66", after := #[{ on := 0, ground := Go.Ground.data }, { on := 3, ground := Go.Ground.data }], guard := none }) rfl (fun K5 hK5 => ?_) (AllReadyH.cons (o := { dst := some 41, op := Go.Op.buildSlice 38 1 #[(0, Go.Operand.tmp 40)], type := 38, pos := "ref.go:66", after := #[{ on := 8, ground := Go.Ground.data }], guard := none }) rfl (fun K5 hK5 => ?_) AllReadyH.nil)
              · rw [if_pos (by rfl)]
                refine wp_app (.tmp 32) (.tmp 35) rfl _ _ [] (l.take 0) wo.heap.size rfl oe2 (fun e => by have e2 : Value.slice (some _) 0 0 = Value.slice none 0 0 := e; cases e2) rfl (AR1.out _ hH1) (by first | (simp; done) | (simp; have := ll.out; omega)) (hH1).lt ?_
                intro v2 w2 o2 ne2 g2 h2; rw [List.nil_append] at o2
                refine hK5.out _ _ ((hH1).grown g2 (fun b e => (oe2.lt _ e).1)) (fun hH2 => ?_)
                clear hK5 K5
                try simp only [Act.put, List.setIfInBounds_toArray, List.set_cons_zero, List.set_cons_succ]
                refine wpAnyH_ready (rs := [9]) (by kernel_rfl) (by simp) ?_
                refine AllReadyH.cons (o := { dst := some 41, op := Go.Op.buildSlice 38 1 #[(0, Go.Operand.tmp 40)], type := 38, pos := "ref.go:66", after := #[{ on := 8, ground := Go.Ground.data }], guard := none }) rfl (fun K5 hK5 => ?_) AllReadyH.nil
                rw [if_pos (by rfl)]
                refine wp_rows (n := 1) (c := fun _ => r) rfl (by rw [Array.toList_map]; rfl) (by decide) (by decide) (fun _ => IK.out) ?_
                intro w3 mb hp2; have P2 := hp2 0 (by decide); rw [Addr.add_mid] at P2; simp only [Nat.zero_mul, Nat.add_zero] at P2; clear hp2
                refine hK5.out _ _ ((hH2).trans mb) (fun hH3 => ?_)
                clear hK5 K5
                try simp only [Act.put, List.setIfInBounds_toArray, List.set_cons_zero, List.set_cons_succ]
                replace o2 := own_new o2 mb
                refine wpAnyH_ready (rs := [10]) (by kernel_rfl) (by simp) ?_
                refine AllReadyH.cons (o := { dst := some 42, op := Go.Op.call { callee := Go.Callee.builtin Go.Builtin.append, args := #[Go.Operand.tmp 36, Go.Operand.tmp 41], argTypes := #[38, 38] }, type := 38, pos := "ref.go:66", after := #[{ on := 4, ground := Go.Ground.data }, { on := 9, ground := Go.Ground.data }, { on := 4, ground := Go.Ground.chain }], guard := none }) rfl (fun K5 hK5 => ?_) AllReadyH.nil
                rw [if_pos (by rfl)]
                refine wp_puta (.tmp 36) (.tmp 41) rfl v2 (l.take 0) wo.heap.size x _ rfl o2 rfl (hr.out.symm ▸ P2) (by first | (simp; done) | (simp; have := ll.out; omega)) (hH3).lt ?_
                intro v3 w8 o8 g8 h8; have ne8 := put_ne o8
                refine hK5.out _ _ ((hH3).grown g8 (fun b e => (o2.lt _ e).1)) (fun hH8 => ?_)
                clear hK5 K5
                try simp only [Act.put, List.setIfInBounds_toArray, List.set_cons_zero, List.set_cons_succ]
                refine wpAnyH_ready (rs := [14]) (by kernel_rfl) (by simp) ?_
                refine AllReadyH.cons (o := { dst := some 46, op := Go.Op.call { callee := Go.Callee.builtin Go.Builtin.append, args := #[Go.Operand.tmp 42, Go.Operand.tmp 45], argTypes := #[38, 38] }, type := 38, pos := "ref.go:66", after := #[{ on := 10, ground := Go.Ground.data }, { on := 13, ground := Go.Ground.data }, { on := 10, ground := Go.Ground.chain }], guard := none }) rfl (fun K5 hK5 => ?_) AllReadyH.nil
                rw [if_pos (by rfl)]
                refine wp_app (.tmp 42) (.tmp 45) rfl v3 _ ((l.take 0) ++ [x]) (l.drop 0) wo.heap.size rfl o8 ne8 rfl (AR2.out _ hH8) (by first | (simp; done) | (simp; have := ll.out; omega)) hH8.lt ?_
                intro v9 w9 o9 ne9 g9 h9
                refine hK5.out _ _ (hH8.grown g9 (fun b e => (o8.lt _ e).1)) (fun hH9 => ?_)
                clear hK5 K5
                try simp only [Act.put, List.setIfInBounds_toArray, List.set_cons_zero, List.set_cons_succ]
                refine wpAnyH_take (i := 15) (oi := { dst := some 3, op := Go.Op.assign (Go.Operand.tmp 46), type := 38, pos := "ref.go:66", after := #[{ on := 14, ground := Go.Ground.data }, { on := 14, ground := Go.Ground.chain }, { on := 0, ground := Go.Ground.phase }, { on := 1, ground := Go.Ground.phase }, { on := 2, ground := Go.Ground.phase }, { on := 3, ground := Go.Ground.phase }, { on := 4, ground := Go.Ground.phase }, { on := 5, ground := Go.Ground.phase }, { on := 6, ground := Go.Ground.phase }, { on := 7, ground := Go.Ground.phase }, { on := 8, ground := Go.Ground.phase }, { on := 9, ground := Go.Ground.phase }, { on := 10, ground := Go.Ground.phase }, { on := 11, ground := Go.Ground.phase }, { on := 12, ground := Go.Ground.phase }, { on := 13, ground := Go.Ground.phase }, { on := 14, ground := Go.Ground.phase }], guard := none }) (v := v9) rfl (by kernel_rfl) (by kernel_rfl) (by kernel_rfl) (fun _ _ _ h => h) (Or.inl ⟨by rfl, ?_⟩) hH9 ?_
                (intro w5 hS5; go_simp; try rfl)
                try simp only [Act.put, List.setIfInBounds_toArray, List.set_cons_zero, List.set_cons_succ]
                refine wpAnyH_done (by kernel_rfl) ?_ _
                have HF := Lib.hid (⟨o9, hH9⟩ : _ ∧ _)
                clear o9 hH9 hH8 o8 o2 P2 g8 g9 h8 h9 ne8 ne9 hH hH1 hH2 hH3
                go_wp2_with fail
                go_roundg (gq - 1)
                case rel => have hq := hgq.out; exact ⟨_, _, by omega, by go_num, Lib.hid (by rw [MAP0.out]; exact own_base (by first | exact HF.out.1 | (have hh := HF.out.1; simp only [List.take_zero, List.drop_zero, List.nil_append, List.append_nil, List.take_nil, List.drop_nil, List.append_assoc] at hh ⊢; exact hh)) lw.out), INS0, Lib.hid (NW.out.trans HF.out.2)⟩
                case measure => have hq := hgq.out; omega
              · rw [if_pos (by rfl)]
                refine wp_rows (n := 1) (c := fun _ => r) rfl (by rw [Array.toList_map]; rfl) (by decide) (by decide) (fun _ => IK.out) ?_
                intro w2 mb hp2; have P2 := hp2 0 (by decide); rw [Addr.add_mid] at P2; simp only [Nat.zero_mul, Nat.add_zero] at P2; clear hp2
                refine hK5.out _ _ ((hH1).trans mb) (fun hH2 => ?_)
                clear hK5 K5
                try simp only [Act.put, List.setIfInBounds_toArray, List.set_cons_zero, List.set_cons_succ]
                refine wpAnyH_ready (rs := [4]) (by kernel_rfl) (by simp) ?_
                refine AllReadyH.cons (o := { dst := some 36, op := Go.Op.call { callee := Go.Callee.builtin Go.Builtin.append, args := #[Go.Operand.tmp 32, Go.Operand.tmp 35], argTypes := #[38, 38] }, type := 38, pos := "ref.go:66", after := #[{ on := 0, ground := Go.Ground.data }, { on := 3, ground := Go.Ground.data }], guard := none }) rfl (fun K5 hK5 => ?_) AllReadyH.nil
                rw [if_pos (by rfl)]
                have oe3 := own_new oe2 mb
                refine wp_app (.tmp 32) (.tmp 35) rfl _ _ [] (l.take 0) wo.heap.size rfl oe3 (fun e => by have e2 : Value.slice (some _) 0 0 = Value.slice none 0 0 := e; cases e2) rfl (AR1.out _ hH2) (by first | (simp; done) | (simp; have := ll.out; omega)) (hH2).lt ?_
                intro v2 w3 o2 ne2 g2 h2; rw [List.nil_append] at o2
                refine hK5.out _ _ ((hH2).grown g2 (fun b e => (oe3.lt _ e).1)) (fun hH3 => ?_)
                clear hK5 K5
                try simp only [Act.put, List.setIfInBounds_toArray, List.set_cons_zero, List.set_cons_succ]
                replace P2 := P2.grownBy g2 (fun e => by have e2 : _ = _ := Option.some.inj e; have h7 := se; simp at e2 h7; omega)
                refine wpAnyH_ready (rs := [10]) (by kernel_rfl) (by simp) ?_
                refine AllReadyH.cons (o := { dst := some 42, op := Go.Op.call { callee := Go.Callee.builtin Go.Builtin.append, args := #[Go.Operand.tmp 36, Go.Operand.tmp 41], argTypes := #[38, 38] }, type := 38, pos := "ref.go:66", after := #[{ on := 4, ground := Go.Ground.data }, { on := 9, ground := Go.Ground.data }, { on := 4, ground := Go.Ground.chain }], guard := none }) rfl (fun K5 hK5 => ?_) AllReadyH.nil
                rw [if_pos (by rfl)]
                refine wp_puta (.tmp 36) (.tmp 41) rfl v2 (l.take 0) wo.heap.size x _ rfl o2 rfl (hr.out.symm ▸ P2) (by first | (simp; done) | (simp; have := ll.out; omega)) (hH3).lt ?_
                intro v3 w8 o8 g8 h8; have ne8 := put_ne o8
                refine hK5.out _ _ ((hH3).grown g8 (fun b e => (o2.lt _ e).1)) (fun hH8 => ?_)
                clear hK5 K5
                try simp only [Act.put, List.setIfInBounds_toArray, List.set_cons_zero, List.set_cons_succ]
                refine wpAnyH_ready (rs := [14]) (by kernel_rfl) (by simp) ?_
                refine AllReadyH.cons (o := { dst := some 46, op := Go.Op.call { callee := Go.Callee.builtin Go.Builtin.append, args := #[Go.Operand.tmp 42, Go.Operand.tmp 45], argTypes := #[38, 38] }, type := 38, pos := "ref.go:66", after := #[{ on := 10, ground := Go.Ground.data }, { on := 13, ground := Go.Ground.data }, { on := 10, ground := Go.Ground.chain }], guard := none }) rfl (fun K5 hK5 => ?_) AllReadyH.nil
                rw [if_pos (by rfl)]
                refine wp_app (.tmp 42) (.tmp 45) rfl v3 _ ((l.take 0) ++ [x]) (l.drop 0) wo.heap.size rfl o8 ne8 rfl (AR2.out _ hH8) (by first | (simp; done) | (simp; have := ll.out; omega)) hH8.lt ?_
                intro v9 w9 o9 ne9 g9 h9
                refine hK5.out _ _ (hH8.grown g9 (fun b e => (o8.lt _ e).1)) (fun hH9 => ?_)
                clear hK5 K5
                try simp only [Act.put, List.setIfInBounds_toArray, List.set_cons_zero, List.set_cons_succ]
                refine wpAnyH_take (i := 15) (oi := { dst := some 3, op := Go.Op.assign (Go.Operand.tmp 46), type := 38, pos := "ref.go:66", after := #[{ on := 14, ground := Go.Ground.data }, { on := 14, ground := Go.Ground.chain }, { on := 0, ground := Go.Ground.phase }, { on := 1, ground := Go.Ground.phase }, { on := 2, ground := Go.Ground.phase }, { on := 3, ground := Go.Ground.phase }, { on := 4, ground := Go.Ground.phase }, { on := 5, ground := Go.Ground.phase }, { on := 6, ground := Go.Ground.phase }, { on := 7, ground := Go.Ground.phase }, { on := 8, ground := Go.Ground.phase }, { on := 9, ground := Go.Ground.phase }, { on := 10, ground := Go.Ground.phase }, { on := 11, ground := Go.Ground.phase }, { on := 12, ground := Go.Ground.phase }, { on := 13, ground := Go.Ground.phase }, { on := 14, ground := Go.Ground.phase }], guard := none }) (v := v9) rfl (by kernel_rfl) (by kernel_rfl) (by kernel_rfl) (fun _ _ _ h => h) (Or.inl ⟨by rfl, ?_⟩) hH9 ?_
                (intro w5 hS5; go_simp; try rfl)
                try simp only [Act.put, List.setIfInBounds_toArray, List.set_cons_zero, List.set_cons_succ]
                refine wpAnyH_done (by kernel_rfl) ?_ _
                have HF := Lib.hid (⟨o9, hH9⟩ : _ ∧ _)
                clear o9 hH9 hH8 o8 o2 P2 g8 g9 h8 h9 ne8 ne9 hH hH1 hH2 hH3
                go_wp2_with fail
                go_roundg (gq - 1)
                case rel => have hq := hgq.out; exact ⟨_, _, by omega, by go_num, Lib.hid (by rw [MAP0.out]; exact own_base (by first | exact HF.out.1 | (have hh := HF.out.1; simp only [List.take_zero, List.drop_zero, List.nil_append, List.append_nil, List.take_nil, List.drop_nil, List.append_assoc] at hh ⊢; exact hh)) lw.out), INS0, Lib.hid (NW.out.trans HF.out.2)⟩
                case measure => have hq := hgq.out; omega
            · rw [if_pos (by rfl)]
              refine wp_rows (n := 1) (c := fun _ => r) rfl (by rw [Array.toList_map]; rfl) (by decide) (by decide) (fun _ => IK.out) ?_
              intro w1 mb hp2; have P2 := hp2 0 (by decide); rw [Addr.add_mid] at P2; simp only [Nat.zero_mul, Nat.add_zero] at P2; clear hp2
              refine hK5.out _ _ ((hH).trans mb) (fun hH1 => ?_)
              clear hK5 K5
              try simp only [Act.put, List.setIfInBounds_toArray, List.set_cons_zero, List.set_cons_succ]
              have hPb := P2.2.1
              refine wpAnyH_ready (rs := [0]) (by kernel_rfl) (by simp) ?_
              refine AllReadyH.cons (o := { dst := some 32, op := Go.Op.buildSlice 38 0 #[], type := 38, pos := "ref.go:66", after := #[], guard := none }) rfl (fun K5 hK5 => ?_) AllReadyH.nil
              rw [if_pos (by rfl)]
              refine wp_emp rfl ?_
              intro w2 oe ne se; have oe2 := own_base oe (show wo.heap.size ≤ _ from (hH1).lt)
              refine hK5.out _ _ ((hH1).trans ne) (fun hH2 => ?_)
              clear hK5 K5
              try simp only [Act.put, List.setIfInBounds_toArray, List.set_cons_zero, List.set_cons_succ]
              replace P2 := P2.new ne
              refine wpAnyH_ready (rs := [4]) (by kernel_rfl) (by simp) ?_
              refine AllReadyH.cons (o := { dst := some 36, op := Go.Op.call { callee := Go.Callee.builtin Go.Builtin.append, args := #[Go.Operand.tmp 32, Go.Operand.tmp 35], argTypes := #[38, 38] }, type := 38, pos := "ref.go:66", after := #[{ on := 0, ground := Go.Ground.data }, { on := 3, ground := Go.Ground.data }], guard := none }) rfl (fun K5 hK5 => ?_) AllReadyH.nil
              rw [if_pos (by rfl)]
              refine wp_app (.tmp 32) (.tmp 35) rfl _ _ [] (l.take 0) wo.heap.size rfl oe2 (fun e => by have e2 : Value.slice (some _) 0 0 = Value.slice none 0 0 := e; cases e2) rfl (AR1.out _ hH2) (by first | (simp; done) | (simp; have := ll.out; omega)) (hH2).lt ?_
              intro v2 w3 o2 ne2 g2 h2; rw [List.nil_append] at o2
              refine hK5.out _ _ ((hH2).grown g2 (fun b e => (oe2.lt _ e).1)) (fun hH3 => ?_)
              clear hK5 K5
              try simp only [Act.put, List.setIfInBounds_toArray, List.set_cons_zero, List.set_cons_succ]
              replace P2 := P2.grownBy g2 (fun e => by have e2 : _ = _ := Option.some.inj e; simp at e2 hPb; omega)
              refine wpAnyH_ready (rs := [10]) (by kernel_rfl) (by simp) ?_
              refine AllReadyH.cons (o := { dst := some 42, op := Go.Op.call { callee := Go.Callee.builtin Go.Builtin.append, args := #[Go.Operand.tmp 36, Go.Operand.tmp 41], argTypes := #[38, 38] }, type := 38, pos := "ref.go:66", after := #[{ on := 4, ground := Go.Ground.data }, { on := 9, ground := Go.Ground.data }, { on := 4, ground := Go.Ground.chain }], guard := none }) rfl (fun K5 hK5 => ?_) AllReadyH.nil
              rw [if_pos (by rfl)]
              refine wp_puta (.tmp 36) (.tmp 41) rfl v2 (l.take 0) wo.heap.size x _ rfl o2 rfl (hr.out.symm ▸ P2) (by first | (simp; done) | (simp; have := ll.out; omega)) (hH3).lt ?_
              intro v3 w8 o8 g8 h8; have ne8 := put_ne o8
              refine hK5.out _ _ ((hH3).grown g8 (fun b e => (o2.lt _ e).1)) (fun hH8 => ?_)
              clear hK5 K5
              try simp only [Act.put, List.setIfInBounds_toArray, List.set_cons_zero, List.set_cons_succ]
              refine wpAnyH_ready (rs := [14]) (by kernel_rfl) (by simp) ?_
              refine AllReadyH.cons (o := { dst := some 46, op := Go.Op.call { callee := Go.Callee.builtin Go.Builtin.append, args := #[Go.Operand.tmp 42, Go.Operand.tmp 45], argTypes := #[38, 38] }, type := 38, pos := "ref.go:66", after := #[{ on := 10, ground := Go.Ground.data }, { on := 13, ground := Go.Ground.data }, { on := 10, ground := Go.Ground.chain }], guard := none }) rfl (fun K5 hK5 => ?_) AllReadyH.nil
              rw [if_pos (by rfl)]
              refine wp_app (.tmp 42) (.tmp 45) rfl v3 _ ((l.take 0) ++ [x]) (l.drop 0) wo.heap.size rfl o8 ne8 rfl (AR2.out _ hH8) (by first | (simp; done) | (simp; have := ll.out; omega)) hH8.lt ?_
              intro v9 w9 o9 ne9 g9 h9
              refine hK5.out _ _ (hH8.grown g9 (fun b e => (o8.lt _ e).1)) (fun hH9 => ?_)
              clear hK5 K5
              try simp only [Act.put, List.setIfInBounds_toArray, List.set_cons_zero, List.set_cons_succ]
              refine wpAnyH_take (i := 15) (oi := { dst := some 3, op := Go.Op.assign (Go.Operand.tmp 46), type := 38, pos := "ref.go:66", after := #[{ on := 14, ground := Go.Ground.data }, { on := 14, ground := Go.Ground.chain }, { on := 0, ground := Go.Ground.phase }, { on := 1, ground := Go.Ground.phase }, { on := 2, ground := Go.Ground.phase }, { on := 3, ground := Go.Ground.phase }, { on := 4, ground := Go.Ground.phase }, { on := 5, ground := Go.Ground.phase }, { on := 6, ground := Go.Ground.phase }, { on := 7, ground := Go.Ground.phase }, { on := 8, ground := Go.Ground.phase }, { on := 9, ground := Go.Ground.phase }, { on := 10, ground := Go.Ground.phase }, { on := 11, ground := Go.Ground.phase }, { on := 12, ground := Go.Ground.phase }, { on := 13, ground := Go.Ground.phase }, { on := 14, ground := Go.Ground.phase }], guard := none }) (v := v9) rfl (by kernel_rfl) (by kernel_rfl) (by kernel_rfl) (fun _ _ _ h => h) (Or.inl ⟨by rfl, ?_⟩) hH9 ?_
              (intro w5 hS5; go_simp; try rfl)
              try simp only [Act.put, List.setIfInBounds_toArray, List.set_cons_zero, List.set_cons_succ]
              refine wpAnyH_done (by kernel_rfl) ?_ _
              have HF := Lib.hid (⟨o9, hH9⟩ : _ ∧ _)
              clear o9 hH9 hH8 o8 o2 P2 g8 g9 h8 h9 ne8 ne9 hH hH1 hH2 hH3
              go_wp2_with fail
              go_roundg (gq - 1)
              case rel => have hq := hgq.out; exact ⟨_, _, by omega, by go_num, Lib.hid (by rw [MAP0.out]; exact own_base (by first | exact HF.out.1 | (have hh := HF.out.1; simp only [List.take_zero, List.drop_zero, List.nil_append, List.append_nil, List.take_nil, List.drop_nil, List.append_assoc] at hh ⊢; exact hh)) lw.out), INS0, Lib.hid (NW.out.trans HF.out.2)⟩
              case measure => have hq := hgq.out; omega
        · have hp1 : 0 < p := by omega
          rcases FM.out with ⟨rfl, e, rfl⟩ | ⟨g, rfl, hcap, hrow, hcell⟩
          · exfalso
            have := ll.out
            rw [e] at this
            simp at this
            omega
          · obtain ⟨p1, hp1'⟩ : ∃ p1 : Nat, p = p1 + 1 := ⟨p - 1, by omega⟩
            have hj : ((p : Nat) : Int) - 1 = (p1 : Nat) := by omega
            have hpi : (p : Int) ≤ k := by omega
            have hp1i : (p1 : Int) < k := by omega
            have hpos : (0 : Int) < (p : Nat) := by omega
            have WJ := Lib.hid (wrap_nat (c := p1) (by omega))
            obtain ⟨ag, hag⟩ : ∃ ag : Addr, (⟨g, 0, none⟩ : Addr) = ag := ⟨_, rfl⟩
            rw [hag] at hrow ⊢
            replace hag := Lib.hid hag
            have Lb := Lib.hid (fun w' (m : New wo w') => (hrow p1 (by omega)).new m)
            have SP := Lib.hid (SQ.out p1 (by omega))
            have INSP := Lib.hid (fun h => INS.out p hpk GT.out (.inr h))
            have GTP := Lib.hid (show sk < (o (d.getD p1 0)).s → ∀ q, p1 ≤ q → q < k → sk < (o (d.getD q 0)).s from fun h q h1 h2 => by
              rcases Nat.lt_or_ge p1 q with h' | h'
              · exact GT.out q (by omega) h2
              · obtain rfl : q = p1 := by omega
                exact h)
            have MAPP := Lib.hid (MAP.out p)
            rw [show p - 1 = p1 by omega] at INSP
            clear INS MAP GT SQ hrow
            generalize (o (d.getD p1 0)).s = sp at *
            obtain ⟨rb, hrb⟩ : ∃ rb, ocs (lk l p1) = rb := ⟨_, rfl⟩
            rw [hrb] at Lb SP
            clear hrb
            obtain ⟨U, hU⟩ : ∃ U, decide (sk < sp) = U := ⟨_, rfl⟩
            have hpe := Lib.hid hp1'
            clear hp1'
            go_wp2_with fail
            refine wp_region_held_drew (S := fun w' => New wo w') (by kernel_rfl) NX.out.drew (fun hH => ?_)
            clear NX
            refine wpAnyH_take (i := 0) (oi := { dst := some 14, op := Go.Op.move (Go.Operand.tmp 5), type := 3, pos := "ref.go:63", after := #[], guard := none }) (v := .int .i64 (p : Nat)) rfl (by kernel_rfl) (by kernel_rfl) (by kernel_rfl) (fun _ _ _ h => h) (Or.inl ⟨by rfl, ?_⟩) hH ?_
            (intro w5 hS5; go_simp; try rfl)
            try simp only [Act.put, List.setIfInBounds_toArray, List.set_cons_zero, List.set_cons_succ]
            refine wpAnyH_take (i := 1) (oi := { dst := some 15, op := Go.Op.binOp Go.BinOp.gtr 3 (Go.Operand.tmp 14) (Go.Operand.const (Go.Value.int Go.IntKind.i64 0)) 3, type := 4, pos := "ref.go:63", after := #[{ on := 0, ground := Go.Ground.data }], guard := none }) (v := .bool true) rfl (by kernel_rfl) (by kernel_rfl) (by kernel_rfl) (fun _ _ _ h => h) (Or.inl ⟨by rfl, ?_⟩) hH ?_
            (intro w5 hS5; go_simp; try rfl)
            try simp only [Act.put, List.setIfInBounds_toArray, List.set_cons_zero, List.set_cons_succ]
            refine wpAnyH_take (i := 2) (oi := { dst := some 16, op := Go.Op.move (Go.Operand.tmp 15), type := 4, pos := "ref.go:63", after := #[{ on := 1, ground := Go.Ground.data }], guard := none }) (v := .bool true) rfl (by kernel_rfl) (by kernel_rfl) (by kernel_rfl) (fun _ _ _ h => h) (Or.inl ⟨by rfl, ?_⟩) hH ?_
            (intro w5 hS5; go_simp; try rfl)
            try simp only [Act.put, List.setIfInBounds_toArray, List.set_cons_zero, List.set_cons_succ]
            refine wpAnyH_take (i := 3) (oi := { dst := some 17, op := Go.Op.move (Go.Operand.tmp 0), type := 38, pos := "ref.go:63", after := #[{ on := 2, ground := Go.Ground.guard }], guard := some (2, true) }) (v := .slice (some ad) n cap) rfl (by kernel_rfl) (by kernel_rfl) (by kernel_rfl) (fun _ _ _ h => h) (Or.inl ⟨by rfl, ?_⟩) hH ?_
            (intro w5 hS5; go_simp; try rfl)
            try simp only [Act.put, List.setIfInBounds_toArray, List.set_cons_zero, List.set_cons_succ]
            refine wpAnyH_take (i := 4) (oi := { dst := some 18, op := Go.Op.move (Go.Operand.tmp 4), type := 3, pos := "ref.go:63", after := #[{ on := 2, ground := Go.Ground.guard }], guard := some (2, true) }) (v := .int .i64 (k : Nat)) rfl (by kernel_rfl) (by kernel_rfl) (by kernel_rfl) (fun _ _ _ h => h) (Or.inl ⟨by rfl, ?_⟩) hH ?_
            (intro w5 hS5; go_simp; try rfl)
            try simp only [Act.put, List.setIfInBounds_toArray, List.set_cons_zero, List.set_cons_succ]
            refine wpAnyH_take (i := 5) (oi := { dst := some 19, op := Go.Op.indexAddr 38 (Go.Operand.tmp 17) (Go.Operand.tmp 18), type := 0, pos := "ref.go:63", after := #[{ on := 3, ground := Go.Ground.data }, { on := 4, ground := Go.Ground.data }, { on := 2, ground := Go.Ground.guard }], guard := some (2, true) }) (v := .pointer (some (ad.add (k * 19)))) rfl (by kernel_rfl) (by kernel_rfl) (by kernel_rfl) (fun _ _ _ h => h) (Or.inl ⟨by rfl, ?_⟩) hH ?_
            (intro w5 hS5; go_simp; try rfl)
            try simp only [Act.put, List.setIfInBounds_toArray, List.set_cons_zero, List.set_cons_succ]
            refine wpAnyH_take (i := 6) (oi := { dst := some 20, op := Go.Op.fieldAddr 36 (Go.Operand.tmp 19) 3, type := 0, pos := "ref.go:63", after := #[{ on := 5, ground := Go.Ground.data }, { on := 2, ground := Go.Ground.guard }], guard := some (2, true) }) (v := .pointer (some ⟨(ad.add (k * 19)).block, (ad.add (k * 19)).off + 17, none⟩)) rfl (by kernel_rfl) (by kernel_rfl) (by kernel_rfl) (fun _ _ _ h => h) (Or.inl ⟨by rfl, ?_⟩) hH ?_
            (intro w5 hS5; go_simp; try rfl)
            try simp only [Act.put, List.setIfInBounds_toArray, List.set_cons_zero, List.set_cons_succ]
            refine wpAnyH_take (i := 7) (oi := { dst := some 21, op := Go.Op.load 3 (Go.Operand.tmp 20), type := 3, pos := "ref.go:63", after := #[{ on := 6, ground := Go.Ground.data }, { on := 2, ground := Go.Ground.guard }], guard := some (2, true) }) (v := .int .i64 sk) rfl (by kernel_rfl) (by kernel_rfl) (by kernel_rfl) (fun _ _ _ h => h) (Or.inl ⟨by rfl, ?_⟩) hH ?_
            (intro w5 hS5; have ck := opat_cell (La.out _ hS5) 17 _ (by decide) SK.out; go_simp; try rfl)
            try simp only [Act.put, List.setIfInBounds_toArray, List.set_cons_zero, List.set_cons_succ]
            refine wpAnyH_take (i := 8) (oi := { dst := some 22, op := Go.Op.move (Go.Operand.tmp 3), type := 38, pos := "ref.go:63", after := #[{ on := 2, ground := Go.Ground.guard }], guard := some (2, true) }) (v := .slice (some ag) k cap') rfl (by kernel_rfl) (by kernel_rfl) (by kernel_rfl) (fun _ _ _ h => h) (Or.inl ⟨by rfl, ?_⟩) hH ?_
            (intro w5 hS5; go_simp; try rfl)
            try simp only [Act.put, List.setIfInBounds_toArray, List.set_cons_zero, List.set_cons_succ]
            refine wpAnyH_take (i := 9) (oi := { dst := some 23, op := Go.Op.move (Go.Operand.tmp 5), type := 3, pos := "ref.go:63", after := #[{ on := 2, ground := Go.Ground.guard }], guard := some (2, true) }) (v := .int .i64 (p : Nat)) rfl (by kernel_rfl) (by kernel_rfl) (by kernel_rfl) (fun _ _ _ h => h) (Or.inl ⟨by rfl, ?_⟩) hH ?_
            (intro w5 hS5; go_simp; try rfl)
            try simp only [Act.put, List.setIfInBounds_toArray, List.set_cons_zero, List.set_cons_succ]
            refine wpAnyH_take (i := 10) (oi := { dst := some 24, op := Go.Op.binOp Go.BinOp.sub 3 (Go.Operand.tmp 23) (Go.Operand.const (Go.Value.int Go.IntKind.i64 1)) 3, type := 3, pos := "ref.go:63", after := #[{ on := 9, ground := Go.Ground.data }, { on := 2, ground := Go.Ground.guard }], guard := some (2, true) }) (v := .int .i64 (p1 : Nat)) rfl (by kernel_rfl) (by kernel_rfl) (by kernel_rfl) (fun _ _ _ h => h) (Or.inl ⟨by rfl, ?_⟩) hH ?_
            (intro w5 hS5; go_simp; exact WJ.out)
            try simp only [Act.put, List.setIfInBounds_toArray, List.set_cons_zero, List.set_cons_succ]
            refine wpAnyH_take (i := 11) (oi := { dst := some 25, op := Go.Op.indexAddr 38 (Go.Operand.tmp 22) (Go.Operand.tmp 24), type := 0, pos := "ref.go:63", after := #[{ on := 8, ground := Go.Ground.data }, { on := 10, ground := Go.Ground.data }, { on := 2, ground := Go.Ground.guard }], guard := some (2, true) }) (v := .pointer (some (ag.add (p1 * 19)))) rfl (by kernel_rfl) (by kernel_rfl) (by kernel_rfl) (fun _ _ _ h => h) (Or.inl ⟨by rfl, ?_⟩) hH ?_
            (intro w5 hS5; go_simp; try rfl)
            try simp only [Act.put, List.setIfInBounds_toArray, List.set_cons_zero, List.set_cons_succ]
            refine wpAnyH_take (i := 12) (oi := { dst := some 26, op := Go.Op.fieldAddr 36 (Go.Operand.tmp 25) 3, type := 0, pos := "ref.go:63", after := #[{ on := 11, ground := Go.Ground.data }, { on := 2, ground := Go.Ground.guard }], guard := some (2, true) }) (v := .pointer (some ⟨(ag.add (p1 * 19)).block, (ag.add (p1 * 19)).off + 17, none⟩)) rfl (by kernel_rfl) (by kernel_rfl) (by kernel_rfl) (fun _ _ _ h => h) (Or.inl ⟨by rfl, ?_⟩) hH ?_
            (intro w5 hS5; go_simp; try rfl)
            try simp only [Act.put, List.setIfInBounds_toArray, List.set_cons_zero, List.set_cons_succ]
            refine wpAnyH_take (i := 13) (oi := { dst := some 27, op := Go.Op.load 3 (Go.Operand.tmp 26), type := 3, pos := "ref.go:63", after := #[{ on := 12, ground := Go.Ground.data }, { on := 2, ground := Go.Ground.guard }], guard := some (2, true) }) (v := .int .i64 sp) rfl (by kernel_rfl) (by kernel_rfl) (by kernel_rfl) (fun _ _ _ h => h) (Or.inl ⟨by rfl, ?_⟩) hH ?_
            (intro w5 hS5; have ck := opat_cell (Lb.out _ hS5) 17 _ (by decide) SP.out; go_simp; try rfl)
            try simp only [Act.put, List.setIfInBounds_toArray, List.set_cons_zero, List.set_cons_succ]
            refine wpAnyH_take (i := 14) (oi := { dst := some 28, op := Go.Op.binOp Go.BinOp.lss 3 (Go.Operand.tmp 21) (Go.Operand.tmp 27) 3, type := 4, pos := "ref.go:63", after := #[{ on := 7, ground := Go.Ground.data }, { on := 13, ground := Go.Ground.data }, { on := 2, ground := Go.Ground.guard }], guard := some (2, true) }) (v := .bool U) rfl (by kernel_rfl) (by kernel_rfl) (by kernel_rfl) (fun _ _ _ h => h) (Or.inl ⟨by rfl, ?_⟩) hH ?_
            (intro w5 hS5; go_simp; simp only [hU]; try rfl)
            try simp only [Act.put, List.setIfInBounds_toArray, List.set_cons_zero, List.set_cons_succ]
            refine wpAnyH_take (i := 15) (oi := { dst := some 29, op := Go.Op.pick (Go.Operand.tmp 16) (Go.Operand.tmp 28) (Go.Operand.const (Go.Value.bool false)), type := 4, pos := "ref.go:63", after := #[{ on := 2, ground := Go.Ground.data }, { on := 14, ground := Go.Ground.data }], guard := none }) (v := .bool U) rfl (by kernel_rfl) (by kernel_rfl) (by kernel_rfl) (fun _ _ _ h => h) (Or.inl ⟨by rfl, ?_⟩) hH ?_
            (intro w5 hS5; go_simp; try rfl)
            try simp only [Act.put, List.setIfInBounds_toArray, List.set_cons_zero, List.set_cons_succ]
            refine wpAnyH_done (by kernel_rfl) ?_ _
            have HZ := Lib.hid hH
            clear hH
            cases U
            · have INS0 := Lib.hid (INSP.out (by have := of_decide_eq_false hU; omega))
              have MAP0 := MAPP
              clear hU INSP GTP MAPP
              go_wp2_with fail
              have kc : (k : Int) ≤ cap' := by have := ll.out; omega
              have AR1 := Lib.hid (show ∀ w', New wo w' → ArgL w' (.slice (some ag) p cap') (l.take p) from fun w' m => .inr ⟨ag, cap', by rw [List.length_take, ll.out, Nat.min_eq_left (by omega)], fun j u hu => by rw [← hag.out, Addr.add_mid, Nat.zero_add]; exact (m.cell (p := ⟨g, j, none⟩) (World.block_lt_of_cell? _ _ (hcell _ _ (rcells_take hu)))).trans (hcell _ _ (rcells_take hu))⟩)
              obtain ⟨az, haz⟩ : ∃ az : Addr, (if cap' = p then ag else ag.add (p * 19)) = az := ⟨_, rfl⟩
              replace haz := Lib.hid haz
              have AR2 := Lib.hid (show ∀ w', New wo w' → ArgL w' (.slice (some az) (k - p) (cap' - p)) (l.drop p) from fun w' m => .inr ⟨_, cap' - p, by rw [List.length_drop, ll.out], fun j u hu => by
                rcases Nat.lt_or_ge p k with hpk2 | hpk2
                · rw [← haz.out, if_neg (by omega), ← hag.out, Addr.add_mid, Addr.add_mid]; have hh := (m.cell (p := ⟨g, p * 19 + j, none⟩) (World.block_lt_of_cell? _ _ (hcell _ _ (rcells_drop (by rw [ll.out]; omega) hu)))).trans (hcell _ _ (rcells_drop (by rw [ll.out]; omega) hu)); first | exact hh | (simp only [Nat.zero_add, Nat.zero_mul] at hh ⊢; exact hh)
                · exfalso; rw [List.drop_eq_nil_of_le (by rw [ll.out]; exact hpk2)] at hu; simp [rcells] at hu⟩)
              refine wp_region_held_drew (S := fun w' => New wo w') (by kernel_rfl) HZ.out.drew (fun hH => ?_)
              clear HZ
              refine wpAnyH_take (i := 1) (oi := { dst := some 33, op := Go.Op.move (Go.Operand.tmp 3), type := 38, pos := "ref.go:66", after := #[], guard := none }) (v := .slice (some ag) k cap') rfl (by kernel_rfl) (by kernel_rfl) (by kernel_rfl) (fun _ _ _ h => h) (Or.inl ⟨by rfl, ?_⟩) hH ?_
              (intro w5 hS5; go_simp; try rfl)
              try simp only [Act.put, List.setIfInBounds_toArray, List.set_cons_zero, List.set_cons_succ]
              refine wpAnyH_take (i := 2) (oi := { dst := some 34, op := Go.Op.move (Go.Operand.tmp 5), type := 3, pos := "ref.go:66", after := #[], guard := none }) (v := .int .i64 (p : Nat)) rfl (by kernel_rfl) (by kernel_rfl) (by kernel_rfl) (fun _ _ _ h => h) (Or.inl ⟨by rfl, ?_⟩) hH ?_
              (intro w5 hS5; go_simp; try rfl)
              try simp only [Act.put, List.setIfInBounds_toArray, List.set_cons_zero, List.set_cons_succ]
              refine wpAnyH_take (i := 3) (oi := { dst := some 35, op := Go.Op.slice 38 (Go.Operand.tmp 33) none (some (Go.Operand.tmp 34)) none, type := 38, pos := "ref.go:66", after := #[{ on := 1, ground := Go.Ground.data }, { on := 2, ground := Go.Ground.data }], guard := none }) (v := .slice (some ag) p cap') rfl (by kernel_rfl) (by kernel_rfl) (by kernel_rfl) (fun _ _ _ h => h) (Or.inl ⟨by rfl, ?_⟩) hH ?_
              (intro w5 hS5; go_simp; (try rfl); (try (intro h5; omega)))
              try simp only [Act.put, List.setIfInBounds_toArray, List.set_cons_zero, List.set_cons_succ]
              refine wpAnyH_take (i := 5) (oi := { dst := some 37, op := Go.Op.move (Go.Operand.tmp 0), type := 38, pos := "ref.go:66", after := #[], guard := none }) (v := .slice (some ad) n cap) rfl (by kernel_rfl) (by kernel_rfl) (by kernel_rfl) (fun _ _ _ h => h) (Or.inl ⟨by rfl, ?_⟩) hH ?_
              (intro w5 hS5; go_simp; try rfl)
              try simp only [Act.put, List.setIfInBounds_toArray, List.set_cons_zero, List.set_cons_succ]
              refine wpAnyH_take (i := 6) (oi := { dst := some 38, op := Go.Op.move (Go.Operand.tmp 4), type := 3, pos := "ref.go:66", after := #[], guard := none }) (v := .int .i64 (k : Nat)) rfl (by kernel_rfl) (by kernel_rfl) (by kernel_rfl) (fun _ _ _ h => h) (Or.inl ⟨by rfl, ?_⟩) hH ?_
              (intro w5 hS5; go_simp; try rfl)
              try simp only [Act.put, List.setIfInBounds_toArray, List.set_cons_zero, List.set_cons_succ]
              refine wpAnyH_take (i := 7) (oi := { dst := some 39, op := Go.Op.indexAddr 38 (Go.Operand.tmp 37) (Go.Operand.tmp 38), type := 0, pos := "ref.go:66", after := #[{ on := 5, ground := Go.Ground.data }, { on := 6, ground := Go.Ground.data }], guard := none }) (v := .pointer (some (ad.add (k * 19)))) rfl (by kernel_rfl) (by kernel_rfl) (by kernel_rfl) (fun _ _ _ h => h) (Or.inl ⟨by rfl, ?_⟩) hH ?_
              (intro w5 hS5; go_simp; try rfl)
              try simp only [Act.put, List.setIfInBounds_toArray, List.set_cons_zero, List.set_cons_succ]
              refine wpAnyH_take (i := 8) (oi := { dst := some 40, op := Go.Op.load 36 (Go.Operand.tmp 39), type := 36, pos := "ref.go:66", after := #[{ on := 7, ground := Go.Ground.data }], guard := none }) (v := .agg r) rfl (by kernel_rfl) (by kernel_rfl) (by kernel_rfl) (fun _ _ _ h => h) (Or.inl ⟨by rfl, ?_⟩) hH ?_
              (intro w5 hS5; refine yl_ld rfl rfl (lda_at _ _ _ (La.out _ hS5)))
              try simp only [Act.put, List.setIfInBounds_toArray, List.set_cons_zero, List.set_cons_succ]
              refine wpAnyH_take (i := 11) (oi := { dst := some 43, op := Go.Op.move (Go.Operand.tmp 3), type := 38, pos := "ref.go:66", after := #[], guard := none }) (v := .slice (some ag) k cap') rfl (by kernel_rfl) (by kernel_rfl) (by kernel_rfl) (fun _ _ _ h => h) (Or.inl ⟨by rfl, ?_⟩) hH ?_
              (intro w5 hS5; go_simp; try rfl)
              try simp only [Act.put, List.setIfInBounds_toArray, List.set_cons_zero, List.set_cons_succ]
              refine wpAnyH_take (i := 12) (oi := { dst := some 44, op := Go.Op.move (Go.Operand.tmp 5), type := 3, pos := "ref.go:66", after := #[], guard := none }) (v := .int .i64 (p : Nat)) rfl (by kernel_rfl) (by kernel_rfl) (by kernel_rfl) (fun _ _ _ h => h) (Or.inl ⟨by rfl, ?_⟩) hH ?_
              (intro w5 hS5; go_simp; try rfl)
              try simp only [Act.put, List.setIfInBounds_toArray, List.set_cons_zero, List.set_cons_succ]
              refine wpAnyH_take (i := 13) (oi := { dst := some 45, op := Go.Op.slice 38 (Go.Operand.tmp 43) (some (Go.Operand.tmp 44)) none none, type := 38, pos := "ref.go:66", after := #[{ on := 11, ground := Go.Ground.data }, { on := 12, ground := Go.Ground.data }], guard := none }) (v := .slice (some az) (k - p) (cap' - p)) rfl (by kernel_rfl) (by kernel_rfl) (by kernel_rfl) (fun _ _ _ h => h) (Or.inl ⟨by rfl, ?_⟩) hH ?_
              (intro w5 hS5; go_simp; (try rfl); (try (have hz2 := haz.out; rw [← hz2])); (try (split <;> rfl)))
              try simp only [Act.put, List.setIfInBounds_toArray, List.set_cons_zero, List.set_cons_succ]
              refine wpAnyH_ready (rs := [0, 9]) (by kernel_rfl) (by simp) ?_
              refine AllReadyH.cons (o := { dst := some 32, op := Go.Op.buildSlice 38 0 #[], type := 38, pos := "ref.go:66", after := #[], guard := none }) rfl (fun K5 hK5 => ?_) (AllReadyH.cons (o := { dst := some 41, op := Go.Op.buildSlice 38 1 #[(0, Go.Operand.tmp 40)], type := 38, pos := "ref.go:66", after := #[{ on := 8, ground := Go.Ground.data }], guard := none }) rfl (fun K5 hK5 => ?_) AllReadyH.nil)
              · rw [if_pos (by rfl)]
                refine wp_emp rfl ?_
                intro w1 oe ne se; have oe2 := own_base oe (show wo.heap.size ≤ _ from (hH).lt)
                refine hK5.out _ _ ((hH).trans ne) (fun hH1 => ?_)
                clear hK5 K5
                try simp only [Act.put, List.setIfInBounds_toArray, List.set_cons_zero, List.set_cons_succ]
                refine wpAnyH_ready (rs := [4, 9]) (by kernel_rfl) (by simp) ?_
                refine AllReadyH.cons (o := { dst := some 36, op := Go.Op.call { callee := Go.Callee.builtin Go.Builtin.append, args := #[Go.Operand.tmp 32, Go.Operand.tmp 35], argTypes := #[38, 38] }, type := 38, pos := "ref.go:66", after := #[{ on := 0, ground := Go.Ground.data }, { on := 3, ground := Go.Ground.data }], guard := none }) rfl (fun K5 hK5 => ?_) (AllReadyH.cons (o := { dst := some 41, op := Go.Op.buildSlice 38 1 #[(0, Go.Operand.tmp 40)], type := 38, pos := "ref.go:66", after := #[{ on := 8, ground := Go.Ground.data }], guard := none }) rfl (fun K5 hK5 => ?_) AllReadyH.nil)
                · rw [if_pos (by rfl)]
                  refine wp_app (.tmp 32) (.tmp 35) rfl _ _ [] (l.take p) wo.heap.size rfl oe2 (fun e => by have e2 : Value.slice (some _) 0 0 = Value.slice none 0 0 := e; cases e2) rfl (AR1.out _ hH1) (by first | (simp; done) | (simp; have := ll.out; omega)) (hH1).lt ?_
                  intro v2 w2 o2 ne2 g2 h2; rw [List.nil_append] at o2
                  refine hK5.out _ _ ((hH1).grown g2 (fun b e => (oe2.lt _ e).1)) (fun hH2 => ?_)
                  clear hK5 K5
                  try simp only [Act.put, List.setIfInBounds_toArray, List.set_cons_zero, List.set_cons_succ]
                  refine wpAnyH_ready (rs := [9]) (by kernel_rfl) (by simp) ?_
                  refine AllReadyH.cons (o := { dst := some 41, op := Go.Op.buildSlice 38 1 #[(0, Go.Operand.tmp 40)], type := 38, pos := "ref.go:66", after := #[{ on := 8, ground := Go.Ground.data }], guard := none }) rfl (fun K5 hK5 => ?_) AllReadyH.nil
                  rw [if_pos (by rfl)]
                  refine wp_rows (n := 1) (c := fun _ => r) rfl (by rw [Array.toList_map]; rfl) (by decide) (by decide) (fun _ => IK.out) ?_
                  intro w3 mb hp2; have P2 := hp2 0 (by decide); rw [Addr.add_mid] at P2; simp only [Nat.zero_mul, Nat.add_zero] at P2; clear hp2
                  refine hK5.out _ _ ((hH2).trans mb) (fun hH3 => ?_)
                  clear hK5 K5
                  try simp only [Act.put, List.setIfInBounds_toArray, List.set_cons_zero, List.set_cons_succ]
                  replace o2 := own_new o2 mb
                  refine wpAnyH_ready (rs := [10]) (by kernel_rfl) (by simp) ?_
                  refine AllReadyH.cons (o := { dst := some 42, op := Go.Op.call { callee := Go.Callee.builtin Go.Builtin.append, args := #[Go.Operand.tmp 36, Go.Operand.tmp 41], argTypes := #[38, 38] }, type := 38, pos := "ref.go:66", after := #[{ on := 4, ground := Go.Ground.data }, { on := 9, ground := Go.Ground.data }, { on := 4, ground := Go.Ground.chain }], guard := none }) rfl (fun K5 hK5 => ?_) AllReadyH.nil
                  rw [if_pos (by rfl)]
                  refine wp_puta (.tmp 36) (.tmp 41) rfl v2 (l.take p) wo.heap.size x _ rfl o2 rfl (hr.out.symm ▸ P2) (by first | (simp; done) | (simp; have := ll.out; omega)) (hH3).lt ?_
                  intro v3 w8 o8 g8 h8; have ne8 := put_ne o8
                  refine hK5.out _ _ ((hH3).grown g8 (fun b e => (o2.lt _ e).1)) (fun hH8 => ?_)
                  clear hK5 K5
                  try simp only [Act.put, List.setIfInBounds_toArray, List.set_cons_zero, List.set_cons_succ]
                  refine wpAnyH_ready (rs := [14]) (by kernel_rfl) (by simp) ?_
                  refine AllReadyH.cons (o := { dst := some 46, op := Go.Op.call { callee := Go.Callee.builtin Go.Builtin.append, args := #[Go.Operand.tmp 42, Go.Operand.tmp 45], argTypes := #[38, 38] }, type := 38, pos := "ref.go:66", after := #[{ on := 10, ground := Go.Ground.data }, { on := 13, ground := Go.Ground.data }, { on := 10, ground := Go.Ground.chain }], guard := none }) rfl (fun K5 hK5 => ?_) AllReadyH.nil
                  rw [if_pos (by rfl)]
                  refine wp_app (.tmp 42) (.tmp 45) rfl v3 _ ((l.take p) ++ [x]) (l.drop p) wo.heap.size rfl o8 ne8 rfl (AR2.out _ hH8) (by first | (simp; done) | (simp; have := ll.out; omega)) hH8.lt ?_
                  intro v9 w9 o9 ne9 g9 h9
                  refine hK5.out _ _ (hH8.grown g9 (fun b e => (o8.lt _ e).1)) (fun hH9 => ?_)
                  clear hK5 K5
                  try simp only [Act.put, List.setIfInBounds_toArray, List.set_cons_zero, List.set_cons_succ]
                  refine wpAnyH_take (i := 15) (oi := { dst := some 3, op := Go.Op.assign (Go.Operand.tmp 46), type := 38, pos := "ref.go:66", after := #[{ on := 14, ground := Go.Ground.data }, { on := 14, ground := Go.Ground.chain }, { on := 0, ground := Go.Ground.phase }, { on := 1, ground := Go.Ground.phase }, { on := 2, ground := Go.Ground.phase }, { on := 3, ground := Go.Ground.phase }, { on := 4, ground := Go.Ground.phase }, { on := 5, ground := Go.Ground.phase }, { on := 6, ground := Go.Ground.phase }, { on := 7, ground := Go.Ground.phase }, { on := 8, ground := Go.Ground.phase }, { on := 9, ground := Go.Ground.phase }, { on := 10, ground := Go.Ground.phase }, { on := 11, ground := Go.Ground.phase }, { on := 12, ground := Go.Ground.phase }, { on := 13, ground := Go.Ground.phase }, { on := 14, ground := Go.Ground.phase }], guard := none }) (v := v9) rfl (by kernel_rfl) (by kernel_rfl) (by kernel_rfl) (fun _ _ _ h => h) (Or.inl ⟨by rfl, ?_⟩) hH9 ?_
                  (intro w5 hS5; go_simp; try rfl)
                  try simp only [Act.put, List.setIfInBounds_toArray, List.set_cons_zero, List.set_cons_succ]
                  refine wpAnyH_done (by kernel_rfl) ?_ _
                  have HF := Lib.hid (⟨o9, hH9⟩ : _ ∧ _)
                  clear o9 hH9 hH8 o8 o2 P2 g8 g9 h8 h9 ne8 ne9 hH hH1 hH2 hH3
                  go_wp2_with fail
                  go_roundg (gq - 1)
                  case rel => have hq := hgq.out; exact ⟨_, _, by omega, by go_num, Lib.hid (by rw [MAP0.out]; exact own_base (by first | exact HF.out.1 | (have hh := HF.out.1; simp only [List.take_zero, List.drop_zero, List.nil_append, List.append_nil, List.take_nil, List.drop_nil, List.append_assoc] at hh ⊢; exact hh)) lw.out), INS0, Lib.hid (NW.out.trans HF.out.2)⟩
                  case measure => have hq := hgq.out; omega
                · rw [if_pos (by rfl)]
                  refine wp_rows (n := 1) (c := fun _ => r) rfl (by rw [Array.toList_map]; rfl) (by decide) (by decide) (fun _ => IK.out) ?_
                  intro w2 mb hp2; have P2 := hp2 0 (by decide); rw [Addr.add_mid] at P2; simp only [Nat.zero_mul, Nat.add_zero] at P2; clear hp2
                  refine hK5.out _ _ ((hH1).trans mb) (fun hH2 => ?_)
                  clear hK5 K5
                  try simp only [Act.put, List.setIfInBounds_toArray, List.set_cons_zero, List.set_cons_succ]
                  refine wpAnyH_ready (rs := [4]) (by kernel_rfl) (by simp) ?_
                  refine AllReadyH.cons (o := { dst := some 36, op := Go.Op.call { callee := Go.Callee.builtin Go.Builtin.append, args := #[Go.Operand.tmp 32, Go.Operand.tmp 35], argTypes := #[38, 38] }, type := 38, pos := "ref.go:66", after := #[{ on := 0, ground := Go.Ground.data }, { on := 3, ground := Go.Ground.data }], guard := none }) rfl (fun K5 hK5 => ?_) AllReadyH.nil
                  rw [if_pos (by rfl)]
                  have oe3 := own_new oe2 mb
                  refine wp_app (.tmp 32) (.tmp 35) rfl _ _ [] (l.take p) wo.heap.size rfl oe3 (fun e => by have e2 : Value.slice (some _) 0 0 = Value.slice none 0 0 := e; cases e2) rfl (AR1.out _ hH2) (by first | (simp; done) | (simp; have := ll.out; omega)) (hH2).lt ?_
                  intro v2 w3 o2 ne2 g2 h2; rw [List.nil_append] at o2
                  refine hK5.out _ _ ((hH2).grown g2 (fun b e => (oe3.lt _ e).1)) (fun hH3 => ?_)
                  clear hK5 K5
                  try simp only [Act.put, List.setIfInBounds_toArray, List.set_cons_zero, List.set_cons_succ]
                  replace P2 := P2.grownBy g2 (fun e => by have e2 : _ = _ := Option.some.inj e; have h7 := se; simp at e2 h7; omega)
                  refine wpAnyH_ready (rs := [10]) (by kernel_rfl) (by simp) ?_
                  refine AllReadyH.cons (o := { dst := some 42, op := Go.Op.call { callee := Go.Callee.builtin Go.Builtin.append, args := #[Go.Operand.tmp 36, Go.Operand.tmp 41], argTypes := #[38, 38] }, type := 38, pos := "ref.go:66", after := #[{ on := 4, ground := Go.Ground.data }, { on := 9, ground := Go.Ground.data }, { on := 4, ground := Go.Ground.chain }], guard := none }) rfl (fun K5 hK5 => ?_) AllReadyH.nil
                  rw [if_pos (by rfl)]
                  refine wp_puta (.tmp 36) (.tmp 41) rfl v2 (l.take p) wo.heap.size x _ rfl o2 rfl (hr.out.symm ▸ P2) (by first | (simp; done) | (simp; have := ll.out; omega)) (hH3).lt ?_
                  intro v3 w8 o8 g8 h8; have ne8 := put_ne o8
                  refine hK5.out _ _ ((hH3).grown g8 (fun b e => (o2.lt _ e).1)) (fun hH8 => ?_)
                  clear hK5 K5
                  try simp only [Act.put, List.setIfInBounds_toArray, List.set_cons_zero, List.set_cons_succ]
                  refine wpAnyH_ready (rs := [14]) (by kernel_rfl) (by simp) ?_
                  refine AllReadyH.cons (o := { dst := some 46, op := Go.Op.call { callee := Go.Callee.builtin Go.Builtin.append, args := #[Go.Operand.tmp 42, Go.Operand.tmp 45], argTypes := #[38, 38] }, type := 38, pos := "ref.go:66", after := #[{ on := 10, ground := Go.Ground.data }, { on := 13, ground := Go.Ground.data }, { on := 10, ground := Go.Ground.chain }], guard := none }) rfl (fun K5 hK5 => ?_) AllReadyH.nil
                  rw [if_pos (by rfl)]
                  refine wp_app (.tmp 42) (.tmp 45) rfl v3 _ ((l.take p) ++ [x]) (l.drop p) wo.heap.size rfl o8 ne8 rfl (AR2.out _ hH8) (by first | (simp; done) | (simp; have := ll.out; omega)) hH8.lt ?_
                  intro v9 w9 o9 ne9 g9 h9
                  refine hK5.out _ _ (hH8.grown g9 (fun b e => (o8.lt _ e).1)) (fun hH9 => ?_)
                  clear hK5 K5
                  try simp only [Act.put, List.setIfInBounds_toArray, List.set_cons_zero, List.set_cons_succ]
                  refine wpAnyH_take (i := 15) (oi := { dst := some 3, op := Go.Op.assign (Go.Operand.tmp 46), type := 38, pos := "ref.go:66", after := #[{ on := 14, ground := Go.Ground.data }, { on := 14, ground := Go.Ground.chain }, { on := 0, ground := Go.Ground.phase }, { on := 1, ground := Go.Ground.phase }, { on := 2, ground := Go.Ground.phase }, { on := 3, ground := Go.Ground.phase }, { on := 4, ground := Go.Ground.phase }, { on := 5, ground := Go.Ground.phase }, { on := 6, ground := Go.Ground.phase }, { on := 7, ground := Go.Ground.phase }, { on := 8, ground := Go.Ground.phase }, { on := 9, ground := Go.Ground.phase }, { on := 10, ground := Go.Ground.phase }, { on := 11, ground := Go.Ground.phase }, { on := 12, ground := Go.Ground.phase }, { on := 13, ground := Go.Ground.phase }, { on := 14, ground := Go.Ground.phase }], guard := none }) (v := v9) rfl (by kernel_rfl) (by kernel_rfl) (by kernel_rfl) (fun _ _ _ h => h) (Or.inl ⟨by rfl, ?_⟩) hH9 ?_
                  (intro w5 hS5; go_simp; try rfl)
                  try simp only [Act.put, List.setIfInBounds_toArray, List.set_cons_zero, List.set_cons_succ]
                  refine wpAnyH_done (by kernel_rfl) ?_ _
                  have HF := Lib.hid (⟨o9, hH9⟩ : _ ∧ _)
                  clear o9 hH9 hH8 o8 o2 P2 g8 g9 h8 h9 ne8 ne9 hH hH1 hH2 hH3
                  go_wp2_with fail
                  go_roundg (gq - 1)
                  case rel => have hq := hgq.out; exact ⟨_, _, by omega, by go_num, Lib.hid (by rw [MAP0.out]; exact own_base (by first | exact HF.out.1 | (have hh := HF.out.1; simp only [List.take_zero, List.drop_zero, List.nil_append, List.append_nil, List.take_nil, List.drop_nil, List.append_assoc] at hh ⊢; exact hh)) lw.out), INS0, Lib.hid (NW.out.trans HF.out.2)⟩
                  case measure => have hq := hgq.out; omega
              · rw [if_pos (by rfl)]
                refine wp_rows (n := 1) (c := fun _ => r) rfl (by rw [Array.toList_map]; rfl) (by decide) (by decide) (fun _ => IK.out) ?_
                intro w1 mb hp2; have P2 := hp2 0 (by decide); rw [Addr.add_mid] at P2; simp only [Nat.zero_mul, Nat.add_zero] at P2; clear hp2
                refine hK5.out _ _ ((hH).trans mb) (fun hH1 => ?_)
                clear hK5 K5
                try simp only [Act.put, List.setIfInBounds_toArray, List.set_cons_zero, List.set_cons_succ]
                have hPb := P2.2.1
                refine wpAnyH_ready (rs := [0]) (by kernel_rfl) (by simp) ?_
                refine AllReadyH.cons (o := { dst := some 32, op := Go.Op.buildSlice 38 0 #[], type := 38, pos := "ref.go:66", after := #[], guard := none }) rfl (fun K5 hK5 => ?_) AllReadyH.nil
                rw [if_pos (by rfl)]
                refine wp_emp rfl ?_
                intro w2 oe ne se; have oe2 := own_base oe (show wo.heap.size ≤ _ from (hH1).lt)
                refine hK5.out _ _ ((hH1).trans ne) (fun hH2 => ?_)
                clear hK5 K5
                try simp only [Act.put, List.setIfInBounds_toArray, List.set_cons_zero, List.set_cons_succ]
                replace P2 := P2.new ne
                refine wpAnyH_ready (rs := [4]) (by kernel_rfl) (by simp) ?_
                refine AllReadyH.cons (o := { dst := some 36, op := Go.Op.call { callee := Go.Callee.builtin Go.Builtin.append, args := #[Go.Operand.tmp 32, Go.Operand.tmp 35], argTypes := #[38, 38] }, type := 38, pos := "ref.go:66", after := #[{ on := 0, ground := Go.Ground.data }, { on := 3, ground := Go.Ground.data }], guard := none }) rfl (fun K5 hK5 => ?_) AllReadyH.nil
                rw [if_pos (by rfl)]
                refine wp_app (.tmp 32) (.tmp 35) rfl _ _ [] (l.take p) wo.heap.size rfl oe2 (fun e => by have e2 : Value.slice (some _) 0 0 = Value.slice none 0 0 := e; cases e2) rfl (AR1.out _ hH2) (by first | (simp; done) | (simp; have := ll.out; omega)) (hH2).lt ?_
                intro v2 w3 o2 ne2 g2 h2; rw [List.nil_append] at o2
                refine hK5.out _ _ ((hH2).grown g2 (fun b e => (oe2.lt _ e).1)) (fun hH3 => ?_)
                clear hK5 K5
                try simp only [Act.put, List.setIfInBounds_toArray, List.set_cons_zero, List.set_cons_succ]
                replace P2 := P2.grownBy g2 (fun e => by have e2 : _ = _ := Option.some.inj e; simp at e2 hPb; omega)
                refine wpAnyH_ready (rs := [10]) (by kernel_rfl) (by simp) ?_
                refine AllReadyH.cons (o := { dst := some 42, op := Go.Op.call { callee := Go.Callee.builtin Go.Builtin.append, args := #[Go.Operand.tmp 36, Go.Operand.tmp 41], argTypes := #[38, 38] }, type := 38, pos := "ref.go:66", after := #[{ on := 4, ground := Go.Ground.data }, { on := 9, ground := Go.Ground.data }, { on := 4, ground := Go.Ground.chain }], guard := none }) rfl (fun K5 hK5 => ?_) AllReadyH.nil
                rw [if_pos (by rfl)]
                refine wp_puta (.tmp 36) (.tmp 41) rfl v2 (l.take p) wo.heap.size x _ rfl o2 rfl (hr.out.symm ▸ P2) (by first | (simp; done) | (simp; have := ll.out; omega)) (hH3).lt ?_
                intro v3 w8 o8 g8 h8; have ne8 := put_ne o8
                refine hK5.out _ _ ((hH3).grown g8 (fun b e => (o2.lt _ e).1)) (fun hH8 => ?_)
                clear hK5 K5
                try simp only [Act.put, List.setIfInBounds_toArray, List.set_cons_zero, List.set_cons_succ]
                refine wpAnyH_ready (rs := [14]) (by kernel_rfl) (by simp) ?_
                refine AllReadyH.cons (o := { dst := some 46, op := Go.Op.call { callee := Go.Callee.builtin Go.Builtin.append, args := #[Go.Operand.tmp 42, Go.Operand.tmp 45], argTypes := #[38, 38] }, type := 38, pos := "ref.go:66", after := #[{ on := 10, ground := Go.Ground.data }, { on := 13, ground := Go.Ground.data }, { on := 10, ground := Go.Ground.chain }], guard := none }) rfl (fun K5 hK5 => ?_) AllReadyH.nil
                rw [if_pos (by rfl)]
                refine wp_app (.tmp 42) (.tmp 45) rfl v3 _ ((l.take p) ++ [x]) (l.drop p) wo.heap.size rfl o8 ne8 rfl (AR2.out _ hH8) (by first | (simp; done) | (simp; have := ll.out; omega)) hH8.lt ?_
                intro v9 w9 o9 ne9 g9 h9
                refine hK5.out _ _ (hH8.grown g9 (fun b e => (o8.lt _ e).1)) (fun hH9 => ?_)
                clear hK5 K5
                try simp only [Act.put, List.setIfInBounds_toArray, List.set_cons_zero, List.set_cons_succ]
                refine wpAnyH_take (i := 15) (oi := { dst := some 3, op := Go.Op.assign (Go.Operand.tmp 46), type := 38, pos := "ref.go:66", after := #[{ on := 14, ground := Go.Ground.data }, { on := 14, ground := Go.Ground.chain }, { on := 0, ground := Go.Ground.phase }, { on := 1, ground := Go.Ground.phase }, { on := 2, ground := Go.Ground.phase }, { on := 3, ground := Go.Ground.phase }, { on := 4, ground := Go.Ground.phase }, { on := 5, ground := Go.Ground.phase }, { on := 6, ground := Go.Ground.phase }, { on := 7, ground := Go.Ground.phase }, { on := 8, ground := Go.Ground.phase }, { on := 9, ground := Go.Ground.phase }, { on := 10, ground := Go.Ground.phase }, { on := 11, ground := Go.Ground.phase }, { on := 12, ground := Go.Ground.phase }, { on := 13, ground := Go.Ground.phase }, { on := 14, ground := Go.Ground.phase }], guard := none }) (v := v9) rfl (by kernel_rfl) (by kernel_rfl) (by kernel_rfl) (fun _ _ _ h => h) (Or.inl ⟨by rfl, ?_⟩) hH9 ?_
                (intro w5 hS5; go_simp; try rfl)
                try simp only [Act.put, List.setIfInBounds_toArray, List.set_cons_zero, List.set_cons_succ]
                refine wpAnyH_done (by kernel_rfl) ?_ _
                have HF := Lib.hid (⟨o9, hH9⟩ : _ ∧ _)
                clear o9 hH9 hH8 o8 o2 P2 g8 g9 h8 h9 ne8 ne9 hH hH1 hH2 hH3
                go_wp2_with fail
                go_roundg (gq - 1)
                case rel => have hq := hgq.out; exact ⟨_, _, by omega, by go_num, Lib.hid (by rw [MAP0.out]; exact own_base (by first | exact HF.out.1 | (have hh := HF.out.1; simp only [List.take_zero, List.drop_zero, List.nil_append, List.append_nil, List.take_nil, List.drop_nil, List.append_assoc] at hh ⊢; exact hh)) lw.out), INS0, Lib.hid (NW.out.trans HF.out.2)⟩
                case measure => have hq := hgq.out; omega
            · have GT1 := Lib.hid (GTP.out (of_decide_eq_true hU))
              clear hU
              go_wp2_with fail
              obtain rfl := hag.out
              go_roundg p1
              case rel => exact ⟨p1, rfl, by go_num, by omega, HZ, GT1⟩
              case measure => have := hz.out; have := hpe.out; omega
    · have hkL : k = n := by omega
      subst hkL
      go_wp2_with fail
      go_ret
      exact ⟨_, d, rfl, OW.out, IO.out, NW.out⟩
end Go.Proofs.Ytplaicdbcfnjbaa
