/- Most: the reference's. -/
import Derived.Test.YtplaicdbcfnjbaaV07
import Derived.Test.YtplaicdbcfnjbaaV08
import Derived.Test.YtplaicdbcfnjbaaV25
import Derived.Test.YtplaicdbcfnjbaaV26
import Derived.Test.YtplaicdbcfnjbaaV14
import Derived.Test.YtplaicdbcfnjbaaV15
set_option linter.unusedSimpArgs false
set_option linter.unusedVariables false
namespace Go.Proofs.Ytplaicdbcfnjbaa
open Go.RowKit
set_option linter.unusedVariables false
theorem undB_self (s e : Int) : undB s e s = (e == -1 || decide (s < e)) := by unfold undB; rw [decide_eq_true (Int.le_refl s)]; rfl
attribute [local irreducible] Go.wpList
set_option maxRecDepth 100000 in
set_option maxHeartbeats 4000000 in
theorem rmost_any (f n : Nat) (o : Nat → OD) (A : Option Addr) (cap : Nat) (w : World) (hA : RowO w f A n o) :
    Calls Try.prog 19 #[.slice A n cap] w fun x w' => x = .returned (.int .i64 (mostU o n n : Nat)) ∧ New w w' := by
  have h1 := hA.1
  have HA := Lib.hid hA
  clear hA
  go_enter Try.func19, Try.ntmps19
  go_wp2_with fail
  go_loopg [4, 3] n (fun q i m wr => ∃ k : Nat, k + q = n ∧ i = .int .i64 k ∧ m = .int .i64 (mostU o n k : Nat) ∧ New w wr)
  case atStart => exact ⟨0, by omega, rfl, rfl, New.refl w⟩
  case round =>
    obtain ⟨k, hk, rfl, rfl, nw⟩ := hrel
    obtain ⟨wo, rfl⟩ : ∃ wo : World, wo = wr := ⟨_, rfl⟩
    obtain ⟨gq, rfl⟩ : ∃ gq : Nat, gq = gk := ⟨_, rfl⟩
    by_cases hkn : k < n
    · obtain ⟨ad, rfl, ca⟩ := HA.out.2.2 (by omega)
      have CA := Lib.hid (fun j (h : j < n) w' (m : New wo w') => ((ca j h).new nw).new m)
      have CK := Lib.hid (fun w' (m : New wo w') => opat_cell (((ca k hkn).new nw).new m) 17 (.int .i64 (o k).s) (by decide) rfl)
      have NW := Lib.hid nw
      have hkn' : (k : Int) < n := by omega
      have hm := mostU_le o n k
      have HM := Lib.hid (show mostU o n (k + 1) = if ((o k).e == -1 || decide ((o k).s < (o k).e)) = true then max (mostU o n k) (cntU o (o k).s n) else mostU o n k from rfl)
      have hcl := fun j => cntU_le o (o k).s j
      have HCL := Lib.hid hcl
      have HYS := Lib.hid (fun j h => cntU_yes (o := o) (a := (o k).s) (k := j) h)
      have HNO := Lib.hid (fun j h => cntU_no (o := o) (a := (o k).s) (k := j) h)
      have HU := Lib.hid (fun j w => under_any (ocs (o j)) (o j).s (o j).e (o k).s w rfl rfl)
      have HS := Lib.hid (undB_self (o k).s (o k).e)
      have HUK := Lib.hid (HU.out k)
      clear ca nw hcl
      generalize mostU o n k = mk at *
      have CAK := Lib.hid (CA.out k hkn)
      generalize ocs (o k) = ra at CAK HUK
      go_wp2_with fail
      go_loopg [6, 5] n (fun q i c w2 => ∃ j : Nat, j + q = n ∧ i = .int .i64 j ∧ c = .int .i64 (cntU o (o k).s j : Nat) ∧ New wo w2)
      case atStart => exact ⟨0, by omega, rfl, rfl, New.refl _⟩
      case round =>
        obtain ⟨j, hj, rfl, rfl, n2⟩ := hrel
        have hcj := HCL.out j
        by_cases hjn : j < n
        · have L2 := Lib.hid (CA.out j hjn)
          have hy := Lib.hid (HYS.out j)
          have hno := Lib.hid (HNO.out j)
          have HUJ := Lib.hid (HU.out j)
          have hjn' : (j : Int) < n := by omega
          generalize undB (o j).s (o j).e (o k).s = U at *
          generalize ocs (o j) = rb at *
          generalize cntU o (o k).s j = c at *
          go_wp2_with fail
          refine wp_region_held_drew (S := fun w' => New wo w') (by kernel_rfl) n2.drew (fun hH => ?_)
          clear n2
          refine wpAnyH_take (i := 0) (oi := { dst := some 19, op := Go.Op.move (Go.Operand.tmp 0), type := 38, pos := "ref.go:97", after := #[], guard := none }) (v := .slice (some ad) n cap) rfl (by kernel_rfl) (by kernel_rfl) (by kernel_rfl) (fun _ _ _ h => h) (Or.inl ⟨by rfl, ?_⟩) hH ?_
          (intro w5 hS5; go_simp; try rfl)
          try simp only [Act.put, List.setIfInBounds_toArray, List.set_cons_zero, List.set_cons_succ]
          refine wpAnyH_take (i := 1) (oi := { dst := some 20, op := Go.Op.move (Go.Operand.tmp 6), type := 3, pos := "ref.go:97", after := #[], guard := none }) (v := .int .i64 (j : Nat)) rfl (by kernel_rfl) (by kernel_rfl) (by kernel_rfl) (fun _ _ _ h => h) (Or.inl ⟨by rfl, ?_⟩) hH ?_
          (intro w5 hS5; go_simp; try rfl)
          try simp only [Act.put, List.setIfInBounds_toArray, List.set_cons_zero, List.set_cons_succ]
          refine wpAnyH_take (i := 2) (oi := { dst := some 21, op := Go.Op.indexAddr 38 (Go.Operand.tmp 19) (Go.Operand.tmp 20), type := 0, pos := "ref.go:97", after := #[{ on := 0, ground := Go.Ground.data }, { on := 1, ground := Go.Ground.data }], guard := none }) (v := .pointer (some (ad.add (j * 19)))) rfl (by kernel_rfl) (by kernel_rfl) (by kernel_rfl) (fun _ _ _ h => h) (Or.inl ⟨by rfl, ?_⟩) hH ?_
          (intro w5 hS5; go_simp; try rfl)
          try simp only [Act.put, List.setIfInBounds_toArray, List.set_cons_zero, List.set_cons_succ]
          refine wpAnyH_take (i := 3) (oi := { dst := some 22, op := Go.Op.load 36 (Go.Operand.tmp 21), type := 36, pos := "ref.go:97", after := #[{ on := 2, ground := Go.Ground.data }], guard := none }) (v := .agg rb) rfl (by kernel_rfl) (by kernel_rfl) (by kernel_rfl) (fun _ _ _ h => h) (Or.inl ⟨by rfl, ?_⟩) hH ?_
          (intro w5 hS5; refine yl_ld rfl rfl (lda_at _ _ _ (L2.out _ hS5)))
          try simp only [Act.put, List.setIfInBounds_toArray, List.set_cons_zero, List.set_cons_succ]
          refine wpAnyH_take (i := 4) (oi := { dst := some 23, op := Go.Op.move (Go.Operand.tmp 0), type := 38, pos := "ref.go:97", after := #[], guard := none }) (v := .slice (some ad) n cap) rfl (by kernel_rfl) (by kernel_rfl) (by kernel_rfl) (fun _ _ _ h => h) (Or.inl ⟨by rfl, ?_⟩) hH ?_
          (intro w5 hS5; go_simp; try rfl)
          try simp only [Act.put, List.setIfInBounds_toArray, List.set_cons_zero, List.set_cons_succ]
          refine wpAnyH_take (i := 5) (oi := { dst := some 24, op := Go.Op.move (Go.Operand.tmp 4), type := 3, pos := "ref.go:97", after := #[], guard := none }) (v := .int .i64 (k : Nat)) rfl (by kernel_rfl) (by kernel_rfl) (by kernel_rfl) (fun _ _ _ h => h) (Or.inl ⟨by rfl, ?_⟩) hH ?_
          (intro w5 hS5; go_simp; try rfl)
          try simp only [Act.put, List.setIfInBounds_toArray, List.set_cons_zero, List.set_cons_succ]
          refine wpAnyH_take (i := 6) (oi := { dst := some 25, op := Go.Op.indexAddr 38 (Go.Operand.tmp 23) (Go.Operand.tmp 24), type := 0, pos := "ref.go:97", after := #[{ on := 4, ground := Go.Ground.data }, { on := 5, ground := Go.Ground.data }], guard := none }) (v := .pointer (some (ad.add (k * 19)))) rfl (by kernel_rfl) (by kernel_rfl) (by kernel_rfl) (fun _ _ _ h => h) (Or.inl ⟨by rfl, ?_⟩) hH ?_
          (intro w5 hS5; go_simp; try rfl)
          try simp only [Act.put, List.setIfInBounds_toArray, List.set_cons_zero, List.set_cons_succ]
          refine wpAnyH_take (i := 7) (oi := { dst := some 26, op := Go.Op.fieldAddr 36 (Go.Operand.tmp 25) 3, type := 0, pos := "ref.go:97", after := #[{ on := 6, ground := Go.Ground.data }], guard := none }) (v := .pointer (some ⟨(ad.add (k * 19)).block, (ad.add (k * 19)).off + 17, none⟩)) rfl (by kernel_rfl) (by kernel_rfl) (by kernel_rfl) (fun _ _ _ h => h) (Or.inl ⟨by rfl, ?_⟩) hH ?_
          (intro w5 hS5; go_simp; try rfl)
          try simp only [Act.put, List.setIfInBounds_toArray, List.set_cons_zero, List.set_cons_succ]
          refine wpAnyH_take (i := 8) (oi := { dst := some 27, op := Go.Op.load 3 (Go.Operand.tmp 26), type := 3, pos := "ref.go:97", after := #[{ on := 7, ground := Go.Ground.data }], guard := none }) (v := .int .i64 (o k).s) rfl (by kernel_rfl) (by kernel_rfl) (by kernel_rfl) (fun _ _ _ h => h) (Or.inl ⟨by rfl, ?_⟩) hH ?_
          (intro w5 hS5; have ck := CK.out _ hS5; go_simp; try rfl)
          try simp only [Act.put, List.setIfInBounds_toArray, List.set_cons_zero, List.set_cons_succ]
          refine wpAnyH_ready (rs := [9]) (by kernel_rfl) (by simp) ?_
          refine AllReadyH.cons (o := { dst := some 28, op := Go.Op.call { callee := Go.Callee.value (Go.Operand.func 38), args := #[Go.Operand.tmp 22, Go.Operand.tmp 27], argTypes := #[36, 3] }, type := 4, pos := "ref.go:97", after := #[{ on := 3, ground := Go.Ground.data }, { on := 8, ground := Go.Ground.data }], guard := none }) rfl (fun K5 hK5 => ?_) AllReadyH.nil
          go_simp
          refine (HUJ.out _).mono ?_; rintro e w9 ⟨rfl, n9⟩
          refine hK5.out _ _ (New.trans hH n9) (fun hH9 => ?_)
          clear hK5 K5
          try simp only [Act.put, List.setIfInBounds_toArray, List.set_cons_zero, List.set_cons_succ]
          refine wpAnyH_done (by kernel_rfl) ?_ _
          have HZ := Lib.hid hH9
          clear hH hH9 n9
          cases U
          · have hc := Lib.hid (hno.out rfl)
            go_wp2_with fail
            go_roundg (gk - 1)
            case rel => exact ⟨j + 1, by omega, by go_num, by rw [hc.out], HZ.out⟩
            case measure => omega
          · have hc := Lib.hid (hy.out rfl)
            go_wp2_with fail
            go_roundg (gk - 1)
            case rel => exact ⟨j + 1, by omega, by go_num, by rw [hc.out]; go_num, HZ.out⟩
            case measure => omega
        · obtain rfl : n = j := by omega
          have HK1 := Lib.hid (fun (h : (o k).e == -1 || decide ((o k).s < (o k).e)) => show mostU o n (k + 1) = max mk (cntU o (o k).s n) from by rw [HM.out, if_pos h])
          have HK0 := Lib.hid (fun (h : ((o k).e == -1 || decide ((o k).s < (o k).e)) = false) => show mostU o n (k + 1) = mk from by rw [HM.out, if_neg (by rw [h]; decide)])
          rw [← HS.out] at HK1 HK0
          clear HM HS
          generalize cntU o (o k).s n = c at *
          generalize undB (o k).s (o k).e (o k).s = U at *
          by_cases hgt : mk < c
          · have hgt' : decide ((mk : Int) < c) = true := decide_eq_true (by omega)
            go_wp2_with fail
            refine wp_region_held_drew (S := fun w' => New wo w') (by kernel_rfl) n2.drew (fun hH => ?_)
            clear n2
            refine wpAnyH_take (i := 0) (oi := { dst := some 31, op := Go.Op.move (Go.Operand.tmp 5), type := 3, pos := "ref.go:101", after := #[], guard := none }) (v := .int .i64 (c : Nat)) rfl (by kernel_rfl) (by kernel_rfl) (by kernel_rfl) (fun _ _ _ h => h) (Or.inl ⟨by rfl, ?_⟩) hH ?_
            (intro w5 hS5; go_simp; try rfl)
            try simp only [Act.put, List.setIfInBounds_toArray, List.set_cons_zero, List.set_cons_succ]
            refine wpAnyH_take (i := 1) (oi := { dst := some 32, op := Go.Op.move (Go.Operand.tmp 3), type := 3, pos := "ref.go:101", after := #[], guard := none }) (v := .int .i64 (mk : Nat)) rfl (by kernel_rfl) (by kernel_rfl) (by kernel_rfl) (fun _ _ _ h => h) (Or.inl ⟨by rfl, ?_⟩) hH ?_
            (intro w5 hS5; go_simp; try rfl)
            try simp only [Act.put, List.setIfInBounds_toArray, List.set_cons_zero, List.set_cons_succ]
            refine wpAnyH_take (i := 2) (oi := { dst := some 33, op := Go.Op.binOp Go.BinOp.gtr 3 (Go.Operand.tmp 31) (Go.Operand.tmp 32) 3, type := 4, pos := "ref.go:101", after := #[{ on := 0, ground := Go.Ground.data }, { on := 1, ground := Go.Ground.data }], guard := none }) (v := .bool true) rfl (by kernel_rfl) (by kernel_rfl) (by kernel_rfl) (fun _ _ _ h => h) (Or.inl ⟨by rfl, ?_⟩) hH ?_
            (intro w5 hS5; go_simp; try rfl)
            try simp only [Act.put, List.setIfInBounds_toArray, List.set_cons_zero, List.set_cons_succ]
            refine wpAnyH_take (i := 3) (oi := { dst := some 34, op := Go.Op.move (Go.Operand.tmp 33), type := 4, pos := "ref.go:101", after := #[{ on := 2, ground := Go.Ground.data }], guard := none }) (v := .bool true) rfl (by kernel_rfl) (by kernel_rfl) (by kernel_rfl) (fun _ _ _ h => h) (Or.inl ⟨by rfl, ?_⟩) hH ?_
            (intro w5 hS5; go_simp; try rfl)
            try simp only [Act.put, List.setIfInBounds_toArray, List.set_cons_zero, List.set_cons_succ]
            refine wpAnyH_take (i := 4) (oi := { dst := some 35, op := Go.Op.move (Go.Operand.tmp 0), type := 38, pos := "ref.go:101", after := #[{ on := 3, ground := Go.Ground.guard }], guard := some (3, true) }) (v := .slice (some ad) n cap) rfl (by kernel_rfl) (by kernel_rfl) (by kernel_rfl) (fun _ _ _ h => h) (Or.inl ⟨by rfl, ?_⟩) hH ?_
            (intro w5 hS5; go_simp; try rfl)
            try simp only [Act.put, List.setIfInBounds_toArray, List.set_cons_zero, List.set_cons_succ]
            refine wpAnyH_take (i := 5) (oi := { dst := some 36, op := Go.Op.move (Go.Operand.tmp 4), type := 3, pos := "ref.go:101", after := #[{ on := 3, ground := Go.Ground.guard }], guard := some (3, true) }) (v := .int .i64 (k : Nat)) rfl (by kernel_rfl) (by kernel_rfl) (by kernel_rfl) (fun _ _ _ h => h) (Or.inl ⟨by rfl, ?_⟩) hH ?_
            (intro w5 hS5; go_simp; try rfl)
            try simp only [Act.put, List.setIfInBounds_toArray, List.set_cons_zero, List.set_cons_succ]
            refine wpAnyH_take (i := 6) (oi := { dst := some 37, op := Go.Op.indexAddr 38 (Go.Operand.tmp 35) (Go.Operand.tmp 36), type := 0, pos := "ref.go:101", after := #[{ on := 4, ground := Go.Ground.data }, { on := 5, ground := Go.Ground.data }, { on := 3, ground := Go.Ground.guard }], guard := some (3, true) }) (v := .pointer (some (ad.add (k * 19)))) rfl (by kernel_rfl) (by kernel_rfl) (by kernel_rfl) (fun _ _ _ h => h) (Or.inl ⟨by rfl, ?_⟩) hH ?_
            (intro w5 hS5; go_simp; try rfl)
            try simp only [Act.put, List.setIfInBounds_toArray, List.set_cons_zero, List.set_cons_succ]
            refine wpAnyH_take (i := 7) (oi := { dst := some 38, op := Go.Op.load 36 (Go.Operand.tmp 37), type := 36, pos := "ref.go:101", after := #[{ on := 6, ground := Go.Ground.data }, { on := 3, ground := Go.Ground.guard }], guard := some (3, true) }) (v := .agg ra) rfl (by kernel_rfl) (by kernel_rfl) (by kernel_rfl) (fun _ _ _ h => h) (Or.inl ⟨by rfl, ?_⟩) hH ?_
            (intro w5 hS5; refine yl_ld rfl rfl (lda_at _ _ _ (CAK.out _ hS5)))
            try simp only [Act.put, List.setIfInBounds_toArray, List.set_cons_zero, List.set_cons_succ]
            refine wpAnyH_take (i := 8) (oi := { dst := some 39, op := Go.Op.move (Go.Operand.tmp 0), type := 38, pos := "ref.go:101", after := #[{ on := 3, ground := Go.Ground.guard }], guard := some (3, true) }) (v := .slice (some ad) n cap) rfl (by kernel_rfl) (by kernel_rfl) (by kernel_rfl) (fun _ _ _ h => h) (Or.inl ⟨by rfl, ?_⟩) hH ?_
            (intro w5 hS5; go_simp; try rfl)
            try simp only [Act.put, List.setIfInBounds_toArray, List.set_cons_zero, List.set_cons_succ]
            refine wpAnyH_take (i := 9) (oi := { dst := some 40, op := Go.Op.move (Go.Operand.tmp 4), type := 3, pos := "ref.go:101", after := #[{ on := 3, ground := Go.Ground.guard }], guard := some (3, true) }) (v := .int .i64 (k : Nat)) rfl (by kernel_rfl) (by kernel_rfl) (by kernel_rfl) (fun _ _ _ h => h) (Or.inl ⟨by rfl, ?_⟩) hH ?_
            (intro w5 hS5; go_simp; try rfl)
            try simp only [Act.put, List.setIfInBounds_toArray, List.set_cons_zero, List.set_cons_succ]
            refine wpAnyH_take (i := 10) (oi := { dst := some 41, op := Go.Op.indexAddr 38 (Go.Operand.tmp 39) (Go.Operand.tmp 40), type := 0, pos := "ref.go:101", after := #[{ on := 8, ground := Go.Ground.data }, { on := 9, ground := Go.Ground.data }, { on := 3, ground := Go.Ground.guard }], guard := some (3, true) }) (v := .pointer (some (ad.add (k * 19)))) rfl (by kernel_rfl) (by kernel_rfl) (by kernel_rfl) (fun _ _ _ h => h) (Or.inl ⟨by rfl, ?_⟩) hH ?_
            (intro w5 hS5; go_simp; try rfl)
            try simp only [Act.put, List.setIfInBounds_toArray, List.set_cons_zero, List.set_cons_succ]
            refine wpAnyH_take (i := 11) (oi := { dst := some 42, op := Go.Op.fieldAddr 36 (Go.Operand.tmp 41) 3, type := 0, pos := "ref.go:101", after := #[{ on := 10, ground := Go.Ground.data }, { on := 3, ground := Go.Ground.guard }], guard := some (3, true) }) (v := .pointer (some ⟨(ad.add (k * 19)).block, (ad.add (k * 19)).off + 17, none⟩)) rfl (by kernel_rfl) (by kernel_rfl) (by kernel_rfl) (fun _ _ _ h => h) (Or.inl ⟨by rfl, ?_⟩) hH ?_
            (intro w5 hS5; go_simp; try rfl)
            try simp only [Act.put, List.setIfInBounds_toArray, List.set_cons_zero, List.set_cons_succ]
            refine wpAnyH_take (i := 12) (oi := { dst := some 43, op := Go.Op.load 3 (Go.Operand.tmp 42), type := 3, pos := "ref.go:101", after := #[{ on := 11, ground := Go.Ground.data }, { on := 3, ground := Go.Ground.guard }], guard := some (3, true) }) (v := .int .i64 (o k).s) rfl (by kernel_rfl) (by kernel_rfl) (by kernel_rfl) (fun _ _ _ h => h) (Or.inl ⟨by rfl, ?_⟩) hH ?_
            (intro w5 hS5; have ck := CK.out _ hS5; go_simp; try rfl)
            try simp only [Act.put, List.setIfInBounds_toArray, List.set_cons_zero, List.set_cons_succ]
            refine wpAnyH_ready (rs := [13]) (by kernel_rfl) (by simp) ?_
            refine AllReadyH.cons (o := { dst := some 44, op := Go.Op.call { callee := Go.Callee.value (Go.Operand.func 38), args := #[Go.Operand.tmp 38, Go.Operand.tmp 43], argTypes := #[36, 3] }, type := 4, pos := "ref.go:101", after := #[{ on := 7, ground := Go.Ground.data }, { on := 12, ground := Go.Ground.data }, { on := 3, ground := Go.Ground.chain }, { on := 3, ground := Go.Ground.guard }], guard := some (3, true) }) rfl (fun K5 hK5 => ?_) AllReadyH.nil
            go_simp
            refine (HUK.out _).mono ?_; rintro e w9 ⟨rfl, n9⟩
            refine hK5.out _ _ (New.trans hH n9) (fun hH9 => ?_)
            clear hK5 K5
            try simp only [Act.put, List.setIfInBounds_toArray, List.set_cons_zero, List.set_cons_succ]
            refine wpAnyH_take (i := 14) (oi := { dst := some 45, op := Go.Op.pick (Go.Operand.tmp 34) (Go.Operand.tmp 44) (Go.Operand.const (Go.Value.bool false)), type := 4, pos := "ref.go:101", after := #[{ on := 3, ground := Go.Ground.data }, { on := 13, ground := Go.Ground.data }], guard := none }) (v := .bool U) rfl (by kernel_rfl) (by kernel_rfl) (by kernel_rfl) (fun _ _ _ h => h) (Or.inl ⟨by rfl, ?_⟩) hH9 ?_
            (intro w5 hS5; go_simp; try rfl)
            try simp only [Act.put, List.setIfInBounds_toArray, List.set_cons_zero, List.set_cons_succ]
            refine wpAnyH_done (by kernel_rfl) ?_ _
            have HZ := Lib.hid (New.trans NW.out hH9)
            clear hH hH9 n9
            cases U
            · have hc := Lib.hid (HK0.out rfl)
              go_wp2_with fail
              go_roundg (gq - 1)
              case rel => exact ⟨k + 1, by omega, by go_num, by rw [hc.out], HZ.out⟩
              case measure => omega
            · have hc := Lib.hid (HK1.out rfl)
              go_wp2_with fail
              go_roundg (gq - 1)
              case rel => exact ⟨k + 1, by omega, by go_num, max_val hc.out (by omega), HZ.out⟩
              case measure => omega
          · have hgt' : decide ((mk : Int) < c) = false := decide_eq_false (by omega)
            have HC : Hid (mostU o n (k + 1) = mk) := Lib.hid (by
              cases U
              · exact HK0.out rfl
              · rw [HK1.out rfl]; omega)
            go_wp2_with fail
            refine wp_region_held_drew (S := fun w' => New wo w') (by kernel_rfl) n2.drew (fun hH => ?_)
            clear n2
            refine wpAnyH_take (i := 0) (oi := { dst := some 31, op := Go.Op.move (Go.Operand.tmp 5), type := 3, pos := "ref.go:101", after := #[], guard := none }) (v := .int .i64 (c : Nat)) rfl (by kernel_rfl) (by kernel_rfl) (by kernel_rfl) (fun _ _ _ h => h) (Or.inl ⟨by rfl, ?_⟩) hH ?_
            (intro w5 hS5; go_simp; try rfl)
            try simp only [Act.put, List.setIfInBounds_toArray, List.set_cons_zero, List.set_cons_succ]
            refine wpAnyH_take (i := 1) (oi := { dst := some 32, op := Go.Op.move (Go.Operand.tmp 3), type := 3, pos := "ref.go:101", after := #[], guard := none }) (v := .int .i64 (mk : Nat)) rfl (by kernel_rfl) (by kernel_rfl) (by kernel_rfl) (fun _ _ _ h => h) (Or.inl ⟨by rfl, ?_⟩) hH ?_
            (intro w5 hS5; go_simp; try rfl)
            try simp only [Act.put, List.setIfInBounds_toArray, List.set_cons_zero, List.set_cons_succ]
            refine wpAnyH_take (i := 2) (oi := { dst := some 33, op := Go.Op.binOp Go.BinOp.gtr 3 (Go.Operand.tmp 31) (Go.Operand.tmp 32) 3, type := 4, pos := "ref.go:101", after := #[{ on := 0, ground := Go.Ground.data }, { on := 1, ground := Go.Ground.data }], guard := none }) (v := .bool false) rfl (by kernel_rfl) (by kernel_rfl) (by kernel_rfl) (fun _ _ _ h => h) (Or.inl ⟨by rfl, ?_⟩) hH ?_
            (intro w5 hS5; go_simp; try rfl)
            try simp only [Act.put, List.setIfInBounds_toArray, List.set_cons_zero, List.set_cons_succ]
            refine wpAnyH_take (i := 3) (oi := { dst := some 34, op := Go.Op.move (Go.Operand.tmp 33), type := 4, pos := "ref.go:101", after := #[{ on := 2, ground := Go.Ground.data }], guard := none }) (v := .bool false) rfl (by kernel_rfl) (by kernel_rfl) (by kernel_rfl) (fun _ _ _ h => h) (Or.inl ⟨by rfl, ?_⟩) hH ?_
            (intro w5 hS5; go_simp; try rfl)
            try simp only [Act.put, List.setIfInBounds_toArray, List.set_cons_zero, List.set_cons_succ]
            refine wpAnyH_take (i := 4) (oi := { dst := some 35, op := Go.Op.move (Go.Operand.tmp 0), type := 38, pos := "ref.go:101", after := #[{ on := 3, ground := Go.Ground.guard }], guard := some (3, true) }) (v := undef) rfl (by kernel_rfl) (by kernel_rfl) (by kernel_rfl) (fun _ _ _ h => h) (Or.inr ⟨by rfl, rfl⟩) hH ?_
            try simp only [Act.put, List.setIfInBounds_toArray, List.set_cons_zero, List.set_cons_succ]
            refine wpAnyH_take (i := 5) (oi := { dst := some 36, op := Go.Op.move (Go.Operand.tmp 4), type := 3, pos := "ref.go:101", after := #[{ on := 3, ground := Go.Ground.guard }], guard := some (3, true) }) (v := undef) rfl (by kernel_rfl) (by kernel_rfl) (by kernel_rfl) (fun _ _ _ h => h) (Or.inr ⟨by rfl, rfl⟩) hH ?_
            try simp only [Act.put, List.setIfInBounds_toArray, List.set_cons_zero, List.set_cons_succ]
            refine wpAnyH_take (i := 6) (oi := { dst := some 37, op := Go.Op.indexAddr 38 (Go.Operand.tmp 35) (Go.Operand.tmp 36), type := 0, pos := "ref.go:101", after := #[{ on := 4, ground := Go.Ground.data }, { on := 5, ground := Go.Ground.data }, { on := 3, ground := Go.Ground.guard }], guard := some (3, true) }) (v := undef) rfl (by kernel_rfl) (by kernel_rfl) (by kernel_rfl) (fun _ _ _ h => h) (Or.inr ⟨by rfl, rfl⟩) hH ?_
            try simp only [Act.put, List.setIfInBounds_toArray, List.set_cons_zero, List.set_cons_succ]
            refine wpAnyH_take (i := 7) (oi := { dst := some 38, op := Go.Op.load 36 (Go.Operand.tmp 37), type := 36, pos := "ref.go:101", after := #[{ on := 6, ground := Go.Ground.data }, { on := 3, ground := Go.Ground.guard }], guard := some (3, true) }) (v := undef) rfl (by kernel_rfl) (by kernel_rfl) (by kernel_rfl) (fun _ _ _ h => h) (Or.inr ⟨by rfl, rfl⟩) hH ?_
            try simp only [Act.put, List.setIfInBounds_toArray, List.set_cons_zero, List.set_cons_succ]
            refine wpAnyH_take (i := 8) (oi := { dst := some 39, op := Go.Op.move (Go.Operand.tmp 0), type := 38, pos := "ref.go:101", after := #[{ on := 3, ground := Go.Ground.guard }], guard := some (3, true) }) (v := undef) rfl (by kernel_rfl) (by kernel_rfl) (by kernel_rfl) (fun _ _ _ h => h) (Or.inr ⟨by rfl, rfl⟩) hH ?_
            try simp only [Act.put, List.setIfInBounds_toArray, List.set_cons_zero, List.set_cons_succ]
            refine wpAnyH_take (i := 9) (oi := { dst := some 40, op := Go.Op.move (Go.Operand.tmp 4), type := 3, pos := "ref.go:101", after := #[{ on := 3, ground := Go.Ground.guard }], guard := some (3, true) }) (v := undef) rfl (by kernel_rfl) (by kernel_rfl) (by kernel_rfl) (fun _ _ _ h => h) (Or.inr ⟨by rfl, rfl⟩) hH ?_
            try simp only [Act.put, List.setIfInBounds_toArray, List.set_cons_zero, List.set_cons_succ]
            refine wpAnyH_take (i := 10) (oi := { dst := some 41, op := Go.Op.indexAddr 38 (Go.Operand.tmp 39) (Go.Operand.tmp 40), type := 0, pos := "ref.go:101", after := #[{ on := 8, ground := Go.Ground.data }, { on := 9, ground := Go.Ground.data }, { on := 3, ground := Go.Ground.guard }], guard := some (3, true) }) (v := undef) rfl (by kernel_rfl) (by kernel_rfl) (by kernel_rfl) (fun _ _ _ h => h) (Or.inr ⟨by rfl, rfl⟩) hH ?_
            try simp only [Act.put, List.setIfInBounds_toArray, List.set_cons_zero, List.set_cons_succ]
            refine wpAnyH_take (i := 11) (oi := { dst := some 42, op := Go.Op.fieldAddr 36 (Go.Operand.tmp 41) 3, type := 0, pos := "ref.go:101", after := #[{ on := 10, ground := Go.Ground.data }, { on := 3, ground := Go.Ground.guard }], guard := some (3, true) }) (v := undef) rfl (by kernel_rfl) (by kernel_rfl) (by kernel_rfl) (fun _ _ _ h => h) (Or.inr ⟨by rfl, rfl⟩) hH ?_
            try simp only [Act.put, List.setIfInBounds_toArray, List.set_cons_zero, List.set_cons_succ]
            refine wpAnyH_take (i := 12) (oi := { dst := some 43, op := Go.Op.load 3 (Go.Operand.tmp 42), type := 3, pos := "ref.go:101", after := #[{ on := 11, ground := Go.Ground.data }, { on := 3, ground := Go.Ground.guard }], guard := some (3, true) }) (v := undef) rfl (by kernel_rfl) (by kernel_rfl) (by kernel_rfl) (fun _ _ _ h => h) (Or.inr ⟨by rfl, rfl⟩) hH ?_
            try simp only [Act.put, List.setIfInBounds_toArray, List.set_cons_zero, List.set_cons_succ]
            refine wpAnyH_take (i := 13) (oi := { dst := some 44, op := Go.Op.call { callee := Go.Callee.value (Go.Operand.func 38), args := #[Go.Operand.tmp 38, Go.Operand.tmp 43], argTypes := #[36, 3] }, type := 4, pos := "ref.go:101", after := #[{ on := 7, ground := Go.Ground.data }, { on := 12, ground := Go.Ground.data }, { on := 3, ground := Go.Ground.chain }, { on := 3, ground := Go.Ground.guard }], guard := some (3, true) }) (v := undef) rfl (by kernel_rfl) (by kernel_rfl) (by kernel_rfl) (fun _ _ _ h => h) (Or.inr ⟨by rfl, rfl⟩) hH ?_
            try simp only [Act.put, List.setIfInBounds_toArray, List.set_cons_zero, List.set_cons_succ]
            refine wpAnyH_take (i := 14) (oi := { dst := some 45, op := Go.Op.pick (Go.Operand.tmp 34) (Go.Operand.tmp 44) (Go.Operand.const (Go.Value.bool false)), type := 4, pos := "ref.go:101", after := #[{ on := 3, ground := Go.Ground.data }, { on := 13, ground := Go.Ground.data }], guard := none }) (v := .bool false) rfl (by kernel_rfl) (by kernel_rfl) (by kernel_rfl) (fun _ _ _ h => h) (Or.inl ⟨by rfl, ?_⟩) hH ?_
            (intro w5 hS5; go_simp; try rfl)
            try simp only [Act.put, List.setIfInBounds_toArray, List.set_cons_zero, List.set_cons_succ]
            refine wpAnyH_done (by kernel_rfl) ?_ _
            have HZ := Lib.hid (New.trans NW.out hH)
            clear hH
            go_wp2_with fail
            go_roundg (gq - 1)
            case rel => exact ⟨k + 1, by omega, by go_num, by rw [HC.out], HZ.out⟩
            case measure => omega
    · obtain rfl : k = n := by omega
      go_wp2
      go_ret
      exact ⟨rfl, nw⟩
end Go.Proofs.Ytplaicdbcfnjbaa
/- HistCuts: the walk. -/
namespace Go.Proofs.Ytplaicdbcfnjbaa
open Go.RowKit Go.Sort
set_option linter.unusedVariables false
set_option maxRecDepth 100000
theorem isO_cut {w : World} {f : Nat} {t : Int} {o : OD} (h : IsO w f o) : IsO w f (cutO t o) := by
  unfold cutO
  split
  · refine ⟨⟨?_, ⟨by show 0 ≤ _; omega, fun h => absurd h (by show ¬ (0 < 0); omega)⟩⟩, h.x⟩
    have hd := h.t.d
    cases f with
    | zero => exact hd.elim
    | succ f => exact ⟨show i64 0 from ⟨by decide, by decide⟩, show i64 0 from ⟨by decide, by decide⟩, Nat.le_refl _, by show 0 ≤ _; omega, fun h => absurd h (by show ¬ (0 < 0); omega)⟩
  · exact h
theorem nodes_zero (f : Nat) : nodes f zTD.d ≤ 4000000 := by
  cases f with
  | zero => exact Nat.zero_le _
  | succ f => show 1 + 0 ≤ _; omega
theorem cut_bd (t : Int) (o : OD) : (cutO t o).nx = o.nx ∧ ((cutO t o).td = o.td ∨ (cutO t o).td = zTD) := by
  unfold cutO
  split
  · exact ⟨rfl, .inr rfl⟩
  · exact ⟨rfl, .inl rfl⟩
theorem CpyL.at {a b : List OD} (h : CpyL a b) : ∀ i, i < a.length → Cpy (lk a i) (lk b i) := by
  induction h with
  | nil => exact fun i hi => absurd hi (Nat.not_lt_zero _)
  | cons h _ ih =>
    intro i hi
    cases i with
    | zero => exact h
    | succ i => exact ih i (by simpa using hi)
theorem great_no {f n : Nat} {o : Nat → OD} (h : greatO f n o = false) : n ≤ 40 ∧ ∀ i, i < n → (o i).nx ≤ 50 ∧ (o i).td.ny ≤ 50 ∧ nodes f (o i).td.d ≤ 80 := by
  unfold greatO at h
  rw [Bool.or_eq_false_iff, decide_eq_false_iff_not, decide_eq_false_iff_not] at h
  refine ⟨by omega, fun i hi => ?_⟩
  have hg : gO f (o i) = false := by
    cases hq : gO f (o i)
    · rfl
    · exact absurd ⟨i, hi, by omega, hq⟩ h.1
  unfold gO at hg
  simp at hg
  omega
/-- what is left, as a row -/
theorem cut_facts {f n : Nat} {o : Nat → OD} {t : Int} {w' : World} {base : Nat} {v : Value} {xs : List OD} (hn : n ≤ 40) (hs : ∀ i, i < n → (o i).nx ≤ 50 ∧ (o i).td.ny ≤ 50 ∧ nodes f (o i).td.d ≤ 80)
    (hi : ∀ i, i < n → i64 (o i).r0 ∧ i64 (o i).r1 ∧ i64 (o i).s ∧ i64 (o i).e) (ow : OwnO w' base v xs) (cp : CpyL (cutL t o n) xs) (ap : Apart w' f v xs) :
    ∃ (A : Option Addr) (c m : Nat), v = .slice A m c ∧ m = (cutL t o n).length ∧ m ≤ n ∧ RowO w' f A m (lk xs) ∧ (∀ i, i < m → Cpy (lk (cutL t o n) i) (lk xs i)) ∧
      (∀ i, i < m → (lk xs i).nx ≤ 4000000 ∧ (lk xs i).td.ny ≤ 4000000 ∧ nodes f (lk xs i).td.d ≤ 4000000) ∧ ∀ i, i < m → i64 (lk xs i).r0 ∧ i64 (lk xs i).r1 ∧ i64 (lk xs i).s ∧ i64 (lk xs i).e := by
  have hl := cp.len
  have hle := cutL_le t o n
  obtain ⟨A, c, rfl, R⟩ := ow.rowO (f := f) (by omega) (fun x hx => (ap x hx).isO)
  refine ⟨A, c, xs.length, rfl, hl.symm, by omega, R, fun i hi' => cp.at i (by omega), fun i hi' => ?_, fun i hi' => ?_⟩
  · obtain ⟨X, cx, A', ca, Y, cy, e⟩ := cp.at i (by omega)
    obtain ⟨j, hj, e2, _⟩ := mem_cutL (lk_mem (cutL t o n) i (by omega))
    obtain ⟨b1, b2⟩ := cut_bd t (o j)
    have := hs j hj
    rw [e]
    show (lk (cutL t o n) i).nx ≤ _ ∧ (lk (cutL t o n) i).td.ny ≤ _ ∧ nodes f (lk (cutL t o n) i).td.d ≤ _
    rw [e2, b1]
    rcases b2 with b2 | b2 <;> rw [b2]
    · omega
    · exact ⟨by omega, by show 0 ≤ _; omega, nodes_zero f⟩
  · have a := (cp.at i (by omega)).agr
    obtain ⟨j, hj, e2, _⟩ := mem_cutL (lk_mem (cutL t o n) i (by omega))
    obtain ⟨b1, b2, b3, b4⟩ := cutO_f t (o j)
    have := hi j hj
    obtain ⟨a1, a2, a3, a4⟩ := a
    rw [← a1, ← a2, ← a3, ← a4, e2, b1, b2, b3]
    refine ⟨this.1, this.2.1, this.2.2.1, ?_⟩
    rcases b4 with ⟨_, _, b4⟩ | ⟨_, b4⟩ <;> rw [b4]
    · exact ⟨by decide, by decide⟩
    · exact this.2.2.2
theorem OwnR.len {w : World} {base : Nat} {v : Value} {l : List (Int × Int)} (h : OwnR w base v l) : ∃ A c, v = .slice A l.length c := by
  rcases h.2 with ⟨e, e0⟩ | ⟨g, cap, cur, hv, _⟩
  · exact ⟨none, 0, by rw [e, e0]⟩
  · exact ⟨_, cap, hv⟩
attribute [local irreducible] Go.wpList
set_option maxHeartbeats 4000000 in
theorem cuts_walk (f n : Nat) (o : Nat → OD) (A : Option Addr) (cap : Nat) (t : Int) (w : World) (hA : RowO w f A n o) (hd : ∀ i, i < n → nodes f (o i).td.d ≤ 4000000) (hi : ∀ i, i < n → i64 (o i).r0 ∧ i64 (o i).r1 ∧ i64 (o i).s ∧ i64 (o i).e) :
    Calls Try.prog 5 #[.slice A n cap, .int .i64 t] w fun x w' => x = .returned (.bool true) ∧ New w w' := by
  have G6 := Lib.hid (great_any f n o A cap w hA (fun i hi _ => hd i hi))
  have HA := Lib.hid hA
  have HI := Lib.hid hi
  have H7 := Lib.hid live_any
  cases hg : greatO f n o
  · obtain ⟨hn, hs⟩ := great_no hg
    rw [hg] at G6
    have C20 := Lib.hid (fun w' (m : New w w') => cut_any f n o A cap t w' (hA.new m) (by omega) (fun k hk => by have := hs k hk; omega))
    have C21 := Lib.hid (fun w' (m : New w w') => rcut_any f n o A cap t w' (hA.new m) (by omega))
    have C15 := Lib.hid (fun w' (m : New w w') => rcheck_any f n o A cap w' (hA.new m))
    have C19 := Lib.hid (fun w' (m : New w w') => rmost_any f n o A cap w' (hA.new m))
    have IL := Lib.hid (fun w' (m : New w w') x (hx : x ∈ cutL t o n) => by
      obtain ⟨j, hj, e, _⟩ := mem_cutL hx
      rw [e]
      exact isO_cut ((hA.2.1 j hj).new m) : ∀ w', New w w' → ∀ x ∈ cutL t o n, IsO w' f x)
    have CF := Lib.hid (fun (w' : World) (base : Nat) (v : Value) (xs : List OD) (ow : OwnO w' base v xs) (cp : CpyL (cutL t o n) xs) (ap : Apart w' f v xs) => cut_facts hn hs hi ow cp ap)
    have CC := Lib.hid (fun (h : chkR n o = 0) => chk_cut t h)
    have MC := Lib.hid (most_cut t o n)
    have LC := Lib.hid (cutL_le t o n)
    have hn9 := Lib.hid hn
    clear hA hi hs hd hg hn
    obtain ⟨R, hR⟩ : ∃ R, chkR n o = R := ⟨_, rfl⟩
    rw [hR] at C15 CC
    generalize mostU o n n = M2 at *
    by_cases h0 : R = 0
    · subst h0
      have CC0 := Lib.hid (CC.out rfl)
      clear CC HA HI hR
      go_enter Try.func5, Try.ntmps5
      go_wp2_with (first
        | (go_at_call 6; refine G6.out.mono ?_; rintro x w1 ⟨rfl, n1⟩; replace n1 := Lib.hid n1; clear G6)
        | (go_at_call 20; refine (C20.out _ n1.out).mono ?_; rintro x w2 ⟨v, xs, rfl, ow, cp, ap, n2⟩; obtain ⟨A2, c2, m, rfl, hm, hmn, RC, CP, HB2, HI2⟩ := CF.out _ _ _ _ ow cp ap; replace n2 := Lib.hid (n1.out.trans n2); replace RC := Lib.hid RC; replace CP := Lib.hid CP; replace HB2 := Lib.hid HB2; replace HI2 := Lib.hid HI2; replace hm := Lib.hid hm; replace hmn := Lib.hid hmn
           have AG := Lib.hid (show ∀ i, i < m → Agr (lk xs i) (lk (cutL t o n) i) from fun i hi => by obtain ⟨a1, a2, a3, a4⟩ := (CP.out i hi).agr; exact ⟨a1.symm, a2.symm, a3.symm, a4.symm⟩)
           have MM := Lib.hid (show mostU (lk xs) m m ≤ M2 from by rw [mostU_congr AG.out (Nat.le_refl m)]; have := MC.out; rw [← hm.out] at this; exact this)
           have PM := Lib.hid (fun d' (hp : PermIn 0 m (Array.range m) d') => Nat.le_trans (Nat.le_of_eq (pend_perm (o := lk xs) hp)) (pend_most (lk xs) m))
           obtain ⟨M1, hM1⟩ : ∃ M1, mostU (lk xs) m m = M1 := ⟨_, rfl⟩; rw [hM1] at MM PM; replace hM1 := Lib.hid hM1
           have hM := MM.out; have hD1 : decide ((M1 : Int) ≤ (M2 : Int)) = true := decide_eq_true (by omega); clear hM; have hML : M1 ≤ 40 := by rw [← hM1.out]; have := mostU_le (lk xs) m m; have := hmn.out; have := hn9.out; omega
           have K0 := Lib.hid (show chkR m (lk xs) = 0 from by rw [chkR_congr AG.out]; have := CC0.out; rw [← hm.out] at this; exact this); clear ow cp ap C20 CF )
        | (go_at_call 21; refine (C21.out _ n2.out).mono ?_; rintro x w3 ⟨v3, rfl, o3, n3⟩; obtain ⟨A3, c3, rfl, R3⟩ := OwnO.rowO (f := f) o3 (by have := LC.out; have := hn9.out; omega) (fun x hx => IL.out _ (n2.out.trans n3) x hx); rw [← hm.out] at R3; rw [← hm.out]; replace R3 := Lib.hid R3; have NN := Lib.hid n3; clear o3 C21 n3)
        | (go_at_call 16; refine (rsames_any f m m _ _ A2 c2 A3 c3 _ (RC.out.new NN.out) R3.out).mono ?_; rintro x w4 ⟨rfl, n4⟩; rw [sameO_yes (fun i hi => ((CP.out i hi).same f).2)]; replace NN := Lib.hid (NN.out.trans n4); clear n4)
        | (go_at_call 15; refine (C15.out _ (n2.out.trans NN.out)).mono ?_; rintro x w5 ⟨rfl, n5⟩; replace NN := Lib.hid (NN.out.trans n5); clear n5)
        | (go_at_call 18; refine (most_any f m (lk xs) A2 c2 _ (RC.out.new NN.out)).mono ?_; rintro x w6 ⟨rfl, n6⟩; rw [hM1.out]; replace NN := Lib.hid (NN.out.trans n6); clear n6)
        | (go_at_call 14; refine (check_any f m (lk xs) A2 c2 _ (RC.out.new NN.out) (Nat.le_trans hmn.out hn9.out) HI2.out).mono ?_; rintro x w7 ⟨rfl, n7⟩; rw [K0.out]; replace NN := Lib.hid (NN.out.trans n7); clear n7)
        | (go_at_call 19; refine (C19.out _ (n2.out.trans NN.out)).mono ?_; rintro x w8 ⟨rfl, n8⟩; replace NN := Lib.hid (NN.out.trans n8); clear n8)
        | (go_at_call 13; refine (pending_any f m (lk xs) A2 c2 _ (RC.out.new NN.out) (Nat.le_trans hmn.out hn9.out) HB2.out).mono ?_; rintro x w9 ⟨v9, d', rfl, hp, hs9, o9, n9⟩; obtain ⟨A9, c9, rfl⟩ := o9.len; have hP := PM.out d' hp; generalize (pendL (fun k => lk xs d'[k]!) m).length = P at *; have hD2 : decide ((P : Int) ≤ (M1 : Int)) = true := decide_eq_true (by omega); replace NN := Lib.hid (NN.out.trans n9); clear n9 o9 hp hs9)
        | (go_at_call 7; refine (H7.out _).mono ?_; rintro x w10 ⟨rfl, n10⟩; replace NN := Lib.hid (NN.out.trans n10); clear n10))
      go_ret
      exact ⟨rfl, n2.out.trans NN.out⟩
    · clear CC HA HI hR
      go_enter Try.func5, Try.ntmps5
      go_wp2_with (first
        | (go_at_call 6; refine G6.out.mono ?_; rintro x w1 ⟨rfl, n1⟩; replace n1 := Lib.hid n1; clear G6)
        | (go_at_call 20; refine (C20.out _ n1.out).mono ?_; rintro x w2 ⟨v, xs, rfl, ow, cp, ap, n2⟩; obtain ⟨A2, c2, m, rfl, hm, hmn, RC, CP, HB2, HI2⟩ := CF.out _ _ _ _ ow cp ap; replace n2 := Lib.hid (n1.out.trans n2); replace RC := Lib.hid RC; replace CP := Lib.hid CP; replace HB2 := Lib.hid HB2; replace HI2 := Lib.hid HI2; replace hm := Lib.hid hm; replace hmn := Lib.hid hmn
           have AG := Lib.hid (show ∀ i, i < m → Agr (lk xs i) (lk (cutL t o n) i) from fun i hi => by obtain ⟨a1, a2, a3, a4⟩ := (CP.out i hi).agr; exact ⟨a1.symm, a2.symm, a3.symm, a4.symm⟩)
           have MM := Lib.hid (show mostU (lk xs) m m ≤ M2 from by rw [mostU_congr AG.out (Nat.le_refl m)]; have := MC.out; rw [← hm.out] at this; exact this)
           have PM := Lib.hid (fun d' (hp : PermIn 0 m (Array.range m) d') => Nat.le_trans (Nat.le_of_eq (pend_perm (o := lk xs) hp)) (pend_most (lk xs) m))
           obtain ⟨M1, hM1⟩ : ∃ M1, mostU (lk xs) m m = M1 := ⟨_, rfl⟩; rw [hM1] at MM PM; replace hM1 := Lib.hid hM1
           have hM := MM.out; have hD1 : decide ((M1 : Int) ≤ (M2 : Int)) = true := decide_eq_true (by omega); clear hM; have hML : M1 ≤ 40 := by rw [← hM1.out]; have := mostU_le (lk xs) m m; have := hmn.out; have := hn9.out; omega
           clear ow cp ap C20 CF )
        | (go_at_call 21; refine (C21.out _ n2.out).mono ?_; rintro x w3 ⟨v3, rfl, o3, n3⟩; obtain ⟨A3, c3, rfl, R3⟩ := OwnO.rowO (f := f) o3 (by have := LC.out; have := hn9.out; omega) (fun x hx => IL.out _ (n2.out.trans n3) x hx); rw [← hm.out] at R3; rw [← hm.out]; replace R3 := Lib.hid R3; have NN := Lib.hid n3; clear o3 C21 n3)
        | (go_at_call 16; refine (rsames_any f m m _ _ A2 c2 A3 c3 _ (RC.out.new NN.out) R3.out).mono ?_; rintro x w4 ⟨rfl, n4⟩; rw [sameO_yes (fun i hi => ((CP.out i hi).same f).2)]; replace NN := Lib.hid (NN.out.trans n4); clear n4)
        | (go_at_call 15; refine (C15.out _ (n2.out.trans NN.out)).mono ?_; rintro x w5 ⟨rfl, n5⟩; replace NN := Lib.hid (NN.out.trans n5); clear n5)
        | (go_at_call 7; refine (H7.out _).mono ?_; rintro x w10 ⟨rfl, n10⟩; replace NN := Lib.hid (NN.out.trans n10); clear n10))
      go_ret
      exact ⟨rfl, n2.out.trans NN.out⟩
  · rw [hg] at G6
    clear hA hd hi HA HI
    go_enter Try.func5, Try.ntmps5
    go_wp2_with (first | (go_at_call 6; refine G6.out.mono ?_; rintro x w1 ⟨rfl, n1⟩; replace n1 := Lib.hid n1; clear G6) | (go_at_call 7; refine (H7.out _).mono ?_; rintro x w2 ⟨rfl, n2⟩; replace n2 := Lib.hid n2))
    go_ret
    exact ⟨rfl, n1.out.trans n2.out⟩
end Go.Proofs.Ytplaicdbcfnjbaa
