/- The walk of LoadErrors. -/
import Derived.Test.YtplejooihfhpdaaErrPlain
import Derived.Test.YtplejooihfhpdaaLiv
namespace Go.Proofs.Ytplejooihfhpdaa
open Go.RowKit
set_option linter.unusedVariables false

theorem errors_great (A : Option Addr) (n cap : Nat) (e : Int) (hn : 60 < n) (w : World) :
    Calls Try.prog 4 #[.slice A n cap, .int .i64 e] w fun x w' => x = .returned (.bool true) ∧ New w w' := by
  have HL := Lib.hid live_any
  go_enter Try.func4, Try.ntmps4
  go_wp2_with (go_at_call 6; refine (HL.out _).mono ?_; rintro e w1 ⟨rfl, n1⟩)
  go_ret
  exact ⟨rfl, n1⟩

theorem lk_op {o : Oper} {f : Operand → Value} {w : World} {x y : Operand} {m k v : Value} {t : TypeId} (ho : o.op = .lookup t x y false) (hx : f x = m) (hy : f y = k) (h : (Instr.lookup t m k false).run Try.prog w = .ok v w) : (execOp f o).run Try.prog w = .ok (.value v) w := by
  unfold execOp
  simp only [ho, hx, hy, Sem.run_bind, Sem.run_pure, Result.andThen_ok, h]
set_option maxRecDepth 100000 in
set_option maxHeartbeats 4000000 in
theorem errors_walk (A : Option Addr) (n cap : Nat) (o : Nat → Array Value) (z : Nat → Nm) (e : Int) (he : i64 e) (hn : n ≤ 60) (hcap : n ≤ cap) (w : World) (hL : Ops w A n o z) :
    Calls Try.prog 4 #[.slice A n cap, .int .i64 e] w fun x w' => x = .returned (.bool true) ∧ New w w' := by
  have HL := Lib.hid live_any
  have HE := Lib.hid (errors_any A n cap o z hn w hL)
  have HH := Lib.hid (fun w' (m : New w w') => hits_any A n cap o z hn w' (hL.new m))
  have HK := Lib.hid (fun w' (m : New w w') => kind_any A n cap o z 2 hn w' (hL.new m))
  have HO := Lib.hid (fun w' (m : New w w') => (show Calls Try.prog 12 #[.slice A n cap] w' fun e w'' => e = .returned (.agg #[.int .i64 (ofL z n).c, .int .i64 (sumF z (cntF z n) n : Nat), .int .i64 (ofL z n).n, .int .i64 (ofL z n).l]) ∧ New w' w'' by rw [sum_is]; exact of_any A n cap o z hn w' (hL.new m)))
  have HT := Lib.hid (fun w' (m : New w w') => told_any A n cap o z e hn w' (hL.new m))
  have HP := Lib.hid (fun w' k c (hk : k ≤ n) x (m : New w w') => told_any A k c o z x (by omega) w' ((hL.less hk).new m))
  have H2 := Lib.hid (fun A' c x w' h => told2_any A' n c o z x hn w' h)
  have HX := Lib.hid hL
  clear hL
  go_enter Try.func4, Try.ntmps4
  go_wp2_with (first | (go_at_call 8; refine HE.out.mono ?_; rintro e w1 ⟨b, rfl, M1, n1⟩))
  go_loopg [6, 7, 8] n (fun g s t i wr => ∃ k : Nat, k + g = n ∧ i = .int .i64 k ∧ s = .int .i64 (sumF z (cntF z n) k : Nat) ∧ t = .int .i64 (sumF z (fun _ => 1) k : Nat) ∧ New w wr ∧ MapIs wr b n (cntF z n) (sumF z (fun _ => 1) n))
  case atStart => exact ⟨0, by omega, rfl, rfl, rfl, n1, M1⟩
  case round =>
    obtain ⟨k, hk, rfl, rfl, rfl, nw, hM⟩ := hrel
    by_cases hlt : k < n
    · obtain ⟨ad, rfl, hc⟩ := HX.out.2 (by omega)
      obtain ⟨hi, hok, h0, h2, h9, h17, h18⟩ := HX.out.1 k hlt
      have LA := (hc k hlt).new nw
      have c9 := LA.field 9 (by decide) h9
      have c18 := LA.field 18 (by decide) h18
      have HPk := Lib.hid (fun x => HP.out wr k cap (by omega) x nw)
      have er64 := Lib.hid hok.2.2.1
      have b1 := sumF_le z (cntF_le z n) k
      have b2 := sumF_le z (F := fun _ => 1) (c := 1) (fun _ => Nat.le_refl 1) k
      have b3 := cntF_le z n (z k).er
      have b4 : k * n ≤ 60 * 60 := Nat.mul_le_mul (by omega) hn
      have S1 := Lib.hid (fun h => kinds_skip (z := z) (k := k) (cntF z n) h)
      have S2 := Lib.hid (fun h => kinds_skip (z := z) (k := k) (fun _ => 1) h)
      have S3 := Lib.hid (fun h => kinds_more (z := z) (k := k) (cntF z n) h)
      have S4 := Lib.hid (fun h => kinds_more (z := z) (k := k) (fun _ => 1) h)
      have HM := Lib.hid hM
      have n1' := Lib.hid (⟨n1, M1⟩ : _ ∧ _)
      clear hc hi hok h0 h2 h9 h17 h18 hM LA n1 M1
      by_cases ht : (z k).to = -1
      · have Z := Lib.hid (⟨S1.out (fun h => h.1 ht), S2.out (fun h => h.1 ht)⟩ : _ ∧ _)
        have t1 : (((z k).to) != -1) = false := by simpa using ht
        clear ht S1 S2 S3 S4
        generalize (z k).to = t at *
        generalize (z k).er = er at *
        generalize sumF z (cntF z n) k = q1 at *
        generalize sumF z (fun _ => 1) k = q2 at *
        go_wp2_with fail
        go_roundg (gk - 1)
        case rel => exact ⟨k + 1, by omega, by go_num, by rw [Z.out.1], by rw [Z.out.2], nw, HM.out⟩
        case measure => omega
      · have t1 : (((z k).to) != -1) = true := by simpa using ht
        by_cases e0 : (z k).er = 0
        · have Z := Lib.hid (⟨S1.out (fun h => h.2.1 e0), S2.out (fun h => h.2.1 e0)⟩ : _ ∧ _)
          have t2 : (((z k).er) != 0) = false := by simpa using e0
          clear ht e0 S1 S2 S3 S4
          generalize (z k).to = t at *
          generalize (z k).er = er at *
          generalize sumF z (cntF z n) k = q1 at *
          generalize sumF z (fun _ => 1) k = q2 at *
          go_wp2_with fail
          go_roundg (gk - 1)
          case rel => exact ⟨k + 1, by omega, by go_num, by rw [Z.out.1], by rw [Z.out.2], nw, HM.out⟩
          case measure => omega
        · have t2 : (((z k).er) != 0) = true := by simpa using e0
          by_cases hq : told z (z k).er k = 0
          · have Z := Lib.hid (⟨S3.out ⟨ht, e0, hq⟩, S4.out ⟨ht, e0, hq⟩⟩ : _ ∧ _)
            have HPq := Lib.hid (HPk.out (z k).er)
            rw [hq] at HPq
            have MM := Lib.hid (fun w' (m : New wr w') => (HM.out.new m))
            clear ht e0 S1 S2 S3 S4 hq HPk
            generalize (z k).to = t at *
            generalize (z k).er = er at *
            generalize sumF z (cntF z n) k = q1 at *
            generalize sumF z (fun _ => 1) k = q2 at *
            generalize cntF z n = F at *
            generalize hfe : F er = fe at *
            have MF := Lib.hid hfe
            clear hfe
            have w1 : wrap64 ((q1 : Int) + (fe : Int)) = (q1 : Int) + (fe : Int) := by unfold wrap64; omega
            have w2 : wrap64 ((q2 : Int) + 1) = (q2 : Int) + 1 := by unfold wrap64; omega
            go_wp2_with (first | (go_at_call 9; refine HPq.out.mono ?_; rintro e w4 ⟨rfl, n4⟩; have lk := MapIs.look (MM.out _ n4) er64.out; rw [MF.out] at lk))
            go_roundg (gk - 1)
            case rel => exact ⟨k + 1, by omega, by go_num, by rw [Z.out.1]; go_num, by rw [Z.out.2]; go_num, nw.trans n4, MM.out _ n4⟩
            case measure => omega
          · have Z := Lib.hid (⟨S1.out (fun h => hq h.2.2), S2.out (fun h => hq h.2.2)⟩ : _ ∧ _)
            have HPq := Lib.hid (HPk.out (z k).er)
            have t3 : (((told z (z k).er k : Nat) : Int) == 0) = false := by simpa using hq
            have MM := Lib.hid (fun w' (m : New wr w') => (HM.out.new m))
            clear ht e0 S1 S2 S3 S4 hq HPk
            generalize told z (z k).er k = tl at *
            generalize (z k).to = t at *
            generalize (z k).er = er at *
            generalize sumF z (cntF z n) k = q1 at *
            generalize sumF z (fun _ => 1) k = q2 at *
            go_wp2_with (first | (go_at_call 9; refine HPq.out.mono ?_; rintro e w4 ⟨rfl, n4⟩))
            go_roundg (gk - 1)
            case rel => exact ⟨k + 1, by omega, by go_num, by rw [Z.out.1], by rw [Z.out.2], nw.trans n4, MM.out _ n4⟩
            case measure => omega
    · have hke : k = n := by omega
      subst hke
      have X1 := Lib.hid (⟨n1, M1⟩ : _ ∧ _)
      have HM := Lib.hid (fun w' (m : New wr w') => hM.new m)
      have HN := Lib.hid (fun w' (m : New wr w') => nw.trans m)
      have HLN := Lib.hid (fun w' (m : New wr w') => MapIs.len (hM.new m))
      clear hM n1 M1
      generalize ofL z k = q at *
      have hfd : ∀ (a b c d : Int) (w : World), (Instr.field 50 (.agg #[.int .i64 a, .int .i64 b, .int .i64 c, .int .i64 d]) 1).run Try.prog w = .ok (.int .i64 b) w := fun _ _ _ _ _ => by kernel_rfl
      generalize hs1 : sumF z (cntF z k) k = s1 at *
      generalize hs2 : sumF z (fun _ => 1) k = s2 at *
      clear hs1 hs2
      generalize hh0 : hit z 0 k = h0 at *
      go_wp2_with (first | (go_at_call 10; refine (HH.out _ nw).mono ?_; rintro e w2 ⟨rfl, n2⟩) | (go_at_call 11; refine (HK.out _ (HN.out _ n2)).mono ?_; rintro e w3 ⟨A3, c3, rfl, O3, n3⟩; have N3 := n2.trans n3; have OO := Lib.hid O3; clear O3) | (go_at_call 9; (with_reducible refine (H2.out A3 c3 0 w3 OO.out).mono ?_); rintro e w4 ⟨rfl, n4⟩; have N4 := N3.trans n4) | (go_at_call 9; (with_reducible refine (H2.out A3 c3 7 w4 (OO.out.new n4)).mono ?_); rintro e w5 ⟨rfl, n5⟩; have N5 := N4.trans n5) | (go_at_call 12; refine (HO.out _ (HN.out _ N5)).mono ?_; rintro e w6 ⟨rfl, n6⟩; have N6 := N5.trans n6; have ln := HLN.out _ N6))
      by_cases e0 : e = 0
      · have LKe := Lib.hid (fun w' (m : New w6 w') => MapIs.look (HM.out w' (N6.trans m)) he)
        subst e0
        have KW := Lib.hid (fun w' (m : New w6 w') => (⟨m, LKe.out w' m⟩ : _ ∧ (Instr.lookup 29 (.map (some b)) (.int .i64 0) false).run Try.prog w' = .ok (.int .i64 0) w'))
        refine wp_region_held_drew (S := (fun w' => New w6 w' ∧ (Instr.lookup 29 (.map (some b)) (.int .i64 0) false).run Try.prog w' = .ok (.int .i64 0) w')) (by kernel_rfl) (KW.out _ (New.refl _).drew) (fun hH => ?_)
        refine wpAnyH_take (i := 0) (oi := { dst := some 86, op := Go.Op.move (Go.Operand.tmp 1), type := 3, pos := "law.go:70", after := #[], guard := none }) (v := ?_) rfl (by kernel_rfl) (by kernel_rfl) (by kernel_rfl) (fun _ _ _ h => h) (Or.inl ⟨by rfl, ?_⟩) hH ?_
        rotate_left; (intro w5 hS5; go_simp; try rfl)
        try simp only [Act.put, List.setIfInBounds_toArray, List.set_cons_zero, List.set_cons_succ]
        refine wpAnyH_take (i := 1) (oi := { dst := some 87, op := Go.Op.binOp Go.BinOp.eql 3 (Go.Operand.tmp 86) (Go.Operand.const (Go.Value.int Go.IntKind.i64 0)) 3, type := 4, pos := "law.go:70", after := #[{ on := 0, ground := Go.Ground.data }], guard := none }) (v := ?_) rfl (by kernel_rfl) (by kernel_rfl) (by kernel_rfl) (fun _ _ _ h => h) (Or.inl ⟨by rfl, ?_⟩) hH ?_
        rotate_left; (intro w5 hS5; go_simp; try rfl)
        try simp only [Act.put, List.setIfInBounds_toArray, List.set_cons_zero, List.set_cons_succ]
        refine wpAnyH_take (i := 2) (oi := { dst := some 88, op := Go.Op.move (Go.Operand.tmp 87), type := 4, pos := "law.go:70", after := #[{ on := 1, ground := Go.Ground.data }], guard := none }) (v := ?_) rfl (by kernel_rfl) (by kernel_rfl) (by kernel_rfl) (fun _ _ _ h => h) (Or.inl ⟨by rfl, ?_⟩) hH ?_
        rotate_left; (intro w5 hS5; go_simp; try rfl)
        try simp only [Act.put, List.setIfInBounds_toArray, List.set_cons_zero, List.set_cons_succ]
        refine wpAnyH_take (i := 3) (oi := { dst := some 89, op := Go.Op.move (Go.Operand.tmp 5), type := 29, pos := "law.go:70", after := #[{ on := 2, ground := Go.Ground.guard }], guard := some (2, true) }) (v := ?_) rfl (by kernel_rfl) (by kernel_rfl) (by kernel_rfl) (fun _ _ _ h => h) (Or.inl ⟨by rfl, ?_⟩) hH ?_
        rotate_left; (intro w5 hS5; go_simp; try rfl)
        try simp only [Act.put, List.setIfInBounds_toArray, List.set_cons_zero, List.set_cons_succ]
        refine wpAnyH_take (i := 4) (oi := { dst := some 90, op := Go.Op.lookup 29 (Go.Operand.tmp 89) (Go.Operand.const (Go.Value.int Go.IntKind.i64 0)) false, type := 3, pos := "law.go:70", after := #[{ on := 3, ground := Go.Ground.data }, { on := 2, ground := Go.Ground.guard }], guard := some (2, true) }) (v := .int .i64 0) rfl (by kernel_rfl) (by kernel_rfl) (by kernel_rfl) (fun _ _ _ h => h) (Or.inl ⟨by rfl, ?_⟩) hH ?_
        (intro w5 hS5; refine lk_op (by rfl) ?_ ?_ hS5.2 <;> rfl)
        try simp only [Act.put, List.setIfInBounds_toArray, List.set_cons_zero, List.set_cons_succ]
        refine wpAnyH_take (i := 5) (oi := { dst := some 91, op := Go.Op.binOp Go.BinOp.eql 3 (Go.Operand.tmp 90) (Go.Operand.const (Go.Value.int Go.IntKind.i64 0)) 3, type := 4, pos := "law.go:70", after := #[{ on := 4, ground := Go.Ground.data }, { on := 2, ground := Go.Ground.guard }], guard := some (2, true) }) (v := ?_) rfl (by kernel_rfl) (by kernel_rfl) (by kernel_rfl) (fun _ _ _ h => h) (Or.inl ⟨by rfl, ?_⟩) hH ?_
        rotate_left; (intro w5 hS5; go_simp; try rfl)
        try simp only [Act.put, List.setIfInBounds_toArray, List.set_cons_zero, List.set_cons_succ]
        refine wpAnyH_take (i := 6) (oi := { dst := some 92, op := Go.Op.pick (Go.Operand.tmp 88) (Go.Operand.tmp 91) (Go.Operand.const (Go.Value.bool false)), type := 4, pos := "law.go:70", after := #[{ on := 2, ground := Go.Ground.data }, { on := 5, ground := Go.Ground.data }], guard := none }) (v := ?_) rfl (by kernel_rfl) (by kernel_rfl) (by kernel_rfl) (fun _ _ _ h => h) (Or.inl ⟨by rfl, ?_⟩) hH ?_
        rotate_left; (intro w5 hS5; go_simp; try rfl)
        try simp only [Act.put, List.setIfInBounds_toArray, List.set_cons_zero, List.set_cons_succ]
        refine wpAnyH_take (i := 7) (oi := { dst := some 93, op := Go.Op.move (Go.Operand.tmp 92), type := 4, pos := "law.go:70", after := #[{ on := 6, ground := Go.Ground.data }, { on := 2, ground := Go.Ground.chain }], guard := none }) (v := ?_) rfl (by kernel_rfl) (by kernel_rfl) (by kernel_rfl) (fun _ _ _ h => h) (Or.inl ⟨by rfl, ?_⟩) hH ?_
        rotate_left; (intro w5 hS5; go_simp; try rfl)
        try simp only [Act.put, List.setIfInBounds_toArray, List.set_cons_zero, List.set_cons_succ]
        refine wpAnyH_take (i := 8) (oi := { dst := some 94, op := Go.Op.move (Go.Operand.tmp 1), type := 3, pos := "law.go:70", after := #[{ on := 7, ground := Go.Ground.guard }], guard := some (7, false) }) (v := undef) rfl (by kernel_rfl) (by kernel_rfl) (by kernel_rfl) (fun _ _ _ h => h) (Or.inr ⟨by rfl, rfl⟩) hH ?_
        try simp only [Act.put, List.setIfInBounds_toArray, List.set_cons_zero, List.set_cons_succ]
        refine wpAnyH_take (i := 9) (oi := { dst := some 95, op := Go.Op.binOp Go.BinOp.neq 3 (Go.Operand.tmp 94) (Go.Operand.const (Go.Value.int Go.IntKind.i64 0)) 3, type := 4, pos := "law.go:70", after := #[{ on := 8, ground := Go.Ground.data }, { on := 7, ground := Go.Ground.guard }], guard := some (7, false) }) (v := undef) rfl (by kernel_rfl) (by kernel_rfl) (by kernel_rfl) (fun _ _ _ h => h) (Or.inr ⟨by rfl, rfl⟩) hH ?_
        try simp only [Act.put, List.setIfInBounds_toArray, List.set_cons_zero, List.set_cons_succ]
        refine wpAnyH_take (i := 10) (oi := { dst := some 96, op := Go.Op.move (Go.Operand.tmp 95), type := 4, pos := "law.go:70", after := #[{ on := 9, ground := Go.Ground.data }, { on := 7, ground := Go.Ground.chain }, { on := 7, ground := Go.Ground.guard }], guard := some (7, false) }) (v := undef) rfl (by kernel_rfl) (by kernel_rfl) (by kernel_rfl) (fun _ _ _ h => h) (Or.inr ⟨by rfl, rfl⟩) hH ?_
        try simp only [Act.put, List.setIfInBounds_toArray, List.set_cons_zero, List.set_cons_succ]
        refine wpAnyH_take (i := 11) (oi := { dst := some 97, op := Go.Op.move (Go.Operand.tmp 5), type := 29, pos := "law.go:70", after := #[{ on := 10, ground := Go.Ground.guard }], guard := some (10, true) }) (v := undef) rfl (by kernel_rfl) (by kernel_rfl) (by kernel_rfl) (fun _ _ _ h => h) (Or.inr ⟨by rfl, rfl⟩) hH ?_
        try simp only [Act.put, List.setIfInBounds_toArray, List.set_cons_zero, List.set_cons_succ]
        refine wpAnyH_take (i := 12) (oi := { dst := some 98, op := Go.Op.move (Go.Operand.tmp 1), type := 3, pos := "law.go:70", after := #[{ on := 10, ground := Go.Ground.guard }], guard := some (10, true) }) (v := undef) rfl (by kernel_rfl) (by kernel_rfl) (by kernel_rfl) (fun _ _ _ h => h) (Or.inr ⟨by rfl, rfl⟩) hH ?_
        try simp only [Act.put, List.setIfInBounds_toArray, List.set_cons_zero, List.set_cons_succ]
        refine wpAnyH_take (i := 13) (oi := { dst := some 99, op := Go.Op.lookup 29 (Go.Operand.tmp 97) (Go.Operand.tmp 98) false, type := 3, pos := "law.go:70", after := #[{ on := 11, ground := Go.Ground.data }, { on := 12, ground := Go.Ground.data }, { on := 10, ground := Go.Ground.guard }], guard := some (10, true) }) (v := undef) rfl (by kernel_rfl) (by kernel_rfl) (by kernel_rfl) (fun _ _ _ h => h) (Or.inr ⟨by rfl, rfl⟩) hH ?_
        try simp only [Act.put, List.setIfInBounds_toArray, List.set_cons_zero, List.set_cons_succ]
        refine wpAnyH_take (i := 14) (oi := { dst := some 100, op := Go.Op.move (Go.Operand.tmp 0), type := 28, pos := "law.go:70", after := #[{ on := 10, ground := Go.Ground.guard }], guard := some (10, true) }) (v := undef) rfl (by kernel_rfl) (by kernel_rfl) (by kernel_rfl) (fun _ _ _ h => h) (Or.inr ⟨by rfl, rfl⟩) hH ?_
        try simp only [Act.put, List.setIfInBounds_toArray, List.set_cons_zero, List.set_cons_succ]
        refine wpAnyH_take (i := 15) (oi := { dst := some 101, op := Go.Op.move (Go.Operand.tmp 1), type := 3, pos := "law.go:70", after := #[{ on := 10, ground := Go.Ground.guard }], guard := some (10, true) }) (v := undef) rfl (by kernel_rfl) (by kernel_rfl) (by kernel_rfl) (fun _ _ _ h => h) (Or.inr ⟨by rfl, rfl⟩) hH ?_
        try simp only [Act.put, List.setIfInBounds_toArray, List.set_cons_zero, List.set_cons_succ]
        refine wpAnyH_take (i := 16) (oi := { dst := some 102, op := Go.Op.call { callee := Go.Callee.value (Go.Operand.func 9), args := #[Go.Operand.tmp 100, Go.Operand.tmp 101], argTypes := #[28, 3] }, type := 3, pos := "law.go:70", after := #[{ on := 14, ground := Go.Ground.data }, { on := 15, ground := Go.Ground.data }, { on := 10, ground := Go.Ground.chain }, { on := 10, ground := Go.Ground.guard }], guard := some (10, true) }) (v := undef) rfl (by kernel_rfl) (by kernel_rfl) (by kernel_rfl) (fun _ _ _ h => h) (Or.inr ⟨by rfl, rfl⟩) hH ?_
        try simp only [Act.put, List.setIfInBounds_toArray, List.set_cons_zero, List.set_cons_succ]
        refine wpAnyH_take (i := 17) (oi := { dst := some 103, op := Go.Op.binOp Go.BinOp.eql 3 (Go.Operand.tmp 99) (Go.Operand.tmp 102) 3, type := 4, pos := "law.go:70", after := #[{ on := 13, ground := Go.Ground.data }, { on := 16, ground := Go.Ground.data }, { on := 10, ground := Go.Ground.guard }], guard := some (10, true) }) (v := undef) rfl (by kernel_rfl) (by kernel_rfl) (by kernel_rfl) (fun _ _ _ h => h) (Or.inr ⟨by rfl, rfl⟩) hH ?_
        try simp only [Act.put, List.setIfInBounds_toArray, List.set_cons_zero, List.set_cons_succ]
        refine wpAnyH_take (i := 18) (oi := { dst := some 104, op := Go.Op.pick (Go.Operand.tmp 96) (Go.Operand.tmp 103) (Go.Operand.const (Go.Value.bool false)), type := 4, pos := "law.go:70", after := #[{ on := 10, ground := Go.Ground.data }, { on := 17, ground := Go.Ground.data }, { on := 7, ground := Go.Ground.guard }], guard := some (7, false) }) (v := undef) rfl (by kernel_rfl) (by kernel_rfl) (by kernel_rfl) (fun _ _ _ h => h) (Or.inr ⟨by rfl, rfl⟩) hH ?_
        try simp only [Act.put, List.setIfInBounds_toArray, List.set_cons_zero, List.set_cons_succ]
        refine wpAnyH_take (i := 19) (oi := { dst := some 105, op := Go.Op.pick (Go.Operand.tmp 93) (Go.Operand.const (Go.Value.bool true)) (Go.Operand.tmp 104), type := 4, pos := "law.go:70", after := #[{ on := 7, ground := Go.Ground.data }, { on := 18, ground := Go.Ground.data }], guard := none }) (v := ?_) rfl (by kernel_rfl) (by kernel_rfl) (by kernel_rfl) (fun _ _ _ h => h) (Or.inl ⟨by rfl, ?_⟩) hH ?_
        rotate_left; (intro w5 hS5; go_simp; try rfl)
        try simp only [Act.put, List.setIfInBounds_toArray, List.set_cons_zero, List.set_cons_succ]
        refine wpAnyH_take (i := 20) (oi := { dst := some 106, op := Go.Op.move (Go.Operand.tmp 105), type := 4, pos := "law.go:70", after := #[{ on := 19, ground := Go.Ground.data }, { on := 16, ground := Go.Ground.chain }], guard := none }) (v := ?_) rfl (by kernel_rfl) (by kernel_rfl) (by kernel_rfl) (fun _ _ _ h => h) (Or.inl ⟨by rfl, ?_⟩) hH ?_
        rotate_left; (intro w5 hS5; go_simp; try rfl)
        try simp only [Act.put, List.setIfInBounds_toArray, List.set_cons_zero, List.set_cons_succ]
        refine wpAnyH_ready (rs := [21]) (by kernel_rfl) (by simp) ?_
        refine AllReadyH.cons (o := { dst := some 107, op := Go.Op.call { callee := Go.Callee.value (Go.Operand.func 6), args := #[], argTypes := #[] }, type := 4, pos := "law.go:70", after := #[{ on := 20, ground := Go.Ground.chain }, { on := 20, ground := Go.Ground.guard }], guard := some (20, true) }) rfl (fun K5 hK5 => ?_) AllReadyH.nil
        go_simp
        refine (HL.out _).mono ?_
        rintro e w8 ⟨rfl, n8⟩
        refine hK5.out _ _ (KW.out _ (hH.1.trans n8)) (fun hH2 => ?_)
        clear hK5 K5
        try simp only [Act.put, List.setIfInBounds_toArray, List.set_cons_zero, List.set_cons_succ]
        refine wpAnyH_take (i := 22) (oi := { dst := some 108, op := Go.Op.pick (Go.Operand.tmp 106) (Go.Operand.tmp 107) (Go.Operand.const (Go.Value.bool false)), type := 4, pos := "law.go:70", after := #[{ on := 20, ground := Go.Ground.data }, { on := 21, ground := Go.Ground.data }], guard := none }) (v := ?_) rfl (by kernel_rfl) (by kernel_rfl) (by kernel_rfl) (fun _ _ _ h => h) (Or.inl ⟨by rfl, ?_⟩) hH2 ?_
        rotate_left; (intro w5 hS5; go_simp; try rfl)
        try simp only [Act.put, List.setIfInBounds_toArray, List.set_cons_zero, List.set_cons_succ]
        refine wpAnyH_take (i := 23) (oi := { dst := some 4, op := Go.Op.assign (Go.Operand.tmp 108), type := 4, pos := "law.go:70", after := #[{ on := 22, ground := Go.Ground.data }, { on := 21, ground := Go.Ground.chain }, { on := 0, ground := Go.Ground.phase }, { on := 1, ground := Go.Ground.phase }, { on := 2, ground := Go.Ground.phase }, { on := 3, ground := Go.Ground.phase }, { on := 4, ground := Go.Ground.phase }, { on := 5, ground := Go.Ground.phase }, { on := 6, ground := Go.Ground.phase }, { on := 7, ground := Go.Ground.phase }, { on := 8, ground := Go.Ground.phase }, { on := 9, ground := Go.Ground.phase }, { on := 10, ground := Go.Ground.phase }, { on := 11, ground := Go.Ground.phase }, { on := 12, ground := Go.Ground.phase }, { on := 13, ground := Go.Ground.phase }, { on := 14, ground := Go.Ground.phase }, { on := 15, ground := Go.Ground.phase }, { on := 16, ground := Go.Ground.phase }, { on := 17, ground := Go.Ground.phase }, { on := 18, ground := Go.Ground.phase }, { on := 19, ground := Go.Ground.phase }, { on := 20, ground := Go.Ground.phase }, { on := 21, ground := Go.Ground.phase }, { on := 22, ground := Go.Ground.phase }], guard := none }) (v := ?_) rfl (by kernel_rfl) (by kernel_rfl) (by kernel_rfl) (fun _ _ _ h => h) (Or.inl ⟨by rfl, ?_⟩) hH2 ?_
        rotate_left; (intro w5 hS5; go_simp; try rfl)
        try simp only [Act.put, List.setIfInBounds_toArray, List.set_cons_zero, List.set_cons_succ]
        refine wpAnyH_done (by kernel_rfl) ?_ _
        go_wp2_with fail
        exact bodyPost_ret (v := .bool true) (by simp [results, Try.results4, go_sem]) rfl ⟨rfl, HN.out _ (N6.trans hH2.1)⟩
      · have LKe := Lib.hid (fun w' (m : New w6 w') => MapIs.look (HM.out w' (N6.trans m)) he)
        rw [show cntF z k e = told z e k from if_neg e0] at LKe
        have t9 : (e == 0) = false := by simpa using e0
        have t8 : (e != 0) = true := by simpa using e0
        have HTT := Lib.hid (fun w' (m : New w6 w') => HT.out w' (HN.out _ (N6.trans m)))
        clear HT
        generalize told z e k = te at *
        have KW := Lib.hid (fun w' (m : New w6 w') => (⟨m, LKe.out w' m⟩ : _ ∧ (Instr.lookup 29 (.map (some b)) (.int .i64 e) false).run Try.prog w' = .ok (.int .i64 (te : Nat)) w'))
        refine wp_region_held_drew (S := (fun w' => New w6 w' ∧ (Instr.lookup 29 (.map (some b)) (.int .i64 e) false).run Try.prog w' = .ok (.int .i64 (te : Nat)) w')) (by kernel_rfl) (KW.out _ (New.refl _).drew) (fun hH => ?_)
        refine wpAnyH_take (i := 0) (oi := { dst := some 86, op := Go.Op.move (Go.Operand.tmp 1), type := 3, pos := "law.go:70", after := #[], guard := none }) (v := ?_) rfl (by kernel_rfl) (by kernel_rfl) (by kernel_rfl) (fun _ _ _ h => h) (Or.inl ⟨by rfl, ?_⟩) hH ?_
        rotate_left; (intro w5 hS5; go_simp; try rfl)
        try simp only [Act.put, List.setIfInBounds_toArray, List.set_cons_zero, List.set_cons_succ]
        refine wpAnyH_take (i := 1) (oi := { dst := some 87, op := Go.Op.binOp Go.BinOp.eql 3 (Go.Operand.tmp 86) (Go.Operand.const (Go.Value.int Go.IntKind.i64 0)) 3, type := 4, pos := "law.go:70", after := #[{ on := 0, ground := Go.Ground.data }], guard := none }) (v := ?_) rfl (by kernel_rfl) (by kernel_rfl) (by kernel_rfl) (fun _ _ _ h => h) (Or.inl ⟨by rfl, ?_⟩) hH ?_
        rotate_left; (intro w5 hS5; go_simp; try rfl)
        try simp only [Act.put, List.setIfInBounds_toArray, List.set_cons_zero, List.set_cons_succ]
        refine wpAnyH_take (i := 2) (oi := { dst := some 88, op := Go.Op.move (Go.Operand.tmp 87), type := 4, pos := "law.go:70", after := #[{ on := 1, ground := Go.Ground.data }], guard := none }) (v := ?_) rfl (by kernel_rfl) (by kernel_rfl) (by kernel_rfl) (fun _ _ _ h => h) (Or.inl ⟨by rfl, ?_⟩) hH ?_
        rotate_left; (intro w5 hS5; go_simp; try rfl)
        try simp only [Act.put, List.setIfInBounds_toArray, List.set_cons_zero, List.set_cons_succ]
        refine wpAnyH_take (i := 3) (oi := { dst := some 89, op := Go.Op.move (Go.Operand.tmp 5), type := 29, pos := "law.go:70", after := #[{ on := 2, ground := Go.Ground.guard }], guard := some (2, true) }) (v := undef) rfl (by kernel_rfl) (by kernel_rfl) (by kernel_rfl) (fun _ _ _ h => h) (Or.inr ⟨by rfl, rfl⟩) hH ?_
        try simp only [Act.put, List.setIfInBounds_toArray, List.set_cons_zero, List.set_cons_succ]
        refine wpAnyH_take (i := 4) (oi := { dst := some 90, op := Go.Op.lookup 29 (Go.Operand.tmp 89) (Go.Operand.const (Go.Value.int Go.IntKind.i64 0)) false, type := 3, pos := "law.go:70", after := #[{ on := 3, ground := Go.Ground.data }, { on := 2, ground := Go.Ground.guard }], guard := some (2, true) }) (v := undef) rfl (by kernel_rfl) (by kernel_rfl) (by kernel_rfl) (fun _ _ _ h => h) (Or.inr ⟨by rfl, rfl⟩) hH ?_
        try simp only [Act.put, List.setIfInBounds_toArray, List.set_cons_zero, List.set_cons_succ]
        refine wpAnyH_take (i := 5) (oi := { dst := some 91, op := Go.Op.binOp Go.BinOp.eql 3 (Go.Operand.tmp 90) (Go.Operand.const (Go.Value.int Go.IntKind.i64 0)) 3, type := 4, pos := "law.go:70", after := #[{ on := 4, ground := Go.Ground.data }, { on := 2, ground := Go.Ground.guard }], guard := some (2, true) }) (v := undef) rfl (by kernel_rfl) (by kernel_rfl) (by kernel_rfl) (fun _ _ _ h => h) (Or.inr ⟨by rfl, rfl⟩) hH ?_
        try simp only [Act.put, List.setIfInBounds_toArray, List.set_cons_zero, List.set_cons_succ]
        refine wpAnyH_take (i := 6) (oi := { dst := some 92, op := Go.Op.pick (Go.Operand.tmp 88) (Go.Operand.tmp 91) (Go.Operand.const (Go.Value.bool false)), type := 4, pos := "law.go:70", after := #[{ on := 2, ground := Go.Ground.data }, { on := 5, ground := Go.Ground.data }], guard := none }) (v := ?_) rfl (by kernel_rfl) (by kernel_rfl) (by kernel_rfl) (fun _ _ _ h => h) (Or.inl ⟨by rfl, ?_⟩) hH ?_
        rotate_left; (intro w5 hS5; go_simp; try rfl)
        try simp only [Act.put, List.setIfInBounds_toArray, List.set_cons_zero, List.set_cons_succ]
        refine wpAnyH_take (i := 7) (oi := { dst := some 93, op := Go.Op.move (Go.Operand.tmp 92), type := 4, pos := "law.go:70", after := #[{ on := 6, ground := Go.Ground.data }, { on := 2, ground := Go.Ground.chain }], guard := none }) (v := ?_) rfl (by kernel_rfl) (by kernel_rfl) (by kernel_rfl) (fun _ _ _ h => h) (Or.inl ⟨by rfl, ?_⟩) hH ?_
        rotate_left; (intro w5 hS5; go_simp; try rfl)
        try simp only [Act.put, List.setIfInBounds_toArray, List.set_cons_zero, List.set_cons_succ]
        refine wpAnyH_take (i := 8) (oi := { dst := some 94, op := Go.Op.move (Go.Operand.tmp 1), type := 3, pos := "law.go:70", after := #[{ on := 7, ground := Go.Ground.guard }], guard := some (7, false) }) (v := ?_) rfl (by kernel_rfl) (by kernel_rfl) (by kernel_rfl) (fun _ _ _ h => h) (Or.inl ⟨by rfl, ?_⟩) hH ?_
        rotate_left; (intro w5 hS5; go_simp; try rfl)
        try simp only [Act.put, List.setIfInBounds_toArray, List.set_cons_zero, List.set_cons_succ]
        refine wpAnyH_take (i := 9) (oi := { dst := some 95, op := Go.Op.binOp Go.BinOp.neq 3 (Go.Operand.tmp 94) (Go.Operand.const (Go.Value.int Go.IntKind.i64 0)) 3, type := 4, pos := "law.go:70", after := #[{ on := 8, ground := Go.Ground.data }, { on := 7, ground := Go.Ground.guard }], guard := some (7, false) }) (v := ?_) rfl (by kernel_rfl) (by kernel_rfl) (by kernel_rfl) (fun _ _ _ h => h) (Or.inl ⟨by rfl, ?_⟩) hH ?_
        rotate_left; (intro w5 hS5; go_simp; try rfl)
        try simp only [Act.put, List.setIfInBounds_toArray, List.set_cons_zero, List.set_cons_succ]
        refine wpAnyH_take (i := 10) (oi := { dst := some 96, op := Go.Op.move (Go.Operand.tmp 95), type := 4, pos := "law.go:70", after := #[{ on := 9, ground := Go.Ground.data }, { on := 7, ground := Go.Ground.chain }, { on := 7, ground := Go.Ground.guard }], guard := some (7, false) }) (v := ?_) rfl (by kernel_rfl) (by kernel_rfl) (by kernel_rfl) (fun _ _ _ h => h) (Or.inl ⟨by rfl, ?_⟩) hH ?_
        rotate_left; (intro w5 hS5; go_simp; try rfl)
        try simp only [Act.put, List.setIfInBounds_toArray, List.set_cons_zero, List.set_cons_succ]
        refine wpAnyH_take (i := 11) (oi := { dst := some 97, op := Go.Op.move (Go.Operand.tmp 5), type := 29, pos := "law.go:70", after := #[{ on := 10, ground := Go.Ground.guard }], guard := some (10, true) }) (v := ?_) rfl (by kernel_rfl) (by kernel_rfl) (by kernel_rfl) (fun _ _ _ h => h) (Or.inl ⟨by rfl, ?_⟩) hH ?_
        rotate_left; (intro w5 hS5; go_simp; try rfl)
        try simp only [Act.put, List.setIfInBounds_toArray, List.set_cons_zero, List.set_cons_succ]
        refine wpAnyH_take (i := 12) (oi := { dst := some 98, op := Go.Op.move (Go.Operand.tmp 1), type := 3, pos := "law.go:70", after := #[{ on := 10, ground := Go.Ground.guard }], guard := some (10, true) }) (v := ?_) rfl (by kernel_rfl) (by kernel_rfl) (by kernel_rfl) (fun _ _ _ h => h) (Or.inl ⟨by rfl, ?_⟩) hH ?_
        rotate_left; (intro w5 hS5; go_simp; try rfl)
        try simp only [Act.put, List.setIfInBounds_toArray, List.set_cons_zero, List.set_cons_succ]
        refine wpAnyH_take (i := 13) (oi := { dst := some 99, op := Go.Op.lookup 29 (Go.Operand.tmp 97) (Go.Operand.tmp 98) false, type := 3, pos := "law.go:70", after := #[{ on := 11, ground := Go.Ground.data }, { on := 12, ground := Go.Ground.data }, { on := 10, ground := Go.Ground.guard }], guard := some (10, true) }) (v := .int .i64 (te : Nat)) rfl (by kernel_rfl) (by kernel_rfl) (by kernel_rfl) (fun _ _ _ h => h) (Or.inl ⟨by rfl, ?_⟩) hH ?_
        (intro w5 hS5; refine lk_op (by rfl) ?_ ?_ hS5.2 <;> rfl)
        try simp only [Act.put, List.setIfInBounds_toArray, List.set_cons_zero, List.set_cons_succ]
        refine wpAnyH_take (i := 14) (oi := { dst := some 100, op := Go.Op.move (Go.Operand.tmp 0), type := 28, pos := "law.go:70", after := #[{ on := 10, ground := Go.Ground.guard }], guard := some (10, true) }) (v := ?_) rfl (by kernel_rfl) (by kernel_rfl) (by kernel_rfl) (fun _ _ _ h => h) (Or.inl ⟨by rfl, ?_⟩) hH ?_
        rotate_left; (intro w5 hS5; go_simp; try rfl)
        try simp only [Act.put, List.setIfInBounds_toArray, List.set_cons_zero, List.set_cons_succ]
        refine wpAnyH_take (i := 15) (oi := { dst := some 101, op := Go.Op.move (Go.Operand.tmp 1), type := 3, pos := "law.go:70", after := #[{ on := 10, ground := Go.Ground.guard }], guard := some (10, true) }) (v := ?_) rfl (by kernel_rfl) (by kernel_rfl) (by kernel_rfl) (fun _ _ _ h => h) (Or.inl ⟨by rfl, ?_⟩) hH ?_
        rotate_left; (intro w5 hS5; go_simp; try rfl)
        try simp only [Act.put, List.setIfInBounds_toArray, List.set_cons_zero, List.set_cons_succ]
        refine wpAnyH_ready (rs := [16]) (by kernel_rfl) (by simp) ?_
        refine AllReadyH.cons (o := { dst := some 102, op := Go.Op.call { callee := Go.Callee.value (Go.Operand.func 9), args := #[Go.Operand.tmp 100, Go.Operand.tmp 101], argTypes := #[28, 3] }, type := 3, pos := "law.go:70", after := #[{ on := 14, ground := Go.Ground.data }, { on := 15, ground := Go.Ground.data }, { on := 10, ground := Go.Ground.chain }, { on := 10, ground := Go.Ground.guard }], guard := some (10, true) }) rfl (fun K5 hK5 => ?_) AllReadyH.nil
        go_simp
        refine (HTT.out _ hH.1).mono ?_
        rintro e w7 ⟨rfl, n7⟩
        refine hK5.out _ _ (KW.out _ (hH.1.trans n7)) (fun hH1 => ?_)
        clear hK5 K5
        try simp only [Act.put, List.setIfInBounds_toArray, List.set_cons_zero, List.set_cons_succ]
        refine wpAnyH_take (i := 17) (oi := { dst := some 103, op := Go.Op.binOp Go.BinOp.eql 3 (Go.Operand.tmp 99) (Go.Operand.tmp 102) 3, type := 4, pos := "law.go:70", after := #[{ on := 13, ground := Go.Ground.data }, { on := 16, ground := Go.Ground.data }, { on := 10, ground := Go.Ground.guard }], guard := some (10, true) }) (v := ?_) rfl (by kernel_rfl) (by kernel_rfl) (by kernel_rfl) (fun _ _ _ h => h) (Or.inl ⟨by rfl, ?_⟩) hH1 ?_
        rotate_left; (intro w5 hS5; go_simp; try rfl)
        try simp only [Act.put, List.setIfInBounds_toArray, List.set_cons_zero, List.set_cons_succ]
        refine wpAnyH_take (i := 18) (oi := { dst := some 104, op := Go.Op.pick (Go.Operand.tmp 96) (Go.Operand.tmp 103) (Go.Operand.const (Go.Value.bool false)), type := 4, pos := "law.go:70", after := #[{ on := 10, ground := Go.Ground.data }, { on := 17, ground := Go.Ground.data }, { on := 7, ground := Go.Ground.guard }], guard := some (7, false) }) (v := ?_) rfl (by kernel_rfl) (by kernel_rfl) (by kernel_rfl) (fun _ _ _ h => h) (Or.inl ⟨by rfl, ?_⟩) hH1 ?_
        rotate_left; (intro w5 hS5; go_simp; try rfl)
        try simp only [Act.put, List.setIfInBounds_toArray, List.set_cons_zero, List.set_cons_succ]
        refine wpAnyH_take (i := 19) (oi := { dst := some 105, op := Go.Op.pick (Go.Operand.tmp 93) (Go.Operand.const (Go.Value.bool true)) (Go.Operand.tmp 104), type := 4, pos := "law.go:70", after := #[{ on := 7, ground := Go.Ground.data }, { on := 18, ground := Go.Ground.data }], guard := none }) (v := ?_) rfl (by kernel_rfl) (by kernel_rfl) (by kernel_rfl) (fun _ _ _ h => h) (Or.inl ⟨by rfl, ?_⟩) hH1 ?_
        rotate_left; (intro w5 hS5; go_simp; try rfl)
        try simp only [Act.put, List.setIfInBounds_toArray, List.set_cons_zero, List.set_cons_succ]
        refine wpAnyH_take (i := 20) (oi := { dst := some 106, op := Go.Op.move (Go.Operand.tmp 105), type := 4, pos := "law.go:70", after := #[{ on := 19, ground := Go.Ground.data }, { on := 16, ground := Go.Ground.chain }], guard := none }) (v := ?_) rfl (by kernel_rfl) (by kernel_rfl) (by kernel_rfl) (fun _ _ _ h => h) (Or.inl ⟨by rfl, ?_⟩) hH1 ?_
        rotate_left; (intro w5 hS5; go_simp; try rfl)
        try simp only [Act.put, List.setIfInBounds_toArray, List.set_cons_zero, List.set_cons_succ]
        refine wpAnyH_ready (rs := [21]) (by kernel_rfl) (by simp) ?_
        refine AllReadyH.cons (o := { dst := some 107, op := Go.Op.call { callee := Go.Callee.value (Go.Operand.func 6), args := #[], argTypes := #[] }, type := 4, pos := "law.go:70", after := #[{ on := 20, ground := Go.Ground.chain }, { on := 20, ground := Go.Ground.guard }], guard := some (20, true) }) rfl (fun K5 hK5 => ?_) AllReadyH.nil
        go_simp
        refine (HL.out _).mono ?_
        rintro e w8 ⟨rfl, n8⟩
        refine hK5.out _ _ (KW.out _ (hH1.1.trans n8)) (fun hH2 => ?_)
        clear hK5 K5
        try simp only [Act.put, List.setIfInBounds_toArray, List.set_cons_zero, List.set_cons_succ]
        refine wpAnyH_take (i := 22) (oi := { dst := some 108, op := Go.Op.pick (Go.Operand.tmp 106) (Go.Operand.tmp 107) (Go.Operand.const (Go.Value.bool false)), type := 4, pos := "law.go:70", after := #[{ on := 20, ground := Go.Ground.data }, { on := 21, ground := Go.Ground.data }], guard := none }) (v := ?_) rfl (by kernel_rfl) (by kernel_rfl) (by kernel_rfl) (fun _ _ _ h => h) (Or.inl ⟨by rfl, ?_⟩) hH2 ?_
        rotate_left; (intro w5 hS5; go_simp; try rfl)
        try simp only [Act.put, List.setIfInBounds_toArray, List.set_cons_zero, List.set_cons_succ]
        refine wpAnyH_take (i := 23) (oi := { dst := some 4, op := Go.Op.assign (Go.Operand.tmp 108), type := 4, pos := "law.go:70", after := #[{ on := 22, ground := Go.Ground.data }, { on := 21, ground := Go.Ground.chain }, { on := 0, ground := Go.Ground.phase }, { on := 1, ground := Go.Ground.phase }, { on := 2, ground := Go.Ground.phase }, { on := 3, ground := Go.Ground.phase }, { on := 4, ground := Go.Ground.phase }, { on := 5, ground := Go.Ground.phase }, { on := 6, ground := Go.Ground.phase }, { on := 7, ground := Go.Ground.phase }, { on := 8, ground := Go.Ground.phase }, { on := 9, ground := Go.Ground.phase }, { on := 10, ground := Go.Ground.phase }, { on := 11, ground := Go.Ground.phase }, { on := 12, ground := Go.Ground.phase }, { on := 13, ground := Go.Ground.phase }, { on := 14, ground := Go.Ground.phase }, { on := 15, ground := Go.Ground.phase }, { on := 16, ground := Go.Ground.phase }, { on := 17, ground := Go.Ground.phase }, { on := 18, ground := Go.Ground.phase }, { on := 19, ground := Go.Ground.phase }, { on := 20, ground := Go.Ground.phase }, { on := 21, ground := Go.Ground.phase }, { on := 22, ground := Go.Ground.phase }], guard := none }) (v := ?_) rfl (by kernel_rfl) (by kernel_rfl) (by kernel_rfl) (fun _ _ _ h => h) (Or.inl ⟨by rfl, ?_⟩) hH2 ?_
        rotate_left; (intro w5 hS5; go_simp; try rfl)
        try simp only [Act.put, List.setIfInBounds_toArray, List.set_cons_zero, List.set_cons_succ]
        refine wpAnyH_done (by kernel_rfl) ?_ _
        go_wp2_with fail
        exact bodyPost_ret (v := .bool true) (by simp [results, Try.results4, go_sem]) rfl ⟨rfl, HN.out _ (N6.trans hH2.1)⟩
end Go.Proofs.Ytplejooihfhpdaa
