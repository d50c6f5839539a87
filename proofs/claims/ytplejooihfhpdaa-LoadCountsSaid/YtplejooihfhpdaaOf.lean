/- The reference's Of: the load of a row of calls. -/
import Derived.Test.YtplejooihfhpdaaLas
namespace Go.Proofs.Ytplejooihfhpdaa
open Go.RowKit
set_option linter.unusedVariables false

def fin4 (w : World) (g : Nat) (s : Ld) : Prop := Box w g 50 #[.int .i64 s.c, .int .i64 s.e, .int .i64 s.n, .int .i64 s.l]
theorem yl_load {o : Oper} {f : Operand → Value} {w : World} {x : Operand} {p : Addr} {c : Array Value} (ho : o.op = .load 45 x) (hx : f x = .pointer (some p)) (h : OpAt w p c) : (execOp f o).run Try.prog w = .ok (.value (.agg c)) w := by
  unfold execOp
  simp only [ho, hx, Sem.run_bind, Sem.run_pure, Result.andThen_ok, lda_at w p c h]
set_option maxRecDepth 100000 in
set_option maxHeartbeats 4000000 in
theorem of_any (A : Option Addr) (n cap : Nat) (o : Nat → Array Value) (z : Nat → Nm) (hn : n ≤ 60) (w : World) (hL : Ops w A n o z) :
    Calls Try.prog 12 #[.slice A n cap] w fun e w' => e = .returned (ofL z n).agg ∧ New w w' := by
  go_enter Try.func12, Try.ntmps12
  go_wp2_with fail
  go_loopg [4] n (fun g i wr => ∃ k : Nat, k + g = n ∧ i = .int .i64 k ∧ New w wr ∧ Box wr w.heap.size 50 #[.int .i64 0, .int .i64 0, .int .i64 0, .int .i64 0] ∧ fin4 wr (w.heap.size + 1) (ofL z k))
  case atStart => exact ⟨0, by omega, rfl, ((New.refl _).alloc _).alloc _, (Box.made w 50 _).alloc _, by simpa [fin4, ofL] using Box.made (w.alloc (.cells #[.int .i64 0, .int .i64 0, .int .i64 0, .int .i64 0] 50)) 50 #[.int .i64 0, .int .i64 0, .int .i64 0, .int .i64 0]⟩
  case round =>
    obtain ⟨k, hk, rfl, nw, br, bx⟩ := hrel
    unfold fin4 at bx
    by_cases hlt : k < n
    · obtain ⟨ad, rfl, hc⟩ := hL.2 (by omega)
      have hr := hL.1 k hlt
      have LA := (hc k hlt).new nw
      have LW := Lib.hid (fun w' (m : New w w') => (hc k hlt).new m)
      have LR := Lib.hid (fun w' (m : New w w') => (hc k hlt).new m)
      have c9 := LA.field 9 (by decide) hr.2.2.2.2.1
      have c18 := LA.field 18 (by decide) hr.2.2.2.2.2.2
      have LS := Lib.hid (fun w => las_any (o k) (z k) hr w)
      have HO := Lib.hid (fun h => ofL_open (z := z) (n := k) h)
      have HE := Lib.hid (fun h => ofL_end (z := z) (n := k) h)
      obtain ⟨q1, q2, q3, q4⟩ := ofL_bd z k
      have b0 := bx.cell 0
      have b1 := bx.cell 1
      have b2 := bx.cell 2
      have b3 := bx.cell 3
      have f0 := bx.frozen 0
      have f1 := bx.frozen 1
      have f2 := bx.frozen 2
      have f3 := bx.frozen 3
      have bl := bx.lt
      simp only [List.getElem?_toArray, List.getElem?_cons_zero, List.getElem?_cons_succ] at b0 b1 b2 b3
      have lsb := lasI_bd (z k).fr (z k).to
      have lse : las (z k) = lasI (z k).fr (z k).to := rfl
      rw [← lse] at lsb
      have HL := Lib.hid (⟨hL, hc, hr, lse⟩ : _ ∧ _ ∧ _ ∧ _)
      clear hL hc hr lse
      generalize las (z k) = ls at *
      generalize o k = oo at *
      generalize ofL z k = s at *
      obtain ⟨sc, se, sn, sl⟩ := s
      simp only at b0 b1 b2 b3 q1 q2 q3 q4 bx
      obtain rfl : sc = (k : Int) := q1
      have wc : wrap64 ((k : Int) + 1) = (k : Int) + 1 := by unfold wrap64; omega
      have we : wrap64 (se + 1) = se + 1 := by unfold wrap64; omega
      have wn : wrap64 (sn + 1) = sn + 1 := by unfold wrap64; omega
      by_cases h1 : (z k).to = -1
      · have t1 : (((z k).to) == -1) = true := by simpa using h1
        have HX := Lib.hid (HO.out h1)
        simp only at HX
        clear h1
        generalize (z k).to = t at *
        generalize (z k).er = r at *
        go_wp2_with fail
        go_roundg (gk - 1)
        case rel =>
          refine ⟨k + 1, by omega, by go_num, nw.setCell (by simp) _, br.off (by simp) _, ?_⟩
          rw [HX.out]
          exact bx.put 0 _
        case measure => omega
      · have t1 : (((z k).to) == -1) = false := by simpa using h1
        have HX := Lib.hid (HE.out h1)
        simp only at HX
        clear h1
        by_cases h2 : (z k).er = 0
        · have t2 : (((z k).er) != 0) = false := by simpa using h2
          have HY := HX.out
          rw [if_pos h2] at HY
          clear h2
          clear HX
          by_cases hm : sl < ls
          · rw [if_pos hm] at HY
            have tm : decide (sl < ls) = true := by simpa using hm
            have HZ := Lib.hid HY
            clear HY
            generalize (z k).to = t at *
            generalize (z k).er = r at *
            have KS : New w ((wr.setCell ⟨w.heap.size + 1, 0, none⟩ (.int .i64 ((k : Int) + 1))).setCell ⟨w.heap.size + 1, 2, none⟩ (.int .i64 (sn + 1))) ∧ Box ((wr.setCell ⟨w.heap.size + 1, 0, none⟩ (.int .i64 ((k : Int) + 1))).setCell ⟨w.heap.size + 1, 2, none⟩ (.int .i64 (sn + 1))) w.heap.size 50 #[.int .i64 0, .int .i64 0, .int .i64 0, .int .i64 0] ∧ Box ((wr.setCell ⟨w.heap.size + 1, 0, none⟩ (.int .i64 ((k : Int) + 1))).setCell ⟨w.heap.size + 1, 2, none⟩ (.int .i64 (sn + 1))) (w.heap.size + 1) 50 #[.int .i64 ((k : Int) + 1), .int .i64 se, .int .i64 (sn + 1), .int .i64 sl] := ⟨((nw.setCell (by simp) _).setCell (by simp) _), ((br.off (by simp) _).off (by simp) _), ((bx.put 0 _).put 2 _)⟩
            have KW := Lib.hid KS
            have KN := Lib.hid (fun v (m : New w v ∧ Box v w.heap.size 50 #[.int .i64 0, .int .i64 0, .int .i64 0, .int .i64 0] ∧ Box v (w.heap.size + 1) 50 #[.int .i64 ((k : Int) + 1), .int .i64 se, .int .i64 (sn + 1), .int .i64 sl]) => (⟨m, (m.2.2.cell 3).trans rfl, LR.out v m.1⟩ : _ ∧ v.cell? ⟨w.heap.size + 1, 3, none⟩ = some (.int .i64 sl) ∧ _))
            have KM := Lib.hid (fun v v2 (m : New w v ∧ Box v w.heap.size 50 #[.int .i64 0, .int .i64 0, .int .i64 0, .int .i64 0] ∧ Box v (w.heap.size + 1) 50 #[.int .i64 ((k : Int) + 1), .int .i64 se, .int .i64 (sn + 1), .int .i64 sl]) (n : New v v2) => KN.out v2 ⟨m.1.trans n, m.2.1.new n, m.2.2.new n⟩)
            clear KS
            go_wp2_with fail
            have kw := KN.out _ (show _ ∧ _ from ⟨KW.out.1.drew, KW.out.2.1, KW.out.2.2⟩)
            refine wp_region_held_drew (S := (fun w' => (New w w' ∧ Box w' w.heap.size 50 #[.int .i64 0, .int .i64 0, .int .i64 0, .int .i64 0] ∧ Box w' (w.heap.size + 1) 50 #[.int .i64 ((k : Int) + 1), .int .i64 se, .int .i64 (sn + 1), .int .i64 sl]) ∧ w'.cell? ⟨w.heap.size + 1, 3, none⟩ = some (.int .i64 sl) ∧ OpAt w' (ad.add (k * 19)) oo)) (by kernel_rfl) kw (fun hH => ?_)
            refine wpAnyH_take (i := 0) (oi := { dst := some 36, op := Op.move (Operand.tmp 0), type := 28, pos := "ref.go:33", after := #[], guard := none }) (v := ?_) rfl (by kernel_rfl) (by kernel_rfl) (by kernel_rfl) (fun _ _ _ h => h) (Or.inl ⟨by rfl, ?_⟩) hH ?_
            rotate_left; (intro w5 hS5; go_simp; try rfl)
            try simp only [Act.put, List.setIfInBounds_toArray, List.set_cons_zero, List.set_cons_succ]
            refine wpAnyH_take (i := 1) (oi := { dst := some 37, op := Op.move (Operand.tmp 4), type := 3, pos := "ref.go:33", after := #[], guard := none }) (v := ?_) rfl (by kernel_rfl) (by kernel_rfl) (by kernel_rfl) (fun _ _ _ h => h) (Or.inl ⟨by rfl, ?_⟩) hH ?_
            rotate_left; (intro w5 hS5; go_simp; try rfl)
            try simp only [Act.put, List.setIfInBounds_toArray, List.set_cons_zero, List.set_cons_succ]
            refine wpAnyH_take (i := 2) (oi := { dst := some 38, op := Op.indexAddr 28 (Operand.tmp 36) (Operand.tmp 37), type := 0, pos := "ref.go:33", after := #[{ on := 0, ground := Ground.data }, { on := 1, ground := Ground.data }], guard := none }) (v := ?_) rfl (by kernel_rfl) (by kernel_rfl) (by kernel_rfl) (fun _ _ _ h => h) (Or.inl ⟨by rfl, ?_⟩) hH ?_
            rotate_left; (intro w5 hS5; go_simp; try rfl)
            try simp only [Act.put, List.setIfInBounds_toArray, List.set_cons_zero, List.set_cons_succ]
            refine wpAnyH_take (i := 3) (oi := { dst := some 39, op := Op.load 45 (Operand.tmp 38), type := 45, pos := "ref.go:33", after := #[{ on := 2, ground := Ground.data }], guard := none }) (v := ?_) rfl (by kernel_rfl) (by kernel_rfl) (by kernel_rfl) (fun _ _ _ h => h) (Or.inl ⟨by rfl, ?_⟩) hH ?_
            rotate_left; (intro w5 hS5; refine yl_load (x := .tmp 38) ?_ ?_ hS5.2.2 <;> rfl)
            try simp only [Act.put, List.setIfInBounds_toArray, List.set_cons_zero, List.set_cons_succ]
            refine wpAnyH_take (i := 5) (oi := { dst := some 41, op := Op.fieldAddr 50 (Operand.tmp 3) 3, type := 0, pos := "ref.go:33", after := #[], guard := none }) (v := ?_) rfl (by kernel_rfl) (by kernel_rfl) (by kernel_rfl) (fun _ _ _ h => h) (Or.inl ⟨by rfl, ?_⟩) hH ?_
            rotate_left; (intro w5 hS5; go_simp; try rfl)
            try simp only [Act.put, List.setIfInBounds_toArray, List.set_cons_zero, List.set_cons_succ]
            refine wpAnyH_take (i := 6) (oi := { dst := some 42, op := Op.load 3 (Operand.tmp 41), type := 3, pos := "ref.go:33", after := #[{ on := 5, ground := Ground.data }], guard := none }) (v := ?_) rfl (by kernel_rfl) (by kernel_rfl) (by kernel_rfl) (fun _ _ _ h => h) (Or.inl ⟨by rfl, ?_⟩) hH ?_
            rotate_left; (intro w5 hS5; (obtain ⟨-, c3w, -⟩ := hS5; go_simp; try rfl))
            try simp only [Act.put, List.setIfInBounds_toArray, List.set_cons_zero, List.set_cons_succ]
            refine wpAnyH_ready (rs := [4]) (by kernel_rfl) (by simp) ?_
            refine AllReadyH.cons (o := { dst := some 40, op := Op.call { callee := Callee.value (Operand.func 20), args := #[Operand.tmp 39], argTypes := #[45] }, type := 3, pos := "ref.go:33", after := #[{ on := 3, ground := Ground.data }], guard := none }) rfl (fun K5 hK5 => ?_) AllReadyH.nil
            go_simp
            refine (LS.out _).mono ?_
            rintro e w5 ⟨rfl, nn⟩
            refine hK5.out _ _ (KM.out _ _ hH.1 nn) (fun hH5 => ?_)
            clear hK5 K5
            try simp only [Act.put, List.setIfInBounds_toArray, List.set_cons_zero, List.set_cons_succ]
            refine wpAnyH_take (i := 7) (oi := { dst := some 43, op := Op.binOp BinOp.gtr 3 (Operand.tmp 40) (Operand.tmp 42) 3, type := 4, pos := "ref.go:33", after := #[{ on := 4, ground := Ground.data }, { on := 6, ground := Ground.data }], guard := none }) (v := ?_) rfl (by kernel_rfl) (by kernel_rfl) (by kernel_rfl) (fun _ _ _ h => h) (Or.inl ⟨by rfl, ?_⟩) hH5 ?_
            rotate_left; (intro w5 hS5; go_simp; try rfl)
            try simp only [Act.put, List.setIfInBounds_toArray, List.set_cons_zero, List.set_cons_succ]
            refine wpAnyH_done (by kernel_rfl) ?_ _
            obtain ⟨⟨n5, r5, x5⟩, c5, o5⟩ := hH5
            have f5 := x5.frozen 3
            have nl5 := n5.lt
            have o6 := Lib.hid (fun w6 (n6 : New w5 w6) => (⟨n5.trans n6, r5.new n6, x5.new n6⟩ : _ ∧ _ ∧ _))
            clear n5 r5 c5 f5
            have o7 := Lib.hid x5
            clear x5
            go_wp2_with (first | (refine wpl_load rfl rfl o5 rfl ?_) | (go_at_call 20; refine (LS.out _).mono ?_; rintro e w6 ⟨rfl, n6⟩; have f6 := (o7.out.new n6).frozen 3; have l6 := (o7.out.new n6).lt; have c6 := ((o7.out.new n6).cell 3)))
            go_roundg (gk - 1)
            case rel =>
              obtain ⟨m6, q6, y6⟩ := o6.out _ n6
              refine ⟨k + 1, by omega, by go_num, m6.setCell (by simp) _, q6.off (by simp) _, ?_⟩
              rw [HZ.out]
              exact y6.put 3 _
            case measure => omega
          · rw [if_neg hm] at HY
            have tm : decide (sl < ls) = false := by simpa using hm
            have HZ := Lib.hid HY
            clear HY
            generalize (z k).to = t at *
            generalize (z k).er = r at *
            have KS : New w ((wr.setCell ⟨w.heap.size + 1, 0, none⟩ (.int .i64 ((k : Int) + 1))).setCell ⟨w.heap.size + 1, 2, none⟩ (.int .i64 (sn + 1))) ∧ Box ((wr.setCell ⟨w.heap.size + 1, 0, none⟩ (.int .i64 ((k : Int) + 1))).setCell ⟨w.heap.size + 1, 2, none⟩ (.int .i64 (sn + 1))) w.heap.size 50 #[.int .i64 0, .int .i64 0, .int .i64 0, .int .i64 0] ∧ Box ((wr.setCell ⟨w.heap.size + 1, 0, none⟩ (.int .i64 ((k : Int) + 1))).setCell ⟨w.heap.size + 1, 2, none⟩ (.int .i64 (sn + 1))) (w.heap.size + 1) 50 #[.int .i64 ((k : Int) + 1), .int .i64 se, .int .i64 (sn + 1), .int .i64 sl] := ⟨((nw.setCell (by simp) _).setCell (by simp) _), ((br.off (by simp) _).off (by simp) _), ((bx.put 0 _).put 2 _)⟩
            have KW := Lib.hid KS
            have KN := Lib.hid (fun v (m : New w v ∧ Box v w.heap.size 50 #[.int .i64 0, .int .i64 0, .int .i64 0, .int .i64 0] ∧ Box v (w.heap.size + 1) 50 #[.int .i64 ((k : Int) + 1), .int .i64 se, .int .i64 (sn + 1), .int .i64 sl]) => (⟨m, (m.2.2.cell 3).trans rfl, LR.out v m.1⟩ : _ ∧ v.cell? ⟨w.heap.size + 1, 3, none⟩ = some (.int .i64 sl) ∧ _))
            have KM := Lib.hid (fun v v2 (m : New w v ∧ Box v w.heap.size 50 #[.int .i64 0, .int .i64 0, .int .i64 0, .int .i64 0] ∧ Box v (w.heap.size + 1) 50 #[.int .i64 ((k : Int) + 1), .int .i64 se, .int .i64 (sn + 1), .int .i64 sl]) (n : New v v2) => KN.out v2 ⟨m.1.trans n, m.2.1.new n, m.2.2.new n⟩)
            clear KS
            go_wp2_with fail
            have kw := KN.out _ (show _ ∧ _ from ⟨KW.out.1.drew, KW.out.2.1, KW.out.2.2⟩)
            refine wp_region_held_drew (S := (fun w' => (New w w' ∧ Box w' w.heap.size 50 #[.int .i64 0, .int .i64 0, .int .i64 0, .int .i64 0] ∧ Box w' (w.heap.size + 1) 50 #[.int .i64 ((k : Int) + 1), .int .i64 se, .int .i64 (sn + 1), .int .i64 sl]) ∧ w'.cell? ⟨w.heap.size + 1, 3, none⟩ = some (.int .i64 sl) ∧ OpAt w' (ad.add (k * 19)) oo)) (by kernel_rfl) kw (fun hH => ?_)
            refine wpAnyH_take (i := 0) (oi := { dst := some 36, op := Op.move (Operand.tmp 0), type := 28, pos := "ref.go:33", after := #[], guard := none }) (v := ?_) rfl (by kernel_rfl) (by kernel_rfl) (by kernel_rfl) (fun _ _ _ h => h) (Or.inl ⟨by rfl, ?_⟩) hH ?_
            rotate_left; (intro w5 hS5; go_simp; try rfl)
            try simp only [Act.put, List.setIfInBounds_toArray, List.set_cons_zero, List.set_cons_succ]
            refine wpAnyH_take (i := 1) (oi := { dst := some 37, op := Op.move (Operand.tmp 4), type := 3, pos := "ref.go:33", after := #[], guard := none }) (v := ?_) rfl (by kernel_rfl) (by kernel_rfl) (by kernel_rfl) (fun _ _ _ h => h) (Or.inl ⟨by rfl, ?_⟩) hH ?_
            rotate_left; (intro w5 hS5; go_simp; try rfl)
            try simp only [Act.put, List.setIfInBounds_toArray, List.set_cons_zero, List.set_cons_succ]
            refine wpAnyH_take (i := 2) (oi := { dst := some 38, op := Op.indexAddr 28 (Operand.tmp 36) (Operand.tmp 37), type := 0, pos := "ref.go:33", after := #[{ on := 0, ground := Ground.data }, { on := 1, ground := Ground.data }], guard := none }) (v := ?_) rfl (by kernel_rfl) (by kernel_rfl) (by kernel_rfl) (fun _ _ _ h => h) (Or.inl ⟨by rfl, ?_⟩) hH ?_
            rotate_left; (intro w5 hS5; go_simp; try rfl)
            try simp only [Act.put, List.setIfInBounds_toArray, List.set_cons_zero, List.set_cons_succ]
            refine wpAnyH_take (i := 3) (oi := { dst := some 39, op := Op.load 45 (Operand.tmp 38), type := 45, pos := "ref.go:33", after := #[{ on := 2, ground := Ground.data }], guard := none }) (v := ?_) rfl (by kernel_rfl) (by kernel_rfl) (by kernel_rfl) (fun _ _ _ h => h) (Or.inl ⟨by rfl, ?_⟩) hH ?_
            rotate_left; (intro w5 hS5; refine yl_load (x := .tmp 38) ?_ ?_ hS5.2.2 <;> rfl)
            try simp only [Act.put, List.setIfInBounds_toArray, List.set_cons_zero, List.set_cons_succ]
            refine wpAnyH_take (i := 5) (oi := { dst := some 41, op := Op.fieldAddr 50 (Operand.tmp 3) 3, type := 0, pos := "ref.go:33", after := #[], guard := none }) (v := ?_) rfl (by kernel_rfl) (by kernel_rfl) (by kernel_rfl) (fun _ _ _ h => h) (Or.inl ⟨by rfl, ?_⟩) hH ?_
            rotate_left; (intro w5 hS5; go_simp; try rfl)
            try simp only [Act.put, List.setIfInBounds_toArray, List.set_cons_zero, List.set_cons_succ]
            refine wpAnyH_take (i := 6) (oi := { dst := some 42, op := Op.load 3 (Operand.tmp 41), type := 3, pos := "ref.go:33", after := #[{ on := 5, ground := Ground.data }], guard := none }) (v := ?_) rfl (by kernel_rfl) (by kernel_rfl) (by kernel_rfl) (fun _ _ _ h => h) (Or.inl ⟨by rfl, ?_⟩) hH ?_
            rotate_left; (intro w5 hS5; (obtain ⟨-, c3w, -⟩ := hS5; go_simp; try rfl))
            try simp only [Act.put, List.setIfInBounds_toArray, List.set_cons_zero, List.set_cons_succ]
            refine wpAnyH_ready (rs := [4]) (by kernel_rfl) (by simp) ?_
            refine AllReadyH.cons (o := { dst := some 40, op := Op.call { callee := Callee.value (Operand.func 20), args := #[Operand.tmp 39], argTypes := #[45] }, type := 3, pos := "ref.go:33", after := #[{ on := 3, ground := Ground.data }], guard := none }) rfl (fun K5 hK5 => ?_) AllReadyH.nil
            go_simp
            refine (LS.out _).mono ?_
            rintro e w5 ⟨rfl, nn⟩
            refine hK5.out _ _ (KM.out _ _ hH.1 nn) (fun hH5 => ?_)
            clear hK5 K5
            try simp only [Act.put, List.setIfInBounds_toArray, List.set_cons_zero, List.set_cons_succ]
            refine wpAnyH_take (i := 7) (oi := { dst := some 43, op := Op.binOp BinOp.gtr 3 (Operand.tmp 40) (Operand.tmp 42) 3, type := 4, pos := "ref.go:33", after := #[{ on := 4, ground := Ground.data }, { on := 6, ground := Ground.data }], guard := none }) (v := ?_) rfl (by kernel_rfl) (by kernel_rfl) (by kernel_rfl) (fun _ _ _ h => h) (Or.inl ⟨by rfl, ?_⟩) hH5 ?_
            rotate_left; (intro w5 hS5; go_simp; try rfl)
            try simp only [Act.put, List.setIfInBounds_toArray, List.set_cons_zero, List.set_cons_succ]
            refine wpAnyH_done (by kernel_rfl) ?_ _
            obtain ⟨⟨n5, r5, x5⟩, c5, o5⟩ := hH5
            have f5 := x5.frozen 3
            have nl5 := n5.lt
            have o6 := Lib.hid (⟨n5, r5, x5⟩ : _ ∧ _ ∧ _)
            clear n5 r5 c5 f5 o5 x5
            go_wp2_with fail
            go_roundg (gk - 1)
            case rel =>
              obtain ⟨m6, q6, y6⟩ := o6.out
              refine ⟨k + 1, by omega, by go_num, m6, q6, ?_⟩
              rw [HZ.out]
              exact y6
            case measure => omega
        · have t2 : (((z k).er) != 0) = true := by simpa using h2
          have HY := HX.out
          rw [if_neg h2] at HY
          clear h2
          clear HX
          by_cases hm : sl < ls
          · rw [if_pos hm] at HY
            have tm : decide (sl < ls) = true := by simpa using hm
            have HZ := Lib.hid HY
            clear HY
            generalize (z k).to = t at *
            generalize (z k).er = r at *
            have KS : New w (((wr.setCell ⟨w.heap.size + 1, 0, none⟩ (.int .i64 ((k : Int) + 1))).setCell ⟨w.heap.size + 1, 2, none⟩ (.int .i64 (sn + 1))).setCell ⟨w.heap.size + 1, 1, none⟩ (.int .i64 (se + 1))) ∧ Box (((wr.setCell ⟨w.heap.size + 1, 0, none⟩ (.int .i64 ((k : Int) + 1))).setCell ⟨w.heap.size + 1, 2, none⟩ (.int .i64 (sn + 1))).setCell ⟨w.heap.size + 1, 1, none⟩ (.int .i64 (se + 1))) w.heap.size 50 #[.int .i64 0, .int .i64 0, .int .i64 0, .int .i64 0] ∧ Box (((wr.setCell ⟨w.heap.size + 1, 0, none⟩ (.int .i64 ((k : Int) + 1))).setCell ⟨w.heap.size + 1, 2, none⟩ (.int .i64 (sn + 1))).setCell ⟨w.heap.size + 1, 1, none⟩ (.int .i64 (se + 1))) (w.heap.size + 1) 50 #[.int .i64 ((k : Int) + 1), .int .i64 (se + 1), .int .i64 (sn + 1), .int .i64 sl] := ⟨(((nw.setCell (by simp) _).setCell (by simp) _).setCell (by simp) _), (((br.off (by simp) _).off (by simp) _).off (by simp) _), (((bx.put 0 _).put 2 _).put 1 _)⟩
            have KW := Lib.hid KS
            have KN := Lib.hid (fun v (m : New w v ∧ Box v w.heap.size 50 #[.int .i64 0, .int .i64 0, .int .i64 0, .int .i64 0] ∧ Box v (w.heap.size + 1) 50 #[.int .i64 ((k : Int) + 1), .int .i64 (se + 1), .int .i64 (sn + 1), .int .i64 sl]) => (⟨m, (m.2.2.cell 3).trans rfl, LR.out v m.1⟩ : _ ∧ v.cell? ⟨w.heap.size + 1, 3, none⟩ = some (.int .i64 sl) ∧ _))
            have KM := Lib.hid (fun v v2 (m : New w v ∧ Box v w.heap.size 50 #[.int .i64 0, .int .i64 0, .int .i64 0, .int .i64 0] ∧ Box v (w.heap.size + 1) 50 #[.int .i64 ((k : Int) + 1), .int .i64 (se + 1), .int .i64 (sn + 1), .int .i64 sl]) (n : New v v2) => KN.out v2 ⟨m.1.trans n, m.2.1.new n, m.2.2.new n⟩)
            clear KS
            go_wp2_with fail
            have kw := KN.out _ (show _ ∧ _ from ⟨KW.out.1.drew, KW.out.2.1, KW.out.2.2⟩)
            refine wp_region_held_drew (S := (fun w' => (New w w' ∧ Box w' w.heap.size 50 #[.int .i64 0, .int .i64 0, .int .i64 0, .int .i64 0] ∧ Box w' (w.heap.size + 1) 50 #[.int .i64 ((k : Int) + 1), .int .i64 (se + 1), .int .i64 (sn + 1), .int .i64 sl]) ∧ w'.cell? ⟨w.heap.size + 1, 3, none⟩ = some (.int .i64 sl) ∧ OpAt w' (ad.add (k * 19)) oo)) (by kernel_rfl) kw (fun hH => ?_)
            refine wpAnyH_take (i := 0) (oi := { dst := some 36, op := Op.move (Operand.tmp 0), type := 28, pos := "ref.go:33", after := #[], guard := none }) (v := ?_) rfl (by kernel_rfl) (by kernel_rfl) (by kernel_rfl) (fun _ _ _ h => h) (Or.inl ⟨by rfl, ?_⟩) hH ?_
            rotate_left; (intro w5 hS5; go_simp; try rfl)
            try simp only [Act.put, List.setIfInBounds_toArray, List.set_cons_zero, List.set_cons_succ]
            refine wpAnyH_take (i := 1) (oi := { dst := some 37, op := Op.move (Operand.tmp 4), type := 3, pos := "ref.go:33", after := #[], guard := none }) (v := ?_) rfl (by kernel_rfl) (by kernel_rfl) (by kernel_rfl) (fun _ _ _ h => h) (Or.inl ⟨by rfl, ?_⟩) hH ?_
            rotate_left; (intro w5 hS5; go_simp; try rfl)
            try simp only [Act.put, List.setIfInBounds_toArray, List.set_cons_zero, List.set_cons_succ]
            refine wpAnyH_take (i := 2) (oi := { dst := some 38, op := Op.indexAddr 28 (Operand.tmp 36) (Operand.tmp 37), type := 0, pos := "ref.go:33", after := #[{ on := 0, ground := Ground.data }, { on := 1, ground := Ground.data }], guard := none }) (v := ?_) rfl (by kernel_rfl) (by kernel_rfl) (by kernel_rfl) (fun _ _ _ h => h) (Or.inl ⟨by rfl, ?_⟩) hH ?_
            rotate_left; (intro w5 hS5; go_simp; try rfl)
            try simp only [Act.put, List.setIfInBounds_toArray, List.set_cons_zero, List.set_cons_succ]
            refine wpAnyH_take (i := 3) (oi := { dst := some 39, op := Op.load 45 (Operand.tmp 38), type := 45, pos := "ref.go:33", after := #[{ on := 2, ground := Ground.data }], guard := none }) (v := ?_) rfl (by kernel_rfl) (by kernel_rfl) (by kernel_rfl) (fun _ _ _ h => h) (Or.inl ⟨by rfl, ?_⟩) hH ?_
            rotate_left; (intro w5 hS5; refine yl_load (x := .tmp 38) ?_ ?_ hS5.2.2 <;> rfl)
            try simp only [Act.put, List.setIfInBounds_toArray, List.set_cons_zero, List.set_cons_succ]
            refine wpAnyH_take (i := 5) (oi := { dst := some 41, op := Op.fieldAddr 50 (Operand.tmp 3) 3, type := 0, pos := "ref.go:33", after := #[], guard := none }) (v := ?_) rfl (by kernel_rfl) (by kernel_rfl) (by kernel_rfl) (fun _ _ _ h => h) (Or.inl ⟨by rfl, ?_⟩) hH ?_
            rotate_left; (intro w5 hS5; go_simp; try rfl)
            try simp only [Act.put, List.setIfInBounds_toArray, List.set_cons_zero, List.set_cons_succ]
            refine wpAnyH_take (i := 6) (oi := { dst := some 42, op := Op.load 3 (Operand.tmp 41), type := 3, pos := "ref.go:33", after := #[{ on := 5, ground := Ground.data }], guard := none }) (v := ?_) rfl (by kernel_rfl) (by kernel_rfl) (by kernel_rfl) (fun _ _ _ h => h) (Or.inl ⟨by rfl, ?_⟩) hH ?_
            rotate_left; (intro w5 hS5; (obtain ⟨-, c3w, -⟩ := hS5; go_simp; try rfl))
            try simp only [Act.put, List.setIfInBounds_toArray, List.set_cons_zero, List.set_cons_succ]
            refine wpAnyH_ready (rs := [4]) (by kernel_rfl) (by simp) ?_
            refine AllReadyH.cons (o := { dst := some 40, op := Op.call { callee := Callee.value (Operand.func 20), args := #[Operand.tmp 39], argTypes := #[45] }, type := 3, pos := "ref.go:33", after := #[{ on := 3, ground := Ground.data }], guard := none }) rfl (fun K5 hK5 => ?_) AllReadyH.nil
            go_simp
            refine (LS.out _).mono ?_
            rintro e w5 ⟨rfl, nn⟩
            refine hK5.out _ _ (KM.out _ _ hH.1 nn) (fun hH5 => ?_)
            clear hK5 K5
            try simp only [Act.put, List.setIfInBounds_toArray, List.set_cons_zero, List.set_cons_succ]
            refine wpAnyH_take (i := 7) (oi := { dst := some 43, op := Op.binOp BinOp.gtr 3 (Operand.tmp 40) (Operand.tmp 42) 3, type := 4, pos := "ref.go:33", after := #[{ on := 4, ground := Ground.data }, { on := 6, ground := Ground.data }], guard := none }) (v := ?_) rfl (by kernel_rfl) (by kernel_rfl) (by kernel_rfl) (fun _ _ _ h => h) (Or.inl ⟨by rfl, ?_⟩) hH5 ?_
            rotate_left; (intro w5 hS5; go_simp; try rfl)
            try simp only [Act.put, List.setIfInBounds_toArray, List.set_cons_zero, List.set_cons_succ]
            refine wpAnyH_done (by kernel_rfl) ?_ _
            obtain ⟨⟨n5, r5, x5⟩, c5, o5⟩ := hH5
            have f5 := x5.frozen 3
            have nl5 := n5.lt
            have o6 := Lib.hid (fun w6 (n6 : New w5 w6) => (⟨n5.trans n6, r5.new n6, x5.new n6⟩ : _ ∧ _ ∧ _))
            clear n5 r5 c5 f5
            have o7 := Lib.hid x5
            clear x5
            go_wp2_with (first | (refine wpl_load rfl rfl o5 rfl ?_) | (go_at_call 20; refine (LS.out _).mono ?_; rintro e w6 ⟨rfl, n6⟩; have f6 := (o7.out.new n6).frozen 3; have l6 := (o7.out.new n6).lt; have c6 := ((o7.out.new n6).cell 3)))
            go_roundg (gk - 1)
            case rel =>
              obtain ⟨m6, q6, y6⟩ := o6.out _ n6
              refine ⟨k + 1, by omega, by go_num, m6.setCell (by simp) _, q6.off (by simp) _, ?_⟩
              rw [HZ.out]
              exact y6.put 3 _
            case measure => omega
          · rw [if_neg hm] at HY
            have tm : decide (sl < ls) = false := by simpa using hm
            have HZ := Lib.hid HY
            clear HY
            generalize (z k).to = t at *
            generalize (z k).er = r at *
            have KS : New w (((wr.setCell ⟨w.heap.size + 1, 0, none⟩ (.int .i64 ((k : Int) + 1))).setCell ⟨w.heap.size + 1, 2, none⟩ (.int .i64 (sn + 1))).setCell ⟨w.heap.size + 1, 1, none⟩ (.int .i64 (se + 1))) ∧ Box (((wr.setCell ⟨w.heap.size + 1, 0, none⟩ (.int .i64 ((k : Int) + 1))).setCell ⟨w.heap.size + 1, 2, none⟩ (.int .i64 (sn + 1))).setCell ⟨w.heap.size + 1, 1, none⟩ (.int .i64 (se + 1))) w.heap.size 50 #[.int .i64 0, .int .i64 0, .int .i64 0, .int .i64 0] ∧ Box (((wr.setCell ⟨w.heap.size + 1, 0, none⟩ (.int .i64 ((k : Int) + 1))).setCell ⟨w.heap.size + 1, 2, none⟩ (.int .i64 (sn + 1))).setCell ⟨w.heap.size + 1, 1, none⟩ (.int .i64 (se + 1))) (w.heap.size + 1) 50 #[.int .i64 ((k : Int) + 1), .int .i64 (se + 1), .int .i64 (sn + 1), .int .i64 sl] := ⟨(((nw.setCell (by simp) _).setCell (by simp) _).setCell (by simp) _), (((br.off (by simp) _).off (by simp) _).off (by simp) _), (((bx.put 0 _).put 2 _).put 1 _)⟩
            have KW := Lib.hid KS
            have KN := Lib.hid (fun v (m : New w v ∧ Box v w.heap.size 50 #[.int .i64 0, .int .i64 0, .int .i64 0, .int .i64 0] ∧ Box v (w.heap.size + 1) 50 #[.int .i64 ((k : Int) + 1), .int .i64 (se + 1), .int .i64 (sn + 1), .int .i64 sl]) => (⟨m, (m.2.2.cell 3).trans rfl, LR.out v m.1⟩ : _ ∧ v.cell? ⟨w.heap.size + 1, 3, none⟩ = some (.int .i64 sl) ∧ _))
            have KM := Lib.hid (fun v v2 (m : New w v ∧ Box v w.heap.size 50 #[.int .i64 0, .int .i64 0, .int .i64 0, .int .i64 0] ∧ Box v (w.heap.size + 1) 50 #[.int .i64 ((k : Int) + 1), .int .i64 (se + 1), .int .i64 (sn + 1), .int .i64 sl]) (n : New v v2) => KN.out v2 ⟨m.1.trans n, m.2.1.new n, m.2.2.new n⟩)
            clear KS
            go_wp2_with fail
            have kw := KN.out _ (show _ ∧ _ from ⟨KW.out.1.drew, KW.out.2.1, KW.out.2.2⟩)
            refine wp_region_held_drew (S := (fun w' => (New w w' ∧ Box w' w.heap.size 50 #[.int .i64 0, .int .i64 0, .int .i64 0, .int .i64 0] ∧ Box w' (w.heap.size + 1) 50 #[.int .i64 ((k : Int) + 1), .int .i64 (se + 1), .int .i64 (sn + 1), .int .i64 sl]) ∧ w'.cell? ⟨w.heap.size + 1, 3, none⟩ = some (.int .i64 sl) ∧ OpAt w' (ad.add (k * 19)) oo)) (by kernel_rfl) kw (fun hH => ?_)
            refine wpAnyH_take (i := 0) (oi := { dst := some 36, op := Op.move (Operand.tmp 0), type := 28, pos := "ref.go:33", after := #[], guard := none }) (v := ?_) rfl (by kernel_rfl) (by kernel_rfl) (by kernel_rfl) (fun _ _ _ h => h) (Or.inl ⟨by rfl, ?_⟩) hH ?_
            rotate_left; (intro w5 hS5; go_simp; try rfl)
            try simp only [Act.put, List.setIfInBounds_toArray, List.set_cons_zero, List.set_cons_succ]
            refine wpAnyH_take (i := 1) (oi := { dst := some 37, op := Op.move (Operand.tmp 4), type := 3, pos := "ref.go:33", after := #[], guard := none }) (v := ?_) rfl (by kernel_rfl) (by kernel_rfl) (by kernel_rfl) (fun _ _ _ h => h) (Or.inl ⟨by rfl, ?_⟩) hH ?_
            rotate_left; (intro w5 hS5; go_simp; try rfl)
            try simp only [Act.put, List.setIfInBounds_toArray, List.set_cons_zero, List.set_cons_succ]
            refine wpAnyH_take (i := 2) (oi := { dst := some 38, op := Op.indexAddr 28 (Operand.tmp 36) (Operand.tmp 37), type := 0, pos := "ref.go:33", after := #[{ on := 0, ground := Ground.data }, { on := 1, ground := Ground.data }], guard := none }) (v := ?_) rfl (by kernel_rfl) (by kernel_rfl) (by kernel_rfl) (fun _ _ _ h => h) (Or.inl ⟨by rfl, ?_⟩) hH ?_
            rotate_left; (intro w5 hS5; go_simp; try rfl)
            try simp only [Act.put, List.setIfInBounds_toArray, List.set_cons_zero, List.set_cons_succ]
            refine wpAnyH_take (i := 3) (oi := { dst := some 39, op := Op.load 45 (Operand.tmp 38), type := 45, pos := "ref.go:33", after := #[{ on := 2, ground := Ground.data }], guard := none }) (v := ?_) rfl (by kernel_rfl) (by kernel_rfl) (by kernel_rfl) (fun _ _ _ h => h) (Or.inl ⟨by rfl, ?_⟩) hH ?_
            rotate_left; (intro w5 hS5; refine yl_load (x := .tmp 38) ?_ ?_ hS5.2.2 <;> rfl)
            try simp only [Act.put, List.setIfInBounds_toArray, List.set_cons_zero, List.set_cons_succ]
            refine wpAnyH_take (i := 5) (oi := { dst := some 41, op := Op.fieldAddr 50 (Operand.tmp 3) 3, type := 0, pos := "ref.go:33", after := #[], guard := none }) (v := ?_) rfl (by kernel_rfl) (by kernel_rfl) (by kernel_rfl) (fun _ _ _ h => h) (Or.inl ⟨by rfl, ?_⟩) hH ?_
            rotate_left; (intro w5 hS5; go_simp; try rfl)
            try simp only [Act.put, List.setIfInBounds_toArray, List.set_cons_zero, List.set_cons_succ]
            refine wpAnyH_take (i := 6) (oi := { dst := some 42, op := Op.load 3 (Operand.tmp 41), type := 3, pos := "ref.go:33", after := #[{ on := 5, ground := Ground.data }], guard := none }) (v := ?_) rfl (by kernel_rfl) (by kernel_rfl) (by kernel_rfl) (fun _ _ _ h => h) (Or.inl ⟨by rfl, ?_⟩) hH ?_
            rotate_left; (intro w5 hS5; (obtain ⟨-, c3w, -⟩ := hS5; go_simp; try rfl))
            try simp only [Act.put, List.setIfInBounds_toArray, List.set_cons_zero, List.set_cons_succ]
            refine wpAnyH_ready (rs := [4]) (by kernel_rfl) (by simp) ?_
            refine AllReadyH.cons (o := { dst := some 40, op := Op.call { callee := Callee.value (Operand.func 20), args := #[Operand.tmp 39], argTypes := #[45] }, type := 3, pos := "ref.go:33", after := #[{ on := 3, ground := Ground.data }], guard := none }) rfl (fun K5 hK5 => ?_) AllReadyH.nil
            go_simp
            refine (LS.out _).mono ?_
            rintro e w5 ⟨rfl, nn⟩
            refine hK5.out _ _ (KM.out _ _ hH.1 nn) (fun hH5 => ?_)
            clear hK5 K5
            try simp only [Act.put, List.setIfInBounds_toArray, List.set_cons_zero, List.set_cons_succ]
            refine wpAnyH_take (i := 7) (oi := { dst := some 43, op := Op.binOp BinOp.gtr 3 (Operand.tmp 40) (Operand.tmp 42) 3, type := 4, pos := "ref.go:33", after := #[{ on := 4, ground := Ground.data }, { on := 6, ground := Ground.data }], guard := none }) (v := ?_) rfl (by kernel_rfl) (by kernel_rfl) (by kernel_rfl) (fun _ _ _ h => h) (Or.inl ⟨by rfl, ?_⟩) hH5 ?_
            rotate_left; (intro w5 hS5; go_simp; try rfl)
            try simp only [Act.put, List.setIfInBounds_toArray, List.set_cons_zero, List.set_cons_succ]
            refine wpAnyH_done (by kernel_rfl) ?_ _
            obtain ⟨⟨n5, r5, x5⟩, c5, o5⟩ := hH5
            have f5 := x5.frozen 3
            have nl5 := n5.lt
            have o6 := Lib.hid (⟨n5, r5, x5⟩ : _ ∧ _ ∧ _)
            clear n5 r5 c5 f5 o5 x5
            go_wp2_with fail
            go_roundg (gk - 1)
            case rel =>
              obtain ⟨m6, q6, y6⟩ := o6.out
              refine ⟨k + 1, by omega, by go_num, m6, q6, ?_⟩
              rw [HZ.out]
              exact y6
            case measure => omega
    · have hke : k = n := by omega
      subst hke
      have b0 := bx.cell 0
      have b1 := bx.cell 1
      have b2 := bx.cell 2
      have b3 := bx.cell 3
      have bl := bx.lt
      have r0 := br.cell 0
      have r1 := br.cell 1
      have r2 := br.cell 2
      have r3 := br.cell 3
      have f0 := br.frozen 0
      have f1 := br.frozen 1
      have f2 := br.frozen 2
      have f3 := br.frozen 3
      simp only [List.getElem?_toArray, List.getElem?_cons_zero, List.getElem?_cons_succ] at b0 b1 b2 b3 r0 r1 r2 r3
      clear hL
      go_wp2_with fail
      refine bodyPost_ret (v := (ofL z k).agg) (by simp [results, Try.results12, go_sem, Ld.agg, r0, r1, r2, r3]) rfl ⟨rfl, ?_⟩
      exact (((nw.setCell (by simp) _).setCell (by simp) _).setCell (by simp) _).setCell (by simp) _
end Go.Proofs.Ytplejooihfhpdaa
