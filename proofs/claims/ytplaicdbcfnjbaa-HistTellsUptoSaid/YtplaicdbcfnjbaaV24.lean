/- order: are those of each client one behind the other? -/
import Derived.Test.YtplaicdbcfnjbaaV23
import Derived.Deep.RegionHeld
set_option linter.unusedSimpArgs false
set_option linter.unusedVariables false
namespace Go.Proofs.Ytplaicdbcfnjbaa
open Go.RowKit Go.Maps Go.Sort
set_option linter.unusedVariables false
set_option maxRecDepth 100000
theorem wrap_nat {c : Nat} (h : c ≤ 4000000) : IntKind.i64.wrap (c : Int) = (c : Int) := by unfold IntKind.wrap; simp [IntKind.signed, IntKind.bits]; omega
theorem OwnO.place {w : World} {base : Nat} {v : Value} {l : List OD} (h : OwnO w base v l) (hl : l ≠ []) :
    ∃ g cap, v = .slice (some ⟨g, 0, none⟩) l.length cap ∧ base ≤ g ∧ g < w.heap.size ∧ ∀ i j, i < l.length → j < 19 → w.cell? ⟨g, i * 19 + j, none⟩ = (ocs (lk l i))[j]? ∧ w.frozen? ⟨g, i * 19 + j, none⟩ = false :=
  OwnO.at h fun e => by
    rcases h.2 with ⟨_, e2⟩ | ⟨_, _, _, e2, _⟩
    · exact hl (List.eq_nil_of_length_eq_zero e2)
    · rw [e] at e2; cases e2
attribute [local irreducible] Go.wpList
set_option maxHeartbeats 4000000 in
theorem order_any (f n : Nat) (o : Nat → OD) (A : Option Addr) (cap : Nat) (w : World) (hA : RowO w f A n o) (hn : n ≤ 40) (hi : ∀ i, i < n → i64 (o i).r0) (hb : ∀ i, i < n → badR (o i) = false) (hr : (refL o n).Nodup) :
    Calls Try.prog 32 #[.slice A n cap] w fun e w' => e = .returned (.bool (!chk4 n o)) ∧ New w w' := by
  have HA := Lib.hid hA
  have HI := Lib.hid hi
  have HBR := Lib.hid hb
  have HR := Lib.hid hr
  have hmm := @run_makeMap Try.prog
  obtain ⟨res, hres⟩ : ∃ res, res = !chk4 n o := ⟨_, rfl⟩
  rw [← hres]
  replace hres := Lib.hid hres
  clear hA hi hb hr
  go_enter Try.func32, Try.ntmps32
  go_wp2_with fail
  go_loopg [13] n (fun z i wr => ∃ (k : Nat) (h : Int → Sv), k + z = n ∧ i = .int .i64 k ∧ Hid (New w wr) ∧ Hid (MO wr w.heap.size k h) ∧ Hid (MRows wr (w.heap.size + 1) h (fun e => clL o e k)))
  case atStart => exact ⟨0, fun _ => none, by omega, rfl, Lib.hid ((New.refl _).alloc _), Lib.hid (MO.made w), Lib.hid (MRows.zero _ _)⟩
  case round =>
    obtain ⟨k, h, hk, rfl, NW, MOk, MRk⟩ := hrel
    by_cases hkn : k < n
    · obtain ⟨ad, rfl, ca⟩ := HA.out.2.2 (by omega)
      have L1 := Lib.hid ((ca k hkn).new NW.out)
      have hkn' : (k : Int) < n := by omega
      have hx := Lib.hid (HI.out k hkn)
      have I1 := Lib.hid (ocs_op (o k))
      have B1 := Lib.hid (Box.made wr 36 (ocs (o k)))
      have N1 := Lib.hid ((New.refl wr).alloc (.cells (ocs (o k)) 36))
      have CE := Lib.hid (show (ocs (o k))[0]? = some (.int .i64 (o k).r0) from rfl)
      have HC := Lib.hid (clL_step o k)
      have HL := Lib.hid (clL_len o (o k).r0 k)
      obtain ⟨p, hp⟩ : ∃ p, o k = p := ⟨_, rfl⟩
      rw [hp] at L1 hx I1 B1 N1 CE HC HL
      clear hp ca
      obtain ⟨r, hr⟩ : ∃ r, ocs p = r := ⟨_, rfl⟩
      rw [hr] at L1 I1 B1 N1 CE
      replace hr := Lib.hid hr
      generalize hwho : p.r0 = who at *
      clear hwho
      generalize hw1 : wr.alloc (.cells r 36) = wb at *
      have OLD := Lib.hid (MRk.out.own)
      have M8 := Lib.hid (show MO wb.drew w.heap.size k h from MOk.out.new N1.out.drew)
      have R8 := Lib.hid (show MRows wb.drew (w.heap.size + 1) h (fun e => clL o e k) from MRk.out.new N1.out.drew)
      have NB := Lib.hid (show New w wb.drew from NW.out.trans N1.out.drew)
      have BB := Lib.hid (show Box wb.drew wr.heap.size 36 r from B1.out)
      have hlo := Lib.hid MOk.out.lt
      clear MOk MRk
      go_wp2_with (first | (refine wpl_load rfl rfl L1.out rfl ?_; clear L1) | (have tk_ := I1; refine wpl_store rfl rfl rfl rfl I1.out rfl ?_; rw [hw1]; clear tk_))
      refine wp_region_held_drew (S := (fun w' => Box w' wr.heap.size 36 r)) (by kernel_rfl) BB.out (fun hH => ?_)
      refine wpAnyH_take (i := 0) (oi := { dst := some 17, op := Go.Op.move (Go.Operand.tmp 3), type := 68, pos := "hist.go:43", after := #[], guard := none }) (v := ?_) rfl (by kernel_rfl) (by kernel_rfl) (by kernel_rfl) (fun _ _ _ h => h) (Or.inl ⟨by rfl, ?_⟩) hH ?_
      rotate_left; (intro w5 hS5; go_simp; try rfl)
      try simp only [Act.put, List.setIfInBounds_toArray, List.set_cons_zero, List.set_cons_succ]
      refine wpAnyH_take (i := 1) (oi := { dst := some 18, op := Go.Op.fieldAddr 36 (Go.Operand.tmp 5) 0, type := 0, pos := "hist.go:43", after := #[], guard := none }) (v := ?_) rfl (by kernel_rfl) (by kernel_rfl) (by kernel_rfl) (fun _ _ _ h => h) (Or.inl ⟨by rfl, ?_⟩) hH ?_
      rotate_left; (intro w5 hS5; go_simp; try rfl)
      try simp only [Act.put, List.setIfInBounds_toArray, List.set_cons_zero, List.set_cons_succ]
      refine wpAnyH_take (i := 2) (oi := { dst := some 19, op := Go.Op.fieldAddr 23 (Go.Operand.tmp 18) 0, type := 0, pos := "hist.go:43", after := #[{ on := 1, ground := Go.Ground.data }], guard := none }) (v := ?_) rfl (by kernel_rfl) (by kernel_rfl) (by kernel_rfl) (fun _ _ _ h => h) (Or.inl ⟨by rfl, ?_⟩) hH ?_
      rotate_left; (intro w5 hS5; go_simp; try rfl)
      try simp only [Act.put, List.setIfInBounds_toArray, List.set_cons_zero, List.set_cons_succ]
      refine wpAnyH_take (i := 3) (oi := { dst := some 20, op := Go.Op.load 3 (Go.Operand.tmp 19), type := 3, pos := "hist.go:43", after := #[{ on := 2, ground := Go.Ground.data }], guard := none }) (v := ?_) rfl (by kernel_rfl) (by kernel_rfl) (by kernel_rfl) (fun _ _ _ h => h) (Or.inl ⟨by rfl, ?_⟩) hH ?_
      rotate_left; (intro w5 hS5; have c5 := (hS5.cell 0).trans CE.out; go_simp; try rfl)
      try simp only [Act.put, List.setIfInBounds_toArray, List.set_cons_zero, List.set_cons_succ]
      refine wpAnyH_take (i := 4) (oi := { dst := some 21, op := Go.Op.move (Go.Operand.tmp 3), type := 68, pos := "hist.go:43", after := #[], guard := none }) (v := ?_) rfl (by kernel_rfl) (by kernel_rfl) (by kernel_rfl) (fun _ _ _ h => h) (Or.inl ⟨by rfl, ?_⟩) hH ?_
      rotate_left; (intro w5 hS5; go_simp; try rfl)
      try simp only [Act.put, List.setIfInBounds_toArray, List.set_cons_zero, List.set_cons_succ]
      refine wpAnyH_take (i := 5) (oi := { dst := some 22, op := Go.Op.fieldAddr 36 (Go.Operand.tmp 5) 0, type := 0, pos := "hist.go:43", after := #[], guard := none }) (v := ?_) rfl (by kernel_rfl) (by kernel_rfl) (by kernel_rfl) (fun _ _ _ h => h) (Or.inl ⟨by rfl, ?_⟩) hH ?_
      rotate_left; (intro w5 hS5; go_simp; try rfl)
      try simp only [Act.put, List.setIfInBounds_toArray, List.set_cons_zero, List.set_cons_succ]
      refine wpAnyH_take (i := 6) (oi := { dst := some 23, op := Go.Op.fieldAddr 23 (Go.Operand.tmp 22) 0, type := 0, pos := "hist.go:43", after := #[{ on := 5, ground := Go.Ground.data }], guard := none }) (v := ?_) rfl (by kernel_rfl) (by kernel_rfl) (by kernel_rfl) (fun _ _ _ h => h) (Or.inl ⟨by rfl, ?_⟩) hH ?_
      rotate_left; (intro w5 hS5; go_simp; try rfl)
      try simp only [Act.put, List.setIfInBounds_toArray, List.set_cons_zero, List.set_cons_succ]
      refine wpAnyH_take (i := 7) (oi := { dst := some 24, op := Go.Op.load 3 (Go.Operand.tmp 23), type := 3, pos := "hist.go:43", after := #[{ on := 6, ground := Go.Ground.data }], guard := none }) (v := ?_) rfl (by kernel_rfl) (by kernel_rfl) (by kernel_rfl) (fun _ _ _ h => h) (Or.inl ⟨by rfl, ?_⟩) hH ?_
      rotate_left; (intro w5 hS5; have c5 := (hS5.cell 0).trans CE.out; go_simp; try rfl)
      try simp only [Act.put, List.setIfInBounds_toArray, List.set_cons_zero, List.set_cons_succ]
      refine wpAnyH_take (i := 9) (oi := { dst := some 26, op := Go.Op.load 36 (Go.Operand.tmp 5), type := 36, pos := "hist.go:43", after := #[], guard := none }) (v := .agg r) rfl (by kernel_rfl) (by kernel_rfl) (by kernel_rfl) (fun _ _ _ h => h) (Or.inl ⟨by rfl, ?_⟩) hH ?_
      (intro w5 hS5; exact yl_ld (x := .tmp 5) rfl rfl (lda_at _ _ _ (opat_box hS5 I1.out)))
      try simp only [Act.put, List.setIfInBounds_toArray, List.set_cons_zero, List.set_cons_succ]
      refine wpAnyH_ready (rs := [8, 10]) (by kernel_rfl) (by simp) ?_
      refine AllReadyH.cons (o := { dst := some 25, op := Go.Op.lookup 68 (Go.Operand.tmp 21) (Go.Operand.tmp 24) false, type := 38, pos := "hist.go:43", after := #[{ on := 4, ground := Go.Ground.data }, { on := 7, ground := Go.Ground.data }], guard := none }) rfl (fun K5 hK5 => ?_) (AllReadyH.cons (o := { dst := some 27, op := Go.Op.buildSlice 38 1 #[(0, Go.Operand.tmp 26)], type := 38, pos := "hist.go:43", after := #[{ on := 9, ground := Go.Ground.data }], guard := none }) rfl (fun K5 hK5 => ?_) AllReadyH.nil)
      · rw [if_pos (by rfl)]
        refine wp_lookO (m := .tmp 21) (x := .tmp 24) rfl rfl rfl M8.out hx.out ?_
        refine hK5.out _ _ hH (fun hH1 => ?_)
        clear hK5 K5
        try simp only [Act.put, List.setIfInBounds_toArray, List.set_cons_zero, List.set_cons_succ]
        refine wpAnyH_ready (rs := [10]) (by kernel_rfl) (by simp) ?_
        refine AllReadyH.cons (o := { dst := some 27, op := Go.Op.buildSlice 38 1 #[(0, Go.Operand.tmp 26)], type := 38, pos := "hist.go:43", after := #[{ on := 9, ground := Go.Ground.data }], guard := none }) rfl (fun K5 hK5 => ?_) AllReadyH.nil
        rw [if_pos (by rfl)]
        refine wp_rows (n := 1) (c := fun _ => r) rfl (by rw [Array.toList_map]; rfl) (by decide) (by decide) (fun _ => I1.out) ?_
        intro w2 m2 hp2; have P2 := hp2 0 (by decide); rw [Addr.add_mid] at P2; simp only [Nat.zero_mul, Nat.add_zero] at P2; clear hp2
        refine hK5.out _ _ ((show Box _ _ _ _ from hH1).new m2) (fun hH2 => ?_)
        clear hK5 K5
        try simp only [Act.put, List.setIfInBounds_toArray, List.set_cons_zero, List.set_cons_succ]
        refine wpAnyH_ready (rs := [11]) (by kernel_rfl) (by simp) ?_
        refine AllReadyH.cons (o := { dst := some 28, op := Go.Op.call { callee := Go.Callee.builtin Go.Builtin.append, args := #[Go.Operand.tmp 25, Go.Operand.tmp 27], argTypes := #[38, 38] }, type := 38, pos := "hist.go:43", after := #[{ on := 8, ground := Go.Ground.data }, { on := 10, ground := Go.Ground.data }], guard := none }) rfl (fun K5 hK5 => ?_) AllReadyH.nil
        rw [if_pos (by rfl)]
        refine wp_puta (.tmp 25) (.tmp 27) rfl (svV (h who)) (clL o who k) (w.heap.size + 1) p _ rfl (own_new (R8.out.own who) m2) rfl (hr.out.symm ▸ P2) (by have := HL.out; omega) (by have := (NB.out.trans m2).lt; have := hlo.out; have := M8.out.lt; have := m2.lt; omega) ?_
        intro v3 w3 o3 g3 hat
        have own1 : ∀ b, (svV (h who)).ownBlock = some b → w.heap.size + 1 ≤ b ∧ b < wr.heap.size := fun b hb => ⟨((R8.out.own who).lt b hb).1, by have := (OLD.out who).lt b hb; exact this.2⟩
        refine hK5.out _ _ ((show Box _ _ _ _ from hH2).grown g3 (fun e => by have := (own1 _ e.symm).2; omega)) (fun hH3 => ?_)
        clear hK5 K5
        try simp only [Act.put, List.setIfInBounds_toArray, List.set_cons_zero, List.set_cons_succ]
        refine wpAnyH_ready (rs := [12]) (by kernel_rfl) (by simp) ?_
        refine AllReadyH.cons (o := { dst := none, op := Go.Op.mapUpdate 68 (Go.Operand.tmp 17) (Go.Operand.tmp 20) (Go.Operand.tmp 28), type := 0, pos := "hist.go:43", after := #[{ on := 0, ground := Go.Ground.data }, { on := 3, ground := Go.Ground.data }, { on := 11, ground := Go.Ground.data }, { on := 11, ground := Go.Ground.chain }, { on := 0, ground := Go.Ground.phase }, { on := 1, ground := Go.Ground.phase }, { on := 2, ground := Go.Ground.phase }, { on := 3, ground := Go.Ground.phase }, { on := 4, ground := Go.Ground.phase }, { on := 5, ground := Go.Ground.phase }, { on := 6, ground := Go.Ground.phase }, { on := 7, ground := Go.Ground.phase }, { on := 8, ground := Go.Ground.phase }, { on := 9, ground := Go.Ground.phase }, { on := 10, ground := Go.Ground.phase }, { on := 11, ground := Go.Ground.phase }], guard := none }) rfl (fun K5 hK5 => ?_) AllReadyH.nil
        rw [if_pos (by rfl)]
        obtain ⟨s3, rfl, hs3⟩ := OwnO.sv o3
        have M3 := (M8.out.new m2).grown g3 (fun e => by have := (own1 _ e).1; omega)
        refine wp_putO (m := .tmp 17) (x := .tmp 20) (y := .tmp 28) rfl rfl rfl rfl M3 hx.out (by unfold maxLen; omega) (hs3 (by simp)) ?_
        intro w4 M4 g4
        refine hK5.out _ _ ((show Box _ _ _ _ from hH3).grown g4 (fun e => by injection e with e; have := hlo.out; omega)) (fun hH4 => ?_)
        clear hK5 K5
        try simp only [Act.put, List.setIfInBounds_toArray, List.set_cons_zero, List.set_cons_succ]
        refine wpAnyH_done (by kernel_rfl) ?_ _
        have HF := Lib.hid (show New w w4 ∧ MO w4 w.heap.size (k + 1) _ ∧ MRows w4 (w.heap.size + 1) _ (fun e => clL o e (k + 1)) from ⟨((NB.out.trans m2).grown g3 (fun b e => by have := (own1 _ e).1; omega)).grown g4 (fun b e => by injection e with e; omega), M4, MRows.step (who := who) (R8.out.new m2) (Nat.lt_succ_self _) g3 o3 hat g4 HC.out⟩)
        clear hH hH1 hH2 hH3 hH4 M3 M4 g3 g4 o3 hat own1 m2 P2 M8 R8 NB BB NW hs3
        go_wp2_with fail
        go_roundg (gk - 1)
        case rel => exact ⟨k + 1, _, by omega, by go_num, Lib.hid HF.out.1, Lib.hid HF.out.2.1, Lib.hid HF.out.2.2⟩
        case measure => omega
      · rw [if_pos (by rfl)]
        refine wp_rows (n := 1) (c := fun _ => r) rfl (by rw [Array.toList_map]; rfl) (by decide) (by decide) (fun _ => I1.out) ?_
        intro w2 m2 hp2; have P2 := hp2 0 (by decide); rw [Addr.add_mid] at P2; simp only [Nat.zero_mul, Nat.add_zero] at P2; clear hp2
        refine hK5.out _ _ ((show Box _ _ _ _ from hH).new m2) (fun hH1 => ?_)
        clear hK5 K5
        try simp only [Act.put, List.setIfInBounds_toArray, List.set_cons_zero, List.set_cons_succ]
        refine wpAnyH_ready (rs := [8]) (by kernel_rfl) (by simp) ?_
        refine AllReadyH.cons (o := { dst := some 25, op := Go.Op.lookup 68 (Go.Operand.tmp 21) (Go.Operand.tmp 24) false, type := 38, pos := "hist.go:43", after := #[{ on := 4, ground := Go.Ground.data }, { on := 7, ground := Go.Ground.data }], guard := none }) rfl (fun K5 hK5 => ?_) AllReadyH.nil
        rw [if_pos (by rfl)]
        refine wp_lookO (m := .tmp 21) (x := .tmp 24) rfl rfl rfl (M8.out.new m2) hx.out ?_
        refine hK5.out _ _ hH1 (fun hH2 => ?_)
        clear hK5 K5
        try simp only [Act.put, List.setIfInBounds_toArray, List.set_cons_zero, List.set_cons_succ]
        refine wpAnyH_ready (rs := [11]) (by kernel_rfl) (by simp) ?_
        refine AllReadyH.cons (o := { dst := some 28, op := Go.Op.call { callee := Go.Callee.builtin Go.Builtin.append, args := #[Go.Operand.tmp 25, Go.Operand.tmp 27], argTypes := #[38, 38] }, type := 38, pos := "hist.go:43", after := #[{ on := 8, ground := Go.Ground.data }, { on := 10, ground := Go.Ground.data }], guard := none }) rfl (fun K5 hK5 => ?_) AllReadyH.nil
        rw [if_pos (by rfl)]
        refine wp_puta (.tmp 25) (.tmp 27) rfl (svV (h who)) (clL o who k) (w.heap.size + 1) p _ rfl (own_new (R8.out.own who) m2) rfl (hr.out.symm ▸ P2) (by have := HL.out; omega) (by have := (NB.out.trans m2).lt; have := hlo.out; have := M8.out.lt; have := m2.lt; omega) ?_
        intro v3 w3 o3 g3 hat
        have own1 : ∀ b, (svV (h who)).ownBlock = some b → w.heap.size + 1 ≤ b ∧ b < wr.heap.size := fun b hb => ⟨((R8.out.own who).lt b hb).1, by have := (OLD.out who).lt b hb; exact this.2⟩
        refine hK5.out _ _ ((show Box _ _ _ _ from hH2).grown g3 (fun e => by have := (own1 _ e.symm).2; omega)) (fun hH3 => ?_)
        clear hK5 K5
        try simp only [Act.put, List.setIfInBounds_toArray, List.set_cons_zero, List.set_cons_succ]
        refine wpAnyH_ready (rs := [12]) (by kernel_rfl) (by simp) ?_
        refine AllReadyH.cons (o := { dst := none, op := Go.Op.mapUpdate 68 (Go.Operand.tmp 17) (Go.Operand.tmp 20) (Go.Operand.tmp 28), type := 0, pos := "hist.go:43", after := #[{ on := 0, ground := Go.Ground.data }, { on := 3, ground := Go.Ground.data }, { on := 11, ground := Go.Ground.data }, { on := 11, ground := Go.Ground.chain }, { on := 0, ground := Go.Ground.phase }, { on := 1, ground := Go.Ground.phase }, { on := 2, ground := Go.Ground.phase }, { on := 3, ground := Go.Ground.phase }, { on := 4, ground := Go.Ground.phase }, { on := 5, ground := Go.Ground.phase }, { on := 6, ground := Go.Ground.phase }, { on := 7, ground := Go.Ground.phase }, { on := 8, ground := Go.Ground.phase }, { on := 9, ground := Go.Ground.phase }, { on := 10, ground := Go.Ground.phase }, { on := 11, ground := Go.Ground.phase }], guard := none }) rfl (fun K5 hK5 => ?_) AllReadyH.nil
        rw [if_pos (by rfl)]
        obtain ⟨s3, rfl, hs3⟩ := OwnO.sv o3
        have M3 := (M8.out.new m2).grown g3 (fun e => by have := (own1 _ e).1; omega)
        refine wp_putO (m := .tmp 17) (x := .tmp 20) (y := .tmp 28) rfl rfl rfl rfl M3 hx.out (by unfold maxLen; omega) (hs3 (by simp)) ?_
        intro w4 M4 g4
        refine hK5.out _ _ ((show Box _ _ _ _ from hH3).grown g4 (fun e => by injection e with e; have := hlo.out; omega)) (fun hH4 => ?_)
        clear hK5 K5
        try simp only [Act.put, List.setIfInBounds_toArray, List.set_cons_zero, List.set_cons_succ]
        refine wpAnyH_done (by kernel_rfl) ?_ _
        have HF := Lib.hid (show New w w4 ∧ MO w4 w.heap.size (k + 1) _ ∧ MRows w4 (w.heap.size + 1) _ (fun e => clL o e (k + 1)) from ⟨((NB.out.trans m2).grown g3 (fun b e => by have := (own1 _ e).1; omega)).grown g4 (fun b e => by injection e with e; omega), M4, MRows.step (who := who) (R8.out.new m2) (Nat.lt_succ_self _) g3 o3 hat g4 HC.out⟩)
        clear hH hH1 hH2 hH3 hH4 M3 M4 g3 g4 o3 hat own1 m2 P2 M8 R8 NB BB NW hs3
        go_wp2_with fail
        go_roundg (gk - 1)
        case rel => exact ⟨k + 1, _, by omega, by go_num, Lib.hid HF.out.1, Lib.hid HF.out.2.1, Lib.hid HF.out.2.2⟩
        case measure => omega
    · have hkL : k = n := by omega
      subst hkL
      go_wp2_with (first | (go_at_call 43; refine (keys43 _ _).mono ?_; rintro e w9 ⟨rfl, rfl⟩) | (go_at_call 42; refine (MOk.out.sorted (by omega)).mono ?_; rintro e w2 ⟨v, ss, rfl, hmem, hlen, OI, n2⟩; obtain ⟨A2, c2, rfl, RI⟩ := OI.row; replace hmem := Lib.hid hmem; replace RI := Lib.hid RI; have n2' := Lib.hid (((New.refl wr).alloc _).trans n2); clear OI n2; obtain ⟨m, hm⟩ : ∃ m, ss.length = m := ⟨_, rfl⟩; rw [hm] at RI hlen; rw [hm]; replace hm := Lib.hid hm))
      have M2 := Lib.hid (MOk.out.new n2'.out)
      have R2 := Lib.hid (MRk.out.new n2'.out)
      have NW2 := Lib.hid (NW.out.trans n2'.out)
      have IN := Lib.hid (show ∀ j, j < m → h (ss.getD j 0) ≠ none from fun j hj => by
        have : ss.getD j 0 ∈ ss := by
          rw [List.getD_eq_getElem?_getD, List.getElem?_eq_getElem (by rw [hm.out]; exact hj)]
          exact List.getElem_mem _
        intro e
        have := (hmem.out _).1 this
        rw [e] at this
        cases this)
      have ON := Lib.hid (show ∀ i, i < k → ∃ j, j < m ∧ ss.getD j 0 = (o i).r0 from fun i hi => by
        have h1 : h (o i).r0 ≠ none := fun e => by
          have h2 := MRk.out.own (o i).r0
          rw [e] at h2
          have h3 := h2.2
          rcases h3 with ⟨_, h3⟩ | ⟨g, cap, cur, h3, _⟩
          · have := List.eq_nil_of_length_eq_zero h3
            have hm2 : o i ∈ clL o (o i).r0 k := mem_clL.2 ⟨i, hi, rfl, rfl⟩
            rw [this] at hm2
            cases hm2
          · cases h3
        have h2 : (o i).r0 ∈ ss := (hmem.out _).2 (by cases hq : h (o i).r0 with | none => exact absurd hq h1 | some s => rfl)
        obtain ⟨j, hj, e⟩ := List.getElem_of_mem h2
        exact ⟨j, by rw [← hm.out]; exact hj, by rw [List.getD_eq_getElem?_getD, List.getElem?_eq_getElem hj, e]; rfl⟩)
      clear MOk MRk NW hmem hm n2'
      generalize hq : (fun j => ss.getD j 0) = q at *
      have IN' : Hid (∀ j, j < m → h (q j) ≠ none) := hq ▸ IN
      have ON' : Hid (∀ i, i < k → ∃ j, j < m ∧ q j = (o i).r0) := hq ▸ ON
      clear IN ON hq
      go_loopg [34] m (fun z i wq => ∃ (k1 : Nat), k1 + z = m ∧ i = .int .i64 k1 ∧ Hid (New w2 wq) ∧ Hid (∀ j, j < k1 → okC o k (q j)))
      case atStart => exact ⟨0, by omega, rfl, Lib.hid (New.refl _), Lib.hid (fun j hj => absurd hj (by omega))⟩
      case round =>
        obtain ⟨k1, hk1, rfl, NQ, OK⟩ := hrel
        obtain ⟨gq, hgq⟩ : ∃ gq : Nat, gq = gk := ⟨_, rfl⟩
        by_cases hkm : k1 < m
        · obtain ⟨ga, rfl, hga, hca⟩ := (RI.out.new NQ.out) (by omega)
          have x0 := hca k1 hkm
          have hkm' : (k1 : Int) < m := by omega
          have hne := Lib.hid (IN'.out k1 hkm)
          have NXT := Lib.hid (show okC o k (q k1) → ∀ j, j < k1 + 1 → okC o k (q j) from fun hc j hj => by
            rcases Nat.lt_or_ge j k1 with h' | h'
            · exact OK.out j h'
            · obtain rfl : j = k1 := by omega
              exact hc)
          generalize q k1 = who at *
          have hx := Lib.hid (M2.out.key hne.out)
          have M3 := Lib.hid (M2.out.new NQ.out)
          have O3 := Lib.hid (own_new (R2.out.own who) NQ.out)
          have NE := Lib.hid (R2.out.full who hne.out)
          have LB := Lib.hid (show ∀ x ∈ clL o who k, badR x = false from fun x hx => by obtain ⟨j, hj, rfl, _⟩ := mem_clL.1 hx; exact HBR.out j hj)
          have LW := Lib.hid (show ∀ x ∈ clL o who k, x.r0 = who from fun x hx => by obtain ⟨j, hj, rfl, e⟩ := mem_clL.1 hx; exact e)
          have LN := Lib.hid (clL_nodup (who := who) HR.out)
          have LL := clL_len o who k
          have YES := Lib.hid (fun (a b : OD) (ha : a ∈ clL o who k) (hb : b ∈ clL o who k) (hl : a.r1 < b.r1) (hn : aheadB a.e b.s = false) => chk4_yes (n := k) (o := o) (who := who) ha hb hl hn)
          have OKC := Lib.hid (show (∀ a ∈ clL o who k, ∀ b ∈ clL o who k, a.r1 < b.r1 → aheadB a.e b.s = true) → okC o k who from fun h => h)
          generalize clL o who k = l at *
          obtain ⟨L, hL⟩ : ∃ L, L = l.length := ⟨_, rfl⟩
          rw [← hL] at LL
          replace hL := Lib.hid hL
          clear hca
          go_wp2_with (first
            | (refine wpl_lookO (m := .tmp 38) (x := .tmp 39) rfl rfl rfl rfl M3.out hx.out ?_)
            | (go_at_call 44; (refine (clone44 _ l _ _ O3.out (by have := hL.out; omega)).mono ?_; rintro e w4 ⟨v4, rfl, o4, n4⟩; obtain ⟨g4, c4, rfl, hb4, hg4, hc4⟩ := OwnO.place o4 NE.out; replace n4 := Lib.hid n4; replace hb4 := Lib.hid hb4; have S5 := sort45 l g4 c4 w4 hg4 hc4 (by have := hL.out; omega); rw [← hL.out] at S5; rw [← hL.out]; replace S5 := Lib.hid S5; clear hc4 o4))
            | (go_at_call 45; (refine S5.out.mono ?_; rintro e w5 ⟨rfl, d', hp, hs, hat, hnew⟩; replace hp := Lib.hid hp; replace hs := Lib.hid hs; replace hat := Lib.hid hat; have n5 := Lib.hid (hnew _ (NQ.out.trans n4.out) (Nat.le_trans NQ.out.lt hb4.out)); clear hnew S5)))
          obtain ⟨rr, hat', hmem', CH, LTT⟩ : ∃ rr : Nat → OD, Hid (∀ i, i < L → OpAt w5 ((⟨g4, 0, none⟩ : Addr).add (i * 19)) (ocs (rr i))) ∧ Hid (∀ i, i < L → rr i ∈ l) ∧ Hid ((∀ i, i + 1 < L → aheadB (rr i).e (rr (i + 1)).s = true) → okC o k who) ∧ Hid (∀ i j, j = i + 1 → j < L → (rr i).r1 < (rr j).r1) := by
            have e := hL.out
            subst e
            exact ⟨fun i => lk l d'[i]!, hat, Lib.hid (fun i hi => lk_mem l _ (perm_lt hp.out i hi)), Lib.hid (fun h => OKC.out (chain_all LB.out hp.out hs.out h)), Lib.hid (fun i j e hj => by subst e; exact chain_lt LW.out LN.out hp.out hs.out i hj)⟩
          clear hat hp hs OKC LB LW LN
          obtain ⟨ad, had⟩ : ∃ ad : Addr, (⟨g4, 0, none⟩ : Addr) = ad := ⟨_, rfl⟩
          rw [had] at hat' ⊢
          replace had := Lib.hid had
          go_loopg [9] L (fun z i wx => ∃ (k2 j : Nat), k2 + z = L + 1 ∧ 1 ≤ k2 ∧ i = .int .i64 k2 ∧ ((k2 : Nat) : Int) - 1 = (j : Nat) ∧ Hid (New w5 wx) ∧ Hid (∀ t, t < j → aheadB (rr t).e (rr (t + 1)).s = true))
          case atStart => exact ⟨1, 0, by omega, by omega, rfl, by omega, Lib.hid (New.refl _), Lib.hid (fun t ht => absurd ht (by omega))⟩
          case round =>
            obtain ⟨k2, j, hz, h1, rfl, hj, NX, AX⟩ := hrel
            by_cases hkl : k2 < L
            · have hkl' : (k2 : Int) < L := by omega
              have La := Lib.hid (fun w' (m : New w5 w') => (hat'.out j (by omega)).new m)
              have Lb := Lib.hid (fun w' (m : New w5 w') => (hat'.out k2 hkl).new m)
              have hjL : (j : Int) < L := by omega
              have WJ := Lib.hid (wrap_nat (c := j) (by omega))
              have C8 := Lib.hid (fun w' => ahead_any (ocs (rr j)) (ocs (rr k2)) (rr j).e (rr k2).s w' rfl rfl)
              have YU := Lib.hid (show aheadB (rr j).e (rr k2).s = false → res = false from fun e => by rw [hres.out, YES.out _ _ (hmem'.out j (by omega)) (hmem'.out k2 hkl) (LTT.out j k2 (by omega) hkl) e]; rfl)
              have NU := Lib.hid (show aheadB (rr j).e (rr k2).s = true → ∀ t, t < k2 → aheadB (rr t).e (rr (t + 1)).s = true from fun e t ht => by
                rcases Nat.lt_or_ge t j with h' | h'
                · exact AX.out t h'
                · obtain rfl : t = j := by omega
                  rw [show t + 1 = k2 by omega]; exact e)
              generalize aheadB (rr j).e (rr k2).s = U at *
              generalize ocs (rr j) = ra at *
              generalize ocs (rr k2) = rb at *
              go_wp2_with fail
              refine wp_region_held_drew (S := fun w' => New w5 w') (by kernel_rfl) NX.out.drew (fun hH => ?_)
              clear NX
              refine wpAnyH_take (i := 0) (oi := { dst := some 50, op := Go.Op.move (Go.Operand.tmp 8), type := 38, pos := "hist.go:49", after := #[], guard := none }) (v := .slice (some ad) L c4) rfl (by kernel_rfl) (by kernel_rfl) (by kernel_rfl) (fun _ _ _ h => h) (Or.inl ⟨by rfl, ?_⟩) hH ?_
              (intro w5 hS5; go_simp; try rfl)
              try simp only [Act.put, List.setIfInBounds_toArray, List.set_cons_zero, List.set_cons_succ]
              refine wpAnyH_take (i := 1) (oi := { dst := some 51, op := Go.Op.move (Go.Operand.tmp 9), type := 3, pos := "hist.go:49", after := #[], guard := none }) (v := .int .i64 (k2 : Nat)) rfl (by kernel_rfl) (by kernel_rfl) (by kernel_rfl) (fun _ _ _ h => h) (Or.inl ⟨by rfl, ?_⟩) hH ?_
              (intro w5 hS5; go_simp; try rfl)
              try simp only [Act.put, List.setIfInBounds_toArray, List.set_cons_zero, List.set_cons_succ]
              refine wpAnyH_take (i := 2) (oi := { dst := some 52, op := Go.Op.binOp Go.BinOp.sub 3 (Go.Operand.tmp 51) (Go.Operand.const (Go.Value.int Go.IntKind.i64 1)) 3, type := 3, pos := "hist.go:49", after := #[{ on := 1, ground := Go.Ground.data }], guard := none }) (v := .int .i64 (j : Nat)) rfl (by kernel_rfl) (by kernel_rfl) (by kernel_rfl) (fun _ _ _ h => h) (Or.inl ⟨by rfl, ?_⟩) hH ?_
              (intro w5 hS5; go_simp; exact WJ.out)
              try simp only [Act.put, List.setIfInBounds_toArray, List.set_cons_zero, List.set_cons_succ]
              refine wpAnyH_take (i := 3) (oi := { dst := some 53, op := Go.Op.indexAddr 38 (Go.Operand.tmp 50) (Go.Operand.tmp 52), type := 0, pos := "hist.go:49", after := #[{ on := 0, ground := Go.Ground.data }, { on := 2, ground := Go.Ground.data }], guard := none }) (v := .pointer (some (ad.add (j * 19)))) rfl (by kernel_rfl) (by kernel_rfl) (by kernel_rfl) (fun _ _ _ h => h) (Or.inl ⟨by rfl, ?_⟩) hH ?_
              (intro w5 hS5; go_simp; try rfl)
              try simp only [Act.put, List.setIfInBounds_toArray, List.set_cons_zero, List.set_cons_succ]
              refine wpAnyH_take (i := 4) (oi := { dst := some 54, op := Go.Op.load 36 (Go.Operand.tmp 53), type := 36, pos := "hist.go:49", after := #[{ on := 3, ground := Go.Ground.data }], guard := none }) (v := .agg ra) rfl (by kernel_rfl) (by kernel_rfl) (by kernel_rfl) (fun _ _ _ h => h) (Or.inl ⟨by rfl, ?_⟩) hH ?_
              (intro w5 hS5; refine yl_ld rfl rfl (lda_at _ _ _ (La.out _ hS5)))
              try simp only [Act.put, List.setIfInBounds_toArray, List.set_cons_zero, List.set_cons_succ]
              refine wpAnyH_take (i := 5) (oi := { dst := some 55, op := Go.Op.move (Go.Operand.tmp 8), type := 38, pos := "hist.go:49", after := #[], guard := none }) (v := .slice (some ad) L c4) rfl (by kernel_rfl) (by kernel_rfl) (by kernel_rfl) (fun _ _ _ h => h) (Or.inl ⟨by rfl, ?_⟩) hH ?_
              (intro w5 hS5; go_simp; try rfl)
              try simp only [Act.put, List.setIfInBounds_toArray, List.set_cons_zero, List.set_cons_succ]
              refine wpAnyH_take (i := 6) (oi := { dst := some 56, op := Go.Op.move (Go.Operand.tmp 9), type := 3, pos := "hist.go:49", after := #[], guard := none }) (v := .int .i64 (k2 : Nat)) rfl (by kernel_rfl) (by kernel_rfl) (by kernel_rfl) (fun _ _ _ h => h) (Or.inl ⟨by rfl, ?_⟩) hH ?_
              (intro w5 hS5; go_simp; try rfl)
              try simp only [Act.put, List.setIfInBounds_toArray, List.set_cons_zero, List.set_cons_succ]
              refine wpAnyH_take (i := 7) (oi := { dst := some 57, op := Go.Op.indexAddr 38 (Go.Operand.tmp 55) (Go.Operand.tmp 56), type := 0, pos := "hist.go:49", after := #[{ on := 5, ground := Go.Ground.data }, { on := 6, ground := Go.Ground.data }], guard := none }) (v := .pointer (some (ad.add (k2 * 19)))) rfl (by kernel_rfl) (by kernel_rfl) (by kernel_rfl) (fun _ _ _ h => h) (Or.inl ⟨by rfl, ?_⟩) hH ?_
              (intro w5 hS5; go_simp; try rfl)
              try simp only [Act.put, List.setIfInBounds_toArray, List.set_cons_zero, List.set_cons_succ]
              refine wpAnyH_take (i := 8) (oi := { dst := some 58, op := Go.Op.load 36 (Go.Operand.tmp 57), type := 36, pos := "hist.go:49", after := #[{ on := 7, ground := Go.Ground.data }], guard := none }) (v := .agg rb) rfl (by kernel_rfl) (by kernel_rfl) (by kernel_rfl) (fun _ _ _ h => h) (Or.inl ⟨by rfl, ?_⟩) hH ?_
              (intro w5 hS5; refine yl_ld rfl rfl (lda_at _ _ _ (Lb.out _ hS5)))
              try simp only [Act.put, List.setIfInBounds_toArray, List.set_cons_zero, List.set_cons_succ]
              refine wpAnyH_ready (rs := [9]) (by kernel_rfl) (by simp) ?_
              refine AllReadyH.cons (o := { dst := some 59, op := Go.Op.call { callee := Go.Callee.value (Go.Operand.func 8), args := #[Go.Operand.tmp 54, Go.Operand.tmp 58], argTypes := #[36, 36] }, type := 4, pos := "hist.go:49", after := #[{ on := 4, ground := Go.Ground.data }, { on := 8, ground := Go.Ground.data }], guard := none }) rfl (fun K5 hK5 => ?_) AllReadyH.nil
              go_simp
              refine (C8.out _).mono ?_; rintro e w9 ⟨rfl, n9⟩
              refine hK5.out _ _ (New.trans hH n9) (fun hH9 => ?_)
              clear hK5 K5
              try simp only [Act.put, List.setIfInBounds_toArray, List.set_cons_zero, List.set_cons_succ]
              refine wpAnyH_take (i := 10) (oi := { dst := some 60, op := Go.Op.unOp Go.UnOp.not 4 (Go.Operand.tmp 59), type := 4, pos := "hist.go:49", after := #[{ on := 9, ground := Go.Ground.data }], guard := none }) (v := .bool (!U)) rfl (by kernel_rfl) (by kernel_rfl) (by kernel_rfl) (fun _ _ _ h => h) (Or.inl ⟨by rfl, ?_⟩) hH9 ?_
              (intro w5 hS5; go_simp; try rfl)
              try simp only [Act.put, List.setIfInBounds_toArray, List.set_cons_zero, List.set_cons_succ]
              refine wpAnyH_done (by kernel_rfl) ?_ _
              have HZ := Lib.hid hH9
              clear hH hH9
              cases U
              · have hc := YU.out rfl
                subst hc
                go_wp2_with fail
                go_ret
                exact ⟨rfl, NW2.out.trans (n5.out.trans HZ.out)⟩
              · have hc := Lib.hid (NU.out rfl)
                go_wp2_with fail
                go_roundg (gk - 1)
                case rel => exact ⟨k2 + 1, k2, by omega, by omega, by go_num, by omega, HZ, hc⟩
                case measure => omega
            · go_wp2_with fail
              go_roundg (gq - 1)
              case rel => exact ⟨k1 + 1, by omega, by go_num, Lib.hid (n5.out.trans NX.out), Lib.hid (NXT.out (CH.out fun t ht => AX.out t (by omega)))⟩
              case measure => omega
        · have hkm2 : k1 = m := by omega
          subst hkm2
          have hc : res = true := by
            rw [hres.out, chk4_no (fun i hi => by
              obtain ⟨j, hj, e⟩ := ON'.out i hi
              rw [← e]
              exact OK.out j hj)]
            rfl
          subst hc
          go_wp2_with fail
          go_ret
          exact ⟨rfl, NW2.out.trans NQ.out⟩
end Go.Proofs.Ytplaicdbcfnjbaa
/- An entry of a counting map is raised by one: the entry is found, or made, then stored to. -/
namespace Go.Proofs.Ytplaicdbcfnjbaa
open Go.RowKit Go.Maps Go.WideElems
open Go.ChangeMaps (setBlock heap_setBlock_same heap_setBlock_other)
set_option linter.unusedVariables false
set_option maxRecDepth 100000
set_option maxHeartbeats 1000000
theorem law23 : WideMaps.KeyLaw Try.prog 23 := deep_law_laid laidOut (m := 2) (by omega) row23 (by kernel_rfl) wide23
theorem setBlock_inj {w : World} {b : Nat} {e0 e1 e2 : Array MapEntry} {c0 c1 c2 : Nat} (h : w.heap[b]? = some (.map e0 c0)) (e : setBlock w b (.map e1 c1) = setBlock w b (.map e2 c2)) : e1 = e2 ∧ c1 = c2 := by
  have h1 := heap_setBlock_same h (.map e1 c1)
  rw [e, heap_setBlock_same h (.map e2 c2)] at h1
  have h2 := Option.some.inj h1
  injection h2 with h2 h3
  exact ⟨h2.symm, h3.symm⟩
theorem ok_inj {α : Type} {a b : α} {w w' : World} {r : Result α} (h1 : r = .ok a w) (h2 : r = .ok b w') : a = b ∧ w = w' := by
  rw [h1] at h2
  injection h2 with h2 h3
  exact ⟨h2, h3⟩
theorem modify_eq_set' {α : Type} (f : α → α) : ∀ (l : List α) (j : Nat) (a : α), l[j]? = some a → l.modify j f = l.set j (f a)
  | [], _, _, h => by simp at h
  | b :: r, 0, a, h => by simp at h; subst h; rfl
  | b :: r, j + 1, a, h => by simp at h; simp [modify_eq_set' f r j a h]
abbrev cp (L : List (Int × Int)) (x : Int × Int) : Nat := @List.count _ instBEqOfDecidableEq x L
theorem entry_facts {w : World} {b n : Nat} {L : List (Int × Int)} (h : CM 23 pl pok w b n L) {x : Int × Int} (hx : pok x) (hn : n < maxLen) (hl : L.length ≤ 4000000) :
    ∃ (v0 : Value) (st : Nat) (es1 : Array MapEntry) (clock1 : Nat), (Instr.mapEntry 66 (.map (some b)) (pv x)).run Try.prog w = .ok (.tuple #[v0, goInt st]) (setBlock w b (.map es1 clock1)) ∧
      (Instr.lookup 66 (.map (some b)) (pv x) false).run Try.prog (setBlock w b (.map es1 clock1)) = .ok (.int .i64 (cp L x : Nat)) (setBlock w b (.map es1 clock1)) ∧
      (setBlock w b (.map es1 clock1)).heap[b]? = some (.map es1 clock1) ∧ w.grownBy (setBlock w b (.map es1 clock1)) (some b) ∧
      ∀ w2 : World, w2.heap[b]? = some (.map es1 clock1) → ∃ w3, (Instr.entryStore 66 (.map (some b)) (goInt st) (.int .i64 ((cp L x : Nat) + 1))).run Try.prog w2 = .ok () w3 ∧ CM 23 pl pok w3 b (n + 1) (L ++ [x]) ∧ w2.grownBy w3 (some b) := by
  have hlook := CM.look kit23 Try.underlying66 h hx
  obtain ⟨D, h1, h2, h3, h4⟩ := h
  have h10 := h1
  obtain ⟨es, clock, hb, F, hs, hD⟩ := h1
  have hkey := key23 x hx
  have hle : cp L x ≤ L.length := @List.count_le_length _ instBEqOfDecidableEq x L
  obtain ⟨v0, st, es1, clock1, r1, _, hst⟩ := entry_then_store law23 Try.underlying66 (z := .int .i64 0) zero3 hb F hkey
  have hb1 : (setBlock w b (.map es1 clock1)).heap[b]? = some (.map es1 clock1) := heap_setBlock_same hb _
  refine ⟨v0, st, es1, clock1, r1, ?_, hb1, ⟨rfl, rfl, rfl, by simp [setBlock], fun i _ hi => heap_setBlock_other hb _ (fun e => hi (by rw [e]))⟩, fun w2 hw2 => ?_⟩
  · have find1 := keyed23.find w hkey es.toList F.keys
    rcases find1 with ⟨g1, g2⟩ | ⟨j, e0, g1, g2, g3⟩
    · have r2 : (Instr.mapEntry 66 (.map (some b)) (pv x)).run Try.prog w = .ok (.tuple #[.int .i64 0, goInt clock]) (setBlock w b (.map (es.push ⟨pv x, .int .i64 0, clock⟩) (clock + 1))) := by
        simp [Instr.mapEntry, run_underlying Try.underlying66, MapKept.run_getObj_map hb, keyed23.check w false hkey, g1, zero3, MapKept.run_setObj_map _ hb, Result.andThen, setBlock]
      obtain ⟨e1, e2⟩ := setBlock_inj hb (ok_inj r1 r2).2
      subst e1 e2
      have l1 : (Instr.lookup 66 (.map (some b)) (pv x) false).run Try.prog w = .ok (.int .i64 0) w := by
        simp [Instr.lookup, run_underlying Try.underlying66, MapKept.run_getObj_map hb, keyed23.check w _ hkey, g1, zero3, Result.andThen]
      rw [(ok_inj hlook l1).1]
      rcases keyed23.find (setBlock w b (.map (es.push ⟨pv x, .int .i64 0, clock⟩) (clock + 1))) hkey (es.push ⟨pv x, .int .i64 0, clock⟩).toList (fun e he => by
        rw [Array.toList_push] at he
        rcases List.mem_append.1 he with he | he
        · exact F.keys e he
        · rw [List.mem_singleton] at he; subst he; exact ⟨_, hkey⟩) with ⟨k1, k2⟩ | ⟨j, e0, k1, k2, k3⟩
      · exact absurd rfl (k2 ⟨pv x, .int .i64 0, clock⟩ (by simp))
      · have hm : e0 ∈ (es.push ⟨pv x, .int .i64 0, clock⟩).toList := List.mem_of_getElem? k2
        have hv : e0.val = .int .i64 0 := by
          rw [Array.toList_push] at hm
          rcases List.mem_append.1 hm with hm | hm
          · exact absurd k3 (g2 e0 hm)
          · rw [List.mem_singleton] at hm; subst hm; rfl
        rw [hv] at k1
        clear hm k2
        generalize es.push ⟨pv x, .int .i64 0, clock⟩ = ep at *
        simp [Instr.lookup, run_underlying Try.underlying66, MapKept.run_getObj_map hb1, keyed23.check _ _ hkey, k1, Result.andThen]
    · have hj : es[j]? = some e0 := by simpa using g2
      have hsame : es.modify j (fun e => { e with key := pv x }) = es := by
        apply Array.ext'
        rw [Array.toList_modify, modify_eq_set' _ _ _ _ g2]
        have : ({ e0 with key := pv x } : MapEntry) = e0 := by rw [← g3]
        rw [this]
        exact set_self _ _ _ g2
      have r2 : (Instr.mapEntry 66 (.map (some b)) (pv x)).run Try.prog w = .ok (.tuple #[e0.val, goInt e0.born]) (setBlock w b (.map es clock)) := by
        simp [Instr.mapEntry, run_underlying Try.underlying66, MapKept.run_getObj_map hb, law23.check w false hkey, g1, hj, g3, law23.stays w hkey, hsame, MapKept.run_setObj_map _ hb, Result.andThen, setBlock]
      obtain ⟨e1, e2⟩ := setBlock_inj hb (ok_inj r1 r2).2
      subst e1 e2
      have l1 : (Instr.lookup 66 (.map (some b)) (pv x) false).run Try.prog w = .ok e0.val w := by
        simp [Instr.lookup, run_underlying Try.underlying66, MapKept.run_getObj_map hb, keyed23.check w _ hkey, g1, Result.andThen]
      rw [(ok_inj hlook l1).1]
      rcases keyed23.find (setBlock w b (.map es1 clock1)) hkey es1.toList F.keys with ⟨k1, k2⟩ | ⟨j2, e2, k1, k2, k3⟩
      · exact absurd g3 (k2 e0 (List.mem_of_getElem? g2))
      · have : e2 = e0 := entry_eq_of_key ((MapKept.stamped_iff _ _).1 F.stamped).2.2 (List.mem_of_getElem? k2) (List.mem_of_getElem? g2) (k3.trans g3.symm)
        subst this
        simp [Instr.lookup, run_underlying Try.underlying66, MapKept.run_getObj_map hb1, keyed23.check _ _ hkey, k1, Result.andThen]
  · obtain ⟨es', clock', q1, q2⟩ := hst w2 (.int .i64 ((cp L x : Nat) + 1)) hw2
    obtain ⟨w', u1, u2, u3⟩ := h10.update keyed23 Try.underlying66 hn hkey (plainElem_int Try.underlying3 (wf_of_i64 (by unfold i64; omega : i64 ((cp L x : Nat) + 1))))
    have q3 := (ok_inj u1 q2).2
    subst q3
    refine ⟨_, q1, ?_, ⟨rfl, rfl, rfl, by simp [setBlock], fun i _ hi => heap_setBlock_other hw2 _ (fun e => hi (by rw [e]))⟩⟩
    refine CM.step kit23 hx h10 h2 h3 h4 ?_
    obtain ⟨ea, ca, ha, Fa, sa, Da⟩ := u2
    rw [heap_setBlock_same hb] at ha
    exact ⟨ea, ca, (heap_setBlock_same hw2 _).trans ha, Fa, sa, Da⟩
end Go.Proofs.Ytplaicdbcfnjbaa
