/- twice, of references: does something come twice? -/
import Derived.Test.YtplaicdbcfnjbaaV24
import Derived.Deep.RegionHeld
set_option linter.unusedSimpArgs false
set_option linter.unusedVariables false
namespace Go.Proofs.Ytplaicdbcfnjbaa
open Go.RowKit Go.Maps
set_option linter.unusedVariables false
set_option maxRecDepth 100000
def RowP (w : World) (A : Option Addr) (n : Nat) (f : Nat → Int × Int) : Prop := 0 < n → ∃ g, A = some ⟨g, 0, none⟩ ∧ g < w.heap.size ∧ ∀ k, k < n → w.cell? ⟨g, k * 2, none⟩ = some (.int .i64 (f k).1) ∧ w.cell? ⟨g, k * 2 + 1, none⟩ = some (.int .i64 (f k).2)
theorem pcells_at : ∀ (l : List (Int × Int)) (k : Nat), k < l.length → (pcells l)[k * 2]? = some (.int .i64 (l.getD k (0, 0)).1) ∧ (pcells l)[k * 2 + 1]? = some (.int .i64 (l.getD k (0, 0)).2)
  | [], k, h => absurd h (by simp)
  | r :: l, 0, _ => ⟨rfl, rfl⟩
  | r :: l, k + 1, h => by
    have ih := pcells_at l k (by simpa using h)
    rw [show (k + 1) * 2 = k * 2 + 1 + 1 by omega]
    exact ih
theorem OwnR.row {w : World} {base : Nat} {v : Value} {l : List (Int × Int)} (h : OwnR w base v l) : ∃ A cap, v = .slice A l.length cap ∧ RowP w A l.length (fun k => l.getD k (0, 0)) := by
  obtain ⟨h1, h2⟩ := h
  rcases h2 with ⟨e, e0⟩ | ⟨g, cap, cur, hv, hg, hh, hc, hm, hs, ht⟩
  · exact ⟨none, 0, by rw [e, e0], fun h => absurd h (by omega)⟩
  · refine ⟨some ⟨g, 0, none⟩, cap, hv, fun _ => ⟨g, rfl, ?_, fun k hk => ?_⟩⟩
    · apply Nat.lt_of_not_le
      intro hge
      simp [Array.getElem?_eq_none hge] at hh
    · have key : ∀ j, j < l.length * 2 → w.cell? ⟨g, j, none⟩ = (pcells l)[j]? := fun j hj => by
        rw [cell_of_row w g _ cur 23 (0, 0) hh, ← ht, List.getElem?_take, if_pos hj, Array.getElem?_toList]
      obtain ⟨p1, p2⟩ := pcells_at l k hk
      exact ⟨(key _ (by omega)).trans p1, (key _ (by omega)).trans p2⟩
theorem RowP.new {w w' : World} {A : Option Addr} {n : Nat} {f : Nat → Int × Int} (h : RowP w A n f) (m : New w w') : RowP w' A n f := fun h0 => by
  obtain ⟨g, e, hg, hc⟩ := h h0
  exact ⟨g, e, Nat.lt_of_lt_of_le hg m.lt, fun k hk => ⟨(m.cell (p := ⟨g, k * 2, none⟩) hg).trans (hc k hk).1, (m.cell (p := ⟨g, k * 2 + 1, none⟩) hg).trans (hc k hk).2⟩⟩
theorem getD_range2 (l : List (Int × Int)) : (List.range l.length).map (fun k => l.getD k (0, 0)) = l := by
  apply List.ext_getElem
  · simp
  · intro i h1 h2
    simp [List.getD_eq_getElem?_getD, List.getElem?_eq_getElem h2]
theorem ld_pair {w : World} {g i : Nat} {x : Int × Int} (h0 : w.cell? ⟨g, i, none⟩ = some (.int .i64 x.1)) (h1 : w.cell? ⟨g, i + 1, none⟩ = some (.int .i64 x.2)) : (Instr.loadAt 23 (.pointer (some ⟨g, i, none⟩))).run Try.prog w = .ok (pv x) w := by
  refine run_loadAt_mid w g i 23 [.int .i64 x.1, .int .i64 x.2] _ (fun j v hj => ?_) Try.underlying23 rfl size23
  have hj8 : j < 2 := (List.getElem?_eq_some_iff.1 hj).1
  rw [← hj]
  match j, hj8 with
  | 0, _ => exact h0
  | 1, _ => exact h1
theorem wrap_up {c : Nat} (h : c ≤ 4000000) : IntKind.i64.wrap ((c : Int) + 1) = (c : Int) + 1 := by unfold IntKind.wrap; simp [IntKind.signed, IntKind.bits]; omega
theorem wp_lookE {o : Oper} {a : Act} {w : World} {K : Act → World → Prop} {Q : Exit → Act → World → Prop} {m x : Operand} {b : Nat} {y v : Value} (hop : o.op = .lookup 66 m x false) (hm : a.eval m = .map (some b)) (hx : a.eval x = y)
    (hrun : (Instr.lookup 66 (.map (some b)) y false).run Try.prog w = .ok v w) (hk : K (a.put o.dst v) w) : o.wp Try.prog a w K Q := by
  unfold Oper.wp execOp
  simp only [hop, hm, hx, Sem.run_bind, Sem.run_pure, Result.andThen_ok, hrun]
  exact hk
theorem wp_entE {o : Oper} {a : Act} {w w1 : World} {K : Act → World → Prop} {Q : Exit → Act → World → Prop} {m x : Operand} {b : Nat} {y v : Value} (hop : o.op = .mapEntry 66 m x) (hm : a.eval m = .map (some b)) (hx : a.eval x = y)
    (hrun : (Instr.mapEntry 66 (.map (some b)) y).run Try.prog w = .ok v w1) (hk : K (a.put o.dst v) w1) : o.wp Try.prog a w K Q := by
  unfold Oper.wp execOp
  simp only [hop, hm, hx, Sem.run_bind, Sem.run_pure, Result.andThen_ok, hrun]
  exact hk
theorem wp_stoE {o : Oper} {a : Act} {w w1 : World} {K : Act → World → Prop} {Q : Exit → Act → World → Prop} {m s x : Operand} {b : Nat} {st v : Value} (hop : o.op = .entryStore 66 m s x) (hm : a.eval m = .map (some b)) (hs : a.eval s = st) (hx : a.eval x = v)
    (hrun : (Instr.entryStore 66 (.map (some b)) st v).run Try.prog w = .ok () w1) (hk : K (a.put o.dst undef) w1) : o.wp Try.prog a w K Q := by
  unfold Oper.wp execOp
  simp only [hop, hm, hs, hx, Sem.run_bind, Sem.run_pure, Result.andThen_ok, hrun]
  exact hk
attribute [local irreducible] Go.wpList
set_option maxHeartbeats 2000000 in
theorem twice30 (A : Option Addr) (cap n : Nat) (f : Nat → Int × Int) (w : World) (hA : RowP w A n f) (hi : ∀ k, k < n → pok (f k)) (hn : n ≤ 4000000) :
    Calls Try.prog 30 #[.slice A n cap] w fun e w' => e = .returned (.bool (!decide ((List.range n).map f).Nodup)) ∧ New w w' := by
  have HA := Lib.hid hA
  have HI := Lib.hid hi
  have hmm := @run_makeMap Try.prog
  obtain ⟨res, hres⟩ : ∃ res, res = !decide ((List.range n).map f).Nodup := ⟨_, rfl⟩
  rw [← hres]
  replace hres := Lib.hid hres
  clear hA hi
  go_enter Try.func30, Try.ntmps30
  go_wp2_with fail
  go_loopg [11] n (fun z i wr => ∃ (k : Nat) (L : List (Int × Int)), k + z = n ∧ i = .int .i64 k ∧ Hid (New w wr) ∧ Hid (L = (List.range k).map f) ∧ L.length = k ∧ Hid (CM 23 pl pok wr w.heap.size k L))
  case atStart => exact ⟨0, [], by omega, rfl, Lib.hid ((New.refl _).alloc _), Lib.hid rfl, rfl, Lib.hid (CM.made w)⟩
  case round =>
    obtain ⟨k, L, hk, rfl, NW, hL, hl, CMk⟩ := hrel
    by_cases hkn : k < n
    · obtain ⟨g, rfl, hg, hc⟩ := (HA.out.new NW.out) (by omega)
      have x0 := (hc k hkn).1
      have x1 := (hc k hkn).2
      have hx := Lib.hid (HI.out k hkn)
      have hkn' : (k : Int) < n := by omega
      have hs : Hid (L ++ [f k] = (List.range (k + 1)).map f) := Lib.hid (by rw [List.range_succ, List.map_append, ← hL.out]; rfl)
      generalize f k = x at *
      obtain ⟨a0, a1⟩ := x
      have hlm : Hid (L.length ≤ 4000000) := Lib.hid (by omega)
      have C8 := Lib.hid (CMk.out.new (((New.refl wr).alloc (.cells #[.int .i64 a0, .int .i64 a1] 23)).drew))
      have B8 := Lib.hid (show Box (wr.alloc (.cells #[.int .i64 a0, .int .i64 a1] 23)).drew wr.heap.size 23 #[.int .i64 a0, .int .i64 a1] from Box.made wr 23 _)
      have N8 := Lib.hid (NW.out.trans (((New.refl wr).alloc (.cells #[.int .i64 a0, .int .i64 a1] 23)).drew))
      have hb := Lib.hid CMk.out.lt
      have L8 : (Instr.lookup 66 (.map (some w.heap.size)) (pv (a0, a1)) false).run Try.prog (wr.alloc (.cells #[.int .i64 a0, .int .i64 a1] 23)).drew = .ok (.int .i64 (cp L (a0, a1) : Nat)) (wr.alloc (.cells #[.int .i64 a0, .int .i64 a1] 23)).drew := CM.look kit23 Try.underlying66 C8.out hx.out
      obtain ⟨v0, st, es1, clock1, r1, r2, r3, r4, r5⟩ := entry_facts C8.out hx.out (by unfold maxLen; omega) hlm.out
      obtain ⟨c, hc9⟩ : ∃ c, cp L (a0, a1) = c := ⟨_, rfl⟩
      have hcb : c ≤ 4000000 := by
        have : cp L (a0, a1) ≤ L.length := @List.count_le_length _ instBEqOfDecidableEq (a0, a1) L
        have := hlm.out
        omega
      have WR := Lib.hid (wrap_up hcb)
      rw [hc9] at r2 r5 L8
      replace L8 := Lib.hid L8
      clear hc
      replace hl := Lib.hid hl
      replace r1 := Lib.hid r1
      replace r2 := Lib.hid r2
      replace r3 := Lib.hid r3
      replace r4 := Lib.hid r4
      replace r5 := Lib.hid r5
      go_wp2_with fail
      refine wp_region_held_drew (S := (fun w' => Box w' wr.heap.size 23 #[.int .i64 a0, .int .i64 a1])) (by kernel_rfl) B8.out (fun hH => ?_)
      refine wpAnyH_take (i := 0) (oi := { dst := some 15, op := Go.Op.move (Go.Operand.tmp 3), type := 66, pos := "hist.go:29", after := #[], guard := none }) (v := ?_) rfl (by kernel_rfl) (by kernel_rfl) (by kernel_rfl) (fun _ _ _ h => h) (Or.inl ⟨by rfl, ?_⟩) hH ?_
      rotate_left; (intro w5 hS5; go_simp; try rfl)
      try simp only [Act.put, List.setIfInBounds_toArray, List.set_cons_zero, List.set_cons_succ]
      refine wpAnyH_take (i := 1) (oi := { dst := some 16, op := Go.Op.load 23 (Go.Operand.tmp 5), type := 23, pos := "hist.go:29", after := #[], guard := none }) (v := pv (a0, a1)) rfl (by kernel_rfl) (by kernel_rfl) (by kernel_rfl) (fun _ _ _ h => h) (Or.inl ⟨by rfl, ?_⟩) hH ?_
      (intro w5 hS5; exact yl_ld (x := .tmp 5) rfl rfl (ld_pair (hS5.cell 0) (hS5.cell 1)))
      try simp only [Act.put, List.setIfInBounds_toArray, List.set_cons_zero, List.set_cons_succ]
      refine wpAnyH_ready (rs := [2, 4]) (by kernel_rfl) (by simp) ?_
      refine AllReadyH.cons (o := { dst := some 17, op := Go.Op.lookup 66 (Go.Operand.tmp 15) (Go.Operand.tmp 16) false, type := 3, pos := "hist.go:29", after := #[{ on := 0, ground := Go.Ground.data }, { on := 1, ground := Go.Ground.data }], guard := none }) rfl (fun K5 hK5 => ?_) (AllReadyH.cons (o := { dst := some 19, op := Go.Op.mapEntry 66 (Go.Operand.tmp 15) (Go.Operand.tmp 16), type := 0, pos := "hist.go:29", after := #[{ on := 0, ground := Go.Ground.data }, { on := 1, ground := Go.Ground.data }, { on := 0, ground := Go.Ground.phase }, { on := 1, ground := Go.Ground.phase }, { on := 2, ground := Go.Ground.textOnly Go.Departure.mapOpAssignEntry }, { on := 3, ground := Go.Ground.textOnly Go.Departure.mapOpAssignEntry }], guard := none }) rfl (fun K5 hK5 => ?_) AllReadyH.nil)
      · rw [if_pos (by rfl)]
        refine wp_lookE (m := .tmp 15) (x := .tmp 16) rfl rfl rfl L8.out ?_
        refine hK5.out _ _ hH (fun hH1 => ?_)
        clear hK5 K5
        try simp only [Act.put, List.setIfInBounds_toArray, List.set_cons_zero, List.set_cons_succ]
        refine wpAnyH_take (i := 3) (oi := { dst := some 18, op := Go.Op.binOp Go.BinOp.add 3 (Go.Operand.tmp 17) (Go.Operand.const (Go.Value.int Go.IntKind.i64 1)) 3, type := 3, pos := "hist.go:29", after := #[{ on := 2, ground := Go.Ground.data }], guard := none }) (v := .int .i64 ((c : Nat) + 1)) rfl (by kernel_rfl) (by kernel_rfl) (by kernel_rfl) (fun _ _ _ h => h) (Or.inl ⟨by rfl, ?_⟩) hH1 ?_
        (intro w5 hS5; go_simp; exact WR.out)
        try simp only [Act.put, List.setIfInBounds_toArray, List.set_cons_zero, List.set_cons_succ]
        refine wpAnyH_ready (rs := [4]) (by kernel_rfl) (by simp) ?_
        refine AllReadyH.cons (o := { dst := some 19, op := Go.Op.mapEntry 66 (Go.Operand.tmp 15) (Go.Operand.tmp 16), type := 0, pos := "hist.go:29", after := #[{ on := 0, ground := Go.Ground.data }, { on := 1, ground := Go.Ground.data }, { on := 0, ground := Go.Ground.phase }, { on := 1, ground := Go.Ground.phase }, { on := 2, ground := Go.Ground.textOnly Go.Departure.mapOpAssignEntry }, { on := 3, ground := Go.Ground.textOnly Go.Departure.mapOpAssignEntry }], guard := none }) rfl (fun K5 hK5 => ?_) AllReadyH.nil
        rw [if_pos (by rfl)]
        refine wp_entE (m := .tmp 15) (x := .tmp 16) rfl rfl rfl r1.out ?_
        refine hK5.out _ _ ((show Box _ _ _ _ from hH1).grown r4.out (by have := hb.out; simp; omega)) (fun hH2 => ?_)
        clear hK5 K5
        try simp only [Act.put, List.setIfInBounds_toArray, List.set_cons_zero, List.set_cons_succ]
        refine wpAnyH_take (i := 5) (oi := { dst := some 20, op := Go.Op.extract (Go.Operand.tmp 19) 1, type := 3, pos := "hist.go:29", after := #[{ on := 4, ground := Go.Ground.data }], guard := none }) (v := .int .i64 (st : Nat)) rfl (by kernel_rfl) (by kernel_rfl) (by kernel_rfl) (fun _ _ _ h => h) (Or.inl ⟨by rfl, ?_⟩) hH2 ?_
        (intro w5 hS5; go_simp; try rfl)
        try simp only [Act.put, List.setIfInBounds_toArray, List.set_cons_zero, List.set_cons_succ]
        obtain ⟨w3, u1, u2, u3⟩ := r5.out _ r3.out
        refine wpAnyH_ready (rs := [6]) (by kernel_rfl) (by simp) ?_
        refine AllReadyH.cons (o := { dst := none, op := Go.Op.entryStore 66 (Go.Operand.tmp 15) (Go.Operand.tmp 20) (Go.Operand.tmp 18), type := 0, pos := "hist.go:29", after := #[{ on := 0, ground := Go.Ground.data }, { on := 5, ground := Go.Ground.data }, { on := 3, ground := Go.Ground.data }, { on := 4, ground := Go.Ground.chain }, { on := 0, ground := Go.Ground.phase }, { on := 1, ground := Go.Ground.phase }, { on := 2, ground := Go.Ground.phase }, { on := 3, ground := Go.Ground.phase }, { on := 4, ground := Go.Ground.phase }, { on := 5, ground := Go.Ground.phase }], guard := none }) rfl (fun K5 hK5 => ?_) AllReadyH.nil
        rw [if_pos (by rfl)]
        refine wp_stoE (m := .tmp 15) (s := .tmp 20) (x := .tmp 18) rfl rfl rfl rfl u1 ?_
        refine hK5.out _ _ ((show Box _ _ _ _ from hH2).grown u3 (by have := hb.out; simp; omega)) (fun hH9 => ?_)
        clear hK5 K5
        try simp only [Act.put, List.setIfInBounds_toArray, List.set_cons_zero, List.set_cons_succ]
        refine wpAnyH_done (by kernel_rfl) ?_ _
        have HF := Lib.hid (⟨u2, ((N8.out.grown r4.out (fun b e => by cases e; exact Nat.le_refl _)).grown u3 (fun b e => by cases e; exact Nat.le_refl _))⟩ : _ ∧ New w w3)
        clear hH9 u1 u2 u3 r1 r2 r3 r4 r5 L8 C8 B8 N8 CMk NW
        go_wp2_with fail
        go_roundg (gk - 1)
        case rel => exact ⟨k + 1, L ++ [(a0, a1)], by omega, by go_num, Lib.hid HF.out.2, hs, by rw [List.length_append, hl.out]; rfl, Lib.hid HF.out.1⟩
        case measure => omega
      · rw [if_pos (by rfl)]
        refine wp_entE (m := .tmp 15) (x := .tmp 16) rfl rfl rfl r1.out ?_
        refine hK5.out _ _ ((show Box _ _ _ _ from hH).grown r4.out (by have := hb.out; simp; omega)) (fun hH1 => ?_)
        clear hK5 K5
        try simp only [Act.put, List.setIfInBounds_toArray, List.set_cons_zero, List.set_cons_succ]
        refine wpAnyH_take (i := 5) (oi := { dst := some 20, op := Go.Op.extract (Go.Operand.tmp 19) 1, type := 3, pos := "hist.go:29", after := #[{ on := 4, ground := Go.Ground.data }], guard := none }) (v := .int .i64 (st : Nat)) rfl (by kernel_rfl) (by kernel_rfl) (by kernel_rfl) (fun _ _ _ h => h) (Or.inl ⟨by rfl, ?_⟩) hH1 ?_
        (intro w5 hS5; go_simp; try rfl)
        try simp only [Act.put, List.setIfInBounds_toArray, List.set_cons_zero, List.set_cons_succ]
        refine wpAnyH_ready (rs := [2]) (by kernel_rfl) (by simp) ?_
        refine AllReadyH.cons (o := { dst := some 17, op := Go.Op.lookup 66 (Go.Operand.tmp 15) (Go.Operand.tmp 16) false, type := 3, pos := "hist.go:29", after := #[{ on := 0, ground := Go.Ground.data }, { on := 1, ground := Go.Ground.data }], guard := none }) rfl (fun K5 hK5 => ?_) AllReadyH.nil
        rw [if_pos (by rfl)]
        refine wp_lookE (m := .tmp 15) (x := .tmp 16) rfl rfl rfl r2.out ?_
        refine hK5.out _ _ hH1 (fun hH2 => ?_)
        clear hK5 K5
        try simp only [Act.put, List.setIfInBounds_toArray, List.set_cons_zero, List.set_cons_succ]
        refine wpAnyH_take (i := 3) (oi := { dst := some 18, op := Go.Op.binOp Go.BinOp.add 3 (Go.Operand.tmp 17) (Go.Operand.const (Go.Value.int Go.IntKind.i64 1)) 3, type := 3, pos := "hist.go:29", after := #[{ on := 2, ground := Go.Ground.data }], guard := none }) (v := .int .i64 ((c : Nat) + 1)) rfl (by kernel_rfl) (by kernel_rfl) (by kernel_rfl) (fun _ _ _ h => h) (Or.inl ⟨by rfl, ?_⟩) hH2 ?_
        (intro w5 hS5; go_simp; exact WR.out)
        try simp only [Act.put, List.setIfInBounds_toArray, List.set_cons_zero, List.set_cons_succ]
        obtain ⟨w3, u1, u2, u3⟩ := r5.out _ r3.out
        refine wpAnyH_ready (rs := [6]) (by kernel_rfl) (by simp) ?_
        refine AllReadyH.cons (o := { dst := none, op := Go.Op.entryStore 66 (Go.Operand.tmp 15) (Go.Operand.tmp 20) (Go.Operand.tmp 18), type := 0, pos := "hist.go:29", after := #[{ on := 0, ground := Go.Ground.data }, { on := 5, ground := Go.Ground.data }, { on := 3, ground := Go.Ground.data }, { on := 4, ground := Go.Ground.chain }, { on := 0, ground := Go.Ground.phase }, { on := 1, ground := Go.Ground.phase }, { on := 2, ground := Go.Ground.phase }, { on := 3, ground := Go.Ground.phase }, { on := 4, ground := Go.Ground.phase }, { on := 5, ground := Go.Ground.phase }], guard := none }) rfl (fun K5 hK5 => ?_) AllReadyH.nil
        rw [if_pos (by rfl)]
        refine wp_stoE (m := .tmp 15) (s := .tmp 20) (x := .tmp 18) rfl rfl rfl rfl u1 ?_
        refine hK5.out _ _ ((show Box _ _ _ _ from hH2).grown u3 (by have := hb.out; simp; omega)) (fun hH9 => ?_)
        clear hK5 K5
        try simp only [Act.put, List.setIfInBounds_toArray, List.set_cons_zero, List.set_cons_succ]
        refine wpAnyH_done (by kernel_rfl) ?_ _
        have HF := Lib.hid (⟨u2, ((N8.out.grown r4.out (fun b e => by cases e; exact Nat.le_refl _)).grown u3 (fun b e => by cases e; exact Nat.le_refl _))⟩ : _ ∧ New w w3)
        clear hH9 u1 u2 u3 r1 r2 r3 r4 r5 L8 C8 B8 N8 CMk NW
        go_wp2_with fail
        go_roundg (gk - 1)
        case rel => exact ⟨k + 1, L ++ [(a0, a1)], by omega, by go_num, Lib.hid HF.out.2, hs, by rw [List.length_append, hl.out]; rfl, Lib.hid HF.out.1⟩
        case measure => omega
    · have hkL : k = n := by omega
      subst hkL
      replace hl := Lib.hid hl
      go_wp2_with (first | (refine wpl_range kit23 Try.underlying66 (m := .tmp 22) rfl rfl rfl CMk.out ?_; intro w2 cnt2 R2 n2; replace R2 := Lib.hid R2; replace n2 := Lib.hid n2))
      go_frame
      go_loopg [7] cnt2 (fun z s7 wq => ∃ cnt, cnt = z ∧ Hid (CR 23 pl wq w.heap.size wr.heap.size k L cnt) ∧ Hid (New wr wq))
      case atStart => exact ⟨cnt2, rfl, R2, n2⟩
      case round =>
        rename_i wq0 _ _ _ _
        obtain ⟨cnt, hz, R3, n3⟩ := hrel
        go_wp2_with (first | (refine wpl_next kit23 (it := .tmp 23) rfl rfl rfl R3.out ?_ ?_))
        case refine_1 =>
          intro hnd
          replace hnd := Lib.hid hnd
          go_wp2
          go_ret
          exact ⟨by rw [hres.out, ← hL.out]; simp [hnd.out], NW.out.trans n3.out⟩
        case refine_2 =>
          intro key c w4 cnt4 h1 h2 hlt hg4 hen
          replace h1 := Lib.hid h1
          replace h2 := Lib.hid h2
          replace hg4 := Lib.hid hg4
          by_cases hc : 1 < c
          · go_wp2_with fail
            go_ret
            exact ⟨by rw [hres.out, ← hL.out]; simp [h1.out hc], (NW.out.trans n3.out).grown hg4.out (fun b e => by cases e; exact NW.out.lt)⟩
          · go_wp2_with fail
            go_roundg cnt4
            case rel => exact ⟨cnt4, rfl, Lib.hid (h2.out (by omega)), Lib.hid (n3.out.grown hg4.out (fun b e => by cases e; exact Nat.le_refl _))⟩
            case measure => omega
end Go.Proofs.Ytplaicdbcfnjbaa
/- Check: the program's own. -/
namespace Go.Proofs.Ytplaicdbcfnjbaa
open Go.RowKit Go.Maps
set_option linter.unusedVariables false
set_option maxRecDepth 100000
theorem own_types {w : World} {b1 b2 : Nat} {e1 e2 : TypeId} {s1 s2 n1 n2 : Nat} {v1 v2 : Value} {x1 x2 : List Value} (h1 : w.ownsRow b1 e1 s1 v1 n1 x1) (h2 : w.ownsRow b2 e2 s2 v2 n2 x2) (he : e1 ≠ e2) : v2.ownBlock = none ∨ v2.ownBlock ≠ v1.ownBlock := by
  rcases h2.2 with ⟨rfl, _⟩ | ⟨g, cap, cur, rfl, hg, hh, _⟩
  · exact .inl rfl
  · refine .inr fun e => ?_
    rcases h1.2 with ⟨rfl, _⟩ | ⟨g', cap', cur', rfl, hg', hh', _⟩
    · cases e
    · have e' : some g = some g' := e
      injection e' with e'
      subst e'
      rw [hh] at hh'
      injection hh' with hh'
      injection hh' with _ hh'
      exact he hh'.symm
theorem twiceR {w : World} {base : Nat} {v : Value} {l : List (Int × Int)} (h : OwnR w base v l) (hi : ∀ x ∈ l, pok x) (hl : l.length ≤ 4000000) (b : Bool) (hb : b = !decide l.Nodup) :
    Calls Try.prog 30 #[v] w fun e w' => e = .returned (.bool b) ∧ New w w' := by
  obtain ⟨A, cap, rfl, hr⟩ := h.row
  have := twice30 A cap l.length _ w hr (fun k hk => by
    rw [List.getD_eq_getElem?_getD, List.getElem?_eq_getElem hk]
    exact hi _ (List.getElem_mem hk)) hl
  rw [getD_range2, ← hb] at this
  exact this
theorem twiceI {w : World} {base : Nat} {v : Value} {l : List Int} (h : OwnI w base v l) (hi : ∀ x ∈ l, i64 x) (hl : l.length ≤ 4000000) (b : Bool) (hb : b = !decide l.Nodup) :
    Calls Try.prog 31 #[v] w fun e w' => e = .returned (.bool b) ∧ New w w' := by
  obtain ⟨A, cap, rfl, hr⟩ := h.row
  have := twice31 A cap l.length _ w hr (fun k hk => by
    rw [List.getD_eq_getElem?_getD, List.getElem?_eq_getElem hk]
    exact hi _ (List.getElem_mem hk)) hl
  rw [getD_range, ← hb] at this
  exact this
attribute [local irreducible] Go.wpList
set_option maxHeartbeats 4000000 in
theorem check_any (f n : Nat) (o : Nat → OD) (A : Option Addr) (cap : Nat) (w : World) (hA : RowO w f A n o) (hn : n ≤ 40) (hi : ∀ i, i < n → i64 (o i).r0 ∧ i64 (o i).r1 ∧ i64 (o i).s ∧ i64 (o i).e) :
    Calls Try.prog 14 #[.slice A n cap] w fun e w' => e = .returned (.int .i64 (chkR n o)) ∧ New w w' := by
  have HA := Lib.hid hA
  have HI := Lib.hid hi
  obtain ⟨res, hres⟩ : ∃ res, res = chkR n o := ⟨_, rfl⟩
  rw [← hres]
  replace hres := Lib.hid hres
  clear hA hi
  go_enter Try.func14, Try.ntmps14
  go_wp2_with fail
  go_loopg [9, 3, 4] n (fun z i vr vt wr => ∃ (k : Nat), k + z = n ∧ i = .int .i64 k ∧ Hid (New w wr) ∧ Hid (OwnR wr w.heap.size vr (refL o k)) ∧ Hid (OwnI wr w.heap.size vt (timL o k)) ∧ Hid (∀ j, j < k → badR (o j) = false))
  case atStart => exact ⟨0, by omega, rfl, Lib.hid (New.refl _), Lib.hid (World.ownsRow_nil _ _ _ _), Lib.hid (World.ownsRow_nil _ _ _ _), Lib.hid (fun j hj => absurd hj (by omega))⟩
  case round =>
    obtain ⟨k, hk, rfl, NW, OR, OI, BD⟩ := hrel
    by_cases hkn : k < n
    · obtain ⟨ad, rfl, ca⟩ := HA.out.2.2 (by omega)
      have L1 := Lib.hid ((ca k hkn).new NW.out)
      have hkn' : (k : Int) < n := by omega
      have I1 := Lib.hid (ocs_op (o k))
      have C29 := Lib.hid (fun w' => ranged_any (ocs (o k)) (o k).s (o k).e w' rfl rfl)
      have B1 := Lib.hid (Box.made wr 36 (ocs (o k)))
      have N1 := Lib.hid ((New.refl wr).alloc (.cells (ocs (o k)) 36))
      have F17 := Lib.hid (show (ocs (o k))[17]? = some (.int .i64 (o k).s) from rfl)
      have F18 := Lib.hid (show (ocs (o k))[18]? = some (.int .i64 (o k).e) from rfl)
      have F0 := Lib.hid (show (ocs (o k))[0]? = some (.int .i64 (o k).r0) from rfl)
      have F1 := Lib.hid (show (ocs (o k))[1]? = some (.int .i64 (o k).r1) from rfl)
      have RB := Lib.hid (rng_bad (o k))
      have YES := Lib.hid (fun (h : badR (o k) = true) => chk_a (n := n) (o := o) k hkn h)
      have MO1 := Lib.hid (show badR (o k) = false → ∀ j, j < k + 1 → badR (o j) = false from fun h => more_no (p := fun j => badR (o j)) BD.out h)
      have SR := Lib.hid (show refL o (k + 1) = refL o k ++ [((o k).r0, (o k).r1)] from rfl)
      have ST := Lib.hid (show timL o (k + 1) = if (o k).e = -1 then timL o k ++ [(o k).s] else (timL o k ++ [(o k).s]) ++ [(o k).e] from rfl)
      have LR := Lib.hid (refL_len o k)
      have LT := Lib.hid (timL_len o k)
      clear ca
      generalize badR (o k) = bad at *
      generalize ocs (o k) = r at *
      generalize (o k).r0 = a0 at *
      generalize (o k).r1 = a1 at *
      generalize (o k).s = s at *
      generalize (o k).e = e at *
      generalize refL o k = lr at *
      generalize timL o k = lt at *
      generalize rngB s e = rb at *
      generalize hw1 : wr.alloc (.cells r 36) = wb at *
      have lo1 := Lib.hid (fun b hb => (OR.out.lt b hb))
      have lo2 := Lib.hid (fun b hb => (OI.out.lt b hb))
      have lw := Lib.hid NW.out.lt
      cases rb
      · have hc : res = 3 := by rw [hres.out]; exact YES.out (by cases bad with | true => rfl | false => exact absurd RB.out (by decide))
        subst hc
        go_wp2_with (first | (refine wpl_load rfl rfl L1.out rfl ?_; clear L1) | (have tk_ := I1; refine wpl_store rfl rfl rfl rfl I1.out rfl ?_; rw [hw1]; clear tk_) | (have tk_ := F0; refine wpl_ld (t := 36) rfl rfl (lda_at _ _ _ (opat_box B1.out I1.out)) rfl ?_; clear F0 tk_) | (go_at_call 29; refine (C29.out _).mono ?_; rintro x w2 ⟨rfl, n2⟩; replace n2 := Lib.hid n2))
        go_ret
        exact ⟨rfl, NW.out.trans (N1.out.trans n2.out)⟩
      · have hbad : bad = false := by cases bad with | false => rfl | true => exact absurd RB.out (by decide)
        subst hbad
        have MO2 := Lib.hid (MO1.out rfl)
        clear MO1 YES RB
        by_cases he : e = -1
        · rw [if_pos he] at ST
          subst he
          go_wp2_with (first | (refine wpl_load rfl rfl L1.out rfl ?_; clear L1) | (have tk_ := I1; refine wpl_store rfl rfl rfl rfl I1.out rfl ?_; rw [hw1]; clear tk_) | (have tk_ := F0; refine wpl_ld (t := 36) rfl rfl (lda_at _ _ _ (opat_box B1.out I1.out)) rfl ?_) | (go_at_call 29; refine (C29.out _).mono ?_; rintro x w2 ⟨rfl, n2⟩; replace n2 := Lib.hid n2; have m2 := Lib.hid (N1.out.trans n2.out)) | (refine wpl_ld (t := 23) rfl rfl (lda_two (B1.out.new n2.out) (i := 0) F0.out F1.out Try.underlying23 rfl size23) rfl ?_) | (refine wpl_putr rfl (.tmp 16) (.tmp 19) rfl _ lr w.heap.size (a0, a1) rfl (own_new OR.out m2.out) rfl (by have := LR.out; omega) (by have := m2.out.lt; have := lw.out; omega) ?_; intro v1 w3 o3 g3; have nB := ((New.refl w2).alloc (.cells #[.int .i64 a0, .int .i64 a1] 23)); have B3 := Lib.hid (((B1.out.new n2.out).new nB).grown g3 (fun e => by have := (lo1.out _ e.symm).2; omega)); have I3 := Lib.hid (own_new (own_new OI.out m2.out) nB |>.kept g3 (own_types OR.out OI.out (by decide))); have p17 := (B3.out.cell 17).trans F17.out; have W3 := Lib.hid (((NW.out.trans m2.out).trans nB).grown g3 (fun b e => (lo1.out _ e).1)); have O3 := Lib.hid o3; clear nB g3 o3) | (refine wpl_puti rfl (.tmp 21) (.tmp 24) rfl _ lt w.heap.size s rfl I3.out rfl (by have := LT.out; omega) (by have := W3.out.lt; omega) ?_; intro v2 w4 o4 g4; clear p17; have nB := ((New.refl w3).alloc (.cells #[.int .i64 s] 3)); have B4 := Lib.hid ((B3.out.new nB).grown g4 (fun e => by have := (lo2.out _ e.symm).2; omega)); have O4 := Lib.hid ((own_new O3.out nB).kept g4 (own_types I3.out O3.out (by decide))); have p18 := (B4.out.cell 18).trans F18.out; have W4 := Lib.hid ((W3.out.trans nB).grown g4 (fun b e => (lo2.out _ e).1)); have HF := Lib.hid (⟨W4.out, O4.out, o4, B4.out⟩ : _ ∧ _ ∧ _ ∧ _); clear nB g4 o4))
          go_roundg (gk - 1)
          case rel => exact ⟨k + 1, by omega, by go_num, Lib.hid HF.out.1, Lib.hid (by rw [SR.out]; exact HF.out.2.1), Lib.hid (by rw [ST.out]; exact HF.out.2.2.1), MO2⟩
          case measure => omega
        · rw [if_neg he] at ST
          go_wp2_with (first | (refine wpl_load rfl rfl L1.out rfl ?_; clear L1) | (have tk_ := I1; refine wpl_store rfl rfl rfl rfl I1.out rfl ?_; rw [hw1]; clear tk_) | (have tk_ := F0; refine wpl_ld (t := 36) rfl rfl (lda_at _ _ _ (opat_box B1.out I1.out)) rfl ?_) | (go_at_call 29; refine (C29.out _).mono ?_; rintro x w2 ⟨rfl, n2⟩; replace n2 := Lib.hid n2; have m2 := Lib.hid (N1.out.trans n2.out)) | (refine wpl_ld (t := 23) rfl rfl (lda_two (B1.out.new n2.out) (i := 0) F0.out F1.out Try.underlying23 rfl size23) rfl ?_) | (refine wpl_putr rfl (.tmp 16) (.tmp 19) rfl _ lr w.heap.size (a0, a1) rfl (own_new OR.out m2.out) rfl (by have := LR.out; omega) (by have := m2.out.lt; have := lw.out; omega) ?_; intro v1 w3 o3 g3; have nB := ((New.refl w2).alloc (.cells #[.int .i64 a0, .int .i64 a1] 23)); have B3 := Lib.hid (((B1.out.new n2.out).new nB).grown g3 (fun e => by have := (lo1.out _ e.symm).2; omega)); have I3 := Lib.hid (own_new (own_new OI.out m2.out) nB |>.kept g3 (own_types OR.out OI.out (by decide))); have p17 := (B3.out.cell 17).trans F17.out; have W3 := Lib.hid (((NW.out.trans m2.out).trans nB).grown g3 (fun b e => (lo1.out _ e).1)); have O3 := Lib.hid o3; clear nB g3 o3) | (refine wpl_puti rfl (.tmp 21) (.tmp 24) rfl _ lt w.heap.size s rfl I3.out rfl (by have := LT.out; omega) (by have := W3.out.lt; omega) ?_; intro v2 w4 o4 g4; clear p17; have nB := ((New.refl w3).alloc (.cells #[.int .i64 s] 3)); have B4 := Lib.hid ((B3.out.new nB).grown g4 (fun e => by have := (lo2.out _ e.symm).2; omega)); have O4 := Lib.hid ((own_new O3.out nB).kept g4 (own_types I3.out O3.out (by decide))); have p18 := (B4.out.cell 18).trans F18.out; have W4 := Lib.hid ((W3.out.trans nB).grown g4 (fun b e => (lo2.out _ e).1)); have HF := Lib.hid (⟨W4.out, O4.out, o4, B4.out⟩ : _ ∧ _ ∧ _ ∧ _); clear nB g4 o4) | (refine wpl_puti rfl (.tmp 29) (.tmp 32) rfl _ (lt ++ [s]) w.heap.size e rfl HF.out.2.2.1 rfl (by have := LT.out; rw [List.length_append, List.length_singleton]; omega) (by have := HF.out.1.lt; omega) ?_; intro v5 w5 o5 g5; clear p18; have nB := ((New.refl w4).alloc (.cells #[.int .i64 e] 3)); have O5 := Lib.hid ((own_new HF.out.2.1 nB).kept g5 (own_types HF.out.2.2.1 HF.out.2.1 (by decide))); have W5 := Lib.hid ((HF.out.1.trans nB).grown g5 (fun b e => (HF.out.2.2.1.lt _ e).1)); have HG := Lib.hid (⟨W5.out, O5.out, o5⟩ : _ ∧ _ ∧ _); clear nB g5 o5))
          go_roundg (gk - 1)
          case rel => exact ⟨k + 1, by omega, by go_num, Lib.hid HG.out.1, Lib.hid (by rw [SR.out]; exact HG.out.2.1), Lib.hid (by rw [ST.out]; exact HG.out.2.2), MO2⟩
          case measure => omega
    · have hkL : k = n := by omega
      subst hkL
      have LR := refL_len o k
      have LT := timL_len o k
      have PR := Lib.hid (show ∀ x ∈ refL o k, pok x from fun x hx => by obtain ⟨j, hj, rfl⟩ := mem_refL.1 hx; exact ⟨(HI.out j hj).1, (HI.out j hj).2.1⟩)
      have PT := Lib.hid (show ∀ x ∈ timL o k, i64 x from fun x hx => by
        obtain ⟨j, hj, e⟩ := mem_timL.1 hx
        rcases e with rfl | ⟨_, rfl⟩
        · exact (HI.out j hj).2.2.1
        · exact (HI.out j hj).2.2.2)
      have T1 := Lib.hid (fun b hb => twiceR OR.out PR.out (by omega) b hb)
      have T2 := Lib.hid (fun w' (m : New wr w') b hb => twiceI (own_new OI.out m) PT.out (by omega) b hb)
      have T3 := Lib.hid (fun w' (m : New w w') (hr : (refL o k).Nodup) => order_any f k o A cap w' (HA.out.new m) hn (fun i hi => (HI.out i hi).1) BD.out hr)
      have XB := Lib.hid (fun h2 => chp_b (n := k) (o := o) BD.out h2)
      have XC := Lib.hid (fun h2 h3 => chp_c (n := k) (o := o) BD.out h2 h3)
      have XD := Lib.hid (fun h2 h3 h4 => chp_d (n := k) (o := o) BD.out h2 h3 h4)
      have XE := Lib.hid (fun h2 h3 h4 => chp_e (n := k) (o := o) BD.out h2 h3 h4)
      clear OR OI PR PT LR LT
      by_cases h1 : (refL o k).Nodup
      · have T1' := Lib.hid (T1.out false (by simp [h1]))
        have T3' := Lib.hid (fun w' (m : New w w') => T3.out w' m h1)
        by_cases h2 : (timL o k).Nodup
        · have T2' := Lib.hid (fun w' (m : New wr w') => T2.out w' m false (by simp [h2]))
          cases h4 : chk4 k o
          · have hc : res = 0 := by rw [hres.out]; exact XE.out h1 h2 h4
            rw [h4] at T3'
            subst hc
            go_wp2_with (first | (go_at_call 30; refine T1'.out.mono ?_; rintro x w1 ⟨rfl, n1⟩; replace n1 := Lib.hid n1) | (go_at_call 31; refine (T2'.out _ n1.out).mono ?_; rintro x w2 ⟨rfl, n2⟩; replace n2 := Lib.hid n2) | (go_at_call 32; refine (T3'.out _ (NW.out.trans (n1.out.trans n2.out))).mono ?_; rintro x w3 ⟨rfl, n3⟩; replace n3 := Lib.hid n3))
            go_ret
            exact ⟨rfl, NW.out.trans (n1.out.trans (n2.out.trans n3.out))⟩
          · have hc : res = 13 := by rw [hres.out]; exact XD.out h1 h2 h4
            rw [h4] at T3'
            subst hc
            go_wp2_with (first | (go_at_call 30; refine T1'.out.mono ?_; rintro x w1 ⟨rfl, n1⟩; replace n1 := Lib.hid n1) | (go_at_call 31; refine (T2'.out _ n1.out).mono ?_; rintro x w2 ⟨rfl, n2⟩; replace n2 := Lib.hid n2) | (go_at_call 32; refine (T3'.out _ (NW.out.trans (n1.out.trans n2.out))).mono ?_; rintro x w3 ⟨rfl, n3⟩; replace n3 := Lib.hid n3))
            go_ret
            exact ⟨rfl, NW.out.trans (n1.out.trans (n2.out.trans n3.out))⟩
        · have T2' := Lib.hid (fun w' (m : New wr w') => T2.out w' m true (by simp [h2]))
          have hc : res = 11 := by rw [hres.out]; exact XC.out h1 h2
          subst hc
          go_wp2_with (first | (go_at_call 30; refine T1'.out.mono ?_; rintro x w1 ⟨rfl, n1⟩; replace n1 := Lib.hid n1) | (go_at_call 31; refine (T2'.out _ n1.out).mono ?_; rintro x w2 ⟨rfl, n2⟩; replace n2 := Lib.hid n2))
          go_ret
          exact ⟨rfl, NW.out.trans (n1.out.trans n2.out)⟩
      · have T1' := Lib.hid (T1.out true (by simp [h1]))
        have hc : res = 2 := by rw [hres.out]; exact XB.out h1
        subst hc
        go_wp2_with (first | (go_at_call 30; refine T1'.out.mono ?_; rintro x w1 ⟨rfl, n1⟩; replace n1 := Lib.hid n1))
        go_ret
        exact ⟨rfl, NW.out.trans n1.out⟩
end Go.Proofs.Ytplaicdbcfnjbaa
