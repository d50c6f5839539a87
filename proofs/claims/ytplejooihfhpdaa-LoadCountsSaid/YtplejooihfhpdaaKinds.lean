/- Kinds: eight loads, by kinds. -/
import Derived.Test.YtplejooihfhpdaaWho
namespace Go.Proofs.Ytplejooihfhpdaa
open Go.RowKit
set_option linter.unusedVariables false

/-- eight loads' cells -/
def kc (f : Nat → Ld) : Array Value := #[.int .i64 (f 0).c, .int .i64 (f 0).e, .int .i64 (f 0).n, .int .i64 (f 0).l, .int .i64 (f 1).c, .int .i64 (f 1).e, .int .i64 (f 1).n, .int .i64 (f 1).l, .int .i64 (f 2).c, .int .i64 (f 2).e, .int .i64 (f 2).n, .int .i64 (f 2).l, .int .i64 (f 3).c, .int .i64 (f 3).e, .int .i64 (f 3).n, .int .i64 (f 3).l, .int .i64 (f 4).c, .int .i64 (f 4).e, .int .i64 (f 4).n, .int .i64 (f 4).l, .int .i64 (f 5).c, .int .i64 (f 5).e, .int .i64 (f 5).n, .int .i64 (f 5).l, .int .i64 (f 6).c, .int .i64 (f 6).e, .int .i64 (f 6).n, .int .i64 (f 6).l, .int .i64 (f 7).c, .int .i64 (f 7).e, .int .i64 (f 7).n, .int .i64 (f 7).l]
def z32 : Array Value := kc fun _ => ld0
theorem kc_size (f : Nat → Ld) : (kc f).size = 32 := rfl
theorem kc_congr {f g : Nat → Ld} (h : ∀ j, j < 8 → f j = g j) : kc f = kc g := by
  unfold kc
  rw [h 0 (by decide), h 1 (by decide), h 2 (by decide), h 3 (by decide), h 4 (by decide), h 5 (by decide), h 6 (by decide), h 7 (by decide)]
theorem kc_one (f : Nat → Ld) : (kc f).all (·.oneCell') = true := by simp [kc, Value.oneCell']
theorem kc_at (f : Nat → Ld) {q : Nat} (hq : q < 8) : (kc f)[q * 4]? = some (.int .i64 (f q).c) ∧ (kc f)[q * 4 + 1]? = some (.int .i64 (f q).e) ∧ (kc f)[q * 4 + 2]? = some (.int .i64 (f q).n) ∧ (kc f)[q * 4 + 3]? = some (.int .i64 (f q).l) := by
  match q, hq with
  | 0, _ => exact ⟨rfl, rfl, rfl, rfl⟩
  | 1, _ => exact ⟨rfl, rfl, rfl, rfl⟩
  | 2, _ => exact ⟨rfl, rfl, rfl, rfl⟩
  | 3, _ => exact ⟨rfl, rfl, rfl, rfl⟩
  | 4, _ => exact ⟨rfl, rfl, rfl, rfl⟩
  | 5, _ => exact ⟨rfl, rfl, rfl, rfl⟩
  | 6, _ => exact ⟨rfl, rfl, rfl, rfl⟩
  | 7, _ => exact ⟨rfl, rfl, rfl, rfl⟩
theorem at4_kc {w : World} {g q : Nat} {t : TypeId} {f : Nat → Ld} (h : Box w g t (kc f)) (hq : q < 8) : At4 w ⟨g, q * 4, none⟩ (f q) := by
  obtain ⟨a, b, c, d⟩ := kc_at f hq
  exact At4.of_box h a b c d
/-- the world behind a load's storing -/
def st4 (w : World) (g o : Nat) (p : Ld) : World := w.setCells g o [.int .i64 p.c, .int .i64 p.e, .int .i64 p.n, .int .i64 p.l]
theorem st4_eq (w : World) (g o : Nat) (p : Ld) : st4 w g o p = (((w.setCell ⟨g, o, none⟩ (.int .i64 p.c)).setCell ⟨g, o + 1, none⟩ (.int .i64 p.e)).setCell ⟨g, o + 1 + 1, none⟩ (.int .i64 p.n)).setCell ⟨g, o + 1 + 1 + 1, none⟩ (.int .i64 p.l) := rfl
theorem New.st4 {a w : World} {g : Nat} (h : New a w) (hg : a.heap.size ≤ g) (o : Nat) (p : Ld) : New a (st4 w g o p) := by
  rw [st4_eq]
  exact (((h.setCell hg _).setCell hg _).setCell hg _).setCell hg _
theorem Box.st4 {w : World} {g g' : Nat} {t : TypeId} {cs : Array Value} (h : Box w g t cs) (hg : g ≠ g') (o : Nat) (p : Ld) : Box (Go.Proofs.Ytplejooihfhpdaa.st4 w g' o p) g t cs := by
  rw [st4_eq]
  exact (((h.off hg _).off hg _).off hg _).off hg _
theorem OpAt.st4 {w : World} {g : Nat} {pa : Addr} {c : Array Value} (h : OpAt w pa c) (hg : pa.block ≠ g) (o : Nat) (p : Ld) : OpAt (Go.Proofs.Ytplejooihfhpdaa.st4 w g o p) pa c := by
  refine ⟨h.1, ?_, fun j v hv => ?_⟩
  · have : (Go.Proofs.Ytplejooihfhpdaa.st4 w g o p).heap.size = w.heap.size := by unfold Go.Proofs.Ytplejooihfhpdaa.st4; simp [World.setCells, World.setCell]
    rw [this]; exact h.2.1
  · have e : (pa.add j).block = pa.block := by unfold Addr.add; split <;> rfl
    unfold Go.Proofs.Ytplejooihfhpdaa.st4
    rw [World.cell?_setCells_out]
    · exact h.2.2 j v hv
    · intro hb; exact absurd (e.symm.trans hb) hg
theorem kc_set (f : Nat → Ld) {q : Nat} (hq : q < 8) (v : Ld) : ((((kc f).setIfInBounds (q * 4) (.int .i64 v.c)).setIfInBounds (q * 4 + 1) (.int .i64 v.e)).setIfInBounds (q * 4 + 1 + 1) (.int .i64 v.n)).setIfInBounds (q * 4 + 1 + 1 + 1) (.int .i64 v.l) = kc fun j => if j = q then v else f j := by
  match q, hq with
  | 0, _ => rfl
  | 1, _ => rfl
  | 2, _ => rfl
  | 3, _ => rfl
  | 4, _ => rfl
  | 5, _ => rfl
  | 6, _ => rfl
  | 7, _ => rfl
theorem put_kc {w : World} {g q : Nat} {t : TypeId} {f : Nat → Ld} (h : Box w g t (kc f)) (hq : q < 8) (v : Ld) : Box (st4 w g (q * 4) v) g t (kc fun j => if j = q then v else f j) := by
  rw [st4_eq, ← kc_set f hq v]
  exact (((h.put (q * 4) (.int .i64 v.c)).put (q * 4 + 1) (.int .i64 v.e)).put (q * 4 + 1 + 1) (.int .i64 v.n)).put (q * 4 + 1 + 1 + 1) (.int .i64 v.l)
theorem kc_step (z : Nat → Nm) (q k : Nat) (h : knd (z k) = (q : Int)) : (kc fun j => accL z (kP z j) (k + 1)) = kc fun j => if j = q then pl (accL z (kP z q) k) (oneL (z k)) else accL z (kP z j) k := by
  refine kc_congr fun j _ => ?_
  by_cases hj : j = q
  · subst hj
    rw [if_pos rfl]
    exact accL_yes (by unfold kP; simp [h])
  · rw [if_neg hj]
    exact accL_no (by unfold kP; rw [h]; simp; omega)
theorem New.setCells' {a : World} {g : Nat} : ∀ {w : World} (h : New a w) (hg : a.heap.size ≤ g) (vs : List Value) (o : Nat), New a (w.setCells g o vs)
  | _, h, _, [], _ => h
  | _, h, hg, v :: r, o => New.setCells' (h.setCell hg v) hg r (o + 1)
theorem results_cell {P : Program} {fn : Func} {a : Tmp} {t : TypeId} {tmps : Array Value} {p : Addr} {w : World} {v : Value} (h : fn.results = #[.cell a t]) (ht : tmps.getD a undef = .pointer (some p)) (hv : (loadVar t p).run P w = .ok v w) : (results fn tmps).run P w = .ok v w := by
  have ht' : tmps[a]?.getD undef = .pointer (some p) := by simpa using ht
  unfold results
  rw [h]
  simp [ht', asAddr, hv, Sem.run_bind, Result.andThen]
theorem size53 : (Try.prog.info? 53).map (·.size) = some 32 := by kernel_rfl
theorem size25 : (Try.prog.info? 25).map (·.size) = some 4 := by kernel_rfl
theorem wp_ld4 {o : Oper} {a : Act} {w : World} {K : Act → World → Prop} {Q : Exit → Act → World → Prop} {x : Operand} {g off : Nat} {p : Ld} (ho : o.op = .load 25 x) (hx : a.eval x = .pointer (some ⟨g, off, none⟩)) (h : At4 w ⟨g, off, none⟩ p) (hk : K (a.put o.dst p.agg) w) : o.wp Try.prog a w K Q := by
  refine wp_load_mid 25 x ho g off hx [.int .i64 p.c, .int .i64 p.e, .int .i64 p.n, .int .i64 p.l] _ ?_ Try.underlying25 rfl size25 hk
  intro j v hv
  match j, hv with
  | 0, hv => simp at hv; subst hv; exact h.2.1
  | 1, hv => simp at hv; subst hv; exact h.2.2.1
  | 2, hv => simp at hv; subst hv; exact h.2.2.2.1
  | 3, hv => simp at hv; subst hv; exact h.2.2.2.2
theorem wp_st4 {o : Oper} {a : Act} {w : World} {K : Act → World → Prop} {Q : Exit → Act → World → Prop} {x y : Operand} {g q : Nat} {t : TypeId} {f : Nat → Ld} {p : Ld} (ho : o.op = .store 25 x y) (hx : a.eval x = .pointer (some ⟨g, q * 4, none⟩)) (hy : a.eval y = p.agg) (h : Box w g t (kc f)) (hq : q < 8)
    (hk : K (a.put o.dst undef) (st4 w g (q * 4) p)) : o.wp Try.prog a w K Q := by
  refine wp_store_mid 25 x y ho g (q * 4) p.cs hx hy ?_ size25 (by simp [Ld.cs, Value.oneCell']) hk
  intro j hj
  have hj' : j < 4 := hj
  obtain ⟨a0, a1, a2, a3⟩ := kc_at f hq
  refine ⟨?_, h.frozen _⟩
  rw [h.cell]
  match j, hj' with
  | 0, _ => rw [Nat.add_zero, a0]; rfl
  | 1, _ => rw [a1]; rfl
  | 2, _ => rw [a2]; rfl
  | 3, _ => rw [a3]; rfl
set_option maxRecDepth 100000 in
set_option maxHeartbeats 4000000 in
theorem kinds_any (A : Option Addr) (n cap : Nat) (o : Nat → Array Value) (z : Nat → Nm) (hn : n ≤ 60) (w : World) (hL : Ops w A n o z) :
    Calls Try.prog 13 #[.slice A n cap] w fun e w' => e = .returned (.agg (kc fun q => accL z (kP z q) n)) ∧ New w w' := by
  go_enter Try.func13, Try.ntmps13
  go_wp2_with fail
  go_loopg [9] n (fun g i wr => ∃ k : Nat, k + g = n ∧ i = .int .i64 k ∧ New w wr ∧ Box wr w.heap.size 53 z32 ∧ Box wr (w.heap.size + 1) 53 (kc fun q => accL z (kP z q) k))
  case atStart => exact ⟨0, by omega, rfl, ((New.refl _).alloc _).alloc _, (Box.made w 53 _).alloc _, Box.made' (w.alloc (.cells z32 53)) 53 _ (by simp)⟩
  case round =>
    obtain ⟨k, hk, rfl, nw, bz, bg⟩ := hrel
    by_cases hlt : k < n
    · obtain ⟨ad, rfl, hc⟩ := hL.2 (by omega)
      have hR := hL.1 k hlt
      have LA := (hc k hlt).new nw
      have HC21 := Lib.hid (fun w => one_any (o k) (z k) hR w)
      have IA := Lib.hid hR.1
      have OA8 : OpAt (wr.alloc (.cells (o k) 45)).drew ⟨wr.heap.size, 0, none⟩ (o k) := (OpAt.made wr (o k) hR.1).new (New.refl _).drew
      have c2 := ((Box.made wr 45 (o k)).cell 2).trans hR.2.2.2.1
      have nw8 : New w (wr.alloc (.cells (o k) 45)).drew := (nw.alloc _).drew
      have bz8 : Box (wr.alloc (.cells (o k) 45)).drew w.heap.size 53 z32 := (bz.alloc _).draws 1
      have bg8 : Box (wr.alloc (.cells (o k) 45)).drew (w.heap.size + 1) 53 (kc fun q => accL z (kP z q) k) := (bg.alloc _).draws 1
      have lg := bg.lt
      have HL := Lib.hid (⟨hL, hc⟩ : _ ∧ _)
      have lin1 := lin_one (z k)
      have lin0 := fun q => lin_acc z (kP z q) k
      have hkn : knd (z k) = if (z k).kd < 1 ∨ 7 < (z k).kd then 0 else (z k).kd := rfl
      have HKC0 := Lib.hid (fun (q : Nat) (hq : knd (z k) = (q : Int)) => kc_step z q k hq)
      clear hL hc hR bz bg
      generalize o k = oo at *
      by_cases h1 : (z k).kd < 1
      · rw [if_pos (Or.inl h1)] at hkn
        have HKC := Lib.hid (HKC0.out 0 hkn)
        have lin8 := lin0 0
        have hq8 : 0 < 8 := by decide
        clear lin0 hkn HKC0
        generalize (z k).kd = kd at *
        go_wp2_with (first | (refine wpl_load rfl rfl LA rfl ?_) | (refine wpl_store rfl rfl rfl rfl IA.out rfl ?_))
        · refine wp_region_held_drew (S := (fun w' => New w w' ∧ Box w' w.heap.size 53 z32 ∧ OpAt w' ⟨wr.heap.size, 0, none⟩ oo)) (by kernel_rfl) ⟨nw8, bz8, OA8⟩ (fun hH => ?_)
          refine wpAnyH_take (i := 0) (oi := { dst := some 22, op := Go.Op.move (Go.Operand.tmp 6), type := 3, pos := "load.go:60", after := #[], guard := none }) (v := ?_) rfl (by kernel_rfl) (by kernel_rfl) (by kernel_rfl) (fun _ _ _ h => h) (Or.inl ⟨by rfl, ?_⟩) hH ?_
          rotate_left; (intro w5 hS5; go_simp; try rfl)
          try simp only [Act.put, List.setIfInBounds_toArray, List.set_cons_zero, List.set_cons_succ]
          refine wpAnyH_take (i := 1) (oi := { dst := some 23, op := Go.Op.move (Go.Operand.tmp 6), type := 3, pos := "load.go:60", after := #[], guard := none }) (v := ?_) rfl (by kernel_rfl) (by kernel_rfl) (by kernel_rfl) (fun _ _ _ h => h) (Or.inl ⟨by rfl, ?_⟩) hH ?_
          rotate_left; (intro w5 hS5; go_simp; try rfl)
          try simp only [Act.put, List.setIfInBounds_toArray, List.set_cons_zero, List.set_cons_succ]
          refine wpAnyH_take (i := 2) (oi := { dst := some 24, op := Go.Op.indexAddr 53 (Go.Operand.tmp 3) (Go.Operand.tmp 23), type := 0, pos := "load.go:60", after := #[{ on := 1, ground := Go.Ground.data }], guard := none }) (v := .pointer (some ⟨w.heap.size + 1, 0 * 4, none⟩)) rfl (by kernel_rfl) (by kernel_rfl) (by kernel_rfl) (fun _ _ _ h => h) (Or.inl ⟨by rfl, ?_⟩) hH ?_
          (intro w5 hS5; go_simp; try rfl)
          try simp only [Act.put, List.setIfInBounds_toArray, List.set_cons_zero, List.set_cons_succ]
          refine wpAnyH_take (i := 4) (oi := { dst := some 26, op := Go.Op.load 45 (Go.Operand.tmp 5), type := 45, pos := "load.go:60", after := #[], guard := none }) (v := .agg oo) rfl (by kernel_rfl) (by kernel_rfl) (by kernel_rfl) (fun _ _ _ h => h) (Or.inl ⟨by rfl, ?_⟩) hH ?_
          (intro w5 hS5; refine yl_load (x := .tmp 5) ?_ ?_ hS5.2.2 <;> rfl)
          try simp only [Act.put, List.setIfInBounds_toArray, List.set_cons_zero, List.set_cons_succ]
          refine wpAnyH_ready (rs := [3, 5]) (by kernel_rfl) (by simp) ?_
          refine AllReadyH.cons (o := { dst := some 25, op := Go.Op.load 25 (Go.Operand.tmp 24), type := 25, pos := "load.go:60", after := #[{ on := 2, ground := Go.Ground.data }], guard := none }) rfl (fun K5 hK5 => ?_) (AllReadyH.cons (o := { dst := some 27, op := Go.Op.call { callee := Go.Callee.value (Go.Operand.func 21), args := #[Go.Operand.tmp 26], argTypes := #[45] }, type := 25, pos := "load.go:60", after := #[{ on := 4, ground := Go.Ground.data }], guard := none }) rfl (fun K5 hK5 => ?_) AllReadyH.nil)
          · rw [if_pos (by rfl)]
            refine wp_ld4 (x := .tmp 24) rfl rfl (at4_kc bg8 hq8) ?_
            refine hK5.out _ _ hH (fun hH1 => ?_)
            clear hK5 K5
            try simp only [Act.put, List.setIfInBounds_toArray, List.set_cons_zero, List.set_cons_succ]
            refine wpAnyH_ready (rs := [5]) (by kernel_rfl) (by simp) ?_
            refine AllReadyH.cons (o := { dst := some 27, op := Go.Op.call { callee := Go.Callee.value (Go.Operand.func 21), args := #[Go.Operand.tmp 26], argTypes := #[45] }, type := 25, pos := "load.go:60", after := #[{ on := 4, ground := Go.Ground.data }], guard := none }) rfl (fun K5 hK5 => ?_) AllReadyH.nil
            go_simp
            refine (HC21.out _).mono ?_; rintro e w1 ⟨rfl, n1⟩
            refine hK5.out _ _ ⟨hH.1.trans n1, hH.2.1.new n1, hH.2.2.new n1⟩ (fun hH2 => ?_)
            clear hK5 K5
            try simp only [Act.put, List.setIfInBounds_toArray, List.set_cons_zero, List.set_cons_succ]
            refine wpAnyH_ready (rs := [6]) (by kernel_rfl) (by simp) ?_
            refine AllReadyH.cons (o := { dst := some 28, op := Go.Op.buildSlice 22 2 #[(0, Go.Operand.tmp 25), (1, Go.Operand.tmp 27)], type := 22, pos := "load.go:60", after := #[{ on := 3, ground := Go.Ground.data }, { on := 5, ground := Go.Ground.data }], guard := none }) rfl (fun K5 hK5 => ?_) AllReadyH.nil
            rw [if_pos (by rfl)]
            refine wp_build2 (x := .tmp 25) (y := .tmp 27) rfl rfl rfl ?_
            refine hK5.out _ _ ⟨hH2.1.alloc _, hH2.2.1.alloc _, hH2.2.2.new ((New.refl _).alloc _)⟩ (fun hH3 => ?_)
            clear hK5 K5
            try simp only [Act.put, List.setIfInBounds_toArray, List.set_cons_zero, List.set_cons_succ]
            refine wpAnyH_ready (rs := [7]) (by kernel_rfl) (by simp) ?_
            refine AllReadyH.cons (o := { dst := some 29, op := Go.Op.call { callee := Go.Callee.value (Go.Operand.func 7), args := #[Go.Operand.tmp 28], argTypes := #[22] }, type := 25, pos := "load.go:60", after := #[{ on := 6, ground := Go.Ground.data }, { on := 5, ground := Go.Ground.chain }], guard := none }) rfl (fun K5 hK5 => ?_) AllReadyH.nil
            go_simp
            refine (sum2_any _ _ lin8 lin1 (by omega) (by decide) w1).mono ?_
            rintro e w2 ⟨rfl, n2⟩
            refine hK5.out _ _ ⟨hH2.1.trans n2, hH2.2.1.new n2, hH2.2.2.new n2⟩ (fun hH4 => ?_)
            clear hK5 K5
            try simp only [Act.put, List.setIfInBounds_toArray, List.set_cons_zero, List.set_cons_succ]
            have BG2 := Box.new (bg8.new n1) n2
            refine wpAnyH_take (i := 8) (oi := { dst := some 30, op := Go.Op.indexAddr 53 (Go.Operand.tmp 3) (Go.Operand.tmp 22), type := 0, pos := "load.go:60", after := #[{ on := 0, ground := Go.Ground.data }, { on := 0, ground := Go.Ground.phase }, { on := 1, ground := Go.Ground.phase }, { on := 2, ground := Go.Ground.phase }, { on := 3, ground := Go.Ground.phase }, { on := 4, ground := Go.Ground.phase }, { on := 5, ground := Go.Ground.phase }, { on := 6, ground := Go.Ground.phase }, { on := 7, ground := Go.Ground.phase }], guard := none }) (v := .pointer (some ⟨w.heap.size + 1, 0 * 4, none⟩)) rfl (by kernel_rfl) (by kernel_rfl) (by kernel_rfl) (fun _ _ _ h => h) (Or.inl ⟨by rfl, ?_⟩) hH4 ?_
            (intro w5 hS5; go_simp; try rfl)
            try simp only [Act.put, List.setIfInBounds_toArray, List.set_cons_zero, List.set_cons_succ]
            refine wpAnyH_ready (rs := [9]) (by kernel_rfl) (by simp) ?_
            refine AllReadyH.cons (o := { dst := none, op := Go.Op.store 25 (Go.Operand.tmp 30) (Go.Operand.tmp 29), type := 0, pos := "load.go:60", after := #[{ on := 8, ground := Go.Ground.data }, { on := 7, ground := Go.Ground.data }, { on := 7, ground := Go.Ground.chain }, { on := 0, ground := Go.Ground.phase }, { on := 1, ground := Go.Ground.phase }, { on := 2, ground := Go.Ground.phase }, { on := 3, ground := Go.Ground.phase }, { on := 4, ground := Go.Ground.phase }, { on := 5, ground := Go.Ground.phase }, { on := 6, ground := Go.Ground.phase }, { on := 7, ground := Go.Ground.phase }], guard := none }) rfl (fun K5 hK5 => ?_) AllReadyH.nil
            rw [if_pos (by rfl)]
            refine wp_st4 (x := .tmp 30) (y := .tmp 29) rfl rfl rfl BG2 hq8 ?_
            refine hK5.out _ _ ⟨New.st4 hH4.1 (by omega) _ _, hH4.2.1.st4 (by omega) _ _, hH4.2.2.st4 (by simp; omega) _ _⟩ (fun hH5 => ?_)
            clear hK5 K5
            try simp only [Act.put, List.setIfInBounds_toArray, List.set_cons_zero, List.set_cons_succ]
            have BG3 := put_kc BG2 hq8 (pl (accL z (kP z 0) k) (oneL (z k)))
            refine wpAnyH_done (by kernel_rfl) ?_ _
            have HF := Lib.hid (⟨hH5, BG3⟩ : _ ∧ _)
            clear hH5 BG3 BG2 hH4 hH3
            go_wp2_with fail
            go_roundg (gk - 1)
            case rel =>
              obtain ⟨⟨h1, h2, _⟩, h3⟩ := HF.out
              exact ⟨k + 1, by omega, by go_num, h1, h2, by rw [HKC.out]; exact h3⟩
            case measure => omega
          · go_simp
            refine (HC21.out _).mono ?_; rintro e w1 ⟨rfl, n1⟩
            refine hK5.out _ _ ⟨hH.1.trans n1, hH.2.1.new n1, hH.2.2.new n1⟩ (fun hH2 => ?_)
            clear hK5 K5
            try simp only [Act.put, List.setIfInBounds_toArray, List.set_cons_zero, List.set_cons_succ]
            refine wpAnyH_ready (rs := [3]) (by kernel_rfl) (by simp) ?_
            refine AllReadyH.cons (o := { dst := some 25, op := Go.Op.load 25 (Go.Operand.tmp 24), type := 25, pos := "load.go:60", after := #[{ on := 2, ground := Go.Ground.data }], guard := none }) rfl (fun K5 hK5 => ?_) AllReadyH.nil
            rw [if_pos (by rfl)]
            refine wp_ld4 (x := .tmp 24) rfl rfl (at4_kc (bg8.new n1) hq8) ?_
            refine hK5.out _ _ hH2 (fun hH2b => ?_)
            clear hK5 K5
            try simp only [Act.put, List.setIfInBounds_toArray, List.set_cons_zero, List.set_cons_succ]
            refine wpAnyH_ready (rs := [6]) (by kernel_rfl) (by simp) ?_
            refine AllReadyH.cons (o := { dst := some 28, op := Go.Op.buildSlice 22 2 #[(0, Go.Operand.tmp 25), (1, Go.Operand.tmp 27)], type := 22, pos := "load.go:60", after := #[{ on := 3, ground := Go.Ground.data }, { on := 5, ground := Go.Ground.data }], guard := none }) rfl (fun K5 hK5 => ?_) AllReadyH.nil
            rw [if_pos (by rfl)]
            refine wp_build2 (x := .tmp 25) (y := .tmp 27) rfl rfl rfl ?_
            refine hK5.out _ _ ⟨hH2.1.alloc _, hH2.2.1.alloc _, hH2.2.2.new ((New.refl _).alloc _)⟩ (fun hH3 => ?_)
            clear hK5 K5
            try simp only [Act.put, List.setIfInBounds_toArray, List.set_cons_zero, List.set_cons_succ]
            refine wpAnyH_ready (rs := [7]) (by kernel_rfl) (by simp) ?_
            refine AllReadyH.cons (o := { dst := some 29, op := Go.Op.call { callee := Go.Callee.value (Go.Operand.func 7), args := #[Go.Operand.tmp 28], argTypes := #[22] }, type := 25, pos := "load.go:60", after := #[{ on := 6, ground := Go.Ground.data }, { on := 5, ground := Go.Ground.chain }], guard := none }) rfl (fun K5 hK5 => ?_) AllReadyH.nil
            go_simp
            refine (sum2_any _ _ lin8 lin1 (by omega) (by decide) w1).mono ?_
            rintro e w2 ⟨rfl, n2⟩
            refine hK5.out _ _ ⟨hH2.1.trans n2, hH2.2.1.new n2, hH2.2.2.new n2⟩ (fun hH4 => ?_)
            clear hK5 K5
            try simp only [Act.put, List.setIfInBounds_toArray, List.set_cons_zero, List.set_cons_succ]
            have BG2 := Box.new (bg8.new n1) n2
            refine wpAnyH_take (i := 8) (oi := { dst := some 30, op := Go.Op.indexAddr 53 (Go.Operand.tmp 3) (Go.Operand.tmp 22), type := 0, pos := "load.go:60", after := #[{ on := 0, ground := Go.Ground.data }, { on := 0, ground := Go.Ground.phase }, { on := 1, ground := Go.Ground.phase }, { on := 2, ground := Go.Ground.phase }, { on := 3, ground := Go.Ground.phase }, { on := 4, ground := Go.Ground.phase }, { on := 5, ground := Go.Ground.phase }, { on := 6, ground := Go.Ground.phase }, { on := 7, ground := Go.Ground.phase }], guard := none }) (v := .pointer (some ⟨w.heap.size + 1, 0 * 4, none⟩)) rfl (by kernel_rfl) (by kernel_rfl) (by kernel_rfl) (fun _ _ _ h => h) (Or.inl ⟨by rfl, ?_⟩) hH4 ?_
            (intro w5 hS5; go_simp; try rfl)
            try simp only [Act.put, List.setIfInBounds_toArray, List.set_cons_zero, List.set_cons_succ]
            refine wpAnyH_ready (rs := [9]) (by kernel_rfl) (by simp) ?_
            refine AllReadyH.cons (o := { dst := none, op := Go.Op.store 25 (Go.Operand.tmp 30) (Go.Operand.tmp 29), type := 0, pos := "load.go:60", after := #[{ on := 8, ground := Go.Ground.data }, { on := 7, ground := Go.Ground.data }, { on := 7, ground := Go.Ground.chain }, { on := 0, ground := Go.Ground.phase }, { on := 1, ground := Go.Ground.phase }, { on := 2, ground := Go.Ground.phase }, { on := 3, ground := Go.Ground.phase }, { on := 4, ground := Go.Ground.phase }, { on := 5, ground := Go.Ground.phase }, { on := 6, ground := Go.Ground.phase }, { on := 7, ground := Go.Ground.phase }], guard := none }) rfl (fun K5 hK5 => ?_) AllReadyH.nil
            rw [if_pos (by rfl)]
            refine wp_st4 (x := .tmp 30) (y := .tmp 29) rfl rfl rfl BG2 hq8 ?_
            refine hK5.out _ _ ⟨New.st4 hH4.1 (by omega) _ _, hH4.2.1.st4 (by omega) _ _, hH4.2.2.st4 (by simp; omega) _ _⟩ (fun hH5 => ?_)
            clear hK5 K5
            try simp only [Act.put, List.setIfInBounds_toArray, List.set_cons_zero, List.set_cons_succ]
            have BG3 := put_kc BG2 hq8 (pl (accL z (kP z 0) k) (oneL (z k)))
            refine wpAnyH_done (by kernel_rfl) ?_ _
            have HF := Lib.hid (⟨hH5, BG3⟩ : _ ∧ _)
            clear hH5 BG3 BG2 hH4 hH3
            go_wp2_with fail
            go_roundg (gk - 1)
            case rel =>
              obtain ⟨⟨h1, h2, _⟩, h3⟩ := HF.out
              exact ⟨k + 1, by omega, by go_num, h1, h2, by rw [HKC.out]; exact h3⟩
            case measure => omega
      · by_cases h7 : 7 < (z k).kd
        · rw [if_pos (Or.inr h7)] at hkn
          have HKC := Lib.hid (HKC0.out 0 hkn)
          have lin8 := lin0 0
          have hq8 : 0 < 8 := by decide
          clear lin0 hkn HKC0
          generalize (z k).kd = kd at *
          go_wp2_with (first | (refine wpl_load rfl rfl LA rfl ?_) | (refine wpl_store rfl rfl rfl rfl IA.out rfl ?_))
          refine wp_region_held_drew (S := (fun w' => New w w' ∧ Box w' w.heap.size 53 z32 ∧ OpAt w' ⟨wr.heap.size, 0, none⟩ oo)) (by kernel_rfl) ⟨nw8, bz8, OA8⟩ (fun hH => ?_)
          refine wpAnyH_take (i := 0) (oi := { dst := some 22, op := Go.Op.move (Go.Operand.tmp 6), type := 3, pos := "load.go:60", after := #[], guard := none }) (v := ?_) rfl (by kernel_rfl) (by kernel_rfl) (by kernel_rfl) (fun _ _ _ h => h) (Or.inl ⟨by rfl, ?_⟩) hH ?_
          rotate_left; (intro w5 hS5; go_simp; try rfl)
          try simp only [Act.put, List.setIfInBounds_toArray, List.set_cons_zero, List.set_cons_succ]
          refine wpAnyH_take (i := 1) (oi := { dst := some 23, op := Go.Op.move (Go.Operand.tmp 6), type := 3, pos := "load.go:60", after := #[], guard := none }) (v := ?_) rfl (by kernel_rfl) (by kernel_rfl) (by kernel_rfl) (fun _ _ _ h => h) (Or.inl ⟨by rfl, ?_⟩) hH ?_
          rotate_left; (intro w5 hS5; go_simp; try rfl)
          try simp only [Act.put, List.setIfInBounds_toArray, List.set_cons_zero, List.set_cons_succ]
          refine wpAnyH_take (i := 2) (oi := { dst := some 24, op := Go.Op.indexAddr 53 (Go.Operand.tmp 3) (Go.Operand.tmp 23), type := 0, pos := "load.go:60", after := #[{ on := 1, ground := Go.Ground.data }], guard := none }) (v := .pointer (some ⟨w.heap.size + 1, 0 * 4, none⟩)) rfl (by kernel_rfl) (by kernel_rfl) (by kernel_rfl) (fun _ _ _ h => h) (Or.inl ⟨by rfl, ?_⟩) hH ?_
          (intro w5 hS5; go_simp; try rfl)
          try simp only [Act.put, List.setIfInBounds_toArray, List.set_cons_zero, List.set_cons_succ]
          refine wpAnyH_take (i := 4) (oi := { dst := some 26, op := Go.Op.load 45 (Go.Operand.tmp 5), type := 45, pos := "load.go:60", after := #[], guard := none }) (v := .agg oo) rfl (by kernel_rfl) (by kernel_rfl) (by kernel_rfl) (fun _ _ _ h => h) (Or.inl ⟨by rfl, ?_⟩) hH ?_
          (intro w5 hS5; refine yl_load (x := .tmp 5) ?_ ?_ hS5.2.2 <;> rfl)
          try simp only [Act.put, List.setIfInBounds_toArray, List.set_cons_zero, List.set_cons_succ]
          refine wpAnyH_ready (rs := [3, 5]) (by kernel_rfl) (by simp) ?_
          refine AllReadyH.cons (o := { dst := some 25, op := Go.Op.load 25 (Go.Operand.tmp 24), type := 25, pos := "load.go:60", after := #[{ on := 2, ground := Go.Ground.data }], guard := none }) rfl (fun K5 hK5 => ?_) (AllReadyH.cons (o := { dst := some 27, op := Go.Op.call { callee := Go.Callee.value (Go.Operand.func 21), args := #[Go.Operand.tmp 26], argTypes := #[45] }, type := 25, pos := "load.go:60", after := #[{ on := 4, ground := Go.Ground.data }], guard := none }) rfl (fun K5 hK5 => ?_) AllReadyH.nil)
          · rw [if_pos (by rfl)]
            refine wp_ld4 (x := .tmp 24) rfl rfl (at4_kc bg8 hq8) ?_
            refine hK5.out _ _ hH (fun hH1 => ?_)
            clear hK5 K5
            try simp only [Act.put, List.setIfInBounds_toArray, List.set_cons_zero, List.set_cons_succ]
            refine wpAnyH_ready (rs := [5]) (by kernel_rfl) (by simp) ?_
            refine AllReadyH.cons (o := { dst := some 27, op := Go.Op.call { callee := Go.Callee.value (Go.Operand.func 21), args := #[Go.Operand.tmp 26], argTypes := #[45] }, type := 25, pos := "load.go:60", after := #[{ on := 4, ground := Go.Ground.data }], guard := none }) rfl (fun K5 hK5 => ?_) AllReadyH.nil
            go_simp
            refine (HC21.out _).mono ?_; rintro e w1 ⟨rfl, n1⟩
            refine hK5.out _ _ ⟨hH.1.trans n1, hH.2.1.new n1, hH.2.2.new n1⟩ (fun hH2 => ?_)
            clear hK5 K5
            try simp only [Act.put, List.setIfInBounds_toArray, List.set_cons_zero, List.set_cons_succ]
            refine wpAnyH_ready (rs := [6]) (by kernel_rfl) (by simp) ?_
            refine AllReadyH.cons (o := { dst := some 28, op := Go.Op.buildSlice 22 2 #[(0, Go.Operand.tmp 25), (1, Go.Operand.tmp 27)], type := 22, pos := "load.go:60", after := #[{ on := 3, ground := Go.Ground.data }, { on := 5, ground := Go.Ground.data }], guard := none }) rfl (fun K5 hK5 => ?_) AllReadyH.nil
            rw [if_pos (by rfl)]
            refine wp_build2 (x := .tmp 25) (y := .tmp 27) rfl rfl rfl ?_
            refine hK5.out _ _ ⟨hH2.1.alloc _, hH2.2.1.alloc _, hH2.2.2.new ((New.refl _).alloc _)⟩ (fun hH3 => ?_)
            clear hK5 K5
            try simp only [Act.put, List.setIfInBounds_toArray, List.set_cons_zero, List.set_cons_succ]
            refine wpAnyH_ready (rs := [7]) (by kernel_rfl) (by simp) ?_
            refine AllReadyH.cons (o := { dst := some 29, op := Go.Op.call { callee := Go.Callee.value (Go.Operand.func 7), args := #[Go.Operand.tmp 28], argTypes := #[22] }, type := 25, pos := "load.go:60", after := #[{ on := 6, ground := Go.Ground.data }, { on := 5, ground := Go.Ground.chain }], guard := none }) rfl (fun K5 hK5 => ?_) AllReadyH.nil
            go_simp
            refine (sum2_any _ _ lin8 lin1 (by omega) (by decide) w1).mono ?_
            rintro e w2 ⟨rfl, n2⟩
            refine hK5.out _ _ ⟨hH2.1.trans n2, hH2.2.1.new n2, hH2.2.2.new n2⟩ (fun hH4 => ?_)
            clear hK5 K5
            try simp only [Act.put, List.setIfInBounds_toArray, List.set_cons_zero, List.set_cons_succ]
            have BG2 := Box.new (bg8.new n1) n2
            refine wpAnyH_take (i := 8) (oi := { dst := some 30, op := Go.Op.indexAddr 53 (Go.Operand.tmp 3) (Go.Operand.tmp 22), type := 0, pos := "load.go:60", after := #[{ on := 0, ground := Go.Ground.data }, { on := 0, ground := Go.Ground.phase }, { on := 1, ground := Go.Ground.phase }, { on := 2, ground := Go.Ground.phase }, { on := 3, ground := Go.Ground.phase }, { on := 4, ground := Go.Ground.phase }, { on := 5, ground := Go.Ground.phase }, { on := 6, ground := Go.Ground.phase }, { on := 7, ground := Go.Ground.phase }], guard := none }) (v := .pointer (some ⟨w.heap.size + 1, 0 * 4, none⟩)) rfl (by kernel_rfl) (by kernel_rfl) (by kernel_rfl) (fun _ _ _ h => h) (Or.inl ⟨by rfl, ?_⟩) hH4 ?_
            (intro w5 hS5; go_simp; try rfl)
            try simp only [Act.put, List.setIfInBounds_toArray, List.set_cons_zero, List.set_cons_succ]
            refine wpAnyH_ready (rs := [9]) (by kernel_rfl) (by simp) ?_
            refine AllReadyH.cons (o := { dst := none, op := Go.Op.store 25 (Go.Operand.tmp 30) (Go.Operand.tmp 29), type := 0, pos := "load.go:60", after := #[{ on := 8, ground := Go.Ground.data }, { on := 7, ground := Go.Ground.data }, { on := 7, ground := Go.Ground.chain }, { on := 0, ground := Go.Ground.phase }, { on := 1, ground := Go.Ground.phase }, { on := 2, ground := Go.Ground.phase }, { on := 3, ground := Go.Ground.phase }, { on := 4, ground := Go.Ground.phase }, { on := 5, ground := Go.Ground.phase }, { on := 6, ground := Go.Ground.phase }, { on := 7, ground := Go.Ground.phase }], guard := none }) rfl (fun K5 hK5 => ?_) AllReadyH.nil
            rw [if_pos (by rfl)]
            refine wp_st4 (x := .tmp 30) (y := .tmp 29) rfl rfl rfl BG2 hq8 ?_
            refine hK5.out _ _ ⟨New.st4 hH4.1 (by omega) _ _, hH4.2.1.st4 (by omega) _ _, hH4.2.2.st4 (by simp; omega) _ _⟩ (fun hH5 => ?_)
            clear hK5 K5
            try simp only [Act.put, List.setIfInBounds_toArray, List.set_cons_zero, List.set_cons_succ]
            have BG3 := put_kc BG2 hq8 (pl (accL z (kP z 0) k) (oneL (z k)))
            refine wpAnyH_done (by kernel_rfl) ?_ _
            have HF := Lib.hid (⟨hH5, BG3⟩ : _ ∧ _)
            clear hH5 BG3 BG2 hH4 hH3
            go_wp2_with fail
            go_roundg (gk - 1)
            case rel =>
              obtain ⟨⟨h1, h2, _⟩, h3⟩ := HF.out
              exact ⟨k + 1, by omega, by go_num, h1, h2, by rw [HKC.out]; exact h3⟩
            case measure => omega
          · go_simp
            refine (HC21.out _).mono ?_; rintro e w1 ⟨rfl, n1⟩
            refine hK5.out _ _ ⟨hH.1.trans n1, hH.2.1.new n1, hH.2.2.new n1⟩ (fun hH2 => ?_)
            clear hK5 K5
            try simp only [Act.put, List.setIfInBounds_toArray, List.set_cons_zero, List.set_cons_succ]
            refine wpAnyH_ready (rs := [3]) (by kernel_rfl) (by simp) ?_
            refine AllReadyH.cons (o := { dst := some 25, op := Go.Op.load 25 (Go.Operand.tmp 24), type := 25, pos := "load.go:60", after := #[{ on := 2, ground := Go.Ground.data }], guard := none }) rfl (fun K5 hK5 => ?_) AllReadyH.nil
            rw [if_pos (by rfl)]
            refine wp_ld4 (x := .tmp 24) rfl rfl (at4_kc (bg8.new n1) hq8) ?_
            refine hK5.out _ _ hH2 (fun hH2b => ?_)
            clear hK5 K5
            try simp only [Act.put, List.setIfInBounds_toArray, List.set_cons_zero, List.set_cons_succ]
            refine wpAnyH_ready (rs := [6]) (by kernel_rfl) (by simp) ?_
            refine AllReadyH.cons (o := { dst := some 28, op := Go.Op.buildSlice 22 2 #[(0, Go.Operand.tmp 25), (1, Go.Operand.tmp 27)], type := 22, pos := "load.go:60", after := #[{ on := 3, ground := Go.Ground.data }, { on := 5, ground := Go.Ground.data }], guard := none }) rfl (fun K5 hK5 => ?_) AllReadyH.nil
            rw [if_pos (by rfl)]
            refine wp_build2 (x := .tmp 25) (y := .tmp 27) rfl rfl rfl ?_
            refine hK5.out _ _ ⟨hH2.1.alloc _, hH2.2.1.alloc _, hH2.2.2.new ((New.refl _).alloc _)⟩ (fun hH3 => ?_)
            clear hK5 K5
            try simp only [Act.put, List.setIfInBounds_toArray, List.set_cons_zero, List.set_cons_succ]
            refine wpAnyH_ready (rs := [7]) (by kernel_rfl) (by simp) ?_
            refine AllReadyH.cons (o := { dst := some 29, op := Go.Op.call { callee := Go.Callee.value (Go.Operand.func 7), args := #[Go.Operand.tmp 28], argTypes := #[22] }, type := 25, pos := "load.go:60", after := #[{ on := 6, ground := Go.Ground.data }, { on := 5, ground := Go.Ground.chain }], guard := none }) rfl (fun K5 hK5 => ?_) AllReadyH.nil
            go_simp
            refine (sum2_any _ _ lin8 lin1 (by omega) (by decide) w1).mono ?_
            rintro e w2 ⟨rfl, n2⟩
            refine hK5.out _ _ ⟨hH2.1.trans n2, hH2.2.1.new n2, hH2.2.2.new n2⟩ (fun hH4 => ?_)
            clear hK5 K5
            try simp only [Act.put, List.setIfInBounds_toArray, List.set_cons_zero, List.set_cons_succ]
            have BG2 := Box.new (bg8.new n1) n2
            refine wpAnyH_take (i := 8) (oi := { dst := some 30, op := Go.Op.indexAddr 53 (Go.Operand.tmp 3) (Go.Operand.tmp 22), type := 0, pos := "load.go:60", after := #[{ on := 0, ground := Go.Ground.data }, { on := 0, ground := Go.Ground.phase }, { on := 1, ground := Go.Ground.phase }, { on := 2, ground := Go.Ground.phase }, { on := 3, ground := Go.Ground.phase }, { on := 4, ground := Go.Ground.phase }, { on := 5, ground := Go.Ground.phase }, { on := 6, ground := Go.Ground.phase }, { on := 7, ground := Go.Ground.phase }], guard := none }) (v := .pointer (some ⟨w.heap.size + 1, 0 * 4, none⟩)) rfl (by kernel_rfl) (by kernel_rfl) (by kernel_rfl) (fun _ _ _ h => h) (Or.inl ⟨by rfl, ?_⟩) hH4 ?_
            (intro w5 hS5; go_simp; try rfl)
            try simp only [Act.put, List.setIfInBounds_toArray, List.set_cons_zero, List.set_cons_succ]
            refine wpAnyH_ready (rs := [9]) (by kernel_rfl) (by simp) ?_
            refine AllReadyH.cons (o := { dst := none, op := Go.Op.store 25 (Go.Operand.tmp 30) (Go.Operand.tmp 29), type := 0, pos := "load.go:60", after := #[{ on := 8, ground := Go.Ground.data }, { on := 7, ground := Go.Ground.data }, { on := 7, ground := Go.Ground.chain }, { on := 0, ground := Go.Ground.phase }, { on := 1, ground := Go.Ground.phase }, { on := 2, ground := Go.Ground.phase }, { on := 3, ground := Go.Ground.phase }, { on := 4, ground := Go.Ground.phase }, { on := 5, ground := Go.Ground.phase }, { on := 6, ground := Go.Ground.phase }, { on := 7, ground := Go.Ground.phase }], guard := none }) rfl (fun K5 hK5 => ?_) AllReadyH.nil
            rw [if_pos (by rfl)]
            refine wp_st4 (x := .tmp 30) (y := .tmp 29) rfl rfl rfl BG2 hq8 ?_
            refine hK5.out _ _ ⟨New.st4 hH4.1 (by omega) _ _, hH4.2.1.st4 (by omega) _ _, hH4.2.2.st4 (by simp; omega) _ _⟩ (fun hH5 => ?_)
            clear hK5 K5
            try simp only [Act.put, List.setIfInBounds_toArray, List.set_cons_zero, List.set_cons_succ]
            have BG3 := put_kc BG2 hq8 (pl (accL z (kP z 0) k) (oneL (z k)))
            refine wpAnyH_done (by kernel_rfl) ?_ _
            have HF := Lib.hid (⟨hH5, BG3⟩ : _ ∧ _)
            clear hH5 BG3 BG2 hH4 hH3
            go_wp2_with fail
            go_roundg (gk - 1)
            case rel =>
              obtain ⟨⟨h1, h2, _⟩, h3⟩ := HF.out
              exact ⟨k + 1, by omega, by go_num, h1, h2, by rw [HKC.out]; exact h3⟩
            case measure => omega
        · rw [if_neg (by omega)] at hkn
          obtain ⟨q, hq⟩ : ∃ q : Nat, (z k).kd = (q : Int) := ⟨(z k).kd.toNat, by omega⟩
          have HKC := Lib.hid (HKC0.out q (hkn.trans hq))
          have lin8 := lin0 q
          have hq8 : q < 8 := by omega
          have hq9 : (q : Int) < 8 := by omega
          clear lin0 hkn HKC0
          rw [hq] at h1 h7 c2
          clear hq
          generalize (z k).kd = kd at *
          go_wp2_with (first | (refine wpl_load rfl rfl LA rfl ?_) | (refine wpl_store rfl rfl rfl rfl IA.out rfl ?_))
          refine wp_region_held_drew (S := (fun w' => New w w' ∧ Box w' w.heap.size 53 z32 ∧ OpAt w' ⟨wr.heap.size, 0, none⟩ oo)) (by kernel_rfl) ⟨nw8, bz8, OA8⟩ (fun hH => ?_)
          refine wpAnyH_take (i := 0) (oi := { dst := some 22, op := Go.Op.move (Go.Operand.tmp 6), type := 3, pos := "load.go:60", after := #[], guard := none }) (v := ?_) rfl (by kernel_rfl) (by kernel_rfl) (by kernel_rfl) (fun _ _ _ h => h) (Or.inl ⟨by rfl, ?_⟩) hH ?_
          rotate_left; (intro w5 hS5; go_simp; try rfl)
          try simp only [Act.put, List.setIfInBounds_toArray, List.set_cons_zero, List.set_cons_succ]
          refine wpAnyH_take (i := 1) (oi := { dst := some 23, op := Go.Op.move (Go.Operand.tmp 6), type := 3, pos := "load.go:60", after := #[], guard := none }) (v := ?_) rfl (by kernel_rfl) (by kernel_rfl) (by kernel_rfl) (fun _ _ _ h => h) (Or.inl ⟨by rfl, ?_⟩) hH ?_
          rotate_left; (intro w5 hS5; go_simp; try rfl)
          try simp only [Act.put, List.setIfInBounds_toArray, List.set_cons_zero, List.set_cons_succ]
          refine wpAnyH_take (i := 2) (oi := { dst := some 24, op := Go.Op.indexAddr 53 (Go.Operand.tmp 3) (Go.Operand.tmp 23), type := 0, pos := "load.go:60", after := #[{ on := 1, ground := Go.Ground.data }], guard := none }) (v := .pointer (some ⟨w.heap.size + 1, q * 4, none⟩)) rfl (by kernel_rfl) (by kernel_rfl) (by kernel_rfl) (fun _ _ _ h => h) (Or.inl ⟨by rfl, ?_⟩) hH ?_
          (intro w5 hS5; go_simp; try rfl)
          try simp only [Act.put, List.setIfInBounds_toArray, List.set_cons_zero, List.set_cons_succ]
          refine wpAnyH_take (i := 4) (oi := { dst := some 26, op := Go.Op.load 45 (Go.Operand.tmp 5), type := 45, pos := "load.go:60", after := #[], guard := none }) (v := .agg oo) rfl (by kernel_rfl) (by kernel_rfl) (by kernel_rfl) (fun _ _ _ h => h) (Or.inl ⟨by rfl, ?_⟩) hH ?_
          (intro w5 hS5; refine yl_load (x := .tmp 5) ?_ ?_ hS5.2.2 <;> rfl)
          try simp only [Act.put, List.setIfInBounds_toArray, List.set_cons_zero, List.set_cons_succ]
          refine wpAnyH_ready (rs := [3, 5]) (by kernel_rfl) (by simp) ?_
          refine AllReadyH.cons (o := { dst := some 25, op := Go.Op.load 25 (Go.Operand.tmp 24), type := 25, pos := "load.go:60", after := #[{ on := 2, ground := Go.Ground.data }], guard := none }) rfl (fun K5 hK5 => ?_) (AllReadyH.cons (o := { dst := some 27, op := Go.Op.call { callee := Go.Callee.value (Go.Operand.func 21), args := #[Go.Operand.tmp 26], argTypes := #[45] }, type := 25, pos := "load.go:60", after := #[{ on := 4, ground := Go.Ground.data }], guard := none }) rfl (fun K5 hK5 => ?_) AllReadyH.nil)
          · rw [if_pos (by rfl)]
            refine wp_ld4 (x := .tmp 24) rfl rfl (at4_kc bg8 hq8) ?_
            refine hK5.out _ _ hH (fun hH1 => ?_)
            clear hK5 K5
            try simp only [Act.put, List.setIfInBounds_toArray, List.set_cons_zero, List.set_cons_succ]
            refine wpAnyH_ready (rs := [5]) (by kernel_rfl) (by simp) ?_
            refine AllReadyH.cons (o := { dst := some 27, op := Go.Op.call { callee := Go.Callee.value (Go.Operand.func 21), args := #[Go.Operand.tmp 26], argTypes := #[45] }, type := 25, pos := "load.go:60", after := #[{ on := 4, ground := Go.Ground.data }], guard := none }) rfl (fun K5 hK5 => ?_) AllReadyH.nil
            go_simp
            refine (HC21.out _).mono ?_; rintro e w1 ⟨rfl, n1⟩
            refine hK5.out _ _ ⟨hH.1.trans n1, hH.2.1.new n1, hH.2.2.new n1⟩ (fun hH2 => ?_)
            clear hK5 K5
            try simp only [Act.put, List.setIfInBounds_toArray, List.set_cons_zero, List.set_cons_succ]
            refine wpAnyH_ready (rs := [6]) (by kernel_rfl) (by simp) ?_
            refine AllReadyH.cons (o := { dst := some 28, op := Go.Op.buildSlice 22 2 #[(0, Go.Operand.tmp 25), (1, Go.Operand.tmp 27)], type := 22, pos := "load.go:60", after := #[{ on := 3, ground := Go.Ground.data }, { on := 5, ground := Go.Ground.data }], guard := none }) rfl (fun K5 hK5 => ?_) AllReadyH.nil
            rw [if_pos (by rfl)]
            refine wp_build2 (x := .tmp 25) (y := .tmp 27) rfl rfl rfl ?_
            refine hK5.out _ _ ⟨hH2.1.alloc _, hH2.2.1.alloc _, hH2.2.2.new ((New.refl _).alloc _)⟩ (fun hH3 => ?_)
            clear hK5 K5
            try simp only [Act.put, List.setIfInBounds_toArray, List.set_cons_zero, List.set_cons_succ]
            refine wpAnyH_ready (rs := [7]) (by kernel_rfl) (by simp) ?_
            refine AllReadyH.cons (o := { dst := some 29, op := Go.Op.call { callee := Go.Callee.value (Go.Operand.func 7), args := #[Go.Operand.tmp 28], argTypes := #[22] }, type := 25, pos := "load.go:60", after := #[{ on := 6, ground := Go.Ground.data }, { on := 5, ground := Go.Ground.chain }], guard := none }) rfl (fun K5 hK5 => ?_) AllReadyH.nil
            go_simp
            refine (sum2_any _ _ lin8 lin1 (by omega) (by decide) w1).mono ?_
            rintro e w2 ⟨rfl, n2⟩
            refine hK5.out _ _ ⟨hH2.1.trans n2, hH2.2.1.new n2, hH2.2.2.new n2⟩ (fun hH4 => ?_)
            clear hK5 K5
            try simp only [Act.put, List.setIfInBounds_toArray, List.set_cons_zero, List.set_cons_succ]
            have BG2 := Box.new (bg8.new n1) n2
            refine wpAnyH_take (i := 8) (oi := { dst := some 30, op := Go.Op.indexAddr 53 (Go.Operand.tmp 3) (Go.Operand.tmp 22), type := 0, pos := "load.go:60", after := #[{ on := 0, ground := Go.Ground.data }, { on := 0, ground := Go.Ground.phase }, { on := 1, ground := Go.Ground.phase }, { on := 2, ground := Go.Ground.phase }, { on := 3, ground := Go.Ground.phase }, { on := 4, ground := Go.Ground.phase }, { on := 5, ground := Go.Ground.phase }, { on := 6, ground := Go.Ground.phase }, { on := 7, ground := Go.Ground.phase }], guard := none }) (v := .pointer (some ⟨w.heap.size + 1, q * 4, none⟩)) rfl (by kernel_rfl) (by kernel_rfl) (by kernel_rfl) (fun _ _ _ h => h) (Or.inl ⟨by rfl, ?_⟩) hH4 ?_
            (intro w5 hS5; go_simp; try rfl)
            try simp only [Act.put, List.setIfInBounds_toArray, List.set_cons_zero, List.set_cons_succ]
            refine wpAnyH_ready (rs := [9]) (by kernel_rfl) (by simp) ?_
            refine AllReadyH.cons (o := { dst := none, op := Go.Op.store 25 (Go.Operand.tmp 30) (Go.Operand.tmp 29), type := 0, pos := "load.go:60", after := #[{ on := 8, ground := Go.Ground.data }, { on := 7, ground := Go.Ground.data }, { on := 7, ground := Go.Ground.chain }, { on := 0, ground := Go.Ground.phase }, { on := 1, ground := Go.Ground.phase }, { on := 2, ground := Go.Ground.phase }, { on := 3, ground := Go.Ground.phase }, { on := 4, ground := Go.Ground.phase }, { on := 5, ground := Go.Ground.phase }, { on := 6, ground := Go.Ground.phase }, { on := 7, ground := Go.Ground.phase }], guard := none }) rfl (fun K5 hK5 => ?_) AllReadyH.nil
            rw [if_pos (by rfl)]
            refine wp_st4 (x := .tmp 30) (y := .tmp 29) rfl rfl rfl BG2 hq8 ?_
            refine hK5.out _ _ ⟨New.st4 hH4.1 (by omega) _ _, hH4.2.1.st4 (by omega) _ _, hH4.2.2.st4 (by simp; omega) _ _⟩ (fun hH5 => ?_)
            clear hK5 K5
            try simp only [Act.put, List.setIfInBounds_toArray, List.set_cons_zero, List.set_cons_succ]
            have BG3 := put_kc BG2 hq8 (pl (accL z (kP z q) k) (oneL (z k)))
            refine wpAnyH_done (by kernel_rfl) ?_ _
            have HF := Lib.hid (⟨hH5, BG3⟩ : _ ∧ _)
            clear hH5 BG3 BG2 hH4 hH3
            go_wp2_with fail
            go_roundg (gk - 1)
            case rel =>
              obtain ⟨⟨h1, h2, _⟩, h3⟩ := HF.out
              exact ⟨k + 1, by omega, by go_num, h1, h2, by rw [HKC.out]; exact h3⟩
            case measure => omega
          · go_simp
            refine (HC21.out _).mono ?_; rintro e w1 ⟨rfl, n1⟩
            refine hK5.out _ _ ⟨hH.1.trans n1, hH.2.1.new n1, hH.2.2.new n1⟩ (fun hH2 => ?_)
            clear hK5 K5
            try simp only [Act.put, List.setIfInBounds_toArray, List.set_cons_zero, List.set_cons_succ]
            refine wpAnyH_ready (rs := [3]) (by kernel_rfl) (by simp) ?_
            refine AllReadyH.cons (o := { dst := some 25, op := Go.Op.load 25 (Go.Operand.tmp 24), type := 25, pos := "load.go:60", after := #[{ on := 2, ground := Go.Ground.data }], guard := none }) rfl (fun K5 hK5 => ?_) AllReadyH.nil
            rw [if_pos (by rfl)]
            refine wp_ld4 (x := .tmp 24) rfl rfl (at4_kc (bg8.new n1) hq8) ?_
            refine hK5.out _ _ hH2 (fun hH2b => ?_)
            clear hK5 K5
            try simp only [Act.put, List.setIfInBounds_toArray, List.set_cons_zero, List.set_cons_succ]
            refine wpAnyH_ready (rs := [6]) (by kernel_rfl) (by simp) ?_
            refine AllReadyH.cons (o := { dst := some 28, op := Go.Op.buildSlice 22 2 #[(0, Go.Operand.tmp 25), (1, Go.Operand.tmp 27)], type := 22, pos := "load.go:60", after := #[{ on := 3, ground := Go.Ground.data }, { on := 5, ground := Go.Ground.data }], guard := none }) rfl (fun K5 hK5 => ?_) AllReadyH.nil
            rw [if_pos (by rfl)]
            refine wp_build2 (x := .tmp 25) (y := .tmp 27) rfl rfl rfl ?_
            refine hK5.out _ _ ⟨hH2.1.alloc _, hH2.2.1.alloc _, hH2.2.2.new ((New.refl _).alloc _)⟩ (fun hH3 => ?_)
            clear hK5 K5
            try simp only [Act.put, List.setIfInBounds_toArray, List.set_cons_zero, List.set_cons_succ]
            refine wpAnyH_ready (rs := [7]) (by kernel_rfl) (by simp) ?_
            refine AllReadyH.cons (o := { dst := some 29, op := Go.Op.call { callee := Go.Callee.value (Go.Operand.func 7), args := #[Go.Operand.tmp 28], argTypes := #[22] }, type := 25, pos := "load.go:60", after := #[{ on := 6, ground := Go.Ground.data }, { on := 5, ground := Go.Ground.chain }], guard := none }) rfl (fun K5 hK5 => ?_) AllReadyH.nil
            go_simp
            refine (sum2_any _ _ lin8 lin1 (by omega) (by decide) w1).mono ?_
            rintro e w2 ⟨rfl, n2⟩
            refine hK5.out _ _ ⟨hH2.1.trans n2, hH2.2.1.new n2, hH2.2.2.new n2⟩ (fun hH4 => ?_)
            clear hK5 K5
            try simp only [Act.put, List.setIfInBounds_toArray, List.set_cons_zero, List.set_cons_succ]
            have BG2 := Box.new (bg8.new n1) n2
            refine wpAnyH_take (i := 8) (oi := { dst := some 30, op := Go.Op.indexAddr 53 (Go.Operand.tmp 3) (Go.Operand.tmp 22), type := 0, pos := "load.go:60", after := #[{ on := 0, ground := Go.Ground.data }, { on := 0, ground := Go.Ground.phase }, { on := 1, ground := Go.Ground.phase }, { on := 2, ground := Go.Ground.phase }, { on := 3, ground := Go.Ground.phase }, { on := 4, ground := Go.Ground.phase }, { on := 5, ground := Go.Ground.phase }, { on := 6, ground := Go.Ground.phase }, { on := 7, ground := Go.Ground.phase }], guard := none }) (v := .pointer (some ⟨w.heap.size + 1, q * 4, none⟩)) rfl (by kernel_rfl) (by kernel_rfl) (by kernel_rfl) (fun _ _ _ h => h) (Or.inl ⟨by rfl, ?_⟩) hH4 ?_
            (intro w5 hS5; go_simp; try rfl)
            try simp only [Act.put, List.setIfInBounds_toArray, List.set_cons_zero, List.set_cons_succ]
            refine wpAnyH_ready (rs := [9]) (by kernel_rfl) (by simp) ?_
            refine AllReadyH.cons (o := { dst := none, op := Go.Op.store 25 (Go.Operand.tmp 30) (Go.Operand.tmp 29), type := 0, pos := "load.go:60", after := #[{ on := 8, ground := Go.Ground.data }, { on := 7, ground := Go.Ground.data }, { on := 7, ground := Go.Ground.chain }, { on := 0, ground := Go.Ground.phase }, { on := 1, ground := Go.Ground.phase }, { on := 2, ground := Go.Ground.phase }, { on := 3, ground := Go.Ground.phase }, { on := 4, ground := Go.Ground.phase }, { on := 5, ground := Go.Ground.phase }, { on := 6, ground := Go.Ground.phase }, { on := 7, ground := Go.Ground.phase }], guard := none }) rfl (fun K5 hK5 => ?_) AllReadyH.nil
            rw [if_pos (by rfl)]
            refine wp_st4 (x := .tmp 30) (y := .tmp 29) rfl rfl rfl BG2 hq8 ?_
            refine hK5.out _ _ ⟨New.st4 hH4.1 (by omega) _ _, hH4.2.1.st4 (by omega) _ _, hH4.2.2.st4 (by simp; omega) _ _⟩ (fun hH5 => ?_)
            clear hK5 K5
            try simp only [Act.put, List.setIfInBounds_toArray, List.set_cons_zero, List.set_cons_succ]
            have BG3 := put_kc BG2 hq8 (pl (accL z (kP z q) k) (oneL (z k)))
            refine wpAnyH_done (by kernel_rfl) ?_ _
            have HF := Lib.hid (⟨hH5, BG3⟩ : _ ∧ _)
            clear hH5 BG3 BG2 hH4 hH3
            go_wp2_with fail
            go_roundg (gk - 1)
            case rel =>
              obtain ⟨⟨h1, h2, _⟩, h3⟩ := HF.out
              exact ⟨k + 1, by omega, by go_num, h1, h2, by rw [HKC.out]; exact h3⟩
            case measure => omega
    · have hke : k = n := by omega
      subst hke
      clear hL
      have r1 : wr.rangeAt (w.heap.size + 1) 0 (kc fun q => accL z (kP z q) k).toList := fun j v hv => by
        rw [Nat.zero_add, bg.cell]; simpa using hv
      have t2 : wr.there w.heap.size 0 32 := fun j hj => by
        rw [Nat.zero_add]
        refine ⟨?_, bz.frozen _⟩
        rw [bz.cell, Array.getElem?_eq_getElem (by rw [z32, kc_size]; exact hj)]
        rfl
      have T2 := Lib.hid t2
      have R1 := Lib.hid r1
      clear t2 r1
      generalize hf : (fun q => accL z (kP z q) k) = f at *
      have HEF := Lib.hid hf
      clear hf
      go_wp2_with (first | (refine wpList_load_mid rfl 53 _ rfl (w.heap.size + 1) 0 rfl _ _ R1.out Try.underlying53 rfl size53 ?_) | (refine wpList_store_mid rfl 53 _ _ rfl w.heap.size 0 (kc f) rfl rfl T2.out size53 (kc_one f) ?_))
      have hr := run_loadVar_mid (P := Try.prog) (wr.setCells w.heap.size 0 (kc f).toList) w.heap.size 0 53 (kc f).toList _ (World.rangeAt_setCells_same _ _ _ _ T2.out) Try.underlying53 rfl size53
      refine bodyPost_ret (v := .agg (kc f)) (results_cell Try.results13 rfl hr) rfl ⟨by rw [HEF.out], New.setCells' nw (Nat.le_refl _) _ _⟩
end Go.Proofs.Ytplejooihfhpdaa
