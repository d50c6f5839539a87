/- The program's Cmp, Same; the reference's Same. -/
import Derived.Test.YtplaicdbcfnjbaaV02
import Derived.Test.YtplaicdbcfnjbaaV01
set_option linter.unusedSimpArgs false
set_option linter.unusedVariables false
namespace Go.Proofs.Ytplaicdbcfnjbaa
open Go.RowKit
set_option linter.unusedVariables false

theorem isNaN_any (x : Int) (w : World) : Calls Try.prog 50 #[.int .i64 x] w fun e w' => e = .returned (.bool false) ∧ w' = w := by
  go_enter Try.func50, Try.ntmps50
  go_wp2
  go_ret
  exact ⟨by simp, rfl⟩
theorem comp_any (x y : Int) (w : World) : Calls Try.prog 37 #[.int .i64 x, .int .i64 y] w fun e w' => e = .returned (.int .i64 (cmpI x y)) ∧ w' = w := by
  by_cases h1 : x < y
  · have hc : cmpI x y = -1 := by unfold cmpI; rw [if_pos h1]
    rw [hc]
    clear hc
    go_enter Try.func37, Try.ntmps37
    go_wp2_with (first | (go_at_call 50; refine (isNaN_any _ _).mono ?_; rintro e w9 ⟨rfl, rfl⟩))
    go_ret
    exact ⟨rfl, rfl⟩
  · by_cases h2 : y < x
    · have hc : cmpI x y = 1 := by unfold cmpI; rw [if_neg h1, if_pos h2]
      rw [hc]
      clear hc
      go_enter Try.func37, Try.ntmps37
      go_wp2_with (first | (go_at_call 50; refine (isNaN_any _ _).mono ?_; rintro e w9 ⟨rfl, rfl⟩))
      go_ret
      exact ⟨rfl, rfl⟩
    · have hc : cmpI x y = 0 := by unfold cmpI; rw [if_neg h1, if_neg h2]
      rw [hc]
      clear hc
      go_enter Try.func37, Try.ntmps37
      go_wp2_with (first | (go_at_call 50; refine (isNaN_any _ _).mono ?_; rintro e w9 ⟨rfl, rfl⟩))
      go_ret
      exact ⟨rfl, rfl⟩
set_option maxHeartbeats 1000000 in
theorem or_any (x y z : Int) (g : Nat) (w : World) (h0 : w.cell? ⟨g, 0, none⟩ = some (.int .i64 x)) (h1 : w.cell? ⟨g, 1, none⟩ = some (.int .i64 y)) (h2 : w.cell? ⟨g, 2, none⟩ = some (.int .i64 z)) :
    Calls Try.prog 60 #[.slice (some ⟨g, 0, none⟩) 3 3] w fun e w' => e = .returned (.int .i64 (or3 x y z)) ∧ w' = w := by
  by_cases hx : x = 0
  · by_cases hy : y = 0
    · have hz : or3 x y z = z := by unfold or3; rw [if_neg (by simpa using hx), if_neg (by simpa using hy)]
      rw [hz]
      subst hx hy
      clear hz
      by_cases hzz : z = 0
      · subst hzz
        go_enter Try.func60, Try.ntmps60
        go_wp2
        refine wp_loop_rounds 4 ?_
        rw [rounds_succ]
        go_wp2
        rw [rounds_succ]
        go_wp2
        rw [rounds_succ]
        go_wp2
        rw [rounds_succ]
        go_wp2
        go_ret
        exact ⟨rfl, rfl⟩
      · have t : (z != 0) = true := by simpa using hzz
        clear hzz
        go_enter Try.func60, Try.ntmps60
        go_wp2
        refine wp_loop_rounds 3 ?_
        rw [rounds_succ]
        go_wp2
        rw [rounds_succ]
        go_wp2
        rw [rounds_succ]
        go_wp2
        go_ret
        exact ⟨rfl, rfl⟩
    · have hz : or3 x y z = y := by unfold or3; rw [if_neg (by simpa using hx), if_pos hy]
      rw [hz]
      have t : (y != 0) = true := by simpa using hy
      subst hx
      clear hz hy
      go_enter Try.func60, Try.ntmps60
      go_wp2
      refine wp_loop_rounds 2 ?_
      rw [rounds_succ]
      go_wp2
      rw [rounds_succ]
      go_wp2
      go_ret
      exact ⟨rfl, rfl⟩
  · have hz : or3 x y z = x := by unfold or3; rw [if_pos hx]
    rw [hz]
    have t : (x != 0) = true := by simpa using hx
    clear hz hx
    go_enter Try.func60, Try.ntmps60
    go_wp2
    refine wp_loop_rounds 1 ?_
    rw [rounds_succ]
    go_wp2
    go_ret
    exact ⟨rfl, rfl⟩
def DCmp (f : Nat) : Prop := ∀ (a b : DT) (A : Option Addr) (ca : Nat) (B : Option Addr) (cb : Nat) (w : World), IsD w f a A ca → IsD w f b B cb → Calls Try.prog 51 #[dagg a A ca, dagg b B cb] w fun e w' => e = .returned (.int .i64 (cmpD f a b)) ∧ New w w'
set_option maxRecDepth 100000 in
set_option maxHeartbeats 4000000 in
theorem cfunc_any (f : Nat) (ih : DCmp f) (a b : DT) (A : Option Addr) (ca : Nat) (B : Option Addr) (cb : Nat) (w : World) (hA : IsD w (f + 1) a A ca) (hB : IsD w (f + 1) b B cb) (hl : b.kids.length = a.kids.length) :
    Calls Try.prog 61 #[.slice A a.kids.length ca, .slice B b.kids.length cb, .func (.func 51) #[] #[]] w fun e w' => e = .returned (.int .i64 (cmpK (cmpD f) a.kids b.kids a.kids.length)) ∧ New w w' := by
  have IH := Lib.hid ih
  obtain ⟨-, -, a3, a4, ka⟩ := hA
  obtain ⟨-, -, b3, b4, kb⟩ := hB
  have KA := Lib.hid ka
  have KB := Lib.hid kb
  obtain ⟨L, hL⟩ : ∃ L, L = a.kids.length := ⟨_, rfl⟩
  rw [hl, ← hL]
  have HL := Lib.hid hL
  have HLB := Lib.hid (hl.trans hL.symm)
  have hLb : L ≤ 9223372036854775807 := by omega
  clear ih ka kb hL hl a3 a4 b3 b4
  generalize hcc : cmpK (cmpD f) a.kids b.kids L = C at *
  have HCC := Lib.hid hcc
  clear hcc
  go_enter Try.func61, Try.ntmps61
  go_wp2
  go_loopg [13] L (fun g i wr => ∃ k : Nat, k + g = L ∧ i = .int .i64 k ∧ cmpK (cmpD f) a.kids b.kids k = 0 ∧ New w wr)
  case atStart => exact ⟨0, by omega, rfl, rfl, New.refl _⟩
  case round =>
    obtain ⟨k, hk, rfl, hz, nw⟩ := hrel
    by_cases hlt : k < L
    · obtain ⟨ad, rfl, ka⟩ := KA.out (by rw [← HL.out]; omega)
      obtain ⟨bd, rfl, kb⟩ := KB.out (by rw [HLB.out]; omega)
      obtain ⟨A', ca', da, ia⟩ := ka k (by rw [← HL.out]; omega)
      obtain ⟨B', cb', db, ib⟩ := kb k (by rw [HLB.out]; omega)
      obtain ⟨al, a0, a1, a2⟩ := da.new nw
      obtain ⟨bl, b0, b1, b2⟩ := db.new nw
      have CC := Lib.hid (fun w' (m : New wr w') => IH.out (a.kid k) (b.kid k) A' ca' B' cb' w' (ia.new (nw.trans m)) (ib.new (nw.trans m)))
      unfold dagg at CC
      have HST := Lib.hid (fun h => cmpK_stop (c := cmpD f) (a := a.kids) (b := b.kids) hz h L hlt)
      have HGO := Lib.hid (fun h => cmpK_go (c := cmpD f) (a := a.kids) (b := b.kids) hz h)
      have hxx : cmpD f (a.kids.getD k (.mk 0 0 [])) (b.kids.getD k (.mk 0 0 [])) = cmpD f (a.kid k) (b.kid k) := rfl
      rw [hxx] at HST HGO
      clear hxx da db ia ib ka kb hz
      have hlt' : (k : Int) < (L : Int) := by omega
      generalize cmpD f (a.kid k) (b.kid k) = c at *
      generalize a.kid k = xa at *
      generalize b.kid k = xb at *
      by_cases hc0 : c = 0
      · subst hc0
        have HG2 := Lib.hid (HGO.out rfl)
        go_wp2_with (go_at_call 51; refine (CC.out _ (((New.refl _).alloc _).alloc _)).mono ?_; rintro e w5 ⟨rfl, n5⟩)
        go_roundg (gk - 1)
        case rel => exact ⟨k + 1, by omega, by go_num, HG2.out, ((nw.alloc _).alloc _).trans n5⟩
        case measure => omega
      · have tc : (c != 0) = true := by simpa using hc0
        have HS2 := Lib.hid (HST.out hc0)
        clear hc0
        go_wp2_with (go_at_call 51; refine (CC.out _ (((New.refl _).alloc _).alloc _)).mono ?_; rintro e w5 ⟨rfl, n5⟩)
        go_ret
        exact ⟨by rw [← HCC.out, HS2.out]; rfl, ((nw.alloc _).alloc _).trans n5⟩
    · obtain rfl : k = L := by omega
      have HZ := Lib.hid (HCC.out.symm.trans hz)
      clear hz
      go_wp2
      go_ret
      exact ⟨by rw [HZ.out]; rfl, nw⟩
set_option maxRecDepth 100000 in
set_option maxHeartbeats 4000000 in
theorem dcmp_any : ∀ f, DCmp f
  | 0 => fun _ _ _ _ _ _ _ h _ => h.elim
  | f + 1 => fun a b A ca B cb w hA hB => by
    have ih := dcmp_any f
    have HF := Lib.hid (fun w' (m : New w w') hl => cfunc_any f ih a b A ca B cb w' (hA.new m) (hB.new m) hl)
    have HC := Lib.hid comp_any
    have HO := Lib.hid or_any
    have hd : cmpD (f + 1) a b = if or3 (cmpI a.k b.k) (cmpI a.n b.n) (cmpI a.kids.length b.kids.length) ≠ 0 then or3 (cmpI a.k b.k) (cmpI a.n b.n) (cmpI a.kids.length b.kids.length) else cmpK (cmpD f) a.kids b.kids a.kids.length := rfl
    have hlen : or3 (cmpI a.k b.k) (cmpI a.n b.n) (cmpI a.kids.length b.kids.length) = 0 → b.kids.length = a.kids.length := by
      intro h
      unfold or3 at h
      split at h
      · contradiction
      · split at h
        · contradiction
        · unfold cmpI at h
          split at h
          · cases h
          · split at h
            · cases h
            · omega
    clear hA hB ih
    unfold dagg
    generalize cmpD (f + 1) a b = C at *
    generalize cmpK (cmpD f) a.kids b.kids a.kids.length = C2 at *
    generalize hx : cmpI a.k b.k = x at *
    generalize hy : cmpI a.n b.n = y at *
    generalize hzz : cmpI (a.kids.length : Int) (b.kids.length : Int) = z at *
    generalize a.kids.length = La at *
    generalize b.kids.length = Lb at *
    have HX := Lib.hid (⟨hx, hy, hzz⟩ : _ ∧ _ ∧ _)
    have HD := Lib.hid hd
    have HLEN := Lib.hid hlen
    clear hx hy hzz hd hlen
    have S0 := Lib.hid (fun w' (m : New ((w.alloc (.cells #[.int .i64 a.k, .int .i64 a.n, .slice A La ca] 32)).alloc (.cells #[.int .i64 b.k, .int .i64 b.n, .slice B Lb cb] 32)) w') => (⟨(((Box.made w 32 #[.int .i64 a.k, .int .i64 a.n, .slice A La ca]).alloc _).new m), ((Box.made' (w.alloc (.cells _ 32)) 32 #[.int .i64 b.k, .int .i64 b.n, .slice B Lb cb] (by simp)).new m)⟩ : Box w' w.heap.size 32 _ ∧ Box w' (w.heap.size + 1) 32 _))
    go_enter Try.func51, Try.ntmps51
    go_wp2
    refine wp_region_held_drew (S := fun w' => New ((w.alloc (.cells #[.int .i64 a.k, .int .i64 a.n, .slice A La ca] 32)).alloc (.cells #[.int .i64 b.k, .int .i64 b.n, .slice B Lb cb] 32)).drew w') (by kernel_rfl) (New.refl _) (fun hH => ?_)
    refine wpAnyH_take (i := 0) (oi := { dst := some 6, op := Go.Op.fieldAddr 32 (Go.Operand.tmp 2) 0, type := 0, pos := "desc.go:50", after := #[], guard := none }) (v := ?_) rfl (by kernel_rfl) (by kernel_rfl) (by kernel_rfl) (fun _ _ _ h => h) (Or.inl ⟨by rfl, ?_⟩) hH ?_
    rotate_left; (intro w5 hS5; go_simp; try rfl)
    try simp only [Act.put, List.setIfInBounds_toArray, List.set_cons_zero, List.set_cons_succ]
    refine wpAnyH_take (i := 1) (oi := { dst := some 7, op := Go.Op.load 3 (Go.Operand.tmp 6), type := 3, pos := "desc.go:50", after := #[{ on := 0, ground := Go.Ground.data }], guard := none }) (v := ?_) rfl (by kernel_rfl) (by kernel_rfl) (by kernel_rfl) (fun _ _ _ h => h) (Or.inl ⟨by rfl, ?_⟩) hH ?_
    rotate_left; (intro w5 hS5; (have q := S0.out _ ((New.refl _).drew.trans hS5); have q0 := q.1.cell 0; have q1 := q.1.cell 1; have q2 := q.1.cell 2; have p0 := q.2.cell 0; have p1 := q.2.cell 1; have p2 := q.2.cell 2; simp only [List.getElem?_toArray, List.getElem?_cons_zero, List.getElem?_cons_succ] at q0 q1 q2 p0 p1 p2; go_simp; try rfl))
    try simp only [Act.put, List.setIfInBounds_toArray, List.set_cons_zero, List.set_cons_succ]
    refine wpAnyH_take (i := 2) (oi := { dst := some 8, op := Go.Op.fieldAddr 32 (Go.Operand.tmp 3) 0, type := 0, pos := "desc.go:50", after := #[], guard := none }) (v := ?_) rfl (by kernel_rfl) (by kernel_rfl) (by kernel_rfl) (fun _ _ _ h => h) (Or.inl ⟨by rfl, ?_⟩) hH ?_
    rotate_left; (intro w5 hS5; go_simp; try rfl)
    try simp only [Act.put, List.setIfInBounds_toArray, List.set_cons_zero, List.set_cons_succ]
    refine wpAnyH_take (i := 3) (oi := { dst := some 9, op := Go.Op.load 3 (Go.Operand.tmp 8), type := 3, pos := "desc.go:50", after := #[{ on := 2, ground := Go.Ground.data }], guard := none }) (v := ?_) rfl (by kernel_rfl) (by kernel_rfl) (by kernel_rfl) (fun _ _ _ h => h) (Or.inl ⟨by rfl, ?_⟩) hH ?_
    rotate_left; (intro w5 hS5; (have q := S0.out _ ((New.refl _).drew.trans hS5); have q0 := q.1.cell 0; have q1 := q.1.cell 1; have q2 := q.1.cell 2; have p0 := q.2.cell 0; have p1 := q.2.cell 1; have p2 := q.2.cell 2; simp only [List.getElem?_toArray, List.getElem?_cons_zero, List.getElem?_cons_succ] at q0 q1 q2 p0 p1 p2; go_simp; try rfl))
    try simp only [Act.put, List.setIfInBounds_toArray, List.set_cons_zero, List.set_cons_succ]
    refine wpAnyH_take (i := 5) (oi := { dst := some 11, op := Go.Op.fieldAddr 32 (Go.Operand.tmp 2) 1, type := 0, pos := "desc.go:50", after := #[], guard := none }) (v := ?_) rfl (by kernel_rfl) (by kernel_rfl) (by kernel_rfl) (fun _ _ _ h => h) (Or.inl ⟨by rfl, ?_⟩) hH ?_
    rotate_left; (intro w5 hS5; go_simp; try rfl)
    try simp only [Act.put, List.setIfInBounds_toArray, List.set_cons_zero, List.set_cons_succ]
    refine wpAnyH_take (i := 6) (oi := { dst := some 12, op := Go.Op.load 3 (Go.Operand.tmp 11), type := 3, pos := "desc.go:50", after := #[{ on := 5, ground := Go.Ground.data }], guard := none }) (v := ?_) rfl (by kernel_rfl) (by kernel_rfl) (by kernel_rfl) (fun _ _ _ h => h) (Or.inl ⟨by rfl, ?_⟩) hH ?_
    rotate_left; (intro w5 hS5; (have q := S0.out _ ((New.refl _).drew.trans hS5); have q0 := q.1.cell 0; have q1 := q.1.cell 1; have q2 := q.1.cell 2; have p0 := q.2.cell 0; have p1 := q.2.cell 1; have p2 := q.2.cell 2; simp only [List.getElem?_toArray, List.getElem?_cons_zero, List.getElem?_cons_succ] at q0 q1 q2 p0 p1 p2; go_simp; try rfl))
    try simp only [Act.put, List.setIfInBounds_toArray, List.set_cons_zero, List.set_cons_succ]
    refine wpAnyH_take (i := 7) (oi := { dst := some 13, op := Go.Op.fieldAddr 32 (Go.Operand.tmp 3) 1, type := 0, pos := "desc.go:50", after := #[], guard := none }) (v := ?_) rfl (by kernel_rfl) (by kernel_rfl) (by kernel_rfl) (fun _ _ _ h => h) (Or.inl ⟨by rfl, ?_⟩) hH ?_
    rotate_left; (intro w5 hS5; go_simp; try rfl)
    try simp only [Act.put, List.setIfInBounds_toArray, List.set_cons_zero, List.set_cons_succ]
    refine wpAnyH_take (i := 8) (oi := { dst := some 14, op := Go.Op.load 3 (Go.Operand.tmp 13), type := 3, pos := "desc.go:50", after := #[{ on := 7, ground := Go.Ground.data }], guard := none }) (v := ?_) rfl (by kernel_rfl) (by kernel_rfl) (by kernel_rfl) (fun _ _ _ h => h) (Or.inl ⟨by rfl, ?_⟩) hH ?_
    rotate_left; (intro w5 hS5; (have q := S0.out _ ((New.refl _).drew.trans hS5); have q0 := q.1.cell 0; have q1 := q.1.cell 1; have q2 := q.1.cell 2; have p0 := q.2.cell 0; have p1 := q.2.cell 1; have p2 := q.2.cell 2; simp only [List.getElem?_toArray, List.getElem?_cons_zero, List.getElem?_cons_succ] at q0 q1 q2 p0 p1 p2; go_simp; try rfl))
    try simp only [Act.put, List.setIfInBounds_toArray, List.set_cons_zero, List.set_cons_succ]
    refine wpAnyH_take (i := 10) (oi := { dst := some 16, op := Go.Op.fieldAddr 32 (Go.Operand.tmp 2) 2, type := 0, pos := "desc.go:50", after := #[], guard := none }) (v := ?_) rfl (by kernel_rfl) (by kernel_rfl) (by kernel_rfl) (fun _ _ _ h => h) (Or.inl ⟨by rfl, ?_⟩) hH ?_
    rotate_left; (intro w5 hS5; go_simp; try rfl)
    try simp only [Act.put, List.setIfInBounds_toArray, List.set_cons_zero, List.set_cons_succ]
    refine wpAnyH_take (i := 11) (oi := { dst := some 17, op := Go.Op.load 30 (Go.Operand.tmp 16), type := 30, pos := "desc.go:50", after := #[{ on := 10, ground := Go.Ground.data }], guard := none }) (v := ?_) rfl (by kernel_rfl) (by kernel_rfl) (by kernel_rfl) (fun _ _ _ h => h) (Or.inl ⟨by rfl, ?_⟩) hH ?_
    rotate_left; (intro w5 hS5; (have q := S0.out _ ((New.refl _).drew.trans hS5); have q0 := q.1.cell 0; have q1 := q.1.cell 1; have q2 := q.1.cell 2; have p0 := q.2.cell 0; have p1 := q.2.cell 1; have p2 := q.2.cell 2; simp only [List.getElem?_toArray, List.getElem?_cons_zero, List.getElem?_cons_succ] at q0 q1 q2 p0 p1 p2; go_simp; try rfl))
    try simp only [Act.put, List.setIfInBounds_toArray, List.set_cons_zero, List.set_cons_succ]
    refine wpAnyH_take (i := 12) (oi := { dst := some 18, op := Go.Op.call { callee := Go.Callee.builtin Go.Builtin.len, args := #[Go.Operand.tmp 17], argTypes := #[30] }, type := 3, pos := "desc.go:50", after := #[{ on := 11, ground := Go.Ground.data }], guard := none }) (v := ?_) rfl (by kernel_rfl) (by kernel_rfl) (by kernel_rfl) (fun _ _ _ h => h) (Or.inl ⟨by rfl, ?_⟩) hH ?_
    rotate_left; (intro w5 hS5; go_simp; try rfl)
    try simp only [Act.put, List.setIfInBounds_toArray, List.set_cons_zero, List.set_cons_succ]
    refine wpAnyH_take (i := 13) (oi := { dst := some 19, op := Go.Op.fieldAddr 32 (Go.Operand.tmp 3) 2, type := 0, pos := "desc.go:50", after := #[], guard := none }) (v := ?_) rfl (by kernel_rfl) (by kernel_rfl) (by kernel_rfl) (fun _ _ _ h => h) (Or.inl ⟨by rfl, ?_⟩) hH ?_
    rotate_left; (intro w5 hS5; go_simp; try rfl)
    try simp only [Act.put, List.setIfInBounds_toArray, List.set_cons_zero, List.set_cons_succ]
    refine wpAnyH_take (i := 14) (oi := { dst := some 20, op := Go.Op.load 30 (Go.Operand.tmp 19), type := 30, pos := "desc.go:50", after := #[{ on := 13, ground := Go.Ground.data }], guard := none }) (v := ?_) rfl (by kernel_rfl) (by kernel_rfl) (by kernel_rfl) (fun _ _ _ h => h) (Or.inl ⟨by rfl, ?_⟩) hH ?_
    rotate_left; (intro w5 hS5; (have q := S0.out _ ((New.refl _).drew.trans hS5); have q0 := q.1.cell 0; have q1 := q.1.cell 1; have q2 := q.1.cell 2; have p0 := q.2.cell 0; have p1 := q.2.cell 1; have p2 := q.2.cell 2; simp only [List.getElem?_toArray, List.getElem?_cons_zero, List.getElem?_cons_succ] at q0 q1 q2 p0 p1 p2; go_simp; try rfl))
    try simp only [Act.put, List.setIfInBounds_toArray, List.set_cons_zero, List.set_cons_succ]
    refine wpAnyH_take (i := 15) (oi := { dst := some 21, op := Go.Op.call { callee := Go.Callee.builtin Go.Builtin.len, args := #[Go.Operand.tmp 20], argTypes := #[30] }, type := 3, pos := "desc.go:50", after := #[{ on := 14, ground := Go.Ground.data }], guard := none }) (v := ?_) rfl (by kernel_rfl) (by kernel_rfl) (by kernel_rfl) (fun _ _ _ h => h) (Or.inl ⟨by rfl, ?_⟩) hH ?_
    rotate_left; (intro w5 hS5; go_simp; try rfl)
    try simp only [Act.put, List.setIfInBounds_toArray, List.set_cons_zero, List.set_cons_succ]
    refine wpAnyH_ready (rs := [4]) (by kernel_rfl) (by simp) ?_
    refine AllReadyH.cons (o := { dst := some 10, op := Go.Op.call { callee := Go.Callee.value (Go.Operand.func 37), args := #[Go.Operand.tmp 7, Go.Operand.tmp 9], argTypes := #[3, 3] }, type := 3, pos := "desc.go:50", after := #[{ on := 1, ground := Go.Ground.data }, { on := 3, ground := Go.Ground.data }], guard := none }) rfl (fun K5 hK5 => ?_) AllReadyH.nil
    go_simp
    refine (HC.out _ _ _).mono ?_
    rintro e w5 ⟨rfl, rfl⟩
    rw [HX.out.1]
    refine hK5.out _ _ hH (fun hHx4 => ?_)
    clear hK5 K5
    try simp only [Act.put, List.setIfInBounds_toArray, List.set_cons_zero, List.set_cons_succ]
    refine wpAnyH_ready (rs := [9]) (by kernel_rfl) (by simp) ?_
    refine AllReadyH.cons (o := { dst := some 15, op := Go.Op.call { callee := Go.Callee.value (Go.Operand.func 37), args := #[Go.Operand.tmp 12, Go.Operand.tmp 14], argTypes := #[3, 3] }, type := 3, pos := "desc.go:50", after := #[{ on := 6, ground := Go.Ground.data }, { on := 8, ground := Go.Ground.data }, { on := 4, ground := Go.Ground.chain }], guard := none }) rfl (fun K5 hK5 => ?_) AllReadyH.nil
    go_simp
    refine (HC.out _ _ _).mono ?_
    rintro e w5 ⟨rfl, rfl⟩
    rw [HX.out.2.1]
    refine hK5.out _ _ hH (fun hHx9 => ?_)
    clear hK5 K5
    try simp only [Act.put, List.setIfInBounds_toArray, List.set_cons_zero, List.set_cons_succ]
    refine wpAnyH_ready (rs := [16]) (by kernel_rfl) (by simp) ?_
    refine AllReadyH.cons (o := { dst := some 22, op := Go.Op.call { callee := Go.Callee.value (Go.Operand.func 37), args := #[Go.Operand.tmp 18, Go.Operand.tmp 21], argTypes := #[3, 3] }, type := 3, pos := "desc.go:50", after := #[{ on := 12, ground := Go.Ground.data }, { on := 15, ground := Go.Ground.data }, { on := 9, ground := Go.Ground.chain }], guard := none }) rfl (fun K5 hK5 => ?_) AllReadyH.nil
    go_simp
    refine (HC.out _ _ _).mono ?_
    rintro e w5 ⟨rfl, rfl⟩
    rw [HX.out.2.2]
    refine hK5.out _ _ hH (fun hHx16 => ?_)
    clear hK5 K5
    try simp only [Act.put, List.setIfInBounds_toArray, List.set_cons_zero, List.set_cons_succ]
    refine wpAnyH_ready (rs := [17]) (by kernel_rfl) (by simp) ?_
    refine AllReadyH.cons (o := { dst := some 23, op := Go.Op.buildSlice 55 3 #[(0, Go.Operand.tmp 10), (1, Go.Operand.tmp 15), (2, Go.Operand.tmp 22)], type := 55, pos := "desc.go:50", after := #[{ on := 4, ground := Go.Ground.data }, { on := 9, ground := Go.Ground.data }, { on := 16, ground := Go.Ground.data }], guard := none }) rfl (fun K5 hK5 => ?_) AllReadyH.nil
    go_simp
    refine hK5.out _ _ (hH.alloc _) (fun hH3 => ?_)
    clear hK5 K5
    try simp only [Act.put, List.setIfInBounds_toArray, List.set_cons_zero, List.set_cons_succ]
    refine wpAnyH_ready (rs := [18]) (by kernel_rfl) (by simp) ?_
    refine AllReadyH.cons (o := { dst := some 24, op := Go.Op.call { callee := Go.Callee.value (Go.Operand.func 60), args := #[Go.Operand.tmp 23], argTypes := #[55] }, type := 3, pos := "desc.go:50", after := #[{ on := 17, ground := Go.Ground.data }, { on := 16, ground := Go.Ground.chain }], guard := none }) rfl (fun K5 hK5 => ?_) AllReadyH.nil
    go_simp
    refine (HO.out x y z _ _ (((Box.made' _ 3 _ (by simp)).draws 1).cell 0) (((Box.made' _ 3 _ (by simp)).draws 1).cell 1) (((Box.made' _ 3 _ (by simp)).draws 1).cell 2)).mono ?_
    rintro e w6 ⟨rfl, rfl⟩
    refine hK5.out _ _ hH3 (fun hH5 => ?_)
    clear hK5 K5
    try simp only [Act.put, List.setIfInBounds_toArray, List.set_cons_zero, List.set_cons_succ]
    refine wpAnyH_take (i := 19) (oi := { dst := some 5, op := Go.Op.assign (Go.Operand.tmp 24), type := 3, pos := "desc.go:50", after := #[{ on := 18, ground := Go.Ground.data }, { on := 18, ground := Go.Ground.chain }, { on := 0, ground := Go.Ground.phase }, { on := 1, ground := Go.Ground.phase }, { on := 2, ground := Go.Ground.phase }, { on := 3, ground := Go.Ground.phase }, { on := 4, ground := Go.Ground.phase }, { on := 5, ground := Go.Ground.phase }, { on := 6, ground := Go.Ground.phase }, { on := 7, ground := Go.Ground.phase }, { on := 8, ground := Go.Ground.phase }, { on := 9, ground := Go.Ground.phase }, { on := 10, ground := Go.Ground.phase }, { on := 11, ground := Go.Ground.phase }, { on := 12, ground := Go.Ground.phase }, { on := 13, ground := Go.Ground.phase }, { on := 14, ground := Go.Ground.phase }, { on := 15, ground := Go.Ground.phase }, { on := 16, ground := Go.Ground.phase }, { on := 17, ground := Go.Ground.phase }, { on := 18, ground := Go.Ground.phase }], guard := none }) (v := ?_) rfl (by kernel_rfl) (by kernel_rfl) (by kernel_rfl) (fun _ _ _ h => h) (Or.inl ⟨by rfl, ?_⟩) hH5 ?_
    rotate_left; (intro w5 hS5; go_simp; try rfl)
    try simp only [Act.put, List.setIfInBounds_toArray, List.set_cons_zero, List.set_cons_succ]
    refine wpAnyH_done (by kernel_rfl) ?_ _
    have b5 := (S0.out _ ((New.refl _).drew.trans hH5)).1.cell 2
    have b6 := (S0.out _ ((New.refl _).drew.trans hH5)).2.cell 2
    simp only [List.getElem?_toArray, List.getElem?_cons_zero, List.getElem?_cons_succ] at b5 b6
    by_cases h0 : or3 x y z = 0
    · have HL := Lib.hid (HF.out _ (((New.refl w).alloc _).alloc _ |>.drew.trans hH5) (HLEN.out h0))
      have HD2 := Lib.hid (show C = C2 by rw [HD.out, if_neg (by simpa using h0)])
      rw [h0]
      clear h0
      go_wp2_with (go_at_call 61; refine HL.out.mono ?_; rintro e w9 ⟨rfl, n9⟩)
      go_ret
      exact ⟨by rw [HD2.out]; rfl, ((((New.refl w).alloc _).alloc _).drew.trans hH5).trans n9⟩
    · have t : (or3 x y z != 0) = true := by simpa using h0
      have HD2 := Lib.hid (show C = or3 x y z by rw [HD.out, if_pos h0])
      clear h0
      generalize or3 x y z = v at *
      go_wp2
      go_ret
      exact ⟨by rw [HD2.out]; rfl, (((New.refl w).alloc _).alloc _).drew.trans hH5⟩
end Go.Proofs.Ytplaicdbcfnjbaa
/- Rows that are filled place by place. No program is named here. -/
namespace Go.Proofs.Ytplaicdbcfnjbaa
open Go.RowKit
set_option linter.unusedVariables false

/-- n numbers of a kind: the first i of them are f's, the others 0 -/
def fillv (k : IntKind) (f : Nat → Nat) (n i : Nat) : List Value := (List.range n).map fun j => Value.int k ((if j < i then f j else 0 : Nat) : Int)

theorem fillv_len (k : IntKind) (f : Nat → Nat) (n i : Nat) : (fillv k f n i).length = n := by simp [fillv]
theorem fillv_zero (k : IntKind) (f : Nat → Nat) (n : Nat) : List.replicate n (Value.int k 0) = fillv k f n 0 := by
  apply List.ext_getElem
  · simp [fillv]
  · intro j h1 h2; simp [fillv]
theorem fillv_set (k : IntKind) (f : Nat → Nat) (n i : Nat) (hi : i < n) : (fillv k f n i).set i (Value.int k (f i)) = fillv k f n (i + 1) := by
  apply List.ext_getElem
  · simp [fillv]
  · intro j h1 h2
    simp only [fillv, List.getElem_set, List.getElem_map, List.getElem_range]
    by_cases h : i = j
    · subst h; simp
    · rw [if_neg h]
      by_cases h' : j < i
      · rw [if_pos h', if_pos (by omega)]
      · rw [if_neg h', if_neg (by omega)]
theorem fillv_at (k : IntKind) (f : Nat → Nat) (n i j : Nat) (hj : j < n) : (fillv k f n i)[j]? = some (Value.int k ((if j < i then f j else 0 : Nat) : Int)) := by
  rw [List.getElem?_eq_getElem (by rw [fillv_len]; exact hj)]
  simp [fillv]
theorem fillv_full (k : IntKind) (f : Nat → Nat) (n j : Nat) (hj : j < n) : (fillv k f n n)[j]? = some (Value.int k (f j)) := by
  rw [fillv_at k f n n j hj, if_pos hj]
/-- the first n numbers of f -/
def firstv (k : IntKind) (f : Nat → Nat) (n : Nat) : List Value := (List.range n).map fun j => Value.int k (f j)
theorem firstv_len (k : IntKind) (f : Nat → Nat) (n : Nat) : (firstv k f n).length = n := by simp [firstv]
theorem firstv_snoc (k : IntKind) (f : Nat → Nat) (n : Nat) : firstv k f (n + 1) = firstv k f n ++ [Value.int k (f n)] := by
  simp [firstv, List.range_succ]
theorem firstv_at (k : IntKind) (f : Nat → Nat) (n j : Nat) (hj : j < n) : (firstv k f n)[j]? = some (Value.int k (f j)) := by
  rw [List.getElem?_eq_getElem (by rw [firstv_len]; exact hj)]
  simp [firstv]
theorem fillv_firstv (k : IntKind) (f : Nat → Nat) (n : Nat) : fillv k f n n = firstv k f n := by
  apply List.ext_getElem
  · simp [fillv, firstv]
  · intro j h1 h2
    simp only [fillv, firstv, List.getElem_map, List.getElem_range]
    rw [if_pos (by simpa [fillv] using h1)]

theorem add_blk (a : Addr) (j : Nat) : (a.add j).block = a.block := by unfold Addr.add; split <;> rfl
/-- a slice that reads as the first n numbers of f -/
def ReadsF (w : World) (k : IntKind) (A : Option Addr) (n : Nat) (f : Nat → Nat) : Prop :=
  n ≤ 9223372036854775807 ∧ (0 < n → ∃ ad : Addr, A = some ad ∧ ad.block < w.heap.size ∧ ∀ j, j < n → w.cell? (ad.add j) = some (.int k (f j)))
theorem readsF_own {w : World} {base : Nat} {e : TypeId} {n : Nat} {v : Value} {k : IntKind} {f : Nat → Nat} (h : w.ownsRow base e 1 v n (firstv k f n)) : ∃ A cap, v = .slice A n cap ∧ ReadsF w k A n f := by
  obtain ⟨A, cap, e1, h2, h3⟩ := own_slice h
  refine ⟨A, cap, e1, own_len h, fun hn => ?_⟩
  obtain ⟨g, e2, _, h5, h6⟩ := h3 hn
  refine ⟨⟨g, 0, none⟩, e2, h5, fun j hj => ?_⟩
  have e : (⟨g, 0, none⟩ : Addr).add j = ⟨g, j, none⟩ := by unfold Addr.add; split <;> simp_all
  rw [e, h6 j (by omega)]; exact firstv_at k f n j hj
theorem ReadsF.new {w w' : World} {k : IntKind} {A : Option Addr} {n : Nat} {f : Nat → Nat} (h : ReadsF w k A n f) (hn : New w w') : ReadsF w' k A n f := by
  refine ⟨h.1, fun h0 => ?_⟩
  obtain ⟨g, e2, h5, h6⟩ := h.2 h0
  exact ⟨g, e2, by have := hn.lt; omega, fun j hj => (hn.cell (by rw [add_blk]; exact h5)).trans (h6 j hj)⟩
end Go.Proofs.Ytplaicdbcfnjbaa
/- Same of two descriptors, and equality of two rows of numbers: the program's and the reference's. -/
namespace Go.Proofs.Ytplaicdbcfnjbaa
open Go.RowKit
set_option linter.unusedVariables false

def sameD (f : Nat) (a b : DT) : Bool := decide (cmpD f a b = 0)
set_option maxRecDepth 100000 in
set_option maxHeartbeats 1000000 in
theorem rsame_any (f : Nat) (a b : DT) (A : Option Addr) (ca : Nat) (B : Option Addr) (cb : Nat) (w : World) (hA : IsD w f a A ca) (hB : IsD w f b B cb) : Calls Try.prog 41 #[dagg a A ca, dagg b B cb] w fun e w' => e = .returned (.bool (sameD f a b)) ∧ New w w' := by
  have HR := Lib.hid (fun w' (m : New w w') => refcmp_any f a b A ca B cb w' (hA.new m) (hB.new m))
  have hs : sameD f a b = decide (cmpD f a b = 0) := rfl
  have hs' : sameD f a b = (cmpD f a b == 0) := by rw [hs]; by_cases h : cmpD f a b = 0 <;> simp [h]
  clear hA hB hs
  unfold dagg at *
  generalize cmpD f a b = C at *
  generalize sameD f a b = S at *
  generalize a.kids.length = La at *
  generalize b.kids.length = Lb at *
  have HS := Lib.hid hs'
  clear hs'
  go_enter Try.func41, Try.ntmps41
  go_wp2_with (go_at_call 52; refine (HR.out _ (((New.refl w).alloc _).alloc _)).mono ?_; rintro e w9 ⟨rfl, n9⟩)
  go_ret
  exact ⟨by rw [HS.out]; rfl, (((New.refl w).alloc _).alloc _).trans n9⟩
set_option maxRecDepth 100000 in
set_option maxHeartbeats 1000000 in
theorem dsame_any (f : Nat) (a b : DT) (A : Option Addr) (ca : Nat) (B : Option Addr) (cb : Nat) (w : World) (hA : IsD w f a A ca) (hB : IsD w f b B cb) : Calls Try.prog 40 #[dagg a A ca, dagg b B cb] w fun e w' => e = .returned (.bool (sameD f a b)) ∧ New w w' := by
  have HR := Lib.hid (fun w' (m : New w w') => dcmp_any f a b A ca B cb w' (hA.new m) (hB.new m))
  have hs : sameD f a b = decide (cmpD f a b = 0) := rfl
  have hs' : sameD f a b = (cmpD f a b == 0) := by rw [hs]; by_cases h : cmpD f a b = 0 <;> simp [h]
  clear hA hB hs
  unfold dagg at *
  generalize cmpD f a b = C at *
  generalize sameD f a b = S at *
  generalize a.kids.length = La at *
  generalize b.kids.length = Lb at *
  have HS := Lib.hid hs'
  clear hs'
  go_enter Try.func40, Try.ntmps40
  go_wp2_with (go_at_call 51; refine (HR.out _ (((New.refl w).alloc _).alloc _)).mono ?_; rintro e w9 ⟨rfl, n9⟩)
  go_ret
  exact ⟨by rw [HS.out]; rfl, (((New.refl w).alloc _).alloc _).trans n9⟩
end Go.Proofs.Ytplaicdbcfnjbaa
