/- The walk of WideTells. -/
import Derived.Test.YtoiadefffmhibaaLeft
import Derived.Test.YtoiadefffmhibaaLive
import Derived.Test.YtoiadefffmhibaaEql
import Derived.Test.YtoiadefffmhibaaEqn
import Derived.Test.YtoiadefffmhibaaWops
import Derived.Test.YtoiadefffmhibaaWmul
import Derived.Deep.RegionHeld3
import Derived.Deep.DeepCutAuto
import Derived.StillTailTactics
namespace Go.Proofs.Ytoiadefffmhibaa
open Go.RowKit
set_option linter.unusedVariables false

theorem two_lt (a b : Nat) (h : a ≤ 18446744073709551615) (k : b ≤ 18446744073709551615) : a * 18446744073709551616 + b < WW := by unfold WW; omega
theorem two_hi (a b : Nat) (k : b ≤ 18446744073709551615) : (a * 18446744073709551616 + b) / 18446744073709551616 = a := by omega
theorem two_lo (a b : Nat) (k : b ≤ 18446744073709551615) : (a * 18446744073709551616 + b) % 18446744073709551616 = b := by omega
theorem ww_hi (a : Nat) (h : a < WW) : a / 18446744073709551616 ≤ 18446744073709551615 := by unfold WW at h; omega
theorem ww_back (X Y : Nat) (h : X < WW) (k : Y < WW) : ((X + Y) % WW + WW - Y) % WW = X := by unfold WW at *; omega
theorem mul_hi (a b : Nat) (h : a ≤ 18446744073709551615) (k : b ≤ 18446744073709551615) : a * b / 18446744073709551616 < 18446744073709551616 := by
  have : a * b ≤ 18446744073709551615 * 18446744073709551615 := Nat.mul_le_mul h k
  omega

theorem blk4 (w : World) (a b c d : Obj) : ((((w.alloc a).alloc b).alloc c).alloc d).drew.heap[w.heap.size]? = some a ∧ ((((w.alloc a).alloc b).alloc c).alloc d).drew.heap[w.heap.size + 1]? = some b ∧
    ((((w.alloc a).alloc b).alloc c).alloc d).drew.heap[w.heap.size + 1 + 1]? = some c ∧ ((((w.alloc a).alloc b).alloc c).alloc d).drew.heap[w.heap.size + 1 + 1 + 1]? = some d := by
  have e : ∀ o : Obj, ∀ v : World, (v.alloc o).heap = v.heap.push o := fun _ _ => rfl
  have e2 : ∀ v : World, v.drew.heap = v.heap := fun _ => rfl
  have q : ∀ (h : Array Obj) (o : Obj) (i : Nat), (h.push o)[i]? = if i = h.size then some o else h[i]? := fun h o i => Array.getElem?_push
  rw [e2, e, e, e, e]
  refine ⟨?_, ?_, ?_, ?_⟩
  · rw [q, if_neg (by simp; omega), q, if_neg (by simp; omega), q, if_neg (by simp), q, if_pos rfl]
  · rw [q, if_neg (by simp), q, if_neg (by simp), q, if_pos (by simp)]
  · rw [q, if_neg (by simp), q, if_pos (by simp)]
  · rw [q, if_pos (by simp)]
theorem bcell {W w1 : World} (hb : New W w1) : (∀ b o, b < W.heap.size → w1.cell? ⟨b, o, none⟩ = W.cell? ⟨b, o, none⟩) ∧ (∀ b o, b < W.heap.size → w1.frozen? ⟨b, o, none⟩ = W.frozen? ⟨b, o, none⟩) ∧ (∀ b, b < W.heap.size → b < w1.heap.size) :=
  ⟨fun b o h => Below.cell hb (p := ⟨b, o, none⟩) h, fun b o h => Below.frozen hb (p := ⟨b, o, none⟩) h, fun b h => Nat.lt_of_lt_of_le h hb.lt⟩

abbrev Z8 : Array Value := #[.int .i64 0, .int .i64 0, .int .i64 0, .int .i64 0, .int .i64 0, .int .i64 0, .int .i64 0, .int .i64 0]
theorem Box.drew' {w : World} {g : Nat} {t : TypeId} {cs : Array Value} (h : Box w g t cs) : Box w.drew g t cs := h
theorem Box.made' {w : World} {g : Nat} {t : TypeId} {cs : Array Value} (e : g = w.heap.size) : Box (w.alloc (.cells cs t)) g t cs := by subst e; exact Box.made w t cs
theorem Digs.made' {w : World} {g : Nat} (f : Nat → Nat) (e : g = w.heap.size) : Digs (w.alloc (.cells #[.int .i64 (f 0), .int .i64 (f 1), .int .i64 (f 2), .int .i64 (f 3), .int .i64 (f 4), .int .i64 (f 5), .int .i64 (f 6), .int .i64 (f 7)] 27)) g f := Box.made' e
theorem Digs.alloc' {w : World} {g : Nat} {f : Nat → Nat} (h : Digs w g f) (o : Obj) : Digs (w.alloc o) g f := Box.alloc h o
theorem Digs.base {w : World} {g : Nat} (h : Box w g 27 Z8) : Digs w g (dig 0) := Digs.zero h rfl
theorem leafEnd {wc W : World} {a b : Nat} (X Y : Nat) (DX : Digs W a (dig X)) (DY : Digs W b (dig Y)) (N : New wc W) :
    ∃ g7 g8 : Nat, Value.pointer (some ⟨a, 0, none⟩) = .pointer (some ⟨g7, 0, none⟩) ∧ Value.pointer (some ⟨b, 0, none⟩) = .pointer (some ⟨g8, 0, none⟩) ∧ g7 < W.heap.size ∧ g8 < W.heap.size ∧ (∀ i, i < 8 → W.cell? ⟨g7, i, none⟩ = some (.int .i64 (dig X i))) ∧ (∀ i, i < 8 → W.cell? ⟨g8, i, none⟩ = some (.int .i64 (dig Y i))) ∧ New wc W :=
  ⟨a, b, rfl, rfl, Box.lt DX, Box.lt DY, fun i hi => Digs.at_ DX i hi, fun i hi => Digs.at_ DY i hi, N⟩
theorem keep4 {w w' : World} {g h : Nat} {a b c d : Value} (s : w.cell? ⟨g, 0, none⟩ = some a ∧ w.cell? ⟨g, 1, none⟩ = some b ∧ w.cell? ⟨h, 0, none⟩ = some c ∧ w.cell? ⟨h, 1, none⟩ = some d ∧ g < w.heap.size ∧ h < w.heap.size) (n : New w w') :
    w'.cell? ⟨g, 0, none⟩ = some a ∧ w'.cell? ⟨g, 1, none⟩ = some b ∧ w'.cell? ⟨h, 0, none⟩ = some c ∧ w'.cell? ⟨h, 1, none⟩ = some d ∧ g < w'.heap.size ∧ h < w'.heap.size := by
  obtain ⟨s1, s2, s3, s4, s5, s6⟩ := s
  exact ⟨(n.cell s5).trans s1, (n.cell s5).trans s2, (n.cell s6).trans s3, (n.cell s6).trans s4, Nat.lt_of_lt_of_le s5 n.lt, Nat.lt_of_lt_of_le s6 n.lt⟩

attribute [local go_sem ↓] eql_digs neq_digs
set_option maxRecDepth 100000 in
set_option maxHeartbeats 40000000 in
theorem tells_walk (x1 x0 y1 y0 : Nat) (h0 : x1 ≤ 18446744073709551615) (h1 : x0 ≤ 18446744073709551615) (h2 : y1 ≤ 18446744073709551615) (h3 : y0 ≤ 18446744073709551615) (w : World) :
    Calls Try.prog 4 #[.agg #[.int .u64 x1, .int .u64 x0], .agg #[.int .u64 y1, .int .u64 y0]] w fun e w' => e = .returned (.bool true) ∧ New w w' := by
  have hX := two_lt x1 x0 h0 h1
  have hY := two_lt y1 y0 h2 h3
  have e1 := two_hi x1 x0 h1
  have e2 := two_lo x1 x0 h1
  have LX0 := (fun w => digits_any x1 x0 (by omega) (by omega) w)
  have LY0 := (fun w => digits_any y1 y0 (by omega) (by omega) w)
  have LA0 := (fun w => wadd_any x1 x0 y1 y0 h1 h3 w)
  have LS0 := (fun w => wsub_any x1 x0 y1 y0 h1 h3 h0 h2 w)
  have LC0 := (fun w => wcmp_any x1 x0 y1 y0 h1 h3 w)
  have LRC0 := (fun w => refcmp_any _ _ hX hY w)
  have LRA0 := (fun w => refadd_any (x1 * 18446744073709551616 + x0) (y1 * 18446744073709551616 + y0) w)
  have LRS0 := (fun w => refsub_any (x1 * 18446744073709551616 + x0) (y1 * 18446744073709551616 + y0) hY w)
  have LAS0 := fun a b ha hb w => wsub_any a b y1 y0 hb h3 ha h2 w
  obtain ⟨X, eX⟩ : ∃ X : Nat, X = x1 * 18446744073709551616 + x0 := ⟨_, rfl⟩
  obtain ⟨Y, eY⟩ : ∃ Y : Nat, Y = y1 * 18446744073709551616 + y0 := ⟨_, rfl⟩
  simp only [← eX, ← eY] at LX0 LY0 LA0 LS0 LC0 LRC0 LRA0 LRS0 LAS0 hX hY e1 e2
  clear eX eY
  have LX := Lib.hid LX0
  have LY := Lib.hid LY0
  have LC := Lib.hid LC0
  have LRC := Lib.hid LRC0
  have LRA := Lib.hid LRA0
  have LRS := Lib.hid LRS0
  clear LX0 LY0 LC0 LRC0 LRA0 LRS0
  have LM := Lib.hid (fun w => wmul_any x0 y0 (by omega) (by omega) w)
  have LRM := Lib.hid (fun w => refmul_any x0 y0 (by omega) (by omega) w)
  have LDM0 := (fun w => digits_any (x0 * y0 / 18446744073709551616) (x0 * y0 % 18446744073709551616) (mul_hi _ _ h1 h3) (Nat.mod_lt _ (by decide)) w)
  rw [Nat.div_add_mod'] at LDM0
  have LDM := Lib.hid LDM0
  clear LDM0
  have LO := Lib.hid (fun w => wof_any x1 (by omega) w)
  have LL := Lib.hid live_any
  have bA := ww_hi _ (Nat.mod_lt (X + Y) (show 0 < WW by decide))
  have bS := ww_hi _ (Nat.mod_lt (X + WW - Y) (show 0 < WW by decide))
  have LDA0 := (fun w => digits_any ((X + Y) % WW / 18446744073709551616) ((X + Y) % WW % 18446744073709551616) (by omega) (Nat.mod_lt _ (by decide)) w)
  have LDS0 := (fun w => digits_any ((X + WW - Y) % WW / 18446744073709551616) ((X + WW - Y) % WW % 18446744073709551616) (by omega) (Nat.mod_lt _ (by decide)) w)
  rw [Nat.div_add_mod', digs_mod w] at LDA0
  rw [Nat.div_add_mod', digs_mod w] at LDS0
  have LAS1 := LAS0 ((X + Y) % WW / 18446744073709551616) ((X + Y) % WW % 18446744073709551616) bA (by omega)
  rw [Nat.div_add_mod', ww_back X Y hX hY, e1, e2] at LAS1
  have LDA := Lib.hid LDA0
  have LDS := Lib.hid LDS0
  have LAS := Lib.hid LAS1
  have LA := Lib.hid LA0
  have LS := Lib.hid LS0
  clear bA bS hX hY h0 h1 h2 h3 LDA0 LDS0 LAS0 LAS1 LA0 LS0 e1 e2
  generalize (X + Y) % WW / 18446744073709551616 = A1 at *
  generalize (X + Y) % WW % 18446744073709551616 = A0 at *
  generalize (X + WW - Y) % WW / 18446744073709551616 = S1 at *
  generalize (X + WW - Y) % WW % 18446744073709551616 = S0 at *
  generalize x0 * y0 / 18446744073709551616 = M1 at *
  generalize x0 * y0 % 18446744073709551616 = M0 at *
  generalize x0 * y0 = M at *
  generalize cmpv X Y = C at *
  generalize X + Y = A at *
  generalize X + WW - Y = S at *
  go_enter Try.func4, Try.ntmps4
  go_upto_region 1 with fail
  go_cut [5, 6] (fun s5 s6 wx => ∃ g5 g6 : Nat, s5 = .pointer (some ⟨g5, 0, none⟩) ∧ s6 = .pointer (some ⟨g6, 0, none⟩) ∧ Box wx w.heap.size 23 #[.int .u64 x1, .int .u64 x0] ∧ Box wx (w.heap.size + 1) 23 #[.int .u64 y1, .int .u64 y0] ∧ Box wx g5 25 #[.int .u64 x1, .int .u64 x0] ∧ Box wx g6 25 #[.int .u64 y1, .int .u64 y0] ∧ New w wx)
  case first =>
    go_region_held3 (fun w' => w'.cell? ⟨w.heap.size, 0, none⟩ = some (.int .u64 x1) ∧ w'.cell? ⟨w.heap.size, 1, none⟩ = some (.int .u64 x0) ∧ w'.cell? ⟨w.heap.size + 1, 0, none⟩ = some (.int .u64 y1) ∧ w'.cell? ⟨w.heap.size + 1, 1, none⟩ = some (.int .u64 y0) ∧ w.heap.size + 1 < w'.heap.size)
      (go_keep) (first | fail)
    all_goals go_wp2_with fail
    · go_meet
      obtain ⟨k1, k2, k3, k4⟩ := blk4 w (.cells #[.int .u64 x1, .int .u64 x0] 23) (.cells #[.int .u64 y1, .int .u64 y0] 23) (.cells #[.int .u64 x1, .int .u64 x0] 25) (.cells #[.int .u64 y1, .int .u64 y0] 25)
      exact ⟨_, _, rfl, rfl, k1, k2, k3, k4, (((((New.refl _).alloc _).alloc _).alloc _).alloc _).drew⟩
    · go_meet
      obtain ⟨k1, k2, k3, k4⟩ := blk4 w (.cells #[.int .u64 x1, .int .u64 x0] 23) (.cells #[.int .u64 y1, .int .u64 y0] 23) (.cells #[.int .u64 y1, .int .u64 y0] 25) (.cells #[.int .u64 x1, .int .u64 x0] 25)
      exact ⟨_, _, rfl, rfl, k1, k2, k4, k3, (((((New.refl _).alloc _).alloc _).alloc _).alloc _).drew⟩
  case rest =>
    obtain ⟨g5, g6, rfl, rfl, B1, B2, B5, B6, N1⟩ := hcut
    go_upto_region 2 with fail
    have q1 := B5.lt
    have q2 := B6.lt
    have p1 := B5.cell 0
    have p2 := B5.cell 1
    have p3 := B6.cell 0
    have p4 := B6.cell 1
    have s1 := B1.lt
    have s2 := B2.lt
    simp only [List.getElem?_toArray, List.getElem?_cons_zero, List.getElem?_cons_succ] at p1 p2 p3 p4
    have hs : wc.cell? ⟨g5, 0, none⟩ = some (.int .u64 x1) ∧ wc.cell? ⟨g5, 1, none⟩ = some (.int .u64 x0) ∧ wc.cell? ⟨g6, 0, none⟩ = some (.int .u64 y1) ∧ wc.cell? ⟨g6, 1, none⟩ = some (.int .u64 y0) ∧ g5 < wc.heap.size ∧ g6 < wc.heap.size := ⟨p1, p2, p3, p4, q1, q2⟩
    go_cut [7, 8] (fun s7 s8 wx => ∃ g7 g8 : Nat, s7 = .pointer (some ⟨g7, 0, none⟩) ∧ s8 = .pointer (some ⟨g8, 0, none⟩) ∧ g7 < wx.heap.size ∧ g8 < wx.heap.size ∧ (∀ i, i < 8 → wx.cell? ⟨g7, i, none⟩ = some (.int .i64 (dig X i))) ∧ (∀ i, i < 8 → wx.cell? ⟨g8, i, none⟩ = some (.int .i64 (dig Y i))) ∧ New wc wx)
    case first =>
      go_region_held3 (fun w' => w'.cell? ⟨g5, 0, none⟩ = some (.int .u64 x1) ∧ w'.cell? ⟨g5, 1, none⟩ = some (.int .u64 x0) ∧ w'.cell? ⟨g6, 0, none⟩ = some (.int .u64 y1) ∧ w'.cell? ⟨g6, 1, none⟩ = some (.int .u64 y0) ∧ g5 < w'.heap.size ∧ g6 < w'.heap.size)
        (((with_reducible refine keep4 hs ?_); (repeat (first | (with_reducible exact New.refl _) | (with_reducible refine New.alloc ?_ _) | (with_reducible refine New.drew ?_) | (with_reducible refine New.setCell ?_ ?_ _) | (with_reducible refine New.trans ?_ (by assumption)))); all_goals (first | omega | (simp; done) | (simp; omega))))
        (first
          | (go_at_call 6; (with_reducible refine (LX.out _).mono ?_); rintro e v1 ⟨rfl, nn⟩; obtain ⟨kc, kf, kz⟩ := bcell nn; have kl := nn.lt; (try simp at kl); (try have z1 : wc.heap.size < v1.heap.size := by omega); (try have z2 : wc.heap.size + 1 < v1.heap.size := by omega))
          | (go_at_call 6; (with_reducible refine (LY.out _).mono ?_); rintro e v2 ⟨rfl, nn⟩; obtain ⟨kc, kf, kz⟩ := bcell nn; have kl2 := nn.lt; (try simp at kl2); (try have z3 : wc.heap.size < v2.heap.size := by omega); (try have z4 : wc.heap.size + 1 < v2.heap.size := by omega); (try have z5 : v1.heap.size < v2.heap.size := by omega); (try have z6 : v1.heap.size + 1 < v2.heap.size := by omega)))
      all_goals go_wp2_with fail
      all_goals go_meet
      all_goals (refine leafEnd X Y ?_ ?_ ?_)
      all_goals (repeat (first
        | (focus ((with_reducible refine Digs.made' (dig X) ?_); simp; done))
        | (focus ((with_reducible refine Digs.made' (dig Y) ?_); simp; done))
        | (with_reducible refine Digs.put8 (f := dig 0) ?_ (dig X))
        | (with_reducible refine Digs.put8 (f := dig 0) ?_ (dig Y))
        | (with_reducible refine Digs.off8 ?_ ?_ (dig X))
        | (with_reducible refine Digs.off8 ?_ ?_ (dig Y))
        | (with_reducible refine Digs.alloc' ?_ _)
        | (with_reducible refine Digs.base ?_)
        | (focus ((with_reducible refine Box.made' ?_); simp; done))
        | (with_reducible exact Box.made _ _ _)
        | (with_reducible refine Box.alloc ?_ _)
        | (with_reducible refine Box.drew' ?_)
        | (with_reducible refine Box.new ?_ (by assumption))
        | (with_reducible exact New.refl _) | (with_reducible refine New.alloc ?_ _) | (with_reducible refine New.drew ?_)
        | (with_reducible refine New.set8 ?_ ?_ (dig X)) | (with_reducible refine New.set8 ?_ ?_ (dig Y))
        | (with_reducible refine New.trans ?_ (by assumption))))
      all_goals (first | omega | (simp; done) | (simp; omega))
    case rest =>
      obtain ⟨g7, g8, rfl, rfl, q7, q8, hX, hY, N2⟩ := hcut
      obtain ⟨hs1, hs2, hs3, hs4, hs5, hs6⟩ := keep4 hs N2
      have B1' := B1.new N2
      have B2' := B2.new N2
      have N3 := N1.trans N2
      have l1 := B1'.lt
      have l2 := B2'.lt
      have a1 := B1'.cell 0
      have a2 := B1'.cell 1
      have a3 := B2'.cell 0
      have a4 := B2'.cell 1
      simp only [List.getElem?_toArray, List.getElem?_cons_zero, List.getElem?_cons_succ] at a1 a2 a3 a4
      have dX0 := hX 0 (by decide)
      have dY0 := hY 0 (by decide)
      have dX1 := hX 1 (by decide)
      have dY1 := hY 1 (by decide)
      have dX2 := hX 2 (by decide)
      have dY2 := hY 2 (by decide)
      have dX3 := hX 3 (by decide)
      have dY3 := hY 3 (by decide)
      have dX4 := hX 4 (by decide)
      have dY4 := hY 4 (by decide)
      have dX5 := hX 5 (by decide)
      have dY5 := hY 5 (by decide)
      have dX6 := hX 6 (by decide)
      have dY6 := hY 6 (by decide)
      have dX7 := hX 7 (by decide)
      have dY7 := hY 7 (by decide)
      clear hs p1 p2 p3 p4 q1 q2 s1 s2 B1 B2 B5 B6 B1' B2' N1 N2 hX hY
      have KS0 : ∀ v, New wc v → New wc v ∧ v.cell? ⟨g5, 0, none⟩ = some (.int .u64 x1) ∧ v.cell? ⟨g5, 1, none⟩ = some (.int .u64 x0) ∧ v.cell? ⟨g6, 0, none⟩ = some (.int .u64 y1) ∧ v.cell? ⟨g6, 1, none⟩ = some (.int .u64 y0) ∧ v.cell? ⟨g7, 0, none⟩ = some (.int .i64 (dig X 0)) ∧ v.cell? ⟨g7, 1, none⟩ = some (.int .i64 (dig X 1)) ∧ v.cell? ⟨g7, 2, none⟩ = some (.int .i64 (dig X 2)) ∧ v.cell? ⟨g7, 3, none⟩ = some (.int .i64 (dig X 3)) ∧ v.cell? ⟨g7, 4, none⟩ = some (.int .i64 (dig X 4)) ∧ v.cell? ⟨g7, 5, none⟩ = some (.int .i64 (dig X 5)) ∧ v.cell? ⟨g7, 6, none⟩ = some (.int .i64 (dig X 6)) ∧ v.cell? ⟨g7, 7, none⟩ = some (.int .i64 (dig X 7)) ∧ v.cell? ⟨g8, 0, none⟩ = some (.int .i64 (dig Y 0)) ∧ v.cell? ⟨g8, 1, none⟩ = some (.int .i64 (dig Y 1)) ∧ v.cell? ⟨g8, 2, none⟩ = some (.int .i64 (dig Y 2)) ∧ v.cell? ⟨g8, 3, none⟩ = some (.int .i64 (dig Y 3)) ∧ v.cell? ⟨g8, 4, none⟩ = some (.int .i64 (dig Y 4)) ∧ v.cell? ⟨g8, 5, none⟩ = some (.int .i64 (dig Y 5)) ∧ v.cell? ⟨g8, 6, none⟩ = some (.int .i64 (dig Y 6)) ∧ v.cell? ⟨g8, 7, none⟩ = some (.int .i64 (dig Y 7)) := fun v n => ⟨n, (n.cell hs5).trans hs1, (n.cell hs5).trans hs2, (n.cell hs6).trans hs3, (n.cell hs6).trans hs4, (n.cell q7).trans dX0, (n.cell q7).trans dX1, (n.cell q7).trans dX2, (n.cell q7).trans dX3, (n.cell q7).trans dX4, (n.cell q7).trans dX5, (n.cell q7).trans dX6, (n.cell q7).trans dX7, (n.cell q8).trans dY0, (n.cell q8).trans dY1, (n.cell q8).trans dY2, (n.cell q8).trans dY3, (n.cell q8).trans dY4, (n.cell q8).trans dY5, (n.cell q8).trans dY6, (n.cell q8).trans dY7⟩
      have KT0 : ∀ v, New wc v → New wc v ∧ v.cell? ⟨w.heap.size, 0, none⟩ = some (.int .u64 x1) ∧ v.cell? ⟨w.heap.size, 1, none⟩ = some (.int .u64 x0) ∧ v.cell? ⟨w.heap.size + 1, 0, none⟩ = some (.int .u64 y1) ∧ v.cell? ⟨w.heap.size + 1, 1, none⟩ = some (.int .u64 y0) ∧ v.cell? ⟨g5, 0, none⟩ = some (.int .u64 x1) ∧ v.cell? ⟨g5, 1, none⟩ = some (.int .u64 x0) ∧ v.cell? ⟨g6, 0, none⟩ = some (.int .u64 y1) ∧ v.cell? ⟨g6, 1, none⟩ = some (.int .u64 y0) := fun v n => ⟨n, (n.cell l1).trans a1, (n.cell l1).trans a2, (n.cell l2).trans a3, (n.cell l2).trans a4, (n.cell hs5).trans hs1, (n.cell hs5).trans hs2, (n.cell hs6).trans hs3, (n.cell hs6).trans hs4⟩
      have KS := Lib.hid KS0
      have KT := Lib.hid KT0
      have HN := Lib.hid N3
      clear KS0 KT0 N3 a1 a2 a3 a4 hs1 hs2 hs3 hs4 dX0 dX1 dX2 dX3 dX4 dX5 dX6 dX7 dY0 dY1 dY2 dY3 dY4 dY5 dY6 dY7
      go_upto_region 3 with fail
      go_cut [49] (fun s49 wx => s49 = .bool false ∧ New wc wx)
      case first => as_aux_lemma =>
        go_region_held3 (fun w' => New wc w' ∧ w'.cell? ⟨g5, 0, none⟩ = some (.int .u64 x1) ∧ w'.cell? ⟨g5, 1, none⟩ = some (.int .u64 x0) ∧ w'.cell? ⟨g6, 0, none⟩ = some (.int .u64 y1) ∧ w'.cell? ⟨g6, 1, none⟩ = some (.int .u64 y0) ∧ w'.cell? ⟨g7, 0, none⟩ = some (.int .i64 (dig X 0)) ∧ w'.cell? ⟨g7, 1, none⟩ = some (.int .i64 (dig X 1)) ∧ w'.cell? ⟨g7, 2, none⟩ = some (.int .i64 (dig X 2)) ∧ w'.cell? ⟨g7, 3, none⟩ = some (.int .i64 (dig X 3)) ∧ w'.cell? ⟨g7, 4, none⟩ = some (.int .i64 (dig X 4)) ∧ w'.cell? ⟨g7, 5, none⟩ = some (.int .i64 (dig X 5)) ∧ w'.cell? ⟨g7, 6, none⟩ = some (.int .i64 (dig X 6)) ∧ w'.cell? ⟨g7, 7, none⟩ = some (.int .i64 (dig X 7)) ∧ w'.cell? ⟨g8, 0, none⟩ = some (.int .i64 (dig Y 0)) ∧ w'.cell? ⟨g8, 1, none⟩ = some (.int .i64 (dig Y 1)) ∧ w'.cell? ⟨g8, 2, none⟩ = some (.int .i64 (dig Y 2)) ∧ w'.cell? ⟨g8, 3, none⟩ = some (.int .i64 (dig Y 3)) ∧ w'.cell? ⟨g8, 4, none⟩ = some (.int .i64 (dig Y 4)) ∧ w'.cell? ⟨g8, 5, none⟩ = some (.int .i64 (dig Y 5)) ∧ w'.cell? ⟨g8, 6, none⟩ = some (.int .i64 (dig Y 6)) ∧ w'.cell? ⟨g8, 7, none⟩ = some (.int .i64 (dig Y 7)))
          (first | exact KS.out _ (New.refl _).drew | exact KS.out _ (New.drew (And.left (by assumption))) | exact KS.out _ (New.trans (And.left (by assumption)) nn))
          (first
          | (go_at_call 12; (with_reducible refine (LA.out _).mono ?_); rintro e w' ⟨rfl, nn⟩)
          | (go_at_call 6; (with_reducible refine (LDA.out _).mono ?_); rintro e w' ⟨rfl, nn⟩)
          | (go_at_call 6; (with_reducible refine (LDS.out _).mono ?_); rintro e w' ⟨rfl, nn⟩)
          | (go_at_call 13; (with_reducible refine (LRA.out _).mono ?_); rintro e w' ⟨rfl, nn⟩)
          | (go_at_call 14; (with_reducible refine (LS.out _).mono ?_); rintro e w' ⟨rfl, nn⟩)
          | (go_at_call 15; (with_reducible refine (LRS.out _).mono ?_); rintro e w' ⟨rfl, nn⟩)
          | (go_at_call 16; (with_reducible refine (LC.out _).mono ?_); rintro e w' ⟨rfl, nn⟩)
          | (go_at_call 17; (with_reducible refine (LRC.out _).mono ?_); rintro e w' ⟨rfl, nn⟩))
        go_wp2_with fail
        go_meet
        exact ⟨rfl, And.left (by assumption)⟩
      case rest =>
        obtain ⟨rfl, n3⟩ := hcut
        have KU0 : ∀ v, New wc v → New wc v ∧ v.cell? ⟨w.heap.size, 0, none⟩ = some (.int .u64 x1) ∧ v.cell? ⟨w.heap.size, 1, none⟩ = some (.int .u64 x0) ∧ v.cell? ⟨w.heap.size + 1, 0, none⟩ = some (.int .u64 y1) ∧ v.cell? ⟨w.heap.size + 1, 1, none⟩ = some (.int .u64 y0) ∧ v.cell? ⟨g5, 0, none⟩ = some (.int .u64 x1) ∧ v.cell? ⟨g5, 1, none⟩ = some (.int .u64 x0) ∧ v.cell? ⟨g6, 0, none⟩ = some (.int .u64 y1) ∧ v.cell? ⟨g6, 1, none⟩ = some (.int .u64 y0) := fun v n => ⟨n, (KT.out v (n3.trans n)).2⟩
        have KU := Lib.hid KU0
        have HM := Lib.hid (HN.out.trans n3)
        clear KT KS KU0 HN n3
        as_aux_lemma =>
          go_wp2_with fail
          go_region_held3 (fun w' => New wc w' ∧ w'.cell? ⟨w.heap.size, 0, none⟩ = some (.int .u64 x1) ∧ w'.cell? ⟨w.heap.size, 1, none⟩ = some (.int .u64 x0) ∧ w'.cell? ⟨w.heap.size + 1, 0, none⟩ = some (.int .u64 y1) ∧ w'.cell? ⟨w.heap.size + 1, 1, none⟩ = some (.int .u64 y0) ∧ w'.cell? ⟨g5, 0, none⟩ = some (.int .u64 x1) ∧ w'.cell? ⟨g5, 1, none⟩ = some (.int .u64 x0) ∧ w'.cell? ⟨g6, 0, none⟩ = some (.int .u64 y1) ∧ w'.cell? ⟨g6, 1, none⟩ = some (.int .u64 y0))
            (first | exact KU.out _ (New.refl _).drew | exact KU.out _ (New.drew (And.left (by assumption))) | exact KU.out _ (New.trans (And.left (by assumption)) nn))
            (first
          | (go_at_call 18; (with_reducible refine (LM.out _).mono ?_); rintro e w' ⟨rfl, nn⟩)
          | (go_at_call 6; (with_reducible refine (LDM.out _).mono ?_); rintro e w' ⟨rfl, nn⟩)
          | (go_at_call 19; (with_reducible refine (LRM.out _).mono ?_); rintro e w' ⟨rfl, nn⟩)
          | (go_at_call 20; (with_reducible refine (LO.out _).mono ?_); rintro e w' ⟨rfl, nn⟩)
          | (go_at_call 12; (with_reducible refine (LA.out _).mono ?_); rintro e w' ⟨rfl, nn⟩)
          | (go_at_call 14; (with_reducible refine (LAS.out _).mono ?_); rintro e w' ⟨rfl, nn⟩)
          | (go_at_call 11; (with_reducible refine (LL.out _).mono ?_); rintro e w' ⟨rfl, nn⟩))
          go_wp2_with fail
          exact bodyPost_ret (v := .bool true) (by simp [results, Try.results4, go_sem]) rfl ⟨rfl, HM.out.trans (And.left (by assumption))⟩
end Go.Proofs.Ytoiadefffmhibaa
