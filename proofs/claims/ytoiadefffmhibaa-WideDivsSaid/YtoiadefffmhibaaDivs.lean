/- The walk of WideDivs. -/
import Derived.Test.YtoiadefffmhibaaLeft
import Derived.Test.YtoiadefffmhibaaLive
import Derived.Test.YtoiadefffmhibaaEqn
import Derived.Test.YtoiadefffmhibaaWdivs
import Derived.Test.YtoiadefffmhibaaWdiv
import Derived.Deep.RegionHeld3
import Derived.Deep.DeepCutAuto
namespace Go.Proofs.Ytoiadefffmhibaa
open Go.RowKit
set_option linter.unusedVariables false

theorem bcell {W w1 : World} (hb : New W w1) : (∀ b o, b < W.heap.size → w1.cell? ⟨b, o, none⟩ = W.cell? ⟨b, o, none⟩) ∧ (∀ b o, b < W.heap.size → w1.frozen? ⟨b, o, none⟩ = W.frozen? ⟨b, o, none⟩) ∧ (∀ b, b < W.heap.size → b < w1.heap.size) :=
  ⟨fun b o h => Below.cell hb (p := ⟨b, o, none⟩) h, fun b o h => Below.frozen hb (p := ⟨b, o, none⟩) h, fun b h => Nat.lt_of_lt_of_le h hb.lt⟩

set_option maxRecDepth 100000 in
set_option maxHeartbeats 2000000 in
theorem divs_zero (x1 x0 : Nat) (w : World) :
    Calls Try.prog 5 #[.agg #[.int .u64 x1, .int .u64 x0], .int .u64 0] w fun e w' => e = .returned (.bool true) ∧ New w w' := by
  have HD := Lib.hid (wdiv_none x1 x0)
  have HL := Lib.hid live_any
  go_enter Try.func5, Try.ntmps5
  go_wp2_with (first | (go_at_call 21; refine (HD.out _).mono ?_; rintro e w1 ⟨rfl, n1⟩) | (go_at_call 11; refine (HL.out _).mono ?_; rintro e w2 ⟨rfl, n2⟩))
  exact bodyPost_ret (v := .bool true) (by simp [results, Try.results5, go_sem]) rfl ⟨rfl, (((((New.refl w).alloc _).alloc _).trans n1).alloc _).trans n2⟩

/-- what is multiplied back makes the number again -/
theorem back_parts (X b : Nat) (hX : X < WW) (hb : 0 < b) (hb2 : b ≤ 18446744073709551615) :
    sh (X / b / 18446744073709551616 * b) 64 = X / b / 18446744073709551616 * b * 18446744073709551616 ∧
    (X / b / 18446744073709551616 * b * 18446744073709551616 + X / b % 18446744073709551616 * b) % WW = X / b * b ∧ (X / b * b + X % b) % WW = X ∧ X / b * b < WW ∧ X / b / 18446744073709551616 * b * 18446744073709551616 < WW := by
  have e1 : X / b * b + X % b = X := Nat.div_add_mod' X b
  have e2 : X / b / 18446744073709551616 * b * 18446744073709551616 + X / b % 18446744073709551616 * b = X / b * b := by
    rw [Nat.mul_right_comm, ← Nat.add_mul, Nat.div_add_mod']
  have e3 : X / b / 18446744073709551616 * b * 18446744073709551616 < WW := by omega
  refine ⟨?_, ?_, ?_, by omega, e3⟩
  · unfold sh
    rw [if_neg (by decide), show min (64 : Int).toNat 128 = 64 from rfl, show (2 : Nat) ^ 64 = 18446744073709551616 from rfl, Nat.mod_eq_of_lt e3]
  · rw [e2, Nat.mod_eq_of_lt (by omega)]
  · rw [e1, Nat.mod_eq_of_lt hX]
theorem two_hi' (a b : Nat) (k : b ≤ 18446744073709551615) : (a * 18446744073709551616 + b) / 18446744073709551616 = a := by omega
theorem two_lo' (a b : Nat) (k : b ≤ 18446744073709551615) : (a * 18446744073709551616 + b) % 18446744073709551616 = b := by omega
theorem two_lt' (a b : Nat) (h : a ≤ 18446744073709551615) (k : b ≤ 18446744073709551615) : a * 18446744073709551616 + b < WW := by unfold WW; omega
theorem ww_hi' (a : Nat) (h : a < WW) : a / 18446744073709551616 ≤ 18446744073709551615 := by unfold WW at h; omega
theorem lo_le (a : Nat) : a % 18446744073709551616 ≤ 18446744073709551615 := by omega
theorem keep2' {w w' : World} {g : Nat} {a b : Value} (s : w.cell? ⟨g, 0, none⟩ = some a ∧ w.cell? ⟨g, 1, none⟩ = some b ∧ g < w.heap.size) (n : New w w') :
    w'.cell? ⟨g, 0, none⟩ = some a ∧ w'.cell? ⟨g, 1, none⟩ = some b ∧ g < w'.heap.size :=
  ⟨(n.cell s.2.2).trans s.1, (n.cell s.2.2).trans s.2.1, Nat.lt_of_lt_of_le s.2.2 n.lt⟩

attribute [local go_sem ↓] neq_digs
set_option maxRecDepth 100000 in
set_option maxHeartbeats 20000000 in
theorem divs_walk (x1 x0 b : Nat) (h1 : x1 ≤ 18446744073709551615) (h0 : x0 ≤ 18446744073709551615) (hb : 0 < b) (hb2 : b ≤ 18446744073709551615) (w : World) :
    Calls Try.prog 5 #[.agg #[.int .u64 x1, .int .u64 x0], .int .u64 b] w fun e w' => e = .returned (.bool true) ∧ New w w' := by
  have hX := two_lt' x1 x0 h1 h0
  have e1 := two_hi' x1 x0 h0
  have e2 := two_lo' x1 x0 h0
  have LD0 := fun w => wdiv_any x1 x0 b h1 h0 hb hb2 w
  have LX0 := fun w => digits_any x1 x0 (by omega) (by omega) w
  obtain ⟨X, eX⟩ : ∃ X : Nat, X = x1 * 18446744073709551616 + x0 := ⟨_, rfl⟩
  simp only [← eX] at LD0 LX0 hX e1 e2
  clear eX
  obtain ⟨p1, p2, p3, p4, p5⟩ := back_parts X b hX hb hb2
  have hQ : X / b < WW := Nat.lt_of_le_of_lt (Nat.div_le_self _ _) hX
  have hR : X % b < b := Nat.mod_lt _ hb
  have LRD := Lib.hid (fun w => refdiv_any X b hX hb (by omega) w)
  have LQ0 := fun w => digits_any (X / b / 18446744073709551616) (X / b % 18446744073709551616) (by have := ww_hi' _ hQ; omega) (Nat.mod_lt _ (by decide)) w
  rw [Nat.div_add_mod'] at LQ0
  have LR0 := fun w => refof_any 0 (X % b) (by decide) (by omega) w
  rw [Nat.zero_mul, Nat.zero_add] at LR0
  rw [show ((0 : Nat) : Int) = 0 from rfl] at LR0
  have LM := Lib.hid (fun w => wmul_any (X / b % 18446744073709551616) b (Nat.mod_lt _ (by decide)) (by omega) w)
  have LH := Lib.hid (fun w => wmul_any (X / b / 18446744073709551616) b (by have := ww_hi' _ hQ; omega) (by omega) w)
  have mh : X / b / 18446744073709551616 * b / 18446744073709551616 ≤ 18446744073709551615 := by
    have : X / b / 18446744073709551616 * b ≤ 18446744073709551615 * 18446744073709551615 := Nat.mul_le_mul (ww_hi' _ hQ) hb2
    omega
  have LL0 := fun w => wleft_any (X / b / 18446744073709551616 * b / 18446744073709551616) (X / b / 18446744073709551616 * b % 18446744073709551616) 64 mh (lo_le _) w
  rw [Nat.div_add_mod', p1] at LL0
  have LA0 := fun w => wadd_any (X / b / 18446744073709551616 * b * 18446744073709551616 / 18446744073709551616) (X / b / 18446744073709551616 * b * 18446744073709551616 % 18446744073709551616) (X / b % 18446744073709551616 * b / 18446744073709551616) (X / b % 18446744073709551616 * b % 18446744073709551616) (lo_le _) (lo_le _) w
  rw [Nat.div_add_mod', Nat.div_add_mod', p2] at LA0
  have LO := Lib.hid (fun w => wof_any (X % b) (by omega) w)
  have LB0 := fun w => wadd_any (X / b * b / 18446744073709551616) (X / b * b % 18446744073709551616) 0 (X % b) (lo_le _) (by omega) w
  rw [Nat.div_add_mod', Nat.zero_mul, Nat.zero_add, p3, e1, e2] at LB0
  rw [show ((0 : Nat) : Int) = 0 from rfl] at LB0
  have LV := Lib.hid live_any
  have hlt : ¬ ((b : Int) ≤ ((X % b : Nat) : Int)) := by omega
  have hlt2 : decide (b ≤ X % b) = false := by simp; omega
  have hlt3 : ¬ b ≤ X % b := by omega
  have e0 : ((b : Int) == 0) = false := by simp; omega
  have LD := Lib.hid LD0
  have LX := Lib.hid LX0
  have LQ := Lib.hid LQ0
  have LR := Lib.hid LR0
  have LL := Lib.hid LL0
  have LA := Lib.hid LA0
  have LB := Lib.hid LB0
  clear LD0 LX0 LQ0 LR0 LL0 LA0 LB0 p1 p2 p3 p4 p5 hX e1 e2 hQ hR mh h1 h0 hb hb2
  generalize X / b / 18446744073709551616 * b * 18446744073709551616 / 18446744073709551616 = L1 at *
  generalize X / b / 18446744073709551616 * b * 18446744073709551616 % 18446744073709551616 = L0 at *
  generalize X / b / 18446744073709551616 * b / 18446744073709551616 = H1 at *
  generalize X / b / 18446744073709551616 * b % 18446744073709551616 = H0 at *
  generalize X / b % 18446744073709551616 * b / 18446744073709551616 = M1 at *
  generalize X / b % 18446744073709551616 * b % 18446744073709551616 = M0 at *
  generalize X / b * b / 18446744073709551616 = S1 at *
  generalize X / b * b % 18446744073709551616 = S0 at *
  generalize X / b / 18446744073709551616 = qh at *
  generalize X / b % 18446744073709551616 = ql at *
  generalize X / b = Q at *
  generalize X % b = R at *
  go_enter Try.func5, Try.ntmps5
  go_upto_region 6 with (first | (go_at_call 21; refine (LD.out _).mono ?_; rintro e w1 ⟨rfl, n1⟩; have X1 : Box w1 (w.heap.size + 1) 25 #[.int .u64 x1, .int .u64 x0] := box_at (by simp) ((Box.made (w.alloc (.cells #[.int .u64 x1, .int .u64 x0] 23)) 25 _).new n1); have y0 : w1.cell? ⟨w.heap.size + 1, 0, none⟩ = some (.int .u64 x1) := Box.cell X1 0; have y1 : w1.cell? ⟨w.heap.size + 1, 1, none⟩ = some (.int .u64 x0) := Box.cell X1 1; have yl := X1.lt; have HX := Lib.hid X1; clear X1) | (go_at_call 6; refine (LX.out _).mono ?_; rintro e w2 ⟨rfl, n2⟩) | (go_at_call 22; refine (LRD.out _).mono ?_; rintro e w3 ⟨rfl, n3⟩))
  have B5 : Box w3 (w.heap.size + 1) 25 #[.int .u64 x1, .int .u64 x0] := ((HX.out.alloc _).new n2).new n3
  have B6 : Box w3 w1.heap.size 25 #[.int .u64 qh, .int .u64 ql] := ((Box.made w1 25 _).new n2).new n3
  have NW : New w w3 := (((((((New.refl w).alloc _).alloc _).trans n1).alloc _).trans n2).trans n3)
  clear HX y0 y1 yl n1 n2 n3
  obtain ⟨g6, hg6⟩ : ∃ g : Nat, g = w1.heap.size := ⟨_, rfl⟩
  rw [← hg6] at B6 ⊢
  obtain ⟨wz, hz⟩ : ∃ wz : World, wz = (w3.alloc (.cells #[.int .i64 (dig Q 0), .int .i64 (dig Q 1), .int .i64 (dig Q 2), .int .i64 (dig Q 3), .int .i64 (dig Q 4), .int .i64 (dig Q 5), .int .i64 (dig Q 6), .int .i64 (dig Q 7)] 27)).alloc (.cells #[.int .i64 (dig R 0), .int .i64 (dig R 1), .int .i64 (dig R 2), .int .i64 (dig R 3), .int .i64 (dig R 4), .int .i64 (dig R 5), .int .i64 (dig R 6), .int .i64 (dig R 7)] 27) := ⟨_, rfl⟩
  have B9 : Box wz w3.heap.size 27 #[.int .i64 (dig Q 0), .int .i64 (dig Q 1), .int .i64 (dig Q 2), .int .i64 (dig Q 3), .int .i64 (dig Q 4), .int .i64 (dig Q 5), .int .i64 (dig Q 6), .int .i64 (dig Q 7)] := by rw [hz]; exact (Box.made w3 27 _).alloc _
  have BX : Box wz (w3.heap.size + 1) 27 #[.int .i64 (dig R 0), .int .i64 (dig R 1), .int .i64 (dig R 2), .int .i64 (dig R 3), .int .i64 (dig R 4), .int .i64 (dig R 5), .int .i64 (dig R 6), .int .i64 (dig R 7)] := by rw [hz]; exact box_at (by simp) (Box.made (w3.alloc _) 27 _)
  have B5z : Box wz (w.heap.size + 1) 25 #[.int .u64 x1, .int .u64 x0] := by rw [hz]; exact (B5.alloc _).alloc _
  have B6z : Box wz g6 25 #[.int .u64 qh, .int .u64 ql] := by rw [hz]; exact (B6.alloc _).alloc _
  have NZ : New w wz := by rw [hz]; exact (NW.alloc _).alloc _
  rw [← hz]
  clear hz B5 B6 NW
  obtain ⟨g10, hg10⟩ : ∃ g : Nat, g = w3.heap.size + 1 := ⟨_, rfl⟩
  rw [← hg10] at BX ⊢
  obtain ⟨g9, hg9⟩ : ∃ g : Nat, g = w3.heap.size := ⟨_, rfl⟩
  rw [← hg9] at B9 ⊢
  clear hg10 hg9 hg6
  have l5 := B5z.lt
  have l6 := B6z.lt
  have l9 := B9.lt
  have l10 := BX.lt
  have t50 : wz.cell? ⟨w.heap.size + 1, 0, none⟩ = some (.int .u64 x1) := B5z.cell 0
  have t51 : wz.cell? ⟨w.heap.size + 1, 1, none⟩ = some (.int .u64 x0) := B5z.cell 1
  have t60 : wz.cell? ⟨g6, 0, none⟩ = some (.int .u64 qh) := B6z.cell 0
  have t61 : wz.cell? ⟨g6, 1, none⟩ = some (.int .u64 ql) := B6z.cell 1
  have t90 : wz.cell? ⟨g9, 0, none⟩ = some (.int .i64 (dig Q 0)) := B9.cell 0
  have tx0 : wz.cell? ⟨g10, 0, none⟩ = some (.int .i64 (dig R 0)) := BX.cell 0
  have t91 : wz.cell? ⟨g9, 1, none⟩ = some (.int .i64 (dig Q 1)) := B9.cell 1
  have tx1 : wz.cell? ⟨g10, 1, none⟩ = some (.int .i64 (dig R 1)) := BX.cell 1
  have t92 : wz.cell? ⟨g9, 2, none⟩ = some (.int .i64 (dig Q 2)) := B9.cell 2
  have tx2 : wz.cell? ⟨g10, 2, none⟩ = some (.int .i64 (dig R 2)) := BX.cell 2
  have t93 : wz.cell? ⟨g9, 3, none⟩ = some (.int .i64 (dig Q 3)) := B9.cell 3
  have tx3 : wz.cell? ⟨g10, 3, none⟩ = some (.int .i64 (dig R 3)) := BX.cell 3
  have t94 : wz.cell? ⟨g9, 4, none⟩ = some (.int .i64 (dig Q 4)) := B9.cell 4
  have tx4 : wz.cell? ⟨g10, 4, none⟩ = some (.int .i64 (dig R 4)) := BX.cell 4
  have t95 : wz.cell? ⟨g9, 5, none⟩ = some (.int .i64 (dig Q 5)) := B9.cell 5
  have tx5 : wz.cell? ⟨g10, 5, none⟩ = some (.int .i64 (dig R 5)) := BX.cell 5
  have t96 : wz.cell? ⟨g9, 6, none⟩ = some (.int .i64 (dig Q 6)) := B9.cell 6
  have tx6 : wz.cell? ⟨g10, 6, none⟩ = some (.int .i64 (dig R 6)) := BX.cell 6
  have t97 : wz.cell? ⟨g9, 7, none⟩ = some (.int .i64 (dig Q 7)) := B9.cell 7
  have tx7 : wz.cell? ⟨g10, 7, none⟩ = some (.int .i64 (dig R 7)) := BX.cell 7
  have KS0 : ∀ v, New wz v → New wz v ∧ v.cell? ⟨g6, 0, none⟩ = some (.int .u64 qh) ∧ v.cell? ⟨g6, 1, none⟩ = some (.int .u64 ql) ∧ v.cell? ⟨g9, 0, none⟩ = some (.int .i64 (dig Q 0)) ∧ v.cell? ⟨g9, 1, none⟩ = some (.int .i64 (dig Q 1)) ∧ v.cell? ⟨g9, 2, none⟩ = some (.int .i64 (dig Q 2)) ∧ v.cell? ⟨g9, 3, none⟩ = some (.int .i64 (dig Q 3)) ∧ v.cell? ⟨g9, 4, none⟩ = some (.int .i64 (dig Q 4)) ∧ v.cell? ⟨g9, 5, none⟩ = some (.int .i64 (dig Q 5)) ∧ v.cell? ⟨g9, 6, none⟩ = some (.int .i64 (dig Q 6)) ∧ v.cell? ⟨g9, 7, none⟩ = some (.int .i64 (dig Q 7)) ∧ v.cell? ⟨g10, 0, none⟩ = some (.int .i64 (dig R 0)) ∧ v.cell? ⟨g10, 1, none⟩ = some (.int .i64 (dig R 1)) ∧ v.cell? ⟨g10, 2, none⟩ = some (.int .i64 (dig R 2)) ∧ v.cell? ⟨g10, 3, none⟩ = some (.int .i64 (dig R 3)) ∧ v.cell? ⟨g10, 4, none⟩ = some (.int .i64 (dig R 4)) ∧ v.cell? ⟨g10, 5, none⟩ = some (.int .i64 (dig R 5)) ∧ v.cell? ⟨g10, 6, none⟩ = some (.int .i64 (dig R 6)) ∧ v.cell? ⟨g10, 7, none⟩ = some (.int .i64 (dig R 7)) := fun v n => ⟨n, (n.cell l6).trans t60, (n.cell l6).trans t61, (n.cell l9).trans t90, (n.cell l9).trans t91, (n.cell l9).trans t92, (n.cell l9).trans t93, (n.cell l9).trans t94, (n.cell l9).trans t95, (n.cell l9).trans t96, (n.cell l9).trans t97, (n.cell l10).trans tx0, (n.cell l10).trans tx1, (n.cell l10).trans tx2, (n.cell l10).trans tx3, (n.cell l10).trans tx4, (n.cell l10).trans tx5, (n.cell l10).trans tx6, (n.cell l10).trans tx7⟩
  have KT0 : ∀ v, New wz v → (v.cell? ⟨g6, 0, none⟩ = some (.int .u64 qh) ∧ v.cell? ⟨g6, 1, none⟩ = some (.int .u64 ql) ∧ g6 < v.heap.size) ∧ v.cell? ⟨w.heap.size + 1, 0, none⟩ = some (.int .u64 x1) ∧ v.cell? ⟨w.heap.size + 1, 1, none⟩ = some (.int .u64 x0) ∧ w.heap.size + 1 < v.heap.size :=
    fun v n => ⟨⟨(n.cell l6).trans t60, (n.cell l6).trans t61, Nat.lt_of_lt_of_le l6 n.lt⟩, (n.cell l5).trans t50, (n.cell l5).trans t51, Nat.lt_of_lt_of_le l5 n.lt⟩
  have KS := Lib.hid KS0
  have KT := Lib.hid KT0
  have HN := Lib.hid NZ
  clear KS0 KT0 NZ B9 BX B5z B6z t50 t51 t60 t61 t90 t91 t92 t93 t94 t95 t96 t97 tx0 tx1 tx2 tx3 tx4 tx5 tx6 tx7
  go_cut [66] (fun s66 wx => s66 = .bool false ∧ New wz wx)
  case first => as_aux_lemma =>
    go_region_held3 (fun w' => New wz w' ∧ w'.cell? ⟨g6, 0, none⟩ = some (.int .u64 qh) ∧ w'.cell? ⟨g6, 1, none⟩ = some (.int .u64 ql) ∧ w'.cell? ⟨g9, 0, none⟩ = some (.int .i64 (dig Q 0)) ∧ w'.cell? ⟨g9, 1, none⟩ = some (.int .i64 (dig Q 1)) ∧ w'.cell? ⟨g9, 2, none⟩ = some (.int .i64 (dig Q 2)) ∧ w'.cell? ⟨g9, 3, none⟩ = some (.int .i64 (dig Q 3)) ∧ w'.cell? ⟨g9, 4, none⟩ = some (.int .i64 (dig Q 4)) ∧ w'.cell? ⟨g9, 5, none⟩ = some (.int .i64 (dig Q 5)) ∧ w'.cell? ⟨g9, 6, none⟩ = some (.int .i64 (dig Q 6)) ∧ w'.cell? ⟨g9, 7, none⟩ = some (.int .i64 (dig Q 7)) ∧ w'.cell? ⟨g10, 0, none⟩ = some (.int .i64 (dig R 0)) ∧ w'.cell? ⟨g10, 1, none⟩ = some (.int .i64 (dig R 1)) ∧ w'.cell? ⟨g10, 2, none⟩ = some (.int .i64 (dig R 2)) ∧ w'.cell? ⟨g10, 3, none⟩ = some (.int .i64 (dig R 3)) ∧ w'.cell? ⟨g10, 4, none⟩ = some (.int .i64 (dig R 4)) ∧ w'.cell? ⟨g10, 5, none⟩ = some (.int .i64 (dig R 5)) ∧ w'.cell? ⟨g10, 6, none⟩ = some (.int .i64 (dig R 6)) ∧ w'.cell? ⟨g10, 7, none⟩ = some (.int .i64 (dig R 7)))
      (first | exact KS.out _ (New.refl _).drew | exact KS.out _ (New.drew (And.left (by assumption))) | exact KS.out _ (New.trans (And.left (by assumption)) nn))
      (first | (go_at_call 6; (with_reducible refine (LQ.out _).mono ?_); rintro e w' ⟨rfl, nn⟩) | (go_at_call 23; (with_reducible refine (LR.out _).mono ?_); rintro e w' ⟨rfl, nn⟩))
    go_wp2_with fail
    go_meet
    exact ⟨rfl, And.left (by assumption)⟩
  case rest =>
    obtain ⟨rfl, nz⟩ := hcut
    clear KS l9 l10
    go_upto_region 8 with fail
    obtain ⟨hs, hs5⟩ := KT.out wc nz
    have HN2 := Lib.hid (HN.out.trans nz)
    have KT2 := Lib.hid (fun v (n : New wc v) => (KT.out v (nz.trans n)).2)
    clear KT HN nz l5 l6
    go_cut [11, 12] (fun s11 s12 wx => ∃ g11 g12 : Nat, s11 = .pointer (some ⟨g11, 0, none⟩) ∧ s12 = .pointer (some ⟨g12, 0, none⟩) ∧ g11 < wx.heap.size ∧ g12 < wx.heap.size ∧ wx.cell? ⟨g11, 0, none⟩ = some (.int .u64 M1) ∧ wx.cell? ⟨g11, 1, none⟩ = some (.int .u64 M0) ∧ wx.cell? ⟨g12, 0, none⟩ = some (.int .u64 H1) ∧ wx.cell? ⟨g12, 1, none⟩ = some (.int .u64 H0) ∧ New wc wx)
    case first => as_aux_lemma =>
      go_region_held3 (fun w' => w'.cell? ⟨g6, 0, none⟩ = some (.int .u64 qh) ∧ w'.cell? ⟨g6, 1, none⟩ = some (.int .u64 ql) ∧ g6 < w'.heap.size)
        (((with_reducible refine keep2' hs ?_); (repeat (first | (with_reducible exact New.refl _) | (with_reducible refine New.alloc ?_ _) | (with_reducible refine New.drew ?_) | (with_reducible refine New.setCell ?_ ?_ _) | (with_reducible refine New.trans ?_ (by assumption)))); all_goals (first | omega | (simp; done) | (simp; omega))))
        (first
          | (go_at_call 18; (with_reducible refine (LM.out _).mono ?_); rintro e v1 ⟨rfl, nn⟩; obtain ⟨kc, kf, kz⟩ := bcell nn; have kl := nn.lt; (try simp at kl); (try have z1 : wc.heap.size < v1.heap.size := by omega); (try have z2 : wc.heap.size + 1 < v1.heap.size := by omega))
          | (go_at_call 18; (with_reducible refine (LH.out _).mono ?_); rintro e v2 ⟨rfl, nn⟩; obtain ⟨kc, kf, kz⟩ := bcell nn; have kl2 := nn.lt; (try simp at kl2); (try have z3 : wc.heap.size < v2.heap.size := by omega); (try have z4 : wc.heap.size + 1 < v2.heap.size := by omega); (try have z5 : v1.heap.size < v2.heap.size := by omega); (try have z6 : v1.heap.size + 1 < v2.heap.size := by omega)))
      all_goals go_wp2_with fail
      all_goals go_meet
      all_goals (refine ⟨_, _, rfl, rfl, ?_, ?_, ?_, ?_, ?_, ?_, ?_⟩)
      all_goals (first
        | ((repeat (first | (with_reducible exact New.refl _) | (with_reducible refine New.alloc ?_ _) | (with_reducible refine New.drew ?_) | (with_reducible refine New.setCell ?_ ?_ _) | (with_reducible refine New.trans ?_ (by assumption)))); all_goals (first | omega | (simp; done) | (simp; omega)); done)
        | (go_simp; done) | (go_simp; refine World.cell?_setCell_same _ _ _ (u := .int .u64 0) ?_; go_simp; done))
    case rest =>
      obtain ⟨g11, g12, rfl, rfl, l11, l12, m0, m1, m2, m3, N2⟩ := hcut
      obtain ⟨t50, t51, l5⟩ := KT2.out wc N2
      have KU0 : ∀ v, New wc v → New wc v ∧ v.cell? ⟨w.heap.size + 1, 0, none⟩ = some (.int .u64 x1) ∧ v.cell? ⟨w.heap.size + 1, 1, none⟩ = some (.int .u64 x0) ∧ v.cell? ⟨g11, 0, none⟩ = some (.int .u64 M1) ∧ v.cell? ⟨g11, 1, none⟩ = some (.int .u64 M0) ∧ v.cell? ⟨g12, 0, none⟩ = some (.int .u64 H1) ∧ v.cell? ⟨g12, 1, none⟩ = some (.int .u64 H0) := fun v n => ⟨n, (n.cell l5).trans t50, (n.cell l5).trans t51, (n.cell l11).trans m0, (n.cell l11).trans m1, (n.cell l12).trans m2, (n.cell l12).trans m3⟩
      have KU := Lib.hid KU0
      have HZ := Lib.hid (HN2.out.trans N2)
      clear KU0 KT2 HN2 N2 hs hs5 t50 t51 l5 l11 l12 m0 m1 m2 m3
      as_aux_lemma =>
        go_wp2_with fail
        go_region_held3 (fun w' => New wc w' ∧ w'.cell? ⟨w.heap.size + 1, 0, none⟩ = some (.int .u64 x1) ∧ w'.cell? ⟨w.heap.size + 1, 1, none⟩ = some (.int .u64 x0) ∧ w'.cell? ⟨g11, 0, none⟩ = some (.int .u64 M1) ∧ w'.cell? ⟨g11, 1, none⟩ = some (.int .u64 M0) ∧ w'.cell? ⟨g12, 0, none⟩ = some (.int .u64 H1) ∧ w'.cell? ⟨g12, 1, none⟩ = some (.int .u64 H0))
          (first | exact KU.out _ (New.refl _).drew | exact KU.out _ (New.drew (And.left (by assumption))) | exact KU.out _ (New.trans (And.left (by assumption)) nn))
          (first | (go_at_call 7; (with_reducible refine (LL.out _).mono ?_); rintro e w' ⟨rfl, nn⟩) | (go_at_call 12; (with_reducible refine (LA.out _).mono ?_); rintro e w' ⟨rfl, nn⟩) | (go_at_call 20; (with_reducible refine (LO.out _).mono ?_); rintro e w' ⟨rfl, nn⟩) | (go_at_call 12; (with_reducible refine (LB.out _).mono ?_); rintro e w' ⟨rfl, nn⟩) | (go_at_call 11; (with_reducible refine (LV.out _).mono ?_); rintro e w' ⟨rfl, nn⟩))
        go_wp2_with fail
        exact bodyPost_ret (v := .bool true) (by simp [results, Try.results5, go_sem]) rfl ⟨rfl, HZ.out.trans (And.left (by assumption))⟩
end Go.Proofs.Ytoiadefffmhibaa
