/- math/bits.Div64 of a number whose upper half is below the divisor. -/
import Derived.Test.YtoiadefffmhibaaDivp
import Derived.Test.YtoiadefffmhibaaWide
import Derived.Deep.DeepCutAuto
import Derived.Deep.CutBlock
namespace Go.Proofs.Ytoiadefffmhibaa
open Go.RowKit
set_option linter.unusedVariables false

theorem div64_zero (lo y : Nat) (h : 0 < y) (hl : lo ≤ 18446744073709551615) (hy : y ≤ 18446744073709551615) (w : World) :
    Calls Try.prog 31 #[.int .u64 0, .int .u64 lo, .int .u64 y] w fun e w' => e = .returned (.tuple #[.int .u64 ((lo / y : Nat) : Int), .int .u64 ((lo % y : Nat) : Int)]) ∧ New w w' := by
  have e0 : ((y : Int) == 0) = false := by simp; omega
  have e1 : decide ((y : Int) ≤ 0) = false := by simp; omega
  have e2 : ¬ (y : Int) ≤ 0 := by omega
  have q1 : (0 : Int) ≤ (lo : Int) / (y : Int) := by
    rw [← Int.natCast_ediv]; exact Int.natCast_nonneg _
  have q2 : (lo : Int) / (y : Int) ≤ 18446744073709551615 := by
    rw [← Int.natCast_ediv]
    have := Nat.div_le_self lo y
    omega
  go_enter Try.func31, Try.ntmps31
  go_wp2_with fail
  go_quiet (fail)
  go_wp2_with fail
  go_ret2
  exact ⟨by simp, (New.refl _).draws _⟩

theorem and32' (x : Nat) (h : x < 18446744073709551616) : bits .and .u64 (x : Int) 4294967295 = ((x % 4294967296 : Nat) : Int) := by
  rw [← show x &&& 4294967295 = x % 4294967296 from Nat.and_two_pow_sub_one_eq_mod x 32]
  exact u64_and_nat x 4294967295 h (by decide)

set_option maxRecDepth 100000 in
set_option maxHeartbeats 4000000 in
theorem div64_some (hi lo y : Nat) (h : hi < y) (h0 : 0 < hi) (hl : lo ≤ 18446744073709551615) (hy : y ≤ 18446744073709551615) (w : World) :
    Calls Try.prog 31 #[.int .u64 hi, .int .u64 lo, .int .u64 y] w fun e w' => e = .returned (.tuple #[.int .u64 (((hi * 18446744073709551616 + lo) / y : Nat) : Int), .int .u64 (((hi * 18446744073709551616 + lo) % y : Nat) : Int)]) ∧ New w w' := by
  obtain ⟨s, hs, es, n1, n2⟩ := norm_of y (by omega) (by omega)
  have LZ0 := fun w => Try.bits_LeadingZeros64 (y : Int) w (by omega) (by omega)
  rw [show ((y : Int).toNat) = y from Int.toNat_natCast y, es] at LZ0
  have LZ := Lib.hid LZ0
  clear LZ0 es
  obtain ⟨u1, u2⟩ := up_lo hi lo s (by omega) hs
  obtain ⟨sh1, sh2⟩ := shifted (hi * 18446744073709551616 + lo) y s
  have hX : (hi * 18446744073709551616 + lo) * 2 ^ s < 18446744073709551616 * (y * 2 ^ s) := by
    rw [← Nat.mul_assoc]
    exact Nat.mul_lt_mul_of_pos_right (by omega) (Nat.pow_pos (by decide))
  have hW : (hi * 18446744073709551616 + lo) * 2 ^ s < WW := by unfold WW; omega
  rw [Nat.mod_eq_of_lt hW] at u1 u2
  have hu : (hi * 18446744073709551616 + lo) * 2 ^ s / 18446744073709551616 < y * 2 ^ s := Nat.div_lt_of_lt_mul hX
  obtain ⟨t1, t2⟩ := two_digits ((hi * 18446744073709551616 + lo) * 2 ^ s / 18446744073709551616) ((hi * 18446744073709551616 + lo) * 2 ^ s % 18446744073709551616) (y * 2 ^ s) (by omega)
  rw [Nat.div_add_mod'] at t1 t2
  rw [← sh1, ← sh2, t1, t2]
  have k1 : IntKind.u64.wrap ((y : Int) * 2 ^ s) = ((y * 2 ^ s : Nat) : Int) := by
    rw [show (y : Int) * 2 ^ s = ((y * 2 ^ s : Nat) : Int) by simp, wrap_nat, Nat.mod_eq_of_lt n2]
  have k2 : bits BinOp.or IntKind.u64 (IntKind.u64.wrap ((hi : Int) * 2 ^ s)) ((lo : Int) / 2 ^ (64 - s)) = (((hi * 18446744073709551616 + lo) * 2 ^ s / 18446744073709551616 : Nat) : Int) := by
    rw [u1, show (hi : Int) * 2 ^ s = ((hi * 2 ^ s : Nat) : Int) by simp, wrap_nat, show (lo : Int) / 2 ^ (64 - s) = ((lo / 2 ^ (64 - s) : Nat) : Int) by simp, u64_or_nat _ _ (Nat.mod_lt _ (by decide)) (Nat.lt_of_le_of_lt (Nat.div_le_self _ _) (by omega))]
  have k3 : IntKind.u64.wrap ((lo : Int) * 2 ^ s) = (((hi * 18446744073709551616 + lo) * 2 ^ s % 18446744073709551616 : Nat) : Int) := by
    rw [u2, show (lo : Int) * 2 ^ s = ((lo * 2 ^ s : Nat) : Int) by simp, wrap_nat]
  have e0 : ((y : Int) == 0) = false := by simp; omega
  have e2 : ¬ (y : Int) ≤ (hi : Int) := by omega
  have e3 : ((hi : Int) == 0) = false := by simp; omega
  have bV := Nat.mod_lt ((hi * 18446744073709551616 + lo) * 2 ^ s) (show 0 < 18446744073709551616 by decide)
  clear u1 u2 sh1 sh2 t1 t2 hX hW h
  generalize (hi * 18446744073709551616 + lo) * 2 ^ s / 18446744073709551616 = U at *
  generalize (hi * 18446744073709551616 + lo) * 2 ^ s % 18446744073709551616 = V at *
  generalize y * 2 ^ s = D at *
  have r4 : (D : Int) / 4294967296 = ((D / 4294967296 : Nat) : Int) := by simp
  have r5 := and32' D n2
  have r6 : (V : Int) / 4294967296 = ((V / 4294967296 : Nat) : Int) := by simp
  have r7 := and32' V bV
  have dD : D = (D / 4294967296) * 4294967296 + D % 4294967296 := by omega
  have d1 : 2147483648 ≤ D / 4294967296 := by omega
  have d1' : D / 4294967296 < 4294967296 := by omega
  have d0 : D % 4294967296 < 4294967296 := Nat.mod_lt _ (by decide)
  have a1 : V / 4294967296 < 4294967296 := by omega
  have a0 : V % 4294967296 < 4294967296 := Nat.mod_lt _ (by decide)
  have hu2 : (U * 4294967296 + V / 4294967296) % D < D := Nat.mod_lt _ (by omega)
  have q1b : (U * 4294967296 + V / 4294967296) / D < 4294967296 := by
    apply Nat.div_lt_of_lt_mul
    have : (U + 1) * 4294967296 ≤ D * 4294967296 := Nat.mul_le_mul_right _ hu
    omega
  have q0b : ((U * 4294967296 + V / 4294967296) % D * 4294967296 + V % 4294967296) / D < 4294967296 := by
    apply Nat.div_lt_of_lt_mul
    have : ((U * 4294967296 + V / 4294967296) % D + 1) * 4294967296 ≤ D * 4294967296 := Nat.mul_le_mul_right _ hu2
    omega
  have m1 := Nat.div_add_mod' (U * 4294967296 + V / 4294967296) D
  have m0 := Nat.div_add_mod' ((U * 4294967296 + V / 4294967296) % D * 4294967296 + V % 4294967296) D
  have rb : ((U * 4294967296 + V / 4294967296) % D * 4294967296 + V % 4294967296) % D < D := Nat.mod_lt _ (by omega)
  obtain ⟨D1, eD1⟩ : ∃ x : Nat, x = D / 4294967296 := ⟨_, rfl⟩
  obtain ⟨D0, eD0⟩ : ∃ x : Nat, x = D % 4294967296 := ⟨_, rfl⟩
  obtain ⟨A1, eA1⟩ : ∃ x : Nat, x = V / 4294967296 := ⟨_, rfl⟩
  obtain ⟨A0, eA0⟩ : ∃ x : Nat, x = V % 4294967296 := ⟨_, rfl⟩
  rw [← eA1, ← eA0] at m0 q0b rb ⊢
  rw [← eA1] at m1 q1b hu2
  rw [← eD1, ← eD0] at dD
  rw [← eD1] at d1 d1' r4
  rw [← eD0] at d0 r5
  rw [← eA1] at a1 r6
  rw [← eA0] at a0 r7
  clear eD1 eD0 eA1 eA0
  obtain ⟨Q1, eQ1⟩ : ∃ x : Nat, x = (U * 4294967296 + A1) / D := ⟨_, rfl⟩
  obtain ⟨R1, eR1⟩ : ∃ x : Nat, x = (U * 4294967296 + A1) % D := ⟨_, rfl⟩
  rw [← eQ1] at m1 q1b ⊢
  rw [← eR1] at m1 m0 hu2 q0b rb ⊢
  obtain ⟨Q0, eQ0⟩ : ∃ x : Nat, x = (R1 * 4294967296 + A0) / D := ⟨_, rfl⟩
  obtain ⟨R0, eR0⟩ : ∃ x : Nat, x = (R1 * 4294967296 + A0) % D := ⟨_, rfl⟩
  rw [← eQ0] at m0 q0b ⊢
  rw [← eR0] at m0 rb ⊢
  have HF := Lib.hid (⟨dD, eQ1.symm, eQ0.symm⟩ : _ ∧ _ ∧ _)
  have bV' : V ≤ 18446744073709551615 := by omega
  have n2' : D ≤ 18446744073709551615 := by omega
  have HU := Lib.hid hu
  have HU2 := Lib.hid hu2
  clear eR1 eQ0 eR0 eQ1 dD
  -- the words behind the first digit and behind the second one
  obtain ⟨x1, ex1⟩ : ∃ x : Nat, x = U * 4294967296 % 18446744073709551616 := ⟨_, rfl⟩
  obtain ⟨x2, ex2⟩ : ∃ x : Nat, x = (U * 4294967296 + A1) % 18446744073709551616 := ⟨_, rfl⟩
  obtain ⟨x3, ex3⟩ : ∃ x : Nat, x = Q1 * D % 18446744073709551616 := ⟨_, rfl⟩
  have y1 : IntKind.u64.wrap ((U : Int) * 4294967296) = (x1 : Int) := by
    rw [show (U : Int) * 4294967296 = ((U * 4294967296 : Nat) : Int) by simp, wrap_nat, ex1]
  have y2 : IntKind.u64.wrap ((x1 : Int) + (A1 : Int)) = (x2 : Int) := by
    rw [show (x1 : Int) + (A1 : Int) = ((x1 + A1 : Nat) : Int) by simp, wrap_nat, ex1, ex2, Nat.mod_add_mod]
  have y3 : IntKind.u64.wrap ((Q1 : Int) * (D : Int)) = (x3 : Int) := by
    rw [show (Q1 : Int) * (D : Int) = ((Q1 * D : Nat) : Int) by simp, wrap_nat, ex3]
  have y4 : IntKind.u64.wrap ((x2 : Int) - (x3 : Int)) = (R1 : Int) := by
    simp only [IntKind.wrap, IntKind.bits, IntKind.signed]
    rw [ex2, ex3]
    generalize Q1 * D = k at *
    simp
    omega
  obtain ⟨z1, ez1⟩ : ∃ x : Nat, x = R1 * 4294967296 % 18446744073709551616 := ⟨_, rfl⟩
  obtain ⟨z2, ez2⟩ : ∃ x : Nat, x = (R1 * 4294967296 + A0) % 18446744073709551616 := ⟨_, rfl⟩
  obtain ⟨z3, ez3⟩ : ∃ x : Nat, x = Q0 * D % 18446744073709551616 := ⟨_, rfl⟩
  have v1 : IntKind.u64.wrap ((R1 : Int) * 4294967296) = (z1 : Int) := by
    rw [show (R1 : Int) * 4294967296 = ((R1 * 4294967296 : Nat) : Int) by simp, wrap_nat, ez1]
  have v2 : IntKind.u64.wrap ((z1 : Int) + (A0 : Int)) = (z2 : Int) := by
    rw [show (z1 : Int) + (A0 : Int) = ((z1 + A0 : Nat) : Int) by simp, wrap_nat, ez1, ez2, Nat.mod_add_mod]
  have v3 : IntKind.u64.wrap ((Q0 : Int) * (D : Int)) = (z3 : Int) := by
    rw [show (Q0 : Int) * (D : Int) = ((Q0 * D : Nat) : Int) by simp, wrap_nat, ez3]
  have v4 : IntKind.u64.wrap ((z2 : Int) - (z3 : Int)) = (R0 : Int) := by
    simp only [IntKind.wrap, IntKind.bits, IntKind.signed]
    rw [ez2, ez3]
    generalize Q0 * D = k at *
    simp
    omega
  have HY := Lib.hid (⟨y1, y2, y3, y4⟩ : _ ∧ _ ∧ _ ∧ _)
  have HV := Lib.hid (⟨v1, v2, v3, v4⟩ : _ ∧ _ ∧ _ ∧ _)
  clear ex1 ex2 ex3 y1 y2 y3 y4 ez1 ez2 ez3 v1 v2 v3 v4 m1 m0 n2 bV hu hu2
  -- the first guesses
  have f1 : (U : Int) / (D1 : Int) = ((U / D1 : Nat) : Int) := by simp
  have f2 : ((U / D1 : Nat) : Int) * (D1 : Int) = ((U / D1 * D1 : Nat) : Int) := by simp
  have f3 : (U : Int) - ((U / D1 * D1 : Nat) : Int) = ((U % D1 : Nat) : Int) := by
    have := Nat.div_add_mod' U D1
    omega
  have bU : U ≤ 18446744073709551615 := by have := HU.out; omega
  have f4 : U / D1 * D1 ≤ U := Nat.div_mul_le_self _ _
  have f5 : U % D1 < D1 := Nat.mod_lt _ (by omega)
  have f6 : U / D1 < 8589934592 := Nat.div_lt_of_lt_mul (by omega)
  have G1 := Lib.hid (guess_first U A1 D1 D0 a1 (by omega))
  obtain ⟨q1, eq1⟩ : ∃ x : Nat, x = U / D1 := ⟨_, rfl⟩
  obtain ⟨p1, ep1⟩ : ∃ x : Nat, x = U / D1 * D1 := ⟨_, rfl⟩
  obtain ⟨r1, er1⟩ : ∃ x : Nat, x = U % D1 := ⟨_, rfl⟩
  rw [← ep1] at f2 f3 f4
  rw [← eq1] at f1 f2 f6 G1
  rw [← er1] at f3 f5 G1
  clear eq1 ep1 er1
  have g1 : (R1 : Int) / (D1 : Int) = ((R1 / D1 : Nat) : Int) := by simp
  have g2 : ((R1 / D1 : Nat) : Int) * (D1 : Int) = ((R1 / D1 * D1 : Nat) : Int) := by simp
  have g3 : (R1 : Int) - ((R1 / D1 * D1 : Nat) : Int) = ((R1 % D1 : Nat) : Int) := by
    have := Nat.div_add_mod' R1 D1
    omega
  have bR : R1 ≤ 18446744073709551615 := by have := HU2.out; omega
  have g4 : R1 / D1 * D1 ≤ R1 := Nat.div_mul_le_self _ _
  have g5 : R1 % D1 < D1 := Nat.mod_lt _ (by omega)
  have g6 : R1 / D1 < 8589934592 := Nat.div_lt_of_lt_mul (by omega)
  have G2 := Lib.hid (guess_first R1 A0 D1 D0 a0 (by omega))
  obtain ⟨q2, eq2⟩ : ∃ x : Nat, x = R1 / D1 := ⟨_, rfl⟩
  obtain ⟨p2, ep2⟩ : ∃ x : Nat, x = R1 / D1 * D1 := ⟨_, rfl⟩
  obtain ⟨r2, er2⟩ : ∃ x : Nat, x = R1 % D1 := ⟨_, rfl⟩
  rw [← ep2] at g2 g3 g4
  rw [← eq2] at g1 g2 g6 G2
  rw [← er2] at g3 g5 G2
  clear eq2 ep2 er2
  have HG2 := Lib.hid (⟨g1, g2, g3⟩ : _ ∧ _ ∧ _)
  clear g1 g2 g3
  go_enter Try.func31, Try.ntmps31
  go_upto_region 15 with (go_at_call 32; refine (LZ.out _).mono ?_; rintro e w ⟨rfl, rfl⟩)
  clear k1 k2 k3 r4 r5 r6 r7 e0 e2 e3 LZ n1
  have a1' : A1 ≤ 4294967295 := by omega
  have a0' : A0 ≤ 4294967295 := by omega
  have d0' : D0 ≤ 4294967295 := by omega
  have d1'' : D1 ≤ 4294967295 := by omega
  have q1b' : Q1 ≤ 4294967295 := by omega
  have q0b' : Q0 ≤ 4294967295 := by omega
  clear a1 a0 d0 d1' q1b q0b
  go_upto_block 0 with fail
  go_cut [15, 16] (fun s15 s16 wx => s15 = .int .u64 (Q1 : Int) ∧ wx = w)
  case first =>
    go_wp2_with fail
    go_loopg [15, 16] q1 (fun n sq sr wr => ∃ q r : Nat, sq = .int .u64 (q : Int) ∧ sr = .int .u64 (r : Int) ∧ q ≤ n ∧ q ≤ 8589934591 ∧ r ≤ 4294967295 ∧ Hid (Guess U A1 D1 D0 q r) ∧ wr = w)
    case atStart => exact ⟨q1, r1, rfl, rfl, Nat.le_refl _, by omega, by omega, Lib.hid G1.out, rfl⟩
    case round =>
      obtain ⟨q, r, rfl, rfl, hqn, hq, hr, hG, rfl⟩ := hrel
      by_cases hA : 4294967296 ≤ q
      · obtain ⟨hq1, G'⟩ := guess_step (by omega) (by have := HF.out.1; have := HU.out; omega) (by omega) hG.out (.inl hA)
        have HG' := Lib.hid G'
        have iA : (4294967296 : Int) ≤ (q : Int) := by omega
        have HA := Lib.hid (⟨hA, hq1⟩ : _ ∧ _)
        clear G' hA hq1 f1 f2 f3 f4 f5 f6 g4 g5 g6 bR bV' rb q1b' q0b' h0 hl hy hs
        by_cases hb : 4294967296 ≤ r + D1
        · have ib : (4294967296 : Int) ≤ (r : Int) + (D1 : Int) := by omega
          have HB := Lib.hid hb
          have HQ := HA.out
          have hq1 : (1 : Int) ≤ (q : Int) := by omega
          clear hb HQ
          go_wp2_with fail
          go_meet
          refine ⟨?_, rfl⟩
          have := guess_exit (by omega) HG'.out (guess_break (by omega) (by omega) (by have := HF.out.1; have := HU.out; have := HU2.out; omega) HG'.out HB.out)
          rw [← HF.out.1, HF.out.2.1] at this
          rw [← this]
          exact congrArg (Value.int .u64) (by omega)
        · have ib : ¬ (4294967296 : Int) ≤ (r : Int) + (D1 : Int) := by omega
          have HB := Lib.hid hb
          have hq1 : (1 : Int) ≤ (q : Int) := by have := HA.out; omega
          clear hb
          go_wp2_with fail
          go_roundg (gk - 1)
          case rel => exact ⟨q - 1, r + D1, congrArg (Value.int .u64) (by omega), congrArg (Value.int .u64) (by omega), by omega, by omega, by have := HB.out; omega, Lib.hid HG'.out, rfl⟩
          case measure => have := HA.out; omega
      · obtain ⟨qd, eqd⟩ : ∃ qd : Nat, qd = q * D0 := ⟨_, rfl⟩
        have pd : (q : Int) * (D0 : Int) = (qd : Int) := by rw [eqd]; simp
        have bd : qd ≤ 18446744065119617025 := by rw [eqd]; exact Nat.mul_le_mul (show q ≤ 4294967295 by omega) (show D0 ≤ 4294967295 by omega)
        by_cases hB : r * 4294967296 + A1 < qd
        · obtain ⟨hq1, G'⟩ := guess_step (by omega) (by have := HF.out.1; have := HU.out; have := HU2.out; omega) (by omega) hG.out (.inr (by rw [← eqd]; exact hB))
          have HG' := Lib.hid G'
          have iA : ¬ (4294967296 : Int) ≤ (q : Int) := by omega
          have iB : (4294967296 : Int) * (r : Int) + (A1 : Int) < (qd : Int) := by omega
          have HA := Lib.hid (⟨hA, hB, hq1⟩ : _ ∧ _ ∧ _)
          clear G' eqd hA hB hq1 f1 f2 f3 f4 f5 f6 g4 g5 g6 bR bV' rb q1b' q0b' h0 hl hy hs
          have hq1 : (1 : Int) ≤ (q : Int) := by have := HA.out; omega
          by_cases hb : 4294967296 ≤ r + D1
          · have ib : (4294967296 : Int) ≤ (r : Int) + (D1 : Int) := by omega
            have HB := Lib.hid hb
            clear hb
            go_wp2_with fail
            go_meet
            refine ⟨?_, rfl⟩
            have := guess_exit (by omega) HG'.out (guess_break (by omega) (by omega) (by have := HF.out.1; have := HU.out; have := HU2.out; omega) HG'.out HB.out)
            rw [← HF.out.1, HF.out.2.1] at this
            rw [← this]
            exact congrArg (Value.int .u64) (by omega)
          · have ib : ¬ (4294967296 : Int) ≤ (r : Int) + (D1 : Int) := by omega
            have HB := Lib.hid hb
            clear hb
            go_wp2_with fail
            go_roundg (gk - 1)
            case rel => exact ⟨q - 1, r + D1, congrArg (Value.int .u64) (by omega), congrArg (Value.int .u64) (by omega), by omega, by omega, by have := HB.out; omega, Lib.hid HG'.out, rfl⟩
            case measure => have := HA.out; omega
        · have fin := guess_exit (by omega) hG.out (by rw [← eqd]; omega)
          rw [← HF.out.1, HF.out.2.1] at fin
          have HZ := Lib.hid fin
          have iA : ¬ (4294967296 : Int) ≤ (q : Int) := by omega
          have iB : ¬ (4294967296 : Int) * (r : Int) + (A1 : Int) < (qd : Int) := by omega
          clear fin eqd hA hB f1 f2 f3 f4 f5 f6 g4 g5 g6 bR bV' rb q1b' q0b' h0 hl hy hs
          go_wp2_with fail
          go_meet
          exact ⟨by rw [HZ.out], rfl⟩
  case rest =>
    obtain ⟨rfl, rfl⟩ := hcut
    clear f1 f2 f3 f4 f5 f6
    obtain ⟨y1, y2, y3, y4⟩ := HY.out
    obtain ⟨g1, g2, g3⟩ := HG2.out
    go_upto_block 2 with fail
    go_cut [18, 16] (fun s18 s16 wx => s18 = .int .u64 (Q0 : Int) ∧ wx = wc)
    case first =>
      go_wp2_with fail
      go_loopg [18, 16] q2 (fun n sq sr wr => ∃ q r : Nat, sq = .int .u64 (q : Int) ∧ sr = .int .u64 (r : Int) ∧ q ≤ n ∧ q ≤ 8589934591 ∧ r ≤ 4294967295 ∧ Hid (Guess R1 A0 D1 D0 q r) ∧ wr = wc)
      case atStart => exact ⟨q2, r2, rfl, rfl, Nat.le_refl _, by omega, by omega, Lib.hid G2.out, rfl⟩
      case round =>
        obtain ⟨q, r, rfl, rfl, hqn, hq, hr, hG, rfl⟩ := hrel
        by_cases hA : 4294967296 ≤ q
        · obtain ⟨hq1, G'⟩ := guess_step (by omega) (by have := HF.out.1; have := HU2.out; omega) (by omega) hG.out (.inl hA)
          have HG' := Lib.hid G'
          have iA : (4294967296 : Int) ≤ (q : Int) := by omega
          have HA := Lib.hid (⟨hA, hq1⟩ : _ ∧ _)
          clear G' hA hq1 y1 y2 y3 y4 g1 g2 g3 g4 g5 g6 bR bV' rb q1b' q0b' h0 hl hy hs
          by_cases hb : 4294967296 ≤ r + D1
          · have ib : (4294967296 : Int) ≤ (r : Int) + (D1 : Int) := by omega
            have HB := Lib.hid hb
            have HQ := HA.out
            have hq1 : (1 : Int) ≤ (q : Int) := by omega
            clear hb HQ
            go_wp2_with fail
            go_meet
            refine ⟨?_, rfl⟩
            have := guess_exit (by omega) HG'.out (guess_break (by omega) (by omega) (by have := HF.out.1; have := HU.out; have := HU2.out; omega) HG'.out HB.out)
            rw [← HF.out.1, HF.out.2.2] at this
            rw [← this]
            exact congrArg (Value.int .u64) (by omega)
          · have ib : ¬ (4294967296 : Int) ≤ (r : Int) + (D1 : Int) := by omega
            have HB := Lib.hid hb
            have hq1 : (1 : Int) ≤ (q : Int) := by have := HA.out; omega
            clear hb
            go_wp2_with fail
            go_roundg (gk - 1)
            case rel => exact ⟨q - 1, r + D1, congrArg (Value.int .u64) (by omega), congrArg (Value.int .u64) (by omega), by omega, by omega, by have := HB.out; omega, Lib.hid HG'.out, rfl⟩
            case measure => have := HA.out; omega
        · obtain ⟨qd, eqd⟩ : ∃ qd : Nat, qd = q * D0 := ⟨_, rfl⟩
          have pd : (q : Int) * (D0 : Int) = (qd : Int) := by rw [eqd]; simp
          have bd : qd ≤ 18446744065119617025 := by rw [eqd]; exact Nat.mul_le_mul (show q ≤ 4294967295 by omega) (show D0 ≤ 4294967295 by omega)
          by_cases hB : r * 4294967296 + A0 < qd
          · obtain ⟨hq1, G'⟩ := guess_step (by omega) (by have := HF.out.1; have := HU.out; have := HU2.out; omega) (by omega) hG.out (.inr (by rw [← eqd]; exact hB))
            have HG' := Lib.hid G'
            have iA : ¬ (4294967296 : Int) ≤ (q : Int) := by omega
            have iB : (4294967296 : Int) * (r : Int) + (A0 : Int) < (qd : Int) := by omega
            have HA := Lib.hid (⟨hA, hB, hq1⟩ : _ ∧ _ ∧ _)
            clear G' eqd hA hB hq1 y1 y2 y3 y4 g1 g2 g3 g4 g5 g6 bR bV' rb q1b' q0b' h0 hl hy hs
            have hq1 : (1 : Int) ≤ (q : Int) := by have := HA.out; omega
            by_cases hb : 4294967296 ≤ r + D1
            · have ib : (4294967296 : Int) ≤ (r : Int) + (D1 : Int) := by omega
              have HB := Lib.hid hb
              clear hb
              go_wp2_with fail
              go_meet
              refine ⟨?_, rfl⟩
              have := guess_exit (by omega) HG'.out (guess_break (by omega) (by omega) (by have := HF.out.1; have := HU.out; have := HU2.out; omega) HG'.out HB.out)
              rw [← HF.out.1, HF.out.2.2] at this
              rw [← this]
              exact congrArg (Value.int .u64) (by omega)
            · have ib : ¬ (4294967296 : Int) ≤ (r : Int) + (D1 : Int) := by omega
              have HB := Lib.hid hb
              clear hb
              go_wp2_with fail
              go_roundg (gk - 1)
              case rel => exact ⟨q - 1, r + D1, congrArg (Value.int .u64) (by omega), congrArg (Value.int .u64) (by omega), by omega, by omega, by have := HB.out; omega, Lib.hid HG'.out, rfl⟩
              case measure => have := HA.out; omega
          · have fin := guess_exit (by omega) hG.out (by rw [← eqd]; omega)
            rw [← HF.out.1, HF.out.2.2] at fin
            have HZ := Lib.hid fin
            have iA : ¬ (4294967296 : Int) ≤ (q : Int) := by omega
            have iB : ¬ (4294967296 : Int) * (r : Int) + (A0 : Int) < (qd : Int) := by omega
            clear fin eqd hA hB y1 y2 y3 y4 g1 g2 g3 g4 g5 g6 bR bV' rb q1b' q0b' h0 hl hy hs
            go_wp2_with fail
            go_meet
            exact ⟨by rw [HZ.out], rfl⟩
    case rest =>
      obtain ⟨rfl, rfl⟩ := hcut
      clear y1 y2 y3 y4 g1 g2 g3 g4 g5 g6
      obtain ⟨v1, v2, v3, v4⟩ := HV.out
      go_wp2_with fail
      go_ret2
      exact ⟨by simp, New.refl _⟩

theorem div64_any (hi lo y : Nat) (h : hi < y) (hl : lo ≤ 18446744073709551615) (hy : y ≤ 18446744073709551615) (w : World) :
    Calls Try.prog 31 #[.int .u64 hi, .int .u64 lo, .int .u64 y] w fun e w' => e = .returned (.tuple #[.int .u64 (((hi * 18446744073709551616 + lo) / y : Nat) : Int), .int .u64 (((hi * 18446744073709551616 + lo) % y : Nat) : Int)]) ∧ New w w' := by
  rcases Nat.eq_zero_or_pos hi with rfl | h0
  · simpa using div64_zero lo y h hl hy w
  · exact div64_some hi lo y h h0 hl hy w
end Go.Proofs.Ytoiadefffmhibaa
