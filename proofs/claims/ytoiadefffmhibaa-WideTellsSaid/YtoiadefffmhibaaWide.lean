/- Contracts of layer wide. -/
import Derived.Test.YtoiadefffmhibaaProg
import Derived.Test.YtoiadefffmhibaaShelf
import Derived.Test.YtoiadefffmhibaaDigs
import Derived.Test.YtoiadefffmhibaaWof
import Derived.Test.YtoiadefffmhibaaPut
import Derived.Test.YtoiadefffmhibaaPlain
import Derived.BigQuiet
import Derived.Deep.QuietTactic
import Derived.Deep.LoopGhost
import Derived.WalkMore
namespace Go.Proofs.Ytoiadefffmhibaa
open Go.RowKit
set_option linter.unusedVariables false

theorem digits_any (hi lo : Nat) (h1 : hi < 18446744073709551616) (h2 : lo < 18446744073709551616) (w : World) :
    Calls Try.prog 6 #[.agg #[.int .u64 hi, .int .u64 lo]] w fun e w' => e = .returned (.agg #[.int .i64 (dig (hi * 18446744073709551616 + lo) 0), .int .i64 (dig (hi * 18446744073709551616 + lo) 1), .int .i64 (dig (hi * 18446744073709551616 + lo) 2), .int .i64 (dig (hi * 18446744073709551616 + lo) 3), .int .i64 (dig (hi * 18446744073709551616 + lo) 4), .int .i64 (dig (hi * 18446744073709551616 + lo) 5), .int .i64 (dig (hi * 18446744073709551616 + lo) 6), .int .i64 (dig (hi * 18446744073709551616 + lo) 7)]) ∧ New w w' := by
  have HF := Lib.hid (fun w => refof_any hi lo h1 h2 w)
  clear h1 h2
  generalize hi * 18446744073709551616 + lo = X at *
  go_enter Try.func6, Try.ntmps6
  go_wp2_with fail
  refine (HF.out _).mono ?_
  rintro e w1 ⟨rfl, n1⟩
  have R1 : Digs w1 (w.heap.size + 1) (dig 0) := Digs.zero (box_at (by simp) ((Box.made (w.alloc (.cells #[.int .u64 hi, .int .u64 lo] 25 (0, 0))) 27 _).new n1)) rfl
  have N1 : New w w1 := (((New.refl w).alloc _).alloc _).trans n1
  clear n1 HF
  have rc0 := Digs.at_ R1 0 (by decide)
  have rf0 : (w1).frozen? ⟨w.heap.size + 1, 0, none⟩ = false := Box.frozen R1 0
  have rc1 := Digs.at_ R1 1 (by decide)
  have rf1 : (w1).frozen? ⟨w.heap.size + 1, 1, none⟩ = false := Box.frozen R1 1
  have rc2 := Digs.at_ R1 2 (by decide)
  have rf2 : (w1).frozen? ⟨w.heap.size + 1, 2, none⟩ = false := Box.frozen R1 2
  have rc3 := Digs.at_ R1 3 (by decide)
  have rf3 : (w1).frozen? ⟨w.heap.size + 1, 3, none⟩ = false := Box.frozen R1 3
  have rc4 := Digs.at_ R1 4 (by decide)
  have rf4 : (w1).frozen? ⟨w.heap.size + 1, 4, none⟩ = false := Box.frozen R1 4
  have rc5 := Digs.at_ R1 5 (by decide)
  have rf5 : (w1).frozen? ⟨w.heap.size + 1, 5, none⟩ = false := Box.frozen R1 5
  have rc6 := Digs.at_ R1 6 (by decide)
  have rf6 : (w1).frozen? ⟨w.heap.size + 1, 6, none⟩ = false := Box.frozen R1 6
  have rc7 := Digs.at_ R1 7 (by decide)
  have rf7 : (w1).frozen? ⟨w.heap.size + 1, 7, none⟩ = false := Box.frozen R1 7
  go_wp2_with fail
  refine bodyPost_ret (v := .agg #[.int .i64 (dig X 0), .int .i64 (dig X 1), .int .i64 (dig X 2), .int .i64 (dig X 3), .int .i64 (dig X 4), .int .i64 (dig X 5), .int .i64 (dig X 6), .int .i64 (dig X 7)]) (by simp [results, Try.results6, go_sem, rc0, rc1, rc2, rc3, rc4, rc5, rc6, rc7]) rfl ⟨rfl, ?_⟩
  exact N1.set8 (show w.heap.size ≤ w.heap.size + 1 by omega) (dig X)

theorem wof_any (n : Nat) (h : n < 18446744073709551616) (w : World) :
    Calls Try.prog 20 #[.int .u64 n] w fun e w' => e = .returned (.agg #[.int .u64 0, .int .u64 n]) ∧ New w w' := by
  have h := Lib.hid h
  go_enter Try.func20, Try.ntmps20
  go_wp2_with fail
  exact bodyPost_ret (by simp [results, Try.results20, go_sem]) rfl ⟨rfl, by first | exact (New.refl _).alloc _ | exact ((New.refl _).alloc _).alloc _ | exact (((New.refl _).alloc _).alloc _).alloc _⟩

theorem wmul_any (a b : Nat) (h1 : a < 18446744073709551616) (h2 : b < 18446744073709551616) (w : World) :
    Calls Try.prog 18 #[.int .u64 a, .int .u64 b] w fun e w' => e = .returned (.agg #[.int .u64 ((a * b / 18446744073709551616 : Nat) : Int), .int .u64 ((a * b % 18446744073709551616 : Nat) : Int)]) ∧ New w w' := by
  have HM := Lib.hid (fun w => Try.bits_Mul64 a b h1 h2 w)
  clear h1 h2
  generalize a * b / 18446744073709551616 = x at *
  generalize a * b % 18446744073709551616 = y at *
  go_enter Try.func18, Try.ntmps18
  go_wp2_with fail
  refine (HM.out _).mono ?_
  rintro e w1 ⟨rfl, rfl⟩
  go_wp2_with fail
  exact bodyPost_ret (by simp [results, Try.results18, go_sem]) rfl ⟨rfl, by first | exact (New.refl _).alloc _ | exact ((New.refl _).alloc _).alloc _⟩

theorem wlen_any (hi lo : Nat) (h1 : hi ≤ 18446744073709551615) (h2 : lo ≤ 18446744073709551615) (w : World) :
    Calls Try.prog 9 #[.agg #[.int .u64 hi, .int .u64 lo]] w fun e w' => e = .returned (.int .i64 (if hi ≠ 0 then 64 + (Lib.bitLen hi : Int) else Lib.bitLen lo)) ∧ New w w' := by
  have HM := Lib.hid (fun w => Try.bits_Len64 hi w (by omega) (by omega))
  have HL := Lib.hid (fun w => Try.bits_Len64 lo w (by omega) (by omega))
  rw [show ((hi : Int).toNat) = hi from Int.toNat_natCast hi] at HM
  rw [show ((lo : Int).toNat) = lo from Int.toNat_natCast lo] at HL
  have b1 : Lib.bitLen hi ≤ 64 := Lib.bitLen_le hi 64 (by omega) (by omega)
  have b2 : Lib.bitLen lo ≤ 64 := Lib.bitLen_le lo 64 (by omega) (by omega)
  generalize Lib.bitLen hi = x at *
  generalize Lib.bitLen lo = y at *
  by_cases hz : hi = 0
  · subst hz
    simp only [ne_eq, not_true_eq_false, if_false]
    go_enter Try.func9, Try.ntmps9
    go_wp2_with fail
    refine (HL.out _).mono ?_
    rintro e w1 ⟨rfl, rfl⟩
    go_wp2_with fail
    exact bodyPost_ret (by simp [results, Try.results9, go_sem]) rfl ⟨rfl, by first | exact (New.refl _).alloc _ | exact ((New.refl _).alloc _).alloc _ | exact (((New.refl _).alloc _).alloc _).alloc _⟩
  · simp only [ne_eq, hz, not_false_eq_true, if_true]
    have hz' : ((hi : Int) == 0) = false := by simp; exact hz
    go_enter Try.func9, Try.ntmps9
    go_wp2_with fail
    refine (HM.out _).mono ?_
    rintro e w1 ⟨rfl, rfl⟩
    go_wp2_with fail
    exact bodyPost_ret (by simp [results, Try.results9, go_sem]) rfl ⟨rfl, by first | exact (New.refl _).alloc _ | exact ((New.refl _).alloc _).alloc _ | exact (((New.refl _).alloc _).alloc _).alloc _⟩

theorem wrap_nat (x : Nat) : IntKind.u64.wrap (x : Int) = ((x % 18446744073709551616 : Nat) : Int) := by
  simp [IntKind.wrap, IntKind.bits, IntKind.signed] <;> omega
theorem wup_lo (hi lo n : Nat) (h1 : hi ≤ 18446744073709551615) (h2 : lo ≤ 18446744073709551615) (hn : n < 64) (w : World) :
    Calls Try.prog 25 #[.agg #[.int .u64 hi, .int .u64 lo], .int .u64 n] w fun e w' => e = .returned (.agg #[.int .u64 ((((hi * 18446744073709551616 + lo) * 2 ^ n % WW) / 18446744073709551616 : Nat) : Int), .int .u64 ((((hi * 18446744073709551616 + lo) * 2 ^ n % WW) % 18446744073709551616 : Nat) : Int)]) ∧ New w w' := by
  obtain ⟨e1, e2⟩ := up_lo hi lo n (by omega) hn
  have eb0 : bits BinOp.or IntKind.u64 (IntKind.u64.wrap ((hi : Int) * 2 ^ n)) ((lo : Int) / 2 ^ (64 - n)) = ((((hi * 18446744073709551616 + lo) * 2 ^ n % WW) / 18446744073709551616 : Nat) : Int) := by
    rw [e1, show (hi : Int) * 2 ^ n = ((hi * 2 ^ n : Nat) : Int) by simp, wrap_nat, show (lo : Int) / 2 ^ (64 - n) = ((lo / 2 ^ (64 - n) : Nat) : Int) by simp, u64_or_nat _ _ (Nat.mod_lt _ (by decide)) (Nat.lt_of_le_of_lt (Nat.div_le_self _ _) (by omega))]
  have ec0 : IntKind.u64.wrap ((lo : Int) * 2 ^ n) = ((((hi * 18446744073709551616 + lo) * 2 ^ n % WW) % 18446744073709551616 : Nat) : Int) := by
    rw [e2, show (lo : Int) * 2 ^ n = ((lo * 2 ^ n : Nat) : Int) by simp, wrap_nat]
  clear e1 e2
  generalize ((hi * 18446744073709551616 + lo) * 2 ^ n % WW) / 18446744073709551616 = X at *
  generalize ((hi * 18446744073709551616 + lo) * 2 ^ n % WW) % 18446744073709551616 = Y at *
  have eb := Lib.hid eb0
  have ec := Lib.hid ec0
  clear eb0 ec0
  go_enter Try.func25, Try.ntmps25
  go_wp2_with fail
  refine bodyPost_ret (v := .agg #[.int .u64 X, .int .u64 Y]) (by simp [results, Try.results25, go_sem] <;> (try exact ⟨eb.out, ec.out⟩) <;> (try exact eb.out) <;> (try exact ec.out)) rfl ⟨rfl, ?_⟩
  exact ((New.refl _).alloc _).alloc _

theorem wdown_lo (hi lo n : Nat) (h1 : hi ≤ 18446744073709551615) (h2 : lo ≤ 18446744073709551615) (hn : n < 64) (w : World) :
    Calls Try.prog 24 #[.agg #[.int .u64 hi, .int .u64 lo], .int .u64 n] w fun e w' => e = .returned (.agg #[.int .u64 ((((hi * 18446744073709551616 + lo) / 2 ^ n) / 18446744073709551616 : Nat) : Int), .int .u64 ((((hi * 18446744073709551616 + lo) / 2 ^ n) % 18446744073709551616 : Nat) : Int)]) ∧ New w w' := by
  obtain ⟨e1, e2⟩ := down_lo hi lo n (by omega) (by omega) hn
  have eb0 : (hi : Int) / 2 ^ n = ((((hi * 18446744073709551616 + lo) / 2 ^ n) / 18446744073709551616 : Nat) : Int) := by
    rw [e1]; simp
  have ec0 : bits BinOp.or IntKind.u64 ((lo : Int) / 2 ^ n) (IntKind.u64.wrap ((hi : Int) * 2 ^ (64 - n))) = ((((hi * 18446744073709551616 + lo) / 2 ^ n) % 18446744073709551616 : Nat) : Int) := by
    rw [e2, show (hi : Int) * 2 ^ (64 - n) = ((hi * 2 ^ (64 - n) : Nat) : Int) by simp, wrap_nat, show (lo : Int) / 2 ^ n = ((lo / 2 ^ n : Nat) : Int) by simp, u64_or_nat _ _ (Nat.lt_of_le_of_lt (Nat.div_le_self _ _) (by omega)) (Nat.mod_lt _ (by decide))]
  clear e1 e2
  generalize ((hi * 18446744073709551616 + lo) / 2 ^ n) / 18446744073709551616 = X at *
  generalize ((hi * 18446744073709551616 + lo) / 2 ^ n) % 18446744073709551616 = Y at *
  have eb := Lib.hid eb0
  have ec := Lib.hid ec0
  clear eb0 ec0
  go_enter Try.func24, Try.ntmps24
  go_wp2_with fail
  refine bodyPost_ret (v := .agg #[.int .u64 X, .int .u64 Y]) (by simp [results, Try.results24, go_sem] <;> (try exact ⟨eb.out, ec.out⟩) <;> (try exact eb.out) <;> (try exact ec.out)) rfl ⟨rfl, ?_⟩
  exact ((New.refl _).alloc _).alloc _

theorem wup_hi (hi lo n : Nat) (h1 : hi ≤ 18446744073709551615) (h2 : lo ≤ 18446744073709551615) (hn : 64 ≤ n) (hn2 : n < 128) (w : World) :
    Calls Try.prog 25 #[.agg #[.int .u64 hi, .int .u64 lo], .int .u64 n] w fun e w' => e = .returned (.agg #[.int .u64 ((((hi * 18446744073709551616 + lo) * 2 ^ n % WW) / 18446744073709551616 : Nat) : Int), .int .u64 ((((hi * 18446744073709551616 + lo) * 2 ^ n % WW) % 18446744073709551616 : Nat) : Int)]) ∧ New w w' := by
  obtain ⟨e1, e2⟩ := up_hi hi lo n hn
  have eb0 : IntKind.u64.wrap ((lo : Int) * 2 ^ (n - 64)) = ((((hi * 18446744073709551616 + lo) * 2 ^ n % WW) / 18446744073709551616 : Nat) : Int) := by
    rw [e1, show (lo : Int) * 2 ^ (n - 64) = ((lo * 2 ^ (n - 64) : Nat) : Int) by simp, wrap_nat]
  have ec0 : (0 : Int) = ((((hi * 18446744073709551616 + lo) * 2 ^ n % WW) % 18446744073709551616 : Nat) : Int) := by
    rw [e2]; rfl
  clear e1 e2
  generalize ((hi * 18446744073709551616 + lo) * 2 ^ n % WW) / 18446744073709551616 = X at *
  generalize ((hi * 18446744073709551616 + lo) * 2 ^ n % WW) % 18446744073709551616 = Y at *
  have eb := Lib.hid eb0
  have ec := Lib.hid ec0
  clear eb0 ec0
  go_enter Try.func25, Try.ntmps25
  go_wp2_with fail
  refine bodyPost_ret (v := .agg #[.int .u64 X, .int .u64 Y]) (by simp [results, Try.results25, go_sem] <;> (try exact ⟨eb.out, ec.out⟩) <;> (try exact eb.out) <;> (try exact ec.out)) rfl ⟨rfl, ?_⟩
  exact ((New.refl _).alloc _).alloc _

theorem wdown_hi (hi lo n : Nat) (h1 : hi ≤ 18446744073709551615) (h2 : lo ≤ 18446744073709551615) (hn : 64 ≤ n) (hn2 : n < 128) (w : World) :
    Calls Try.prog 24 #[.agg #[.int .u64 hi, .int .u64 lo], .int .u64 n] w fun e w' => e = .returned (.agg #[.int .u64 ((((hi * 18446744073709551616 + lo) / 2 ^ n) / 18446744073709551616 : Nat) : Int), .int .u64 ((((hi * 18446744073709551616 + lo) / 2 ^ n) % 18446744073709551616 : Nat) : Int)]) ∧ New w w' := by
  obtain ⟨e1, e2⟩ := down_hi hi lo n (by omega) (by omega) hn
  have eb0 : (0 : Int) = ((((hi * 18446744073709551616 + lo) / 2 ^ n) / 18446744073709551616 : Nat) : Int) := by
    rw [e1]; rfl
  have ec0 : (hi : Int) / 2 ^ (n - 64) = ((((hi * 18446744073709551616 + lo) / 2 ^ n) % 18446744073709551616 : Nat) : Int) := by
    rw [e2]; simp
  clear e1 e2
  generalize ((hi * 18446744073709551616 + lo) / 2 ^ n) / 18446744073709551616 = X at *
  generalize ((hi * 18446744073709551616 + lo) / 2 ^ n) % 18446744073709551616 = Y at *
  have eb := Lib.hid eb0
  have ec := Lib.hid ec0
  clear eb0 ec0
  go_enter Try.func24, Try.ntmps24
  go_wp2_with fail
  refine bodyPost_ret (v := .agg #[.int .u64 X, .int .u64 Y]) (by simp [results, Try.results24, go_sem] <;> (try exact ⟨eb.out, ec.out⟩) <;> (try exact eb.out) <;> (try exact ec.out)) rfl ⟨rfl, ?_⟩
  exact ((New.refl _).alloc _).alloc _
end Go.Proofs.Ytoiadefffmhibaa
