/- Contracts of the layer gold: Red, fold, Mul, Pow, Inv are what the names say, modulo P. -/
import Derived.Test.YtniibghbhbigaaaDoorShelf
import Derived.Test.YtniibghbhbigaaaDoorKit
import Derived.BigQuiet
import Derived.Deep.QuietTactic
import Derived.Deep.LoopGhost
import Derived.WalkMore
import Derived.Laws.Bits64
import Derived.Laws.BitsAllLaws
namespace Go.Proofs.YtniibghbhbigaaaDoor
open Go.RowKit
set_option linter.unusedVariables false

def PP : Nat := 18446744069414584321

def redP (a : Nat) : Nat := a % PP
def mulP (a b : Nat) : Nat := a * b % PP

theorem redP_lt (a : Nat) : redP a < 18446744069414584321 := Nat.mod_lt _ (by decide)
theorem mulP_lt (a b : Nat) : mulP a b < 18446744069414584321 := Nat.mod_lt _ (by decide)

theorem redP_big {a : Nat} (h : 18446744069414584321 ≤ a) (h2 : a < 18446744073709551616) : redP a = a - 18446744069414584321 := by
  unfold redP PP; omega
theorem redP_small {a : Nat} (h : a < 18446744069414584321) : redP a = a := Nat.mod_eq_of_lt h

set_option maxHeartbeats 400000 in
theorem red_any (a : Nat) (w : World) (h2 : a < 18446744073709551616) :
    Calls Tryd.prog 12 #[.int .u64 a] w fun e w' => e = .returned (.int .u64 (redP a)) ∧ w = w' := by
  by_cases h : 18446744069414584321 ≤ a
  · obtain ⟨r, hr⟩ : ∃ r : Nat, (r : Int) = (a : Int) - 18446744069414584321 := ⟨a - 18446744069414584321, by omega⟩
    have e : redP a = r := by rw [redP_big h h2]; omega
    rw [e]
    have HR := Lib.hid hr
    have h' : (18446744069414584321 : Int) ≤ (a : Int) := by omega
    have h2' : (a : Int) < 18446744073709551616 := by omega
    clear e hr h h2
    go_enter Tryd.func12, Tryd.ntmps12
    go_wp2
    go_ret
    exact ⟨by rw [HR.out]; rfl, rfl⟩
  · rw [redP_small (by omega)]
    have h' : ¬ (18446744069414584321 : Int) ≤ (a : Int) := by omega
    clear h h2
    go_enter Tryd.func12, Tryd.ntmps12
    go_wp2
    go_ret
    exact ⟨rfl, rfl⟩

/-- the low word of a sum or difference, and what goes over -/
def lo64 (x : Int) : Int := x % 18446744073709551616
def hi64 (x : Int) : Int := x / 18446744073709551616
/-- the borrow -/
def bor (x y : Int) : Int := if x < y then 1 else 0
/-- the lowest 32 bits -/
def low32 (x : Int) : Int := x % 4294967296

theorem add64_0 (x y : Int) (hx : 0 ≤ x) (hy : 0 ≤ y) (w : World) : (callFunc 39 #[.int .u64 x, .int .u64 y, .int .u64 0]).run Tryd.prog w =
    .ok (.value (.tuple #[.int .u64 (lo64 (x + y)), .int .u64 (hi64 (x + y))])) w := by
  obtain ⟨x, rfl⟩ := Int.eq_ofNat_of_zero_le hx
  obtain ⟨y, rfl⟩ := Int.eq_ofNat_of_zero_le hy
  refine (Any7.bits_Add64 Tryd.lays25 x y 0 (by omega) w).trans ?_
  rw [show (((x + y + 0) % 18446744073709551616 : Nat) : Int) = lo64 ((x : Int) + y) by unfold lo64; omega, show (((x + y + 0) / 18446744073709551616 : Nat) : Int) = hi64 ((x : Int) + y) by unfold hi64; omega]
theorem sub64_0 (x y : Int) (hx : 0 ≤ x) (hy : 0 ≤ y) (hy' : y < 18446744073709551616) (w : World) : (callFunc 38 #[.int .u64 x, .int .u64 y, .int .u64 0]).run Tryd.prog w =
    .ok (.value (.tuple #[.int .u64 (lo64 (x - y)), .int .u64 (bor x y)])) w := by
  obtain ⟨x, rfl⟩ := Int.eq_ofNat_of_zero_le hx
  obtain ⟨y, rfl⟩ := Int.eq_ofNat_of_zero_le hy
  refine (Any7.bits_Sub64 Tryd.lays26 x y 0 (by omega) w).trans ?_
  rw [show (((x + 18446744073709551616 - y - 0) % 18446744073709551616 : Nat) : Int) = lo64 ((x : Int) - y) by unfold lo64; omega, show ((if x < y + 0 then 1 else 0 : Nat) : Int) = bor x y by unfold bor; split <;> split <;> omega]

theorem and32 (x : Nat) (h : x < 18446744073709551616) : bits .and .u64 (x : Int) 4294967295 = ((x % 4294967296 : Nat) : Int) := by
  rw [← show x &&& 4294967295 = x % 4294967296 from Nat.and_two_pow_sub_one_eq_mod x 32]
  exact u64_and_nat x 4294967295 h (by decide)

/-- what fold leaves -/
def foldP (hi lo : Nat) : Nat := (hi * 18446744073709551616 + lo) % PP

theorem fold_arith (hi lo s : Nat) (k : Int) (h : (s : Int) = (lo : Int) - (hi : Int) / 4294967296 + ((hi : Int) % 4294967296) * 4294967295 + k * 18446744069414584321) : redP s = foldP hi lo := by
  unfold redP foldP PP
  omega

set_option maxHeartbeats 1000000 in
theorem fold_any (hi lo : Nat) (w : World) (h1 : hi < 18446744073709551616) (h2 : lo < 18446744073709551616) :
    Calls Tryd.prog 25 #[.int .u64 hi, .int .u64 lo] w fun e w' => e = .returned (.int .u64 (foldP hi lo)) ∧ w = w' := by
  have q0 := and32 hi h1
  obtain ⟨t, ht⟩ : ∃ t : Nat, t = hi / 4294967296 := ⟨_, rfl⟩
  obtain ⟨m, hm⟩ : ∃ m : Nat, m = hi % 4294967296 := ⟨_, rfl⟩
  have q1 : (hi : Int) / 4294967296 = (t : Int) := by omega
  rw [← hm] at q0
  have b1 : t < 4294967296 := by omega
  have b2 : m < 4294967296 := by omega
  have RED := Lib.hid fun (a : Nat) (h : a < 18446744073709551616) W => red_any a W h
  have FA := Lib.hid (fold_arith hi lo)
  by_cases hb : lo < t
  · have q2 : bor (lo : Int) (t : Int) = 1 := by unfold bor; rw [if_pos (by omega)]
    obtain ⟨u, hu⟩ : ∃ u : Nat, u = lo + 18446744073709551616 - t := ⟨_, rfl⟩
    have q3 : lo64 ((lo : Int) - (t : Int)) = (u : Int) := by unfold lo64; omega
    have b3 : (18446744069414584321 : Int) ≤ (u : Int) := by omega
    have b4 : (u : Int) ≤ 18446744073709551615 := by omega
    by_cases hc : u - 4294967295 + m * 4294967295 < 18446744073709551616
    · have q4 : hi64 ((u : Int) - 4294967295 + (m : Int) * 4294967295) = 0 := by unfold hi64; omega
      obtain ⟨s, hs⟩ : ∃ s : Nat, s = u - 4294967295 + m * 4294967295 := ⟨_, rfl⟩
      have q5 : lo64 ((u : Int) - 4294967295 + (m : Int) * 4294967295) = (s : Int) := by unfold lo64; omega
      rw [← FA.out s (1) (by omega)]
      have RS := Lib.hid fun W => RED.out s (by omega) W
      clear FA RED hs hu ht hm hc hb h1 h2
      go_enter Tryd.func25, Tryd.ntmps25
      go_wp2_with (first | simp only [sub64_0 (lo : Int) (t : Int) (by omega) (by omega) (by omega)] | simp only [add64_0 ((u : Int) - 4294967295) ((m : Int) * 4294967295) (by omega) (by omega)] | (go_at_call 12; refine (RS.out _).mono ?_; rintro e w1 ⟨rfl, rfl⟩))
      go_ret
      exact ⟨rfl, rfl⟩
    · have q4 : hi64 ((u : Int) - 4294967295 + (m : Int) * 4294967295) = 1 := by unfold hi64; omega
      obtain ⟨s0, hs0⟩ : ∃ s0 : Nat, s0 = u - 4294967295 + m * 4294967295 - 18446744073709551616 := ⟨_, rfl⟩
      have q5 : lo64 ((u : Int) - 4294967295 + (m : Int) * 4294967295) = (s0 : Int) := by unfold lo64; omega
      obtain ⟨s, hs⟩ : ∃ s : Nat, s = s0 + 4294967295 := ⟨_, rfl⟩
      have b5 : (s0 : Int) ≤ 18446744069414584320 := by omega
      have q6 : (s0 : Int) + 4294967295 = (s : Int) := by omega
      rw [← FA.out s (0) (by omega)]
      have RS := Lib.hid fun W => RED.out s (by omega) W
      clear FA RED hs hs0 hu ht hm hc hb h1 h2
      go_enter Tryd.func25, Tryd.ntmps25
      go_wp2_with (first | simp only [sub64_0 (lo : Int) (t : Int) (by omega) (by omega) (by omega)] | simp only [add64_0 ((u : Int) - 4294967295) ((m : Int) * 4294967295) (by omega) (by omega)] | (go_at_call 12; refine (RS.out _).mono ?_; rintro e w1 ⟨rfl, rfl⟩))
      go_ret
      exact ⟨rfl, rfl⟩
  · have q2 : bor (lo : Int) (t : Int) = 0 := by unfold bor; rw [if_neg (by omega)]
    obtain ⟨u, hu⟩ : ∃ u : Nat, u = lo - t := ⟨_, rfl⟩
    have q3 : lo64 ((lo : Int) - (t : Int)) = (u : Int) := by unfold lo64; omega
    have b4 : (u : Int) ≤ 18446744073709551615 := by omega
    by_cases hc : u + m * 4294967295 < 18446744073709551616
    · have q4 : hi64 ((u : Int) + (m : Int) * 4294967295) = 0 := by unfold hi64; omega
      obtain ⟨s, hs⟩ : ∃ s : Nat, s = u + m * 4294967295 := ⟨_, rfl⟩
      have q5 : lo64 ((u : Int) + (m : Int) * 4294967295) = (s : Int) := by unfold lo64; omega
      rw [← FA.out s (0) (by omega)]
      have RS := Lib.hid fun W => RED.out s (by omega) W
      clear FA RED hs hu ht hm hc hb h1 h2
      go_enter Tryd.func25, Tryd.ntmps25
      go_wp2_with (first | simp only [sub64_0 (lo : Int) (t : Int) (by omega) (by omega) (by omega)] | simp only [add64_0 (u : Int) ((m : Int) * 4294967295) (by omega) (by omega)] | (go_at_call 12; refine (RS.out _).mono ?_; rintro e w1 ⟨rfl, rfl⟩))
      go_ret
      exact ⟨rfl, rfl⟩
    · have q4 : hi64 ((u : Int) + (m : Int) * 4294967295) = 1 := by unfold hi64; omega
      obtain ⟨s0, hs0⟩ : ∃ s0 : Nat, s0 = u + m * 4294967295 - 18446744073709551616 := ⟨_, rfl⟩
      have q5 : lo64 ((u : Int) + (m : Int) * 4294967295) = (s0 : Int) := by unfold lo64; omega
      obtain ⟨s, hs⟩ : ∃ s : Nat, s = s0 + 4294967295 := ⟨_, rfl⟩
      have b5 : (s0 : Int) ≤ 18446744069414584320 := by omega
      have q6 : (s0 : Int) + 4294967295 = (s : Int) := by omega
      rw [← FA.out s (-1) (by omega)]
      have RS := Lib.hid fun W => RED.out s (by omega) W
      clear FA RED hs hs0 hu ht hm hc hb h1 h2
      go_enter Tryd.func25, Tryd.ntmps25
      go_wp2_with (first | simp only [sub64_0 (lo : Int) (t : Int) (by omega) (by omega) (by omega)] | simp only [add64_0 (u : Int) ((m : Int) * 4294967295) (by omega) (by omega)] | (go_at_call 12; refine (RS.out _).mono ?_; rintro e w1 ⟨rfl, rfl⟩))
      go_ret
      exact ⟨rfl, rfl⟩

theorem fold_split (a b : Nat) (h : b < 18446744073709551616) : foldP (a * b / 18446744073709551616) (a * b % 18446744073709551616) = mulP a b := by
  unfold foldP mulP
  congr 1
  exact Nat.div_add_mod' _ _

theorem mul_any (a b : Nat) (w : World) (ha : a < 18446744073709551616) (hb : b < 18446744073709551616) :
    Calls Tryd.prog 19 #[.int .u64 a, .int .u64 b] w fun e w' => e = .returned (.int .u64 (mulP a b)) ∧ w = w' := by
  rw [← fold_split a b hb]
  have hlt : a * b < 18446744073709551616 * 18446744073709551616 := Nat.mul_lt_mul'' ha hb
  have HM := Lib.hid fun W => Tryd.bits_Mul64 a b ha hb W
  have h3 : a * b / 18446744073709551616 < 18446744073709551616 := Nat.div_lt_of_lt_mul hlt
  have h4 : a * b % 18446744073709551616 < 18446744073709551616 := Nat.mod_lt _ (by decide)
  have HF := Lib.hid fun W => fold_any (a * b / 18446744073709551616) (a * b % 18446744073709551616) W h3 h4
  clear h3 h4 hlt
  generalize a * b / 18446744073709551616 = hi at *
  generalize a * b % 18446744073709551616 = lo at *
  clear ha hb
  go_enter Tryd.func19, Tryd.ntmps19
  go_wp2_with fail
  refine (HM.out _).mono ?_
  rintro e w1 ⟨rfl, rfl⟩
  go_wp2_with fail
  refine (HF.out _).mono ?_
  rintro e w1 ⟨rfl, rfl⟩
  go_wp2
  go_ret
  exact ⟨rfl, rfl⟩

/-! powers -/

def powP (a n : Nat) : Nat := a ^ n % PP
theorem powP_lt (a n : Nat) : powP a n < 18446744069414584321 := Nat.mod_lt _ (by decide)
theorem PP_pos : 0 < PP := by decide

theorem mulP_mod (a b : Nat) : mulP (a % PP) (b % PP) = a * b % PP := by unfold mulP; rw [← Nat.mul_mod]
theorem and1 (x : Nat) (h : x < 18446744073709551616) : bits .and .u64 (x : Int) 1 = ((x % 2 : Nat) : Int) := by
  rw [← nat_mask1 x]
  exact u64_and_nat x 1 h (by decide)

/-- one step of the powers by squares -/
theorem pow_even (p a n A N : Nat) (h : p * a ^ n % PP = A ^ N % PP) (h2 : n % 2 = 0) : p * (mulP a a) ^ (n / 2) % PP = A ^ N % PP := by
  have e : n = 2 * (n / 2) := by omega
  rw [← h]
  conv => rhs; rw [e, Nat.pow_mul, Nat.mul_mod, Nat.pow_mod, Nat.pow_two]
  unfold mulP
  rw [Nat.mul_mod p, Nat.pow_mod (a * a % PP), Nat.mod_mod]
theorem pow_odd (p a n A N : Nat) (h : p * a ^ n % PP = A ^ N % PP) (h2 : n % 2 = 1) : mulP p a * (mulP a a) ^ (n / 2) % PP = A ^ N % PP := by
  have e : n = 2 * (n / 2) + 1 := by omega
  have h3 : p * a * a ^ (n - 1) % PP = A ^ N % PP := by
    rw [← h]; congr 1
    have : n = (n - 1) + 1 := by omega
    conv => rhs; rw [this, Nat.pow_succ, Nat.mul_comm (a ^ (n - 1)), ← Nat.mul_assoc]
  have h4 := pow_even (p * a) a (n - 1) A N h3 (by omega)
  rw [show (n - 1) / 2 = n / 2 by omega] at h4
  rw [← h4]
  unfold mulP
  rw [Nat.mul_mod, Nat.mod_mod, ← Nat.mul_mod]

set_option maxHeartbeats 400000 in
theorem pow_any (a n : Nat) (w : World) (ha : a < 18446744073709551616) (hn : n < 18446744073709551616) :
    Calls Tryd.prog 13 #[.int .u64 a, .int .u64 n] w fun e w' => e = .returned (.int .u64 (powP a n)) ∧ w = w' := by
  have RED := Lib.hid fun W => red_any a W ha
  have MUL := Lib.hid fun (a b : Nat) W (ha : a < 18446744073709551616) (hb : b < 18446744073709551616) => mul_any a b W ha hb
  have HLT := Lib.hid mulP_lt
  have hr := redP_lt a
  have HI : Hid (1 * redP a ^ n % PP = a ^ n % PP) := by
    show _ = _
    rw [Nat.one_mul]; unfold redP; rw [← Nat.pow_mod]
  generalize redP a = r at *
  have HV : Hid (∀ p : Nat, p < 18446744069414584321 → p * 1 % PP = a ^ n % PP → p = powP a n) := by
    intro p hp h
    rw [Nat.mul_one] at h
    unfold powP; rw [← h]; exact (Nat.mod_eq_of_lt hp).symm
  generalize powP a n = v at *
  go_enter Tryd.func13, Tryd.ntmps13
  go_wp2_with fail
  refine (RED.out _).mono ?_
  rintro e w1 ⟨rfl, rfl⟩
  go_wp2_with fail
  go_loopg [0, 1, 5] n (fun g s i p wr => ∃ x k q : Nat, s = .int .u64 x ∧ i = .int .u64 k ∧ p = .int .u64 q ∧ x < 18446744069414584321 ∧ q < 18446744069414584321 ∧ k ≤ g ∧ k < 18446744073709551616 ∧ Hid (q * x ^ k % PP = a ^ n % PP) ∧ w = wr)
  case atStart => exact ⟨r, n, 1, rfl, rfl, rfl, hr, by omega, Nat.le_refl _, hn, HI, rfl⟩
  case round =>
    obtain ⟨x, k, q, rfl, rfl, rfl, hx, hq, hkg, hk, HK, rfl⟩ := hrel
    by_cases h0 : k = 0
    · subst h0
      have HE : Hid (q = v) := HV.out q hq (by have := HK.out; rwa [Nat.pow_zero] at this)
      rw [HE.out]
      go_wp2
      go_ret
      exact ⟨rfl, rfl⟩
    · have hk0 : (0 : Int) < (k : Int) := by omega
      have q0 := and1 k hk
      have M1 := Lib.hid fun W => MUL.out x x W (by omega) (by omega)
      have l1 := HLT.out x x
      by_cases hodd : k % 2 = 1
      · rw [hodd] at q0
        have M2 := Lib.hid fun W => MUL.out q x W (by omega) (by omega)
        have l2 := HLT.out q x
        have HK2 : Hid (mulP q x * mulP x x ^ (k / 2) % PP = a ^ n % PP) := pow_odd q x k a n HK.out hodd
        clear HK hodd
        generalize mulP q x = qx at *
        generalize mulP x x = xx at *
        go_wp2_with fail
        refine (M2.out _).mono ?_
        rintro e w1 ⟨rfl, rfl⟩
        go_wp2_with fail
        refine (M1.out _).mono ?_
        rintro e w1 ⟨rfl, rfl⟩
        go_wp2_with fail
        go_roundg (k / 2)
        case rel => exact ⟨xx, k / 2, qx, rfl, by simp, rfl, l1, l2, Nat.le_refl _, by omega, HK2, rfl⟩
        case measure => omega
      · rw [show k % 2 = 0 by omega] at q0
        have HK2 : Hid (q * mulP x x ^ (k / 2) % PP = a ^ n % PP) := pow_even q x k a n HK.out (by omega)
        clear HK hodd
        generalize mulP x x = xx at *
        go_wp2_with fail
        refine (M1.out _).mono ?_
        rintro e w1 ⟨rfl, rfl⟩
        go_wp2_with fail
        go_roundg (k / 2)
        case rel => exact ⟨xx, k / 2, q, rfl, by simp, rfl, l1, hq, Nat.le_refl _, by omega, HK2, rfl⟩
        case measure => omega

end Go.Proofs.YtniibghbhbigaaaDoor
