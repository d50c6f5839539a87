/- GenLogs, the walk: for all q, a and b the law answers true. -/
import Derived.Test.YtikfeinhdfjjhaaGenl
import Derived.StillTailTactics
namespace Go.Proofs.Ytikfeinhdfjjhaa
open Go.RowKit
set_option linter.unusedVariables false

set_option maxHeartbeats 400000 in
theorem glogs_no (q a b : Int) (w : World) (h : isB q = false) : Calls Try.prog 7 #[.int .i64 q, .int .i64 a, .int .i64 b] w fun e w' => e = .returned (.bool true) ∧ New w w' := by
  have HI := Lib.hid fun W => refis_any q W
  rw [h] at HI
  clear h
  go_enter Try.func7, Try.ntmps7
  go_wp2_with fail
  refine (HI.out _).mono ?_
  rintro e w1 ⟨rfl, rfl⟩
  go_wp2_with fail
  refine (live9_any _).mono ?_
  rintro e w2 ⟨rfl, hn2⟩
  go_wp2
  go_ret
  exact ⟨rfl, hn2⟩

set_option maxHeartbeats 1000000 in
theorem glogs_out (q a b : Int) (w : World) (h : isB q = true) (ho : 3000 < q ∨ a < 1 ∨ q ≤ a ∨ b < 1 ∨ q ≤ b) : Calls Try.prog 7 #[.int .i64 q, .int .i64 a, .int .i64 b] w fun e w' => e = .returned (.bool true) ∧ New w w' := by
  have HI := Lib.hid fun W => refis_any q W
  rw [h] at HI
  clear h
  by_cases h1 : 3000 < q
  · clear ho
    go_enter Try.func7, Try.ntmps7
    go_wp2_with fail
    refine (HI.out _).mono ?_
    rintro e w1 ⟨rfl, rfl⟩
    go_wp2_with fail
    refine (live9_any _).mono ?_
    rintro e w2 ⟨rfl, hn2⟩
    go_wp2
    go_ret
    exact ⟨rfl, hn2⟩
  by_cases h2 : a < 1
  · clear ho
    go_enter Try.func7, Try.ntmps7
    go_wp2_with fail
    refine (HI.out _).mono ?_
    rintro e w1 ⟨rfl, rfl⟩
    go_wp2_with fail
    refine (live9_any _).mono ?_
    rintro e w2 ⟨rfl, hn2⟩
    go_wp2
    go_ret
    exact ⟨rfl, hn2⟩
  by_cases h3 : q ≤ a
  · clear ho
    go_enter Try.func7, Try.ntmps7
    go_wp2_with fail
    refine (HI.out _).mono ?_
    rintro e w1 ⟨rfl, rfl⟩
    go_wp2_with fail
    refine (live9_any _).mono ?_
    rintro e w2 ⟨rfl, hn2⟩
    go_wp2
    go_ret
    exact ⟨rfl, hn2⟩
  by_cases h4 : b < 1
  · clear ho
    go_enter Try.func7, Try.ntmps7
    go_wp2_with fail
    refine (HI.out _).mono ?_
    rintro e w1 ⟨rfl, rfl⟩
    go_wp2_with fail
    refine (live9_any _).mono ?_
    rintro e w2 ⟨rfl, hn2⟩
    go_wp2
    go_ret
    exact ⟨rfl, hn2⟩
  · have h5 : q ≤ b := by omega
    clear ho
    go_enter Try.func7, Try.ntmps7
    go_wp2_with fail
    refine (HI.out _).mono ?_
    rintro e w1 ⟨rfl, rfl⟩
    go_wp2_with fail
    refine (live9_any _).mono ?_
    rintro e w2 ⟨rfl, hn2⟩
    go_wp2
    go_ret
    exact ⟨rfl, hn2⟩

set_option maxRecDepth 100000 in
set_option maxHeartbeats 2000000 in
theorem glogs_yes (q a b : Nat) (w : World) (hq : Pr q) (hq2 : q ≤ 3000) (a1 : 1 ≤ a) (a2 : a < q) (b1 : 1 ≤ b) (b2 : b < q) :
    Calls Try.prog 7 #[.int .i64 q, .int .i64 a, .int .i64 b] w fun e w' => e = .returned (.bool true) ∧ New w w' := by
  have hq1 := hq.1
  have HI := Lib.hid fun W => refis_any q W
  rw [isB_of hq (by omega)] at HI
  have HL := Lib.hid fun W => logs_yes q W hq (by omega)
  have HPR := Lib.hid hq
  clear hq
  go_enter Try.func7, Try.ntmps7
  go_wp2_with fail
  refine (HI.out _).mono ?_
  rintro e w1 ⟨rfl, rfl⟩
  go_wp2_with fail
  refine (HL.out _).mono ?_
  rintro e wv ⟨g, v, rfl, hg, rl, hn2⟩
  obtain ⟨bk, rfl, hbk, hcell⟩ := rl
  obtain ⟨s, hs, es⟩ := hg.all HPR.out a1 a2
  obtain ⟨t, ht, et⟩ := hg.all HPR.out b1 b2
  have hab : 1 ≤ a * b % q ∧ a * b % q < q := by
    refine ⟨?_, Nat.mod_lt _ (by omega)⟩
    apply Nat.one_le_iff_ne_zero.2
    intro h0
    rcases HPR.out.dvd_mul (Nat.dvd_of_mod_eq_zero h0) with hd | hd
    · exact not_dvd_small a1 a2 hd
    · exact not_dvd_small b1 b2 hd
  obtain ⟨u, hu, eu⟩ := hg.all HPR.out hab.1 hab.2
  have HLOG := Lib.hid (log_prod (s := s) (t := t) (u := u) HPR.out hg (by rw [es, et, eu]))
  have cs := hcell s hs
  have ct := hcell t ht
  have cu := hcell u hu
  unfold gpw at cs ct cu
  rw [es] at cs
  rw [et] at ct
  rw [eu] at cu
  obtain ⟨hab1, hab2⟩ := hab
  obtain ⟨p1, p2⟩ := mul_small (x := a) (y := b) (by omega) (by omega)
  obtain ⟨m, hm⟩ : ∃ m : Nat, m = a * b % q := ⟨_, rfl⟩
  have em : ((a : Int) * (b : Int)).tmod (q : Int) = (m : Int) := by
    rw [Int.tmod_eq_emod_of_nonneg p1, hm, Int.natCast_emod, Int.natCast_mul]
  rw [← hm] at cu hab1 hab2
  have ecast : ((q - 1 : Nat) : Int) = (q : Int) - 1 := cast_pred (Nat.le_of_lt hq1)
  have e1 : (((q - 1 : Nat) : Int) == (q : Int) - 1) = true := by rw [ecast]; simp
  have i1 : (a : Int) - 1 < ((q - 1 : Nat) : Int) := by omega
  have i2 : (b : Int) - 1 < ((q - 1 : Nat) : Int) := by omega
  have i3 : (m : Int) - 1 < ((q - 1 : Nat) : Int) := by omega
  have i4 : (0 : Int) ≤ (a : Int) - 1 := by omega
  have i5 : (0 : Int) ≤ (b : Int) - 1 := by omega
  have i6 : (0 : Int) ≤ (m : Int) - 1 := by omega
  have w1 : IntKind.i64.wrap ((q : Int) - 1) = (q : Int) - 1 := IntWalk.i64_in _ (by omega)
  have w2 : IntKind.i64.wrap ((a : Int) - 1) = (a : Int) - 1 := IntWalk.i64_in _ (by omega)
  have w3 : IntKind.i64.wrap ((b : Int) - 1) = (b : Int) - 1 := IntWalk.i64_in _ (by omega)
  have w4 : IntKind.i64.wrap ((m : Int) - 1) = (m : Int) - 1 := IntWalk.i64_in _ (by omega)
  have w5 : IntKind.i64.wrap ((a : Int) * (b : Int)) = (a : Int) * (b : Int) := IntWalk.i64_in _ ⟨by omega, by omega⟩
  have w6 : IntKind.i64.wrap ((s : Int) + (t : Int)) = (s : Int) + (t : Int) := IntWalk.i64_in _ (by omega)
  have w7 : IntKind.i64.wrap ((s : Int) + (t : Int) - (u : Int)) = (s : Int) + (t : Int) - (u : Int) := IntWalk.i64_in _ (by omega)
  have w8 : IntKind.i64.wrap (m : Int) = (m : Int) := IntWalk.i64_in _ (by omega)
  have elog : (((s : Int) + t - u).tmod ((q : Int) - 1)) = 0 := HLOG.out
  have z1 : ((q : Int) - 1 == 0) = false := by simp; omega
  have z2 : ((q : Int) == 0) = false := by simp; omega
  have hm1 : (1 : Int) ≤ (m : Int) := by omega
  have z3 : ¬ q = 0 := by omega
  have z4 : ¬ (q : Int) - 1 = 0 := by omega
  have z5 : ¬ (q : Int) = 0 := by omega
  clear hcell es et eu hg HI HL ecast hm HLOG
  go_wp2
  go_still_tail 37, (by kernel_rfl)
  change wpList _ _ _ _ _ wv.drew
  have hn3 := hn2.drew
  generalize wv.drew = wx at *
  clear cs ct cu w1 w2 w3 w4 w5 w6 w7 w8 em e1 elog i1 i2 i3 i4 i5 i6 hn2
  go_wp2_with fail
  refine (live9_any _).mono ?_
  rintro e wy ⟨rfl, hn4⟩
  go_wp2
  go_ret
  exact ⟨rfl, hn3.trans hn4⟩

theorem glogs_walk (q a b : Int) (wq : (Lit.int .i64 q).wf = true) (wa : (Lit.int .i64 a).wf = true) (wb : (Lit.int .i64 b).wf = true) (w : World) :
    Calls Try.prog 7 #[.int .i64 q, .int .i64 a, .int .i64 b] w fun e w' => e = .returned (.bool true) ∧ New w w' := by
  by_cases h : isB q = true
  · obtain ⟨n, rfl, hq, hq2⟩ := isB_yes h
    by_cases ho : 3000 < (n : Int) ∨ a < 1 ∨ (n : Int) ≤ a ∨ b < 1 ∨ (n : Int) ≤ b
    · exact glogs_out n a b w h ho
    · obtain ⟨x, rfl⟩ := Int.eq_ofNat_of_zero_le (show 0 ≤ a by omega)
      obtain ⟨y, rfl⟩ := Int.eq_ofNat_of_zero_le (show 0 ≤ b by omega)
      exact glogs_yes n x y w hq (by omega) (by omega) (by omega) (by omega) (by omega)
  · exact glogs_no q a b w (by simpa using h)
end Go.Proofs.Ytikfeinhdfjjhaa
