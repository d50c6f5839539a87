/- slices.symMergeCmpFunc, one element on the left: its walk, over any program that holds its body (elements of k cells, k a variable). -/
import Derived.Test.YtplaicdbcfnjbaaV16
set_option linter.unusedSimpArgs false
set_option linter.unusedVariables false
namespace Go.Proofs.Ytplaicdbcfnjbaa
open Go.Shelf Go.RowKit Go.Lib Go.Sort
set_option linter.unusedVariables false
set_option maxHeartbeats 8000000
set_option maxRecDepth 1000000
variable {P : Program}
theorem sym_one (k : Nat) (L : SLays P k) (s : Nat → Int) (enc : Nat → List Value) (g : Nat) (cb : Array Value) (blk off cap a m b : Nat) (d0 d : Array Nat) (w0 w : World)
    (eg : ∀ args w, (callFunc g args).run P w = .ok (.enter g args) w) (hcmp : CmpLays P g cb enc k (cfS s) blk off d0.size w0) (R : RowK enc k w0 blk off d0) (hs : d0.size = d.size) (S : SWK enc k w0 blk off d w) (H : Hv s a m b d) (hm : m = a + 1) (h2 : m < b) (hb : b ≤ d.size) (hsz : d.size < 4611686018427387904) :
    Calls P 59 #[.slice (some ⟨blk, off, none⟩) d.size cap, .int .i64 a, .int .i64 m, .int .i64 b, .func (.func g) #[] cb] w fun e w' => e = .returned (.tuple #[]) ∧ ∃ d', PermIn a b d d' ∧ SortedIn (lx s) a b d' ∧ SWK enc k w0 blk off d' w' := by
  have mixed := L.mixed; have t0 := L.t0; have a0 := L.a0; have z0 := L.z0; have v0 := L.v0; have t3 := L.t3; have a3 := L.a3; have z3 := L.z3; have v3 := L.v3; have t4 := L.t4; have a4 := L.a4; have z4 := L.z4; have v4 := L.v4; have t38 := L.t38; have a38 := L.a38; have z38 := L.z38; have v38 := L.v38; have t62 := L.t62; have a62 := L.a62; have z62 := L.z62; have v62 := L.v62; have t81 := L.t81; have a81 := L.a81; have z81 := L.z81; have v81 := L.v81; have aE := L.aE; have zE := L.zE
  have HC : Aside _ := hcmp
  have S0 : Aside (SWK enc k w0 blk off d w) := S
  clear S hcmp
  obtain ⟨cf, hcf⟩ : ∃ cf, Hid (∀ x y, cf x y < 0 ↔ s x < s y) ∧ cf = cfS s := ⟨cfS s, Lib.hid (lt_cfS s), rfl⟩
  obtain ⟨hcf0, hcf1⟩ := hcf
  rw [← hcf1] at HC
  have hcf : Hid (∀ x y, (cf x y < 0) = (s x < s y)) := Lib.hid fun x y => propext (hcf0.out x y)
  clear hcf0 hcf1
  replace H := Lib.hid H
  have FG := L.f59
  clear L
  have hg : (m : Int) - (a : Int) = 1 := by omega
  have hm1 : m ≤ a + 1 := by omega
  have hm2 : a + 1 ≤ m := by omega
  clear hm
  go_enter FG, Try.ntmps59
  go_wp2
  clear hg
  go_loopg [10, 11] (b - m) (fun z s10 s11 wr => ∃ (i j : Nat), s10 = .int .i64 i ∧ s11 = .int .i64 j ∧ i + z = j ∧ m ≤ i ∧ j ≤ b ∧ Aside (SWK enc k w0 blk off d wr) ∧ Hid (i = m ∨ s d[i - 1]! < s d[a]!) ∧ Hid (j = b ∨ s d[a]! ≤ s d[j]!))
  case atStart => exact ⟨m, b, rfl, rfl, by omega, by omega, by omega, S0, Lib.hid (Or.inl rfl), Lib.hid (Or.inl rfl)⟩
  case round =>
    clear S0
    obtain ⟨i, j, rfl, rfl, hz, hi, hj, S1, ki, kj⟩ := hrel
    by_cases hlt : i < j
    · have hltz : (i : Int) < (j : Int) := by omega
      obtain ⟨h, eh, hih, hhj⟩ : ∃ h : Nat, ((i : Int) + (j : Int)) / 2 = (h : Int) ∧ i ≤ h ∧ h < j := ⟨(i + j) / 2, by omega, by omega, by omega⟩
      by_cases hlv : s d[h]! < s d[a]!
      · replace hlv := Lib.hid hlv
        go_wp2_with fail
        have ea1 : ((h : Int)).toNat = h := by omega
        have pa1 : (0 : Int) ≤ (h : Int) := by omega
        have ba1 : (h : Int) < (d.size : Int) := by omega
        have ra1 : IntKind.i64.wrap ((h : Int)) = (h : Int) := by rw [IntKind.wrap_i64]; omega
        have ec1 : ((a : Int)).toNat = a := by omega
        have pc1 : (0 : Int) ≤ (a : Int) := by omega
        have bc1 : (a : Int) < (d.size : Int) := by omega
        have rc1 : IntKind.i64.wrap ((a : Int)) = (a : Int) := by rw [IntKind.wrap_i64]; omega
        obtain ⟨x1, hx1⟩ : ∃ x, x = d[h]! := ⟨_, rfl⟩
        obtain ⟨y1, hy1⟩ : ∃ x, x = d[a]! := ⟨_, rfl⟩
        have l1a := S1.out.ld R (by omega) P (h) (by omega)
        have l1b := S1.out.ld R (by omega) P (a) (by omega)
        rw [← hx1] at l1a
        rw [← hy1] at l1b
        have hc1 := S1.out.cmp HC.out (by omega) x1 y1
        have hv1 : cf x1 y1 < 0 := by rw [hx1, hy1, hcf.out]; exact hlv.out
        have hd1 : decide (cf x1 y1 < 0) = true := decide_eq_true hv1
        clear hx1 hy1
        go_wp2_with fail
        go_quiet_grown (first | (go_at_fn g; refine Calls.grown_of (hc1 _ _)))
        have S2 : Aside (SWK enc k w0 blk off d (grow (wr.drewN nq) osq)) := S1.out.grown nq osq
        clear l1a l1b hc1 S1
        generalize grow (wr.drewN nq) osq = w2 at S2 ⊢
        clear nq osq
        go_wp2
        go_roundg (j - (h + 1))
        case measure => omega
        case rel => exact ⟨h + 1, j, by go_num, rfl, by omega, by omega, hj, S2, Lib.hid (Or.inr hlv.out), kj⟩
      · replace hlv := Lib.hid (Int.not_lt.1 hlv)
        go_wp2_with fail
        have ea1 : ((h : Int)).toNat = h := by omega
        have pa1 : (0 : Int) ≤ (h : Int) := by omega
        have ba1 : (h : Int) < (d.size : Int) := by omega
        have ra1 : IntKind.i64.wrap ((h : Int)) = (h : Int) := by rw [IntKind.wrap_i64]; omega
        have ec1 : ((a : Int)).toNat = a := by omega
        have pc1 : (0 : Int) ≤ (a : Int) := by omega
        have bc1 : (a : Int) < (d.size : Int) := by omega
        have rc1 : IntKind.i64.wrap ((a : Int)) = (a : Int) := by rw [IntKind.wrap_i64]; omega
        obtain ⟨x1, hx1⟩ : ∃ x, x = d[h]! := ⟨_, rfl⟩
        obtain ⟨y1, hy1⟩ : ∃ x, x = d[a]! := ⟨_, rfl⟩
        have l1a := S1.out.ld R (by omega) P (h) (by omega)
        have l1b := S1.out.ld R (by omega) P (a) (by omega)
        rw [← hx1] at l1a
        rw [← hy1] at l1b
        have hc1 := S1.out.cmp HC.out (by omega) x1 y1
        have hv1 : ¬ cf x1 y1 < 0 := by rw [hx1, hy1, hcf.out]; exact Int.not_lt.2 hlv.out
        have hd1 : decide (cf x1 y1 < 0) = false := decide_eq_false hv1
        clear hx1 hy1
        go_wp2_with fail
        go_quiet_grown (first | (go_at_fn g; refine Calls.grown_of (hc1 _ _)))
        have S2 : Aside (SWK enc k w0 blk off d (grow (wr.drewN nq) osq)) := S1.out.grown nq osq
        clear l1a l1b hc1 S1
        generalize grow (wr.drewN nq) osq = w2 at S2 ⊢
        clear nq osq
        go_wp2
        go_roundg (h - i)
        case measure => omega
        case rel => exact ⟨i, h, rfl, rfl, by omega, hi, by omega, S2, ki, Lib.hid (Or.inr hlv.out)⟩
    · have hltz : ¬ (i : Int) < (j : Int) := by omega
      obtain rfl : i = j := by omega
      obtain ⟨q, hq1, hq2⟩ : ∃ q, a + 1 + q ≤ i ∧ i ≤ a + 1 + q := ⟨i - (a + 1), by omega, by omega⟩
      clear hz hltz
      go_wp2_with fail
      go_loopg [13] q (fun z s13 wr => ∃ (t : Nat) (dk : Array Nat), s13 = .int .i64 ((a : Int) + (t : Int)) ∧ t + z = q ∧ dk.size = d.size ∧ Aside (SWK enc k w0 blk off dk wr) ∧ Aside (Rot d a 1 t dk))
      case atStart => exact ⟨0, d, by go_num, by omega, rfl, S1, Rot.none (Or.inr rfl)⟩
      case round =>
        clear S1
        obtain ⟨t, dk, rfl, ht, hds, S3, hr⟩ := hrel
        by_cases hlt2 : t < q
        · have hltz : (a : Int) + (t : Int) < (i : Int) - 1 := by omega
          go_wp2_with fail
          have ea2 : ((a : Int) + (t : Int)).toNat = a + t := by omega
          have pa2 : (0 : Int) ≤ (a : Int) + (t : Int) := by omega
          have ba2 : (a : Int) + (t : Int) < (d.size : Int) := by omega
          have ra2 : IntKind.i64.wrap ((a : Int) + (t : Int)) = (a : Int) + (t : Int) := by rw [IntKind.wrap_i64]; omega
          have ec2 : ((a : Int) + (t : Int) + 1).toNat = a + t + 1 := by omega
          have pc2 : (0 : Int) ≤ (a : Int) + (t : Int) + 1 := by omega
          have bc2 : (a : Int) + (t : Int) + 1 < (d.size : Int) := by omega
          have rc2 : IntKind.i64.wrap ((a : Int) + (t : Int) + 1) = (a : Int) + (t : Int) + 1 := by rw [IntKind.wrap_i64]; omega
          have S4 : Aside (SWK enc k w0 blk off (swp dk (a + t) (a + t + 1)) ((wr.drew.setCells blk (off + (a + t) * k) (enc dk[a + t + 1]!)).setCells blk (off + (a + t + 1) * k) (enc dk[a + t]!))) := S3.out.swapped R (a + t) (a + t + 1) (by omega) (by omega)
          have l2a := S3.out.ld1 R (by omega) P (a + t) (by omega)
          have l2b := S3.out.ld1 R (by omega) P (a + t + 1) (by omega)
          have s2a := S3.out.st1 R (by omega) P (a + t) (by omega) dk[a + t + 1]!
          have s2b := S3.out.st2 R (by omega) P (a + t) (a + t + 1) (by omega) (by omega) dk[a + t + 1]! dk[a + t]!
          have n2a : (enc dk[a + t]!).length = k := R.hk _
          have n2b : (enc dk[a + t + 1]!).length = k := R.hk _
          generalize enc dk[a + t]! = cI2 at S4 l2a s2b n2a
          generalize enc dk[a + t + 1]! = cJ2 at S4 l2b s2a s2b n2b
          clear S3
          go_wp2_with fail
          go_big_region_o
          clear l2a l2b s2a s2b
          generalize (wr.drew.setCells blk (off + (a + t) * k) cJ2).setCells blk (off + (a + t + 1) * k) cI2 = w4 at S4 ⊢
          go_wp2
          go_roundg (gk - 1)
          case measure => omega
          case rel => exact ⟨t + 1, swp dk (a + t) (a + t + 1), by go_num, by omega, by rw [size_swp]; exact hds, S4, hr.out.up (by omega)⟩
        · have hltz : ¬ (a : Int) + (t : Int) < (i : Int) - 1 := by omega
          obtain rfl : t = q := by omega
          go_wp2
          (try simp only [Exit.inBlock, Exit.then]); refine bodyPost_ret (results_none rfl _ _ _) rfl ?_
          obtain rfl : m = a + 1 := by omega
          obtain rfl : i = a + 1 + t := by omega
          refine ⟨rfl, dk, ?_⟩
          have key := H.out.one (q := t) hj hb (fun hh => ls_not.2 ?_) (fun hh => ls_iff.2 ?_) hr.out
          · exact ⟨key.1, key.2, S3.out⟩
          · rcases kj.out with e | e
            · omega
            · omega
          · rcases ki.out with e | e
            · omega
            · rwa [show a + 1 + t - 1 = a + t by omega] at e
end Go.Proofs.Ytplaicdbcfnjbaa
/- slices.symMergeCmpFunc, one element on the right: its walk, over any program that holds its body (elements of k cells, k a variable). -/
namespace Go.Proofs.Ytplaicdbcfnjbaa
open Go.Shelf Go.RowKit Go.Lib Go.Sort
set_option linter.unusedVariables false
set_option maxHeartbeats 8000000
set_option maxRecDepth 1000000
variable {P : Program}
theorem sym_end (k : Nat) (L : SLays P k) (s : Nat → Int) (enc : Nat → List Value) (g : Nat) (cb : Array Value) (blk off cap a m b : Nat) (d0 d : Array Nat) (w0 w : World)
    (eg : ∀ args w, (callFunc g args).run P w = .ok (.enter g args) w) (hcmp : CmpLays P g cb enc k (cfS s) blk off d0.size w0) (R : RowK enc k w0 blk off d0) (hs : d0.size = d.size) (S : SWK enc k w0 blk off d w) (H : Hv s a m b d) (hm : a + 1 < m) (h2 : b = m + 1) (hb : b ≤ d.size) (hsz : d.size < 4611686018427387904) :
    Calls P 59 #[.slice (some ⟨blk, off, none⟩) d.size cap, .int .i64 a, .int .i64 m, .int .i64 b, .func (.func g) #[] cb] w fun e w' => e = .returned (.tuple #[]) ∧ ∃ d', PermIn a b d d' ∧ SortedIn (lx s) a b d' ∧ SWK enc k w0 blk off d' w' := by
  have mixed := L.mixed; have t0 := L.t0; have a0 := L.a0; have z0 := L.z0; have v0 := L.v0; have t3 := L.t3; have a3 := L.a3; have z3 := L.z3; have v3 := L.v3; have t4 := L.t4; have a4 := L.a4; have z4 := L.z4; have v4 := L.v4; have t38 := L.t38; have a38 := L.a38; have z38 := L.z38; have v38 := L.v38; have t62 := L.t62; have a62 := L.a62; have z62 := L.z62; have v62 := L.v62; have t81 := L.t81; have a81 := L.a81; have z81 := L.z81; have v81 := L.v81; have aE := L.aE; have zE := L.zE
  have HC : Aside _ := hcmp
  have S0 : Aside (SWK enc k w0 blk off d w) := S
  clear S hcmp
  obtain ⟨cf, hcf⟩ : ∃ cf, Hid (∀ x y, cf x y < 0 ↔ s x < s y) ∧ cf = cfS s := ⟨cfS s, Lib.hid (lt_cfS s), rfl⟩
  obtain ⟨hcf0, hcf1⟩ := hcf
  rw [← hcf1] at HC
  have hcf : Hid (∀ x y, (cf x y < 0) = (s x < s y)) := Lib.hid fun x y => propext (hcf0.out x y)
  clear hcf0 hcf1
  replace H := Lib.hid H
  have FG := L.f59
  clear L
  have hg : ¬ (m : Int) - (a : Int) = 1 := by omega
  have hg2 : (b : Int) - (m : Int) = 1 := by omega
  have hb1 : b ≤ m + 1 := by omega
  have hb2 : m + 1 ≤ b := by omega
  clear h2
  go_enter FG, Try.ntmps59
  go_wp2
  clear hg hg2
  generalize ((m : Int) - (a : Int) == 1) = gb1
  generalize ((b : Int) - (m : Int) == 1) = gb2
  go_loopg [14, 15] (m - a) (fun z s10 s11 wr => ∃ (i j : Nat), s10 = .int .i64 i ∧ s11 = .int .i64 j ∧ i + z = j ∧ a ≤ i ∧ j ≤ m ∧ Aside (SWK enc k w0 blk off d wr) ∧ Hid (i = a ∨ s d[i - 1]! ≤ s d[m]!) ∧ Hid (j = m ∨ s d[m]! < s d[j]!))
  case atStart => exact ⟨a, m, rfl, rfl, by omega, by omega, by omega, S0, Lib.hid (Or.inl rfl), Lib.hid (Or.inl rfl)⟩
  case round =>
    clear S0
    obtain ⟨i, j, rfl, rfl, hz, hi, hj, S1, ki, kj⟩ := hrel
    by_cases hlt : i < j
    · have hltz : (i : Int) < (j : Int) := by omega
      obtain ⟨h, eh, hih, hhj⟩ : ∃ h : Nat, ((i : Int) + (j : Int)) / 2 = (h : Int) ∧ i ≤ h ∧ h < j := ⟨(i + j) / 2, by omega, by omega, by omega⟩
      by_cases hlv : s d[m]! < s d[h]!
      · replace hlv := Lib.hid hlv
        go_wp2_with fail
        have ea1 : ((m : Int)).toNat = m := by omega
        have pa1 : (0 : Int) ≤ (m : Int) := by omega
        have ba1 : (m : Int) < (d.size : Int) := by omega
        have ra1 : IntKind.i64.wrap ((m : Int)) = (m : Int) := by rw [IntKind.wrap_i64]; omega
        have ec1 : ((h : Int)).toNat = h := by omega
        have pc1 : (0 : Int) ≤ (h : Int) := by omega
        have bc1 : (h : Int) < (d.size : Int) := by omega
        have rc1 : IntKind.i64.wrap ((h : Int)) = (h : Int) := by rw [IntKind.wrap_i64]; omega
        obtain ⟨x1, hx1⟩ : ∃ x, x = d[m]! := ⟨_, rfl⟩
        obtain ⟨y1, hy1⟩ : ∃ x, x = d[h]! := ⟨_, rfl⟩
        have l1a := S1.out.ld R (by omega) P (m) (by omega)
        have l1b := S1.out.ld R (by omega) P (h) (by omega)
        rw [← hx1] at l1a
        rw [← hy1] at l1b
        have hc1 := S1.out.cmp HC.out (by omega) x1 y1
        have hv1 : cf x1 y1 < 0 := by rw [hx1, hy1, hcf.out]; exact hlv.out
        have hd1 : decide (cf x1 y1 < 0) = true := decide_eq_true hv1
        clear hx1 hy1
        go_wp2_with fail
        go_quiet_grown (first | (go_at_fn g; refine Calls.grown_of (hc1 _ _)))
        have S2 : Aside (SWK enc k w0 blk off d (grow (wr.drewN nq) osq)) := S1.out.grown nq osq
        clear l1a l1b hc1 S1
        generalize grow (wr.drewN nq) osq = w2 at S2 ⊢
        clear nq osq
        go_wp2
        go_roundg (h - i)
        case measure => omega
        case rel => exact ⟨i, h, rfl, rfl, by omega, hi, by omega, S2, ki, Lib.hid (Or.inr hlv.out)⟩
      · replace hlv := Lib.hid (Int.not_lt.1 hlv)
        go_wp2_with fail
        have ea1 : ((m : Int)).toNat = m := by omega
        have pa1 : (0 : Int) ≤ (m : Int) := by omega
        have ba1 : (m : Int) < (d.size : Int) := by omega
        have ra1 : IntKind.i64.wrap ((m : Int)) = (m : Int) := by rw [IntKind.wrap_i64]; omega
        have ec1 : ((h : Int)).toNat = h := by omega
        have pc1 : (0 : Int) ≤ (h : Int) := by omega
        have bc1 : (h : Int) < (d.size : Int) := by omega
        have rc1 : IntKind.i64.wrap ((h : Int)) = (h : Int) := by rw [IntKind.wrap_i64]; omega
        obtain ⟨x1, hx1⟩ : ∃ x, x = d[m]! := ⟨_, rfl⟩
        obtain ⟨y1, hy1⟩ : ∃ x, x = d[h]! := ⟨_, rfl⟩
        have l1a := S1.out.ld R (by omega) P (m) (by omega)
        have l1b := S1.out.ld R (by omega) P (h) (by omega)
        rw [← hx1] at l1a
        rw [← hy1] at l1b
        have hc1 := S1.out.cmp HC.out (by omega) x1 y1
        have hv1 : ¬ cf x1 y1 < 0 := by rw [hx1, hy1, hcf.out]; exact Int.not_lt.2 hlv.out
        have hd1 : decide (cf x1 y1 < 0) = false := decide_eq_false hv1
        clear hx1 hy1
        go_wp2_with fail
        go_quiet_grown (first | (go_at_fn g; refine Calls.grown_of (hc1 _ _)))
        have S2 : Aside (SWK enc k w0 blk off d (grow (wr.drewN nq) osq)) := S1.out.grown nq osq
        clear l1a l1b hc1 S1
        generalize grow (wr.drewN nq) osq = w2 at S2 ⊢
        clear nq osq
        go_wp2
        go_roundg (j - (h + 1))
        case measure => omega
        case rel => exact ⟨h + 1, j, by go_num, rfl, by omega, by omega, hj, S2, Lib.hid (Or.inr hlv.out), kj⟩
    · have hltz : ¬ (i : Int) < (j : Int) := by omega
      obtain rfl : i = j := by omega
      clear hz hltz
      go_wp2_with fail
      go_loopg [17] (m - i) (fun z s13 wr => ∃ (t : Nat) (dk : Array Nat), s13 = .int .i64 (t : Int) ∧ i + z = t ∧ t ≤ m ∧ dk.size = d.size ∧ Aside (SWK enc k w0 blk off dk wr) ∧ Aside (Rot d t (m - t) 1 dk))
      case atStart => exact ⟨m, d, rfl, by omega, Nat.le_refl _, rfl, S1, Rot.none (Or.inl (by omega))⟩
      case round =>
        clear S1
        obtain ⟨t, dk, rfl, ht, htm, hds, S3, hr⟩ := hrel
        by_cases hlt2 : i < t
        · have hltz : (i : Int) < (t : Int) := by omega
          obtain ⟨u, hu1, hu2⟩ : ∃ u, u + 1 ≤ t ∧ t ≤ u + 1 := ⟨t - 1, by omega, by omega⟩
          go_wp2_with fail
          have ea2 : ((t : Int)).toNat = t := by omega
          have pa2 : (0 : Int) ≤ (t : Int) := by omega
          have ba2 : (t : Int) < (d.size : Int) := by omega
          have ra2 : IntKind.i64.wrap ((t : Int)) = (t : Int) := by rw [IntKind.wrap_i64]; omega
          have ec2 : ((t : Int) - 1).toNat = u := by omega
          have pc2 : (0 : Int) ≤ (t : Int) - 1 := by omega
          have bc2 : (t : Int) - 1 < (d.size : Int) := by omega
          have rc2 : IntKind.i64.wrap ((t : Int) - 1) = (t : Int) - 1 := by rw [IntKind.wrap_i64]; omega
          have S4 : Aside (SWK enc k w0 blk off (swp dk (t) (u)) ((wr.drew.setCells blk (off + (t) * k) (enc dk[u]!)).setCells blk (off + (u) * k) (enc dk[t]!))) := S3.out.swapped R (t) (u) (by omega) (by omega)
          have l2a := S3.out.ld1 R (by omega) P (t) (by omega)
          have l2b := S3.out.ld1 R (by omega) P (u) (by omega)
          have s2a := S3.out.st1 R (by omega) P (t) (by omega) dk[u]!
          have s2b := S3.out.st2 R (by omega) P (t) (u) (by omega) (by omega) dk[u]! dk[t]!
          have n2a : (enc dk[t]!).length = k := R.hk _
          have n2b : (enc dk[u]!).length = k := R.hk _
          generalize enc dk[t]! = cI2 at S4 l2a s2b n2a
          generalize enc dk[u]! = cJ2 at S4 l2b s2a s2b n2b
          clear S3
          go_wp2_with fail
          go_big_region_o
          clear l2a l2b s2a s2b
          generalize (wr.drew.setCells blk (off + (t) * k) cJ2).setCells blk (off + (u) * k) cI2 = w4 at S4 ⊢
          go_wp2
          go_roundg (gk - 1)
          case measure => omega
          case rel => exact ⟨u, swp dk t u, by go_num, by omega, by omega, by rw [size_swp]; exact hds, S4, by
            obtain rfl : t = u + 1 := by omega
            have := hr.out.down (by omega)
            rwa [show m - (u + 1) + 1 = m - u by omega] at this⟩
        · have hltz : ¬ (i : Int) < (t : Int) := by omega
          obtain rfl : t = i := by omega
          go_wp2
          (try simp only [Exit.inBlock, Exit.then]); refine bodyPost_ret (results_none rfl _ _ _) rfl ?_
          obtain rfl : b = m + 1 := by omega
          refine ⟨rfl, dk, ?_⟩
          have key := H.out.end (c := t) (p := m - t) (by omega) hi hb (fun hh => ls_not.2 ?_) (fun hh => ls_iff.2 ?_) hr.out
          · exact ⟨key.1, key.2, S3.out⟩
          · rcases ki.out with e | e
            · omega
            · omega
          · rcases kj.out with e | e
            · omega
            · exact e
end Go.Proofs.Ytplaicdbcfnjbaa
