/- slices.symMergeCmpFunc, the rest: its walk, over any program that holds its body (elements of k cells, k a variable). -/
import Derived.Test.YtplaicdbcfnjbaaV17
set_option linter.unusedSimpArgs false
set_option linter.unusedVariables false
namespace Go.Proofs.Ytplaicdbcfnjbaa
open Go.Shelf Go.RowKit Go.Lib Go.Sort
set_option linter.unusedVariables false
set_option maxHeartbeats 8000000
set_option maxRecDepth 1000000
variable {P : Program}
theorem Hv.off {s : Nat → Int} {a e b mid : Nat} {d1 d2 : Array Nat} (h : Hv s mid e b d1) (hme : mid ≤ e) (p : PermIn a mid d1 d2) : Hv s mid e b d2 := by
  have key : ∀ x, mid ≤ x → d2[x]! = d1[x]! := fun x hx => p.2.1 x (Or.inr hx)
  refine ⟨fun x y hx hxy hy => ?_, fun x y hx hxy hy => ?_, fun x y hx hxc hy hyq => ?_⟩
  · rw [key x (by omega), key y (by omega)]; exact h.l x y hx hxy hy
  · rw [key x (by omega), key y (by omega)]; exact h.r x y hx hxy hy
  · rw [key x (by omega), key y (by omega)]; exact h.x x y hx hxc hy hyq
theorem sym_big (k : Nat) (L : SLays P k) (s : Nat → Int) (enc : Nat → List Value) (g : Nat) (cb : Array Value) (blk off cap a m b : Nat) (d0 d : Array Nat) (w0 w : World)
    (eg : ∀ args w, (callFunc g args).run P w = .ok (.enter g args) w) (hcmp : CmpLays P g cb enc k (cfS s) blk off d0.size w0) (R : RowK enc k w0 blk off d0) (hs : d0.size = d.size) (S : SWK enc k w0 blk off d w) (H : Hv s a m b d) (h1 : a + 1 < m) (h2 : m + 1 < b) (hb : b ≤ d.size) (hsz : d.size < 4611686018427387904) (hbig : (a + b) / 2 < m)
    (IH : ∀ (a' m' b' : Nat) (dk : Array Nat) w, d0.size = dk.size → SWK enc k w0 blk off dk w → Hv s a' m' b' dk → b' - a' < b - a → a' < m' → m' < b' → b' ≤ dk.size →
      Calls P 59 #[.slice (some ⟨blk, off, none⟩) dk.size cap, .int .i64 a', .int .i64 m', .int .i64 b', .func (.func g) #[] cb] w fun e w' => e = .returned (.tuple #[]) ∧ ∃ d', PermIn a' b' dk d' ∧ SortedIn (lx s) a' b' d' ∧ SWK enc k w0 blk off d' w') :
    Calls P 59 #[.slice (some ⟨blk, off, none⟩) d.size cap, .int .i64 a, .int .i64 m, .int .i64 b, .func (.func g) #[] cb] w fun e w' => e = .returned (.tuple #[]) ∧ ∃ d', PermIn a b d d' ∧ SortedIn (lx s) a b d' ∧ SWK enc k w0 blk off d' w' := by
  have mixed := L.mixed; have t0 := L.t0; have a0 := L.a0; have z0 := L.z0; have v0 := L.v0; have t3 := L.t3; have a3 := L.a3; have z3 := L.z3; have v3 := L.v3; have t4 := L.t4; have a4 := L.a4; have z4 := L.z4; have v4 := L.v4; have t38 := L.t38; have a38 := L.a38; have z38 := L.z38; have v38 := L.v38; have t62 := L.t62; have a62 := L.a62; have z62 := L.z62; have v62 := L.v62; have t81 := L.t81; have a81 := L.a81; have z81 := L.z81; have v81 := L.v81; have aE := L.aE; have zE := L.zE
  have HC : Aside _ := hcmp
  have S0 : Aside (SWK enc k w0 blk off d w) := S
  clear S hcmp
  obtain ⟨cf, hcf⟩ : ∃ cf, Hid (∀ x y, cf x y < 0 ↔ s x < s y) ∧ cf = cfS s := ⟨cfS s, Lib.hid (lt_cfS s), rfl⟩
  obtain ⟨hcf0, hcf1⟩ := hcf
  rw [← hcf1] at HC
  have hcf : Hid (∀ x y, (cf x y < 0) = (s x < s y)) := Lib.hid fun x y => propext (hcf0.out x y)
  clear hcf0 hcf1
  replace H := Lib.hid H
  have FG := L.f59
  have e73 : ∀ args w, (callFunc 73 args).run P w = .ok (.enter 73 args) w := enters_of L.f73 (by kernel_rfl) rfl
  have e59 : ∀ args w, (callFunc 59 args).run P w = .ok (.enter 59 args) w := enters_of L.f59 (by kernel_rfl) rfl
  have C := Lib.hid (fun a p q (dk : Array Nat) w (hs : d0.size = dk.size) (S : SWK enc k w0 blk off dk w) (hp : 0 < p) (hq : 0 < q) (hb : a + p + q ≤ dk.size) (hsz : dk.size < 4611686018427387904) => rotate_any k L enc g cb blk off cap a p q d0 dk w0 w R hs S hp hq hb hsz)
  replace IH := Lib.hid IH
  clear L
  obtain ⟨mid, hmid⟩ : ∃ x, x = (a + b) / 2 := ⟨_, rfl⟩
  have ehm : ((a : Int) + (b : Int)) / 2 = (mid : Int) := by omega
  rw [← hmid] at hbig
  have ham : a < mid := by omega
  have hmb : mid < b := by omega
  obtain ⟨s0, hs0⟩ : ∃ x, x = mid + m - b := ⟨_, rfl⟩
  have hg : ¬ (m : Int) - (a : Int) = 1 := by omega
  have hg2 : ¬ (b : Int) - (m : Int) = 1 := by omega
  have hg3 : (mid : Int) < (m : Int) := by omega
  have es0 : (mid : Int) + (m : Int) - (b : Int) = (s0 : Int) := by omega
  have k0 : a ≤ s0 := by omega
  have k1 : s0 ≤ mid := by omega
  have k2 : mid + m ≤ s0 + b := by omega
  have hmid' := Lib.hid hmid
  clear hmid
  go_enter FG, Try.ntmps59
  go_wp2_with fail
  clear hg hg2 hg3
  generalize ((m : Int) - (a : Int) == 1) = gb1
  generalize ((b : Int) - (m : Int) == 1) = gb2
  go_loopg [20, 21] (mid - s0) (fun z s10 s11 wr => ∃ (i j : Nat), s10 = .int .i64 i ∧ s11 = .int .i64 j ∧ i + z = j ∧ s0 ≤ i ∧ j ≤ mid ∧ Aside (SWK enc k w0 blk off d wr) ∧ Hid (i = s0 ∨ s d[i - 1]! ≤ s d[mid + m - i]!) ∧ Hid (j = mid ∨ s d[mid + m - 1 - j]! < s d[j]!))
  case atStart => exact ⟨s0, mid, by go_num, by go_num, by omega, by omega, by omega, S0, Lib.hid (Or.inl rfl), Lib.hid (Or.inl rfl)⟩
  case round =>
    clear S0
    obtain ⟨i, j, rfl, rfl, hz, hi, hj, S1, ki, kj⟩ := hrel
    by_cases hlt : i < j
    · have hltz : (i : Int) < (j : Int) := by omega
      obtain ⟨h, eh, hih, hhj⟩ : ∃ h : Nat, ((i : Int) + (j : Int)) / 2 = (h : Int) ∧ i ≤ h ∧ h < j := ⟨(i + j) / 2, by omega, by omega, by omega⟩
      obtain ⟨pc, hp1, hp2⟩ : ∃ pc, pc ≤ mid + m - 1 - h ∧ mid + m - 1 - h ≤ pc := ⟨_, Nat.le_refl _, Nat.le_refl _⟩
      have hpc : (mid : Int) + (m : Int) - 1 - (h : Int) = (pc : Int) := by omega
      by_cases hlv : s d[pc]! < s d[h]!
      · replace hlv := Lib.hid hlv
        go_wp2_with fail
        have ea1 : ((pc : Int)).toNat = pc := by omega
        have pa1 : (0 : Int) ≤ (pc : Int) := by omega
        have ba1 : (pc : Int) < (d.size : Int) := by omega
        have ra1 : IntKind.i64.wrap ((pc : Int)) = (pc : Int) := by rw [IntKind.wrap_i64]; omega
        have ec1 : ((h : Int)).toNat = h := by omega
        have pc1 : (0 : Int) ≤ (h : Int) := by omega
        have bc1 : (h : Int) < (d.size : Int) := by omega
        have rc1 : IntKind.i64.wrap ((h : Int)) = (h : Int) := by rw [IntKind.wrap_i64]; omega
        obtain ⟨x1, hx1⟩ : ∃ x, x = d[pc]! := ⟨_, rfl⟩
        obtain ⟨y1, hy1⟩ : ∃ x, x = d[h]! := ⟨_, rfl⟩
        have l1a := S1.out.ld R (by omega) P (pc) (by omega)
        have l1b := S1.out.ld R (by omega) P (h) (by omega)
        rw [← hx1] at l1a
        rw [← hy1] at l1b
        have hc1 := S1.out.cmp HC.out (by omega) x1 y1
        have hv1 : cf x1 y1 < 0 := by rw [hx1, hy1, hcf.out]; exact hlv.out
        have hd1 : decide (cf x1 y1 < 0) = true := decide_eq_true hv1
        clear hx1 hy1
        go_wp2_with fail
        go_quiet_grown (first | (go_at_fn g; refine Calls.grown_of (hc1 _ _)))
        have S2 : Aside (SWK enc k w0 blk off d (grow (wr.drewN nq) osq)) := S1.out.grown nq osq
        clear l1a l1b hc1 S1
        generalize grow (wr.drewN nq) osq = w2 at S2 ⊢
        clear nq osq
        go_wp2
        go_roundg (h - i)
        case measure => omega
        case rel => exact ⟨i, h, rfl, rfl, by omega, hi, by omega, S2, ki, Lib.hid (Or.inr (by rw [show mid + m - 1 - h = pc by omega]; exact hlv.out))⟩
      · replace hlv := Lib.hid (Int.not_lt.1 hlv)
        go_wp2_with fail
        have ea1 : ((pc : Int)).toNat = pc := by omega
        have pa1 : (0 : Int) ≤ (pc : Int) := by omega
        have ba1 : (pc : Int) < (d.size : Int) := by omega
        have ra1 : IntKind.i64.wrap ((pc : Int)) = (pc : Int) := by rw [IntKind.wrap_i64]; omega
        have ec1 : ((h : Int)).toNat = h := by omega
        have pc1 : (0 : Int) ≤ (h : Int) := by omega
        have bc1 : (h : Int) < (d.size : Int) := by omega
        have rc1 : IntKind.i64.wrap ((h : Int)) = (h : Int) := by rw [IntKind.wrap_i64]; omega
        obtain ⟨x1, hx1⟩ : ∃ x, x = d[pc]! := ⟨_, rfl⟩
        obtain ⟨y1, hy1⟩ : ∃ x, x = d[h]! := ⟨_, rfl⟩
        have l1a := S1.out.ld R (by omega) P (pc) (by omega)
        have l1b := S1.out.ld R (by omega) P (h) (by omega)
        rw [← hx1] at l1a
        rw [← hy1] at l1b
        have hc1 := S1.out.cmp HC.out (by omega) x1 y1
        have hv1 : ¬ cf x1 y1 < 0 := by rw [hx1, hy1, hcf.out]; exact Int.not_lt.2 hlv.out
        have hd1 : decide (cf x1 y1 < 0) = false := decide_eq_false hv1
        clear hx1 hy1
        go_wp2_with fail
        go_quiet_grown (first | (go_at_fn g; refine Calls.grown_of (hc1 _ _)))
        have S2 : Aside (SWK enc k w0 blk off d (grow (wr.drewN nq) osq)) := S1.out.grown nq osq
        clear l1a l1b hc1 S1
        generalize grow (wr.drewN nq) osq = w2 at S2 ⊢
        clear nq osq
        go_wp2
        go_roundg (j - (h + 1))
        case measure => omega
        case rel => exact ⟨h + 1, j, by go_num, rfl, by omega, by omega, hj, S2, Lib.hid (Or.inr (by rw [show mid + m - (h + 1) = pc by omega, show h + 1 - 1 = h by omega]; exact hlv.out)), kj⟩
    · have hltz : ¬ (i : Int) < (j : Int) := by omega
      obtain rfl : i = j := by omega
      clear hz hltz
      obtain ⟨e, he1, he2⟩ : ∃ e, e ≤ mid + m - i ∧ mid + m - i ≤ e := ⟨_, Nat.le_refl _, Nat.le_refl _⟩
      have hez : (mid : Int) + (m : Int) - (i : Int) = (e : Int) := by omega
      have key : Hid (∀ d1, Rot d i (m - i) (mid - i) d1 → PermIn a b d d1 ∧ Hv s a i mid d1 ∧ Hv s mid e b d1 ∧ ∀ x y, a ≤ x → x < mid → mid ≤ y → y < b → lx s d1[y]! d1[x]! = false) := by
        refine Lib.hid fun d1 r => ?_
        have := H.out.rot (c := i) (p := m - i) (q := mid - i) (by omega) (by omega) (by omega) hb (fun hh h3 => ls_not.2 ?_) (fun hh h3 => ls_iff.2 ?_) r
        · rwa [show i + (mid - i) = mid by omega, show m + (mid - i) = e by omega] at this
        · rcases ki.out with e1 | e1
          · omega
          · rw [show m + (mid - i) = mid + m - i by omega]
            omega
        · rcases kj.out with e1 | e1
          · omega
          · rwa [show m + (mid - i) - 1 = mid + m - 1 - i by omega]
      clear ki kj H
      by_cases y1 : i < mid
      · by_cases y2 : a < i
        · by_cases y3 : e < b
          · skip
            have q1 : (i : Int) < (m : Int) := by omega
            have q2 : (m : Int) < (e : Int) := by omega
            have q3 : (a : Int) < (i : Int) := by omega
            have q4 : (i : Int) < (mid : Int) := by omega
            have q5 : (mid : Int) < (e : Int) := by omega
            have q6 : (e : Int) < (b : Int) := by omega
            have C1 := Lib.hid (C.out i (m - i) (mid - i) d wr hs S1.out (by omega) (by omega) (by omega) hsz)
            rw [show i + (m - i) = m by omega, show m + (mid - i) = e by omega] at C1
            go_wp2_with (first | (go_at_fn 73; refine (C1.out).mono ?_; rintro ee w1 ⟨rfl, d1, r1, g1⟩; replace r1 := Lib.hid r1; replace g1 := Lib.hid g1))
            clear C1
            have z1 : d1.size = d.size := r1.out.perm.1
            obtain ⟨p1, v1, v2, x1⟩ := key.out d1 r1.out
            replace p1 := Lib.hid p1
            replace v1 := Lib.hid v1
            replace v2 := Lib.hid v2
            replace x1 := Lib.hid x1
            have I2 := Lib.hid (IH.out a i mid d1 w1 (by omega) g1.out v1.out (by omega) (by omega) (by omega) (by omega))
            rw [z1] at I2
            go_wp2_with (first | (go_at_fn 59; refine (I2.out).mono ?_; rintro ee w2 ⟨rfl, d2, p2, s2, g2⟩; replace p2 := Lib.hid p2; replace s2 := Lib.hid s2; replace g2 := Lib.hid g2))
            clear I2
            have z2 : d2.size = d.size := p2.out.1.trans z1
            have v3 := Lib.hid (v2.out.off (by omega) p2.out)
            have I3 := Lib.hid (IH.out mid e b d2 w2 (by omega) g2.out v3.out (by omega) (by omega) (by omega) (by omega))
            rw [z2] at I3
            go_wp2_with (first | (go_at_fn 59; refine (I3.out).mono ?_; rintro ee w3 ⟨rfl, d3, p3, s3, g3⟩; replace p3 := Lib.hid p3; replace s3 := Lib.hid s3; replace g3 := Lib.hid g3))
            clear I3
            first | go_end0 | ((try simp only [Exit.inBlock, Exit.then]); refine bodyPost_ret (results_none rfl _ _ _) rfl ?_)
            have key2 := sorted_join (by omega) (by omega) (by omega) x1.out p2.out s2.out p3.out s3.out
            exact ⟨rfl, d3, permIn_trans _ _ _ _ _ p1.out key2.1, key2.2, g3.out⟩
          · skip
            have q1 : (i : Int) < (m : Int) := by omega
            have q2 : (m : Int) < (e : Int) := by omega
            have q3 : (a : Int) < (i : Int) := by omega
            have q4 : (i : Int) < (mid : Int) := by omega
            have q5 : (mid : Int) < (e : Int) := by omega
            have q6 : ¬ (e : Int) < (b : Int) := by omega
            have C1 := Lib.hid (C.out i (m - i) (mid - i) d wr hs S1.out (by omega) (by omega) (by omega) hsz)
            rw [show i + (m - i) = m by omega, show m + (mid - i) = e by omega] at C1
            go_wp2_with (first | (go_at_fn 73; refine (C1.out).mono ?_; rintro ee w1 ⟨rfl, d1, r1, g1⟩; replace r1 := Lib.hid r1; replace g1 := Lib.hid g1))
            clear C1
            have z1 : d1.size = d.size := r1.out.perm.1
            obtain ⟨p1, v1, v2, x1⟩ := key.out d1 r1.out
            replace p1 := Lib.hid p1
            replace v1 := Lib.hid v1
            replace v2 := Lib.hid v2
            replace x1 := Lib.hid x1
            have I2 := Lib.hid (IH.out a i mid d1 w1 (by omega) g1.out v1.out (by omega) (by omega) (by omega) (by omega))
            rw [z1] at I2
            go_wp2_with (first | (go_at_fn 59; refine (I2.out).mono ?_; rintro ee w2 ⟨rfl, d2, p2, s2, g2⟩; replace p2 := Lib.hid p2; replace s2 := Lib.hid s2; replace g2 := Lib.hid g2))
            clear I2
            have z2 : d2.size = d.size := p2.out.1.trans z1
            have v3 := Lib.hid (v2.out.off (by omega) p2.out)
            go_wp2
            obtain ⟨d3, p3, s3, g3⟩ : ∃ d3, Hid (PermIn mid b d2 d3) ∧ Hid (SortedIn (lx s) mid b d3) ∧ Hid (SWK enc k w0 blk off d3 w2) := ⟨d2, Lib.hid (permIn_refl _ _ _), Lib.hid (v3.out.flat (by omega)), Lib.hid g2.out⟩
            first | go_end0 | ((try simp only [Exit.inBlock, Exit.then]); refine bodyPost_ret (results_none rfl _ _ _) rfl ?_)
            have key2 := sorted_join (by omega) (by omega) (by omega) x1.out p2.out s2.out p3.out s3.out
            exact ⟨rfl, d3, permIn_trans _ _ _ _ _ p1.out key2.1, key2.2, g3.out⟩
        · by_cases y3 : e < b
          · skip
            have q1 : (i : Int) < (m : Int) := by omega
            have q2 : (m : Int) < (e : Int) := by omega
            have q3 : ¬ (a : Int) < (i : Int) := by omega
            have q5 : (mid : Int) < (e : Int) := by omega
            have q6 : (e : Int) < (b : Int) := by omega
            have C1 := Lib.hid (C.out i (m - i) (mid - i) d wr hs S1.out (by omega) (by omega) (by omega) hsz)
            rw [show i + (m - i) = m by omega, show m + (mid - i) = e by omega] at C1
            go_wp2_with (first | (go_at_fn 73; refine (C1.out).mono ?_; rintro ee w1 ⟨rfl, d1, r1, g1⟩; replace r1 := Lib.hid r1; replace g1 := Lib.hid g1))
            clear C1
            have z1 : d1.size = d.size := r1.out.perm.1
            obtain ⟨p1, v1, v2, x1⟩ := key.out d1 r1.out
            replace p1 := Lib.hid p1
            replace v1 := Lib.hid v1
            replace v2 := Lib.hid v2
            replace x1 := Lib.hid x1
            obtain ⟨d2, p2, s2, g2⟩ : ∃ d2, Hid (PermIn a mid d1 d2) ∧ Hid (SortedIn (lx s) a mid d2) ∧ Hid (SWK enc k w0 blk off d2 w1) := ⟨d1, Lib.hid (permIn_refl _ _ _), Lib.hid (v1.out.flat (by omega)), Lib.hid g1.out⟩
            have z2 : d2.size = d.size := p2.out.1.trans z1
            have v3 := Lib.hid (v2.out.off (by omega) p2.out)
            have I3 := Lib.hid (IH.out mid e b d2 w1 (by omega) g2.out v3.out (by omega) (by omega) (by omega) (by omega))
            rw [z2] at I3
            go_wp2_with (first | (go_at_fn 59; refine (I3.out).mono ?_; rintro ee w3 ⟨rfl, d3, p3, s3, g3⟩; replace p3 := Lib.hid p3; replace s3 := Lib.hid s3; replace g3 := Lib.hid g3))
            clear I3
            first | go_end0 | ((try simp only [Exit.inBlock, Exit.then]); refine bodyPost_ret (results_none rfl _ _ _) rfl ?_)
            have key2 := sorted_join (by omega) (by omega) (by omega) x1.out p2.out s2.out p3.out s3.out
            exact ⟨rfl, d3, permIn_trans _ _ _ _ _ p1.out key2.1, key2.2, g3.out⟩
          · skip
            have q1 : (i : Int) < (m : Int) := by omega
            have q2 : (m : Int) < (e : Int) := by omega
            have q3 : ¬ (a : Int) < (i : Int) := by omega
            have q5 : (mid : Int) < (e : Int) := by omega
            have q6 : ¬ (e : Int) < (b : Int) := by omega
            have C1 := Lib.hid (C.out i (m - i) (mid - i) d wr hs S1.out (by omega) (by omega) (by omega) hsz)
            rw [show i + (m - i) = m by omega, show m + (mid - i) = e by omega] at C1
            go_wp2_with (first | (go_at_fn 73; refine (C1.out).mono ?_; rintro ee w1 ⟨rfl, d1, r1, g1⟩; replace r1 := Lib.hid r1; replace g1 := Lib.hid g1))
            clear C1
            have z1 : d1.size = d.size := r1.out.perm.1
            obtain ⟨p1, v1, v2, x1⟩ := key.out d1 r1.out
            replace p1 := Lib.hid p1
            replace v1 := Lib.hid v1
            replace v2 := Lib.hid v2
            replace x1 := Lib.hid x1
            obtain ⟨d2, p2, s2, g2⟩ : ∃ d2, Hid (PermIn a mid d1 d2) ∧ Hid (SortedIn (lx s) a mid d2) ∧ Hid (SWK enc k w0 blk off d2 w1) := ⟨d1, Lib.hid (permIn_refl _ _ _), Lib.hid (v1.out.flat (by omega)), Lib.hid g1.out⟩
            have z2 : d2.size = d.size := p2.out.1.trans z1
            have v3 := Lib.hid (v2.out.off (by omega) p2.out)
            go_wp2
            obtain ⟨d3, p3, s3, g3⟩ : ∃ d3, Hid (PermIn mid b d2 d3) ∧ Hid (SortedIn (lx s) mid b d3) ∧ Hid (SWK enc k w0 blk off d3 w1) := ⟨d2, Lib.hid (permIn_refl _ _ _), Lib.hid (v3.out.flat (by omega)), Lib.hid g2.out⟩
            first | go_end0 | ((try simp only [Exit.inBlock, Exit.then]); refine bodyPost_ret (results_none rfl _ _ _) rfl ?_)
            have key2 := sorted_join (by omega) (by omega) (by omega) x1.out p2.out s2.out p3.out s3.out
            exact ⟨rfl, d3, permIn_trans _ _ _ _ _ p1.out key2.1, key2.2, g3.out⟩
      · skip
        have q1 : (i : Int) < (m : Int) := by omega
        have q2 : ¬ (m : Int) < (e : Int) := by omega
        have q3 : (a : Int) < (i : Int) := by omega
        have q4 : ¬ (i : Int) < (mid : Int) := by omega
        have q5 : (mid : Int) < (e : Int) := by omega
        have q6 : (e : Int) < (b : Int) := by omega
        obtain ⟨d1, r1, g1⟩ : ∃ d1, Hid (Rot d i (m - i) (mid - i) d1) ∧ Hid (SWK enc k w0 blk off d1 wr) := ⟨d, Lib.hid (Rot.none (by omega)), Lib.hid S1.out⟩
        have z1 : d1.size = d.size := r1.out.perm.1
        obtain ⟨p1, v1, v2, x1⟩ := key.out d1 r1.out
        replace p1 := Lib.hid p1
        replace v1 := Lib.hid v1
        replace v2 := Lib.hid v2
        replace x1 := Lib.hid x1
        obtain ⟨d2, p2, s2, g2⟩ : ∃ d2, Hid (PermIn a mid d1 d2) ∧ Hid (SortedIn (lx s) a mid d2) ∧ Hid (SWK enc k w0 blk off d2 wr) := ⟨d1, Lib.hid (permIn_refl _ _ _), Lib.hid (v1.out.flat (by omega)), Lib.hid g1.out⟩
        have z2 : d2.size = d.size := p2.out.1.trans z1
        have v3 := Lib.hid (v2.out.off (by omega) p2.out)
        have I3 := Lib.hid (IH.out mid e b d2 wr (by omega) g2.out v3.out (by omega) (by omega) (by omega) (by omega))
        rw [z2] at I3
        go_wp2_with (first | (go_at_fn 59; refine (I3.out).mono ?_; rintro ee w3 ⟨rfl, d3, p3, s3, g3⟩; replace p3 := Lib.hid p3; replace s3 := Lib.hid s3; replace g3 := Lib.hid g3))
        clear I3
        first | go_end0 | ((try simp only [Exit.inBlock, Exit.then]); refine bodyPost_ret (results_none rfl _ _ _) rfl ?_)
        have key2 := sorted_join (by omega) (by omega) (by omega) x1.out p2.out s2.out p3.out s3.out
        exact ⟨rfl, d3, permIn_trans _ _ _ _ _ p1.out key2.1, key2.2, g3.out⟩
theorem sym_small (k : Nat) (L : SLays P k) (s : Nat → Int) (enc : Nat → List Value) (g : Nat) (cb : Array Value) (blk off cap a m b : Nat) (d0 d : Array Nat) (w0 w : World)
    (eg : ∀ args w, (callFunc g args).run P w = .ok (.enter g args) w) (hcmp : CmpLays P g cb enc k (cfS s) blk off d0.size w0) (R : RowK enc k w0 blk off d0) (hs : d0.size = d.size) (S : SWK enc k w0 blk off d w) (H : Hv s a m b d) (h1 : a + 1 < m) (h2 : m + 1 < b) (hb : b ≤ d.size) (hsz : d.size < 4611686018427387904) (hbig : m ≤ (a + b) / 2)
    (IH : ∀ (a' m' b' : Nat) (dk : Array Nat) w, d0.size = dk.size → SWK enc k w0 blk off dk w → Hv s a' m' b' dk → b' - a' < b - a → a' < m' → m' < b' → b' ≤ dk.size →
      Calls P 59 #[.slice (some ⟨blk, off, none⟩) dk.size cap, .int .i64 a', .int .i64 m', .int .i64 b', .func (.func g) #[] cb] w fun e w' => e = .returned (.tuple #[]) ∧ ∃ d', PermIn a' b' dk d' ∧ SortedIn (lx s) a' b' d' ∧ SWK enc k w0 blk off d' w') :
    Calls P 59 #[.slice (some ⟨blk, off, none⟩) d.size cap, .int .i64 a, .int .i64 m, .int .i64 b, .func (.func g) #[] cb] w fun e w' => e = .returned (.tuple #[]) ∧ ∃ d', PermIn a b d d' ∧ SortedIn (lx s) a b d' ∧ SWK enc k w0 blk off d' w' := by
  have mixed := L.mixed; have t0 := L.t0; have a0 := L.a0; have z0 := L.z0; have v0 := L.v0; have t3 := L.t3; have a3 := L.a3; have z3 := L.z3; have v3 := L.v3; have t4 := L.t4; have a4 := L.a4; have z4 := L.z4; have v4 := L.v4; have t38 := L.t38; have a38 := L.a38; have z38 := L.z38; have v38 := L.v38; have t62 := L.t62; have a62 := L.a62; have z62 := L.z62; have v62 := L.v62; have t81 := L.t81; have a81 := L.a81; have z81 := L.z81; have v81 := L.v81; have aE := L.aE; have zE := L.zE
  have HC : Aside _ := hcmp
  have S0 : Aside (SWK enc k w0 blk off d w) := S
  clear S hcmp
  obtain ⟨cf, hcf⟩ : ∃ cf, Hid (∀ x y, cf x y < 0 ↔ s x < s y) ∧ cf = cfS s := ⟨cfS s, Lib.hid (lt_cfS s), rfl⟩
  obtain ⟨hcf0, hcf1⟩ := hcf
  rw [← hcf1] at HC
  have hcf : Hid (∀ x y, (cf x y < 0) = (s x < s y)) := Lib.hid fun x y => propext (hcf0.out x y)
  clear hcf0 hcf1
  replace H := Lib.hid H
  have FG := L.f59
  have e73 : ∀ args w, (callFunc 73 args).run P w = .ok (.enter 73 args) w := enters_of L.f73 (by kernel_rfl) rfl
  have e59 : ∀ args w, (callFunc 59 args).run P w = .ok (.enter 59 args) w := enters_of L.f59 (by kernel_rfl) rfl
  have C := Lib.hid (fun a p q (dk : Array Nat) w (hs : d0.size = dk.size) (S : SWK enc k w0 blk off dk w) (hp : 0 < p) (hq : 0 < q) (hb : a + p + q ≤ dk.size) (hsz : dk.size < 4611686018427387904) => rotate_any k L enc g cb blk off cap a p q d0 dk w0 w R hs S hp hq hb hsz)
  replace IH := Lib.hid IH
  clear L
  obtain ⟨mid, hmid⟩ : ∃ x, x = (a + b) / 2 := ⟨_, rfl⟩
  have ehm : ((a : Int) + (b : Int)) / 2 = (mid : Int) := by omega
  rw [← hmid] at hbig
  have ham : a < mid := by omega
  have hmb : mid < b := by omega
  obtain ⟨s0, hs0⟩ : ∃ x, x = a := ⟨_, rfl⟩
  have hg : ¬ (m : Int) - (a : Int) = 1 := by omega
  have hg2 : ¬ (b : Int) - (m : Int) = 1 := by omega
  have hg3 : ¬ (mid : Int) < (m : Int) := by omega
  have es0 : s0 = a := hs0
  have k0 : a ≤ s0 := by omega
  have k1 : s0 ≤ m := by omega
  have k2 : mid + m ≤ s0 + b := by omega
  have hmid' := Lib.hid hmid
  clear hmid
  go_enter FG, Try.ntmps59
  go_wp2_with fail
  clear hg hg2 hg3
  generalize ((m : Int) - (a : Int) == 1) = gb1
  generalize ((b : Int) - (m : Int) == 1) = gb2
  go_loopg [20, 21] (m - s0) (fun z s10 s11 wr => ∃ (i j : Nat), s10 = .int .i64 i ∧ s11 = .int .i64 j ∧ i + z = j ∧ s0 ≤ i ∧ j ≤ m ∧ Aside (SWK enc k w0 blk off d wr) ∧ Hid (i = s0 ∨ s d[i - 1]! ≤ s d[mid + m - i]!) ∧ Hid (j = m ∨ s d[mid + m - 1 - j]! < s d[j]!))
  case atStart => exact ⟨s0, m, by go_num, by go_num, by omega, by omega, by omega, S0, Lib.hid (Or.inl rfl), Lib.hid (Or.inl rfl)⟩
  case round =>
    clear S0
    obtain ⟨i, j, rfl, rfl, hz, hi, hj, S1, ki, kj⟩ := hrel
    by_cases hlt : i < j
    · have hltz : (i : Int) < (j : Int) := by omega
      obtain ⟨h, eh, hih, hhj⟩ : ∃ h : Nat, ((i : Int) + (j : Int)) / 2 = (h : Int) ∧ i ≤ h ∧ h < j := ⟨(i + j) / 2, by omega, by omega, by omega⟩
      obtain ⟨pc, hp1, hp2⟩ : ∃ pc, pc ≤ mid + m - 1 - h ∧ mid + m - 1 - h ≤ pc := ⟨_, Nat.le_refl _, Nat.le_refl _⟩
      have hpc : (mid : Int) + (m : Int) - 1 - (h : Int) = (pc : Int) := by omega
      by_cases hlv : s d[pc]! < s d[h]!
      · replace hlv := Lib.hid hlv
        go_wp2_with fail
        have ea1 : ((pc : Int)).toNat = pc := by omega
        have pa1 : (0 : Int) ≤ (pc : Int) := by omega
        have ba1 : (pc : Int) < (d.size : Int) := by omega
        have ra1 : IntKind.i64.wrap ((pc : Int)) = (pc : Int) := by rw [IntKind.wrap_i64]; omega
        have ec1 : ((h : Int)).toNat = h := by omega
        have pc1 : (0 : Int) ≤ (h : Int) := by omega
        have bc1 : (h : Int) < (d.size : Int) := by omega
        have rc1 : IntKind.i64.wrap ((h : Int)) = (h : Int) := by rw [IntKind.wrap_i64]; omega
        obtain ⟨x1, hx1⟩ : ∃ x, x = d[pc]! := ⟨_, rfl⟩
        obtain ⟨y1, hy1⟩ : ∃ x, x = d[h]! := ⟨_, rfl⟩
        have l1a := S1.out.ld R (by omega) P (pc) (by omega)
        have l1b := S1.out.ld R (by omega) P (h) (by omega)
        rw [← hx1] at l1a
        rw [← hy1] at l1b
        have hc1 := S1.out.cmp HC.out (by omega) x1 y1
        have hv1 : cf x1 y1 < 0 := by rw [hx1, hy1, hcf.out]; exact hlv.out
        have hd1 : decide (cf x1 y1 < 0) = true := decide_eq_true hv1
        clear hx1 hy1
        go_wp2_with fail
        go_quiet_grown (first | (go_at_fn g; refine Calls.grown_of (hc1 _ _)))
        have S2 : Aside (SWK enc k w0 blk off d (grow (wr.drewN nq) osq)) := S1.out.grown nq osq
        clear l1a l1b hc1 S1
        generalize grow (wr.drewN nq) osq = w2 at S2 ⊢
        clear nq osq
        go_wp2
        go_roundg (h - i)
        case measure => omega
        case rel => exact ⟨i, h, rfl, rfl, by omega, hi, by omega, S2, ki, Lib.hid (Or.inr (by rw [show mid + m - 1 - h = pc by omega]; exact hlv.out))⟩
      · replace hlv := Lib.hid (Int.not_lt.1 hlv)
        go_wp2_with fail
        have ea1 : ((pc : Int)).toNat = pc := by omega
        have pa1 : (0 : Int) ≤ (pc : Int) := by omega
        have ba1 : (pc : Int) < (d.size : Int) := by omega
        have ra1 : IntKind.i64.wrap ((pc : Int)) = (pc : Int) := by rw [IntKind.wrap_i64]; omega
        have ec1 : ((h : Int)).toNat = h := by omega
        have pc1 : (0 : Int) ≤ (h : Int) := by omega
        have bc1 : (h : Int) < (d.size : Int) := by omega
        have rc1 : IntKind.i64.wrap ((h : Int)) = (h : Int) := by rw [IntKind.wrap_i64]; omega
        obtain ⟨x1, hx1⟩ : ∃ x, x = d[pc]! := ⟨_, rfl⟩
        obtain ⟨y1, hy1⟩ : ∃ x, x = d[h]! := ⟨_, rfl⟩
        have l1a := S1.out.ld R (by omega) P (pc) (by omega)
        have l1b := S1.out.ld R (by omega) P (h) (by omega)
        rw [← hx1] at l1a
        rw [← hy1] at l1b
        have hc1 := S1.out.cmp HC.out (by omega) x1 y1
        have hv1 : ¬ cf x1 y1 < 0 := by rw [hx1, hy1, hcf.out]; exact Int.not_lt.2 hlv.out
        have hd1 : decide (cf x1 y1 < 0) = false := decide_eq_false hv1
        clear hx1 hy1
        go_wp2_with fail
        go_quiet_grown (first | (go_at_fn g; refine Calls.grown_of (hc1 _ _)))
        have S2 : Aside (SWK enc k w0 blk off d (grow (wr.drewN nq) osq)) := S1.out.grown nq osq
        clear l1a l1b hc1 S1
        generalize grow (wr.drewN nq) osq = w2 at S2 ⊢
        clear nq osq
        go_wp2
        go_roundg (j - (h + 1))
        case measure => omega
        case rel => exact ⟨h + 1, j, by go_num, rfl, by omega, by omega, hj, S2, Lib.hid (Or.inr (by rw [show mid + m - (h + 1) = pc by omega, show h + 1 - 1 = h by omega]; exact hlv.out)), kj⟩
    · have hltz : ¬ (i : Int) < (j : Int) := by omega
      obtain rfl : i = j := by omega
      clear hz hltz
      obtain ⟨e, he1, he2⟩ : ∃ e, e ≤ mid + m - i ∧ mid + m - i ≤ e := ⟨_, Nat.le_refl _, Nat.le_refl _⟩
      have hez : (mid : Int) + (m : Int) - (i : Int) = (e : Int) := by omega
      have key : Hid (∀ d1, Rot d i (m - i) (mid - i) d1 → PermIn a b d d1 ∧ Hv s a i mid d1 ∧ Hv s mid e b d1 ∧ ∀ x y, a ≤ x → x < mid → mid ≤ y → y < b → lx s d1[y]! d1[x]! = false) := by
        refine Lib.hid fun d1 r => ?_
        have := H.out.rot (c := i) (p := m - i) (q := mid - i) (by omega) (by omega) (by omega) hb (fun hh h3 => ls_not.2 ?_) (fun hh h3 => ls_iff.2 ?_) r
        · rwa [show i + (mid - i) = mid by omega, show m + (mid - i) = e by omega] at this
        · rcases ki.out with e1 | e1
          · omega
          · rw [show m + (mid - i) = mid + m - i by omega]
            omega
        · rcases kj.out with e1 | e1
          · omega
          · rwa [show m + (mid - i) - 1 = mid + m - 1 - i by omega]
      clear ki kj H
      by_cases y1 : i < m
      · by_cases y2 : a < i
        · by_cases y3 : e < b
          · skip
            have q1 : (i : Int) < (m : Int) := by omega
            have q2 : (m : Int) < (e : Int) := by omega
            have q3 : (a : Int) < (i : Int) := by omega
            have q4 : (i : Int) < (mid : Int) := by omega
            have q5 : (mid : Int) < (e : Int) := by omega
            have q6 : (e : Int) < (b : Int) := by omega
            have C1 := Lib.hid (C.out i (m - i) (mid - i) d wr hs S1.out (by omega) (by omega) (by omega) hsz)
            rw [show i + (m - i) = m by omega, show m + (mid - i) = e by omega] at C1
            go_wp2_with (first | (go_at_fn 73; refine (C1.out).mono ?_; rintro ee w1 ⟨rfl, d1, r1, g1⟩; replace r1 := Lib.hid r1; replace g1 := Lib.hid g1))
            clear C1
            have z1 : d1.size = d.size := r1.out.perm.1
            obtain ⟨p1, v1, v2, x1⟩ := key.out d1 r1.out
            replace p1 := Lib.hid p1
            replace v1 := Lib.hid v1
            replace v2 := Lib.hid v2
            replace x1 := Lib.hid x1
            have I2 := Lib.hid (IH.out a i mid d1 w1 (by omega) g1.out v1.out (by omega) (by omega) (by omega) (by omega))
            rw [z1] at I2
            go_wp2_with (first | (go_at_fn 59; refine (I2.out).mono ?_; rintro ee w2 ⟨rfl, d2, p2, s2, g2⟩; replace p2 := Lib.hid p2; replace s2 := Lib.hid s2; replace g2 := Lib.hid g2))
            clear I2
            have z2 : d2.size = d.size := p2.out.1.trans z1
            have v3 := Lib.hid (v2.out.off (by omega) p2.out)
            have I3 := Lib.hid (IH.out mid e b d2 w2 (by omega) g2.out v3.out (by omega) (by omega) (by omega) (by omega))
            rw [z2] at I3
            go_wp2_with (first | (go_at_fn 59; refine (I3.out).mono ?_; rintro ee w3 ⟨rfl, d3, p3, s3, g3⟩; replace p3 := Lib.hid p3; replace s3 := Lib.hid s3; replace g3 := Lib.hid g3))
            clear I3
            first | go_end0 | ((try simp only [Exit.inBlock, Exit.then]); refine bodyPost_ret (results_none rfl _ _ _) rfl ?_)
            have key2 := sorted_join (by omega) (by omega) (by omega) x1.out p2.out s2.out p3.out s3.out
            exact ⟨rfl, d3, permIn_trans _ _ _ _ _ p1.out key2.1, key2.2, g3.out⟩
          · skip
            have q1 : (i : Int) < (m : Int) := by omega
            have q2 : (m : Int) < (e : Int) := by omega
            have q3 : (a : Int) < (i : Int) := by omega
            have q4 : (i : Int) < (mid : Int) := by omega
            have q5 : (mid : Int) < (e : Int) := by omega
            have q6 : ¬ (e : Int) < (b : Int) := by omega
            have C1 := Lib.hid (C.out i (m - i) (mid - i) d wr hs S1.out (by omega) (by omega) (by omega) hsz)
            rw [show i + (m - i) = m by omega, show m + (mid - i) = e by omega] at C1
            go_wp2_with (first | (go_at_fn 73; refine (C1.out).mono ?_; rintro ee w1 ⟨rfl, d1, r1, g1⟩; replace r1 := Lib.hid r1; replace g1 := Lib.hid g1))
            clear C1
            have z1 : d1.size = d.size := r1.out.perm.1
            obtain ⟨p1, v1, v2, x1⟩ := key.out d1 r1.out
            replace p1 := Lib.hid p1
            replace v1 := Lib.hid v1
            replace v2 := Lib.hid v2
            replace x1 := Lib.hid x1
            have I2 := Lib.hid (IH.out a i mid d1 w1 (by omega) g1.out v1.out (by omega) (by omega) (by omega) (by omega))
            rw [z1] at I2
            go_wp2_with (first | (go_at_fn 59; refine (I2.out).mono ?_; rintro ee w2 ⟨rfl, d2, p2, s2, g2⟩; replace p2 := Lib.hid p2; replace s2 := Lib.hid s2; replace g2 := Lib.hid g2))
            clear I2
            have z2 : d2.size = d.size := p2.out.1.trans z1
            have v3 := Lib.hid (v2.out.off (by omega) p2.out)
            go_wp2
            obtain ⟨d3, p3, s3, g3⟩ : ∃ d3, Hid (PermIn mid b d2 d3) ∧ Hid (SortedIn (lx s) mid b d3) ∧ Hid (SWK enc k w0 blk off d3 w2) := ⟨d2, Lib.hid (permIn_refl _ _ _), Lib.hid (v3.out.flat (by omega)), Lib.hid g2.out⟩
            first | go_end0 | ((try simp only [Exit.inBlock, Exit.then]); refine bodyPost_ret (results_none rfl _ _ _) rfl ?_)
            have key2 := sorted_join (by omega) (by omega) (by omega) x1.out p2.out s2.out p3.out s3.out
            exact ⟨rfl, d3, permIn_trans _ _ _ _ _ p1.out key2.1, key2.2, g3.out⟩
        · by_cases y3 : e < b
          · skip
            have q1 : (i : Int) < (m : Int) := by omega
            have q2 : (m : Int) < (e : Int) := by omega
            have q3 : ¬ (a : Int) < (i : Int) := by omega
            have q5 : (mid : Int) < (e : Int) := by omega
            have q6 : (e : Int) < (b : Int) := by omega
            have C1 := Lib.hid (C.out i (m - i) (mid - i) d wr hs S1.out (by omega) (by omega) (by omega) hsz)
            rw [show i + (m - i) = m by omega, show m + (mid - i) = e by omega] at C1
            go_wp2_with (first | (go_at_fn 73; refine (C1.out).mono ?_; rintro ee w1 ⟨rfl, d1, r1, g1⟩; replace r1 := Lib.hid r1; replace g1 := Lib.hid g1))
            clear C1
            have z1 : d1.size = d.size := r1.out.perm.1
            obtain ⟨p1, v1, v2, x1⟩ := key.out d1 r1.out
            replace p1 := Lib.hid p1
            replace v1 := Lib.hid v1
            replace v2 := Lib.hid v2
            replace x1 := Lib.hid x1
            obtain ⟨d2, p2, s2, g2⟩ : ∃ d2, Hid (PermIn a mid d1 d2) ∧ Hid (SortedIn (lx s) a mid d2) ∧ Hid (SWK enc k w0 blk off d2 w1) := ⟨d1, Lib.hid (permIn_refl _ _ _), Lib.hid (v1.out.flat (by omega)), Lib.hid g1.out⟩
            have z2 : d2.size = d.size := p2.out.1.trans z1
            have v3 := Lib.hid (v2.out.off (by omega) p2.out)
            have I3 := Lib.hid (IH.out mid e b d2 w1 (by omega) g2.out v3.out (by omega) (by omega) (by omega) (by omega))
            rw [z2] at I3
            go_wp2_with (first | (go_at_fn 59; refine (I3.out).mono ?_; rintro ee w3 ⟨rfl, d3, p3, s3, g3⟩; replace p3 := Lib.hid p3; replace s3 := Lib.hid s3; replace g3 := Lib.hid g3))
            clear I3
            first | go_end0 | ((try simp only [Exit.inBlock, Exit.then]); refine bodyPost_ret (results_none rfl _ _ _) rfl ?_)
            have key2 := sorted_join (by omega) (by omega) (by omega) x1.out p2.out s2.out p3.out s3.out
            exact ⟨rfl, d3, permIn_trans _ _ _ _ _ p1.out key2.1, key2.2, g3.out⟩
          · skip
            have q1 : (i : Int) < (m : Int) := by omega
            have q2 : (m : Int) < (e : Int) := by omega
            have q3 : ¬ (a : Int) < (i : Int) := by omega
            have q5 : (mid : Int) < (e : Int) := by omega
            have q6 : ¬ (e : Int) < (b : Int) := by omega
            have C1 := Lib.hid (C.out i (m - i) (mid - i) d wr hs S1.out (by omega) (by omega) (by omega) hsz)
            rw [show i + (m - i) = m by omega, show m + (mid - i) = e by omega] at C1
            go_wp2_with (first | (go_at_fn 73; refine (C1.out).mono ?_; rintro ee w1 ⟨rfl, d1, r1, g1⟩; replace r1 := Lib.hid r1; replace g1 := Lib.hid g1))
            clear C1
            have z1 : d1.size = d.size := r1.out.perm.1
            obtain ⟨p1, v1, v2, x1⟩ := key.out d1 r1.out
            replace p1 := Lib.hid p1
            replace v1 := Lib.hid v1
            replace v2 := Lib.hid v2
            replace x1 := Lib.hid x1
            obtain ⟨d2, p2, s2, g2⟩ : ∃ d2, Hid (PermIn a mid d1 d2) ∧ Hid (SortedIn (lx s) a mid d2) ∧ Hid (SWK enc k w0 blk off d2 w1) := ⟨d1, Lib.hid (permIn_refl _ _ _), Lib.hid (v1.out.flat (by omega)), Lib.hid g1.out⟩
            have z2 : d2.size = d.size := p2.out.1.trans z1
            have v3 := Lib.hid (v2.out.off (by omega) p2.out)
            go_wp2
            obtain ⟨d3, p3, s3, g3⟩ : ∃ d3, Hid (PermIn mid b d2 d3) ∧ Hid (SortedIn (lx s) mid b d3) ∧ Hid (SWK enc k w0 blk off d3 w1) := ⟨d2, Lib.hid (permIn_refl _ _ _), Lib.hid (v3.out.flat (by omega)), Lib.hid g2.out⟩
            first | go_end0 | ((try simp only [Exit.inBlock, Exit.then]); refine bodyPost_ret (results_none rfl _ _ _) rfl ?_)
            have key2 := sorted_join (by omega) (by omega) (by omega) x1.out p2.out s2.out p3.out s3.out
            exact ⟨rfl, d3, permIn_trans _ _ _ _ _ p1.out key2.1, key2.2, g3.out⟩
      · by_cases y2 : i < mid
        · skip
          have q1 : ¬ (i : Int) < (m : Int) := by omega
          have q3 : (a : Int) < (i : Int) := by omega
          have q4 : (i : Int) < (mid : Int) := by omega
          have q5 : ¬ (mid : Int) < (e : Int) := by omega
          obtain ⟨d1, r1, g1⟩ : ∃ d1, Hid (Rot d i (m - i) (mid - i) d1) ∧ Hid (SWK enc k w0 blk off d1 wr) := ⟨d, Lib.hid (Rot.none (by omega)), Lib.hid S1.out⟩
          have z1 : d1.size = d.size := r1.out.perm.1
          obtain ⟨p1, v1, v2, x1⟩ := key.out d1 r1.out
          replace p1 := Lib.hid p1
          replace v1 := Lib.hid v1
          replace v2 := Lib.hid v2
          replace x1 := Lib.hid x1
          have I2 := Lib.hid (IH.out a i mid d1 wr (by omega) g1.out v1.out (by omega) (by omega) (by omega) (by omega))
          rw [z1] at I2
          go_wp2_with (first | (go_at_fn 59; refine (I2.out).mono ?_; rintro ee w2 ⟨rfl, d2, p2, s2, g2⟩; replace p2 := Lib.hid p2; replace s2 := Lib.hid s2; replace g2 := Lib.hid g2))
          clear I2
          have z2 : d2.size = d.size := p2.out.1.trans z1
          have v3 := Lib.hid (v2.out.off (by omega) p2.out)
          go_wp2
          obtain ⟨d3, p3, s3, g3⟩ : ∃ d3, Hid (PermIn mid b d2 d3) ∧ Hid (SortedIn (lx s) mid b d3) ∧ Hid (SWK enc k w0 blk off d3 w2) := ⟨d2, Lib.hid (permIn_refl _ _ _), Lib.hid (v3.out.flat (by omega)), Lib.hid g2.out⟩
          first | go_end0 | ((try simp only [Exit.inBlock, Exit.then]); refine bodyPost_ret (results_none rfl _ _ _) rfl ?_)
          have key2 := sorted_join (by omega) (by omega) (by omega) x1.out p2.out s2.out p3.out s3.out
          exact ⟨rfl, d3, permIn_trans _ _ _ _ _ p1.out key2.1, key2.2, g3.out⟩
        · skip
          have q1 : ¬ (i : Int) < (m : Int) := by omega
          have q3 : (a : Int) < (i : Int) := by omega
          have q4 : ¬ (i : Int) < (mid : Int) := by omega
          have q5 : ¬ (mid : Int) < (e : Int) := by omega
          obtain ⟨d1, r1, g1⟩ : ∃ d1, Hid (Rot d i (m - i) (mid - i) d1) ∧ Hid (SWK enc k w0 blk off d1 wr) := ⟨d, Lib.hid (Rot.none (by omega)), Lib.hid S1.out⟩
          have z1 : d1.size = d.size := r1.out.perm.1
          obtain ⟨p1, v1, v2, x1⟩ := key.out d1 r1.out
          replace p1 := Lib.hid p1
          replace v1 := Lib.hid v1
          replace v2 := Lib.hid v2
          replace x1 := Lib.hid x1
          obtain ⟨d2, p2, s2, g2⟩ : ∃ d2, Hid (PermIn a mid d1 d2) ∧ Hid (SortedIn (lx s) a mid d2) ∧ Hid (SWK enc k w0 blk off d2 wr) := ⟨d1, Lib.hid (permIn_refl _ _ _), Lib.hid (v1.out.flat (by omega)), Lib.hid g1.out⟩
          have z2 : d2.size = d.size := p2.out.1.trans z1
          have v3 := Lib.hid (v2.out.off (by omega) p2.out)
          go_wp2
          obtain ⟨d3, p3, s3, g3⟩ : ∃ d3, Hid (PermIn mid b d2 d3) ∧ Hid (SortedIn (lx s) mid b d3) ∧ Hid (SWK enc k w0 blk off d3 wr) := ⟨d2, Lib.hid (permIn_refl _ _ _), Lib.hid (v3.out.flat (by omega)), Lib.hid g2.out⟩
          first | go_end0 | ((try simp only [Exit.inBlock, Exit.then]); refine bodyPost_ret (results_none rfl _ _ _) rfl ?_)
          have key2 := sorted_join (by omega) (by omega) (by omega) x1.out p2.out s2.out p3.out s3.out
          exact ⟨rfl, d3, permIn_trans _ _ _ _ _ p1.out key2.1, key2.2, g3.out⟩
theorem symMerge_any (k : Nat) (L : SLays P k) (s : Nat → Int) (enc : Nat → List Value) (g : Nat) (cb : Array Value) (blk off cap : Nat) (d0 : Array Nat) (w0 : World)
    (eg : ∀ args w, (callFunc g args).run P w = .ok (.enter g args) w) (hcmp : CmpLays P g cb enc k (cfS s) blk off d0.size w0) (R : RowK enc k w0 blk off d0) : ∀ (N a m b : Nat) (d : Array Nat) (w : World), b - a ≤ N → d0.size = d.size → SWK enc k w0 blk off d w → Hv s a m b d → a < m → m < b → b ≤ d.size → d.size < 4611686018427387904 →
    Calls P 59 #[.slice (some ⟨blk, off, none⟩) d.size cap, .int .i64 a, .int .i64 m, .int .i64 b, .func (.func g) #[] cb] w fun e w' => e = .returned (.tuple #[]) ∧ ∃ d', PermIn a b d d' ∧ SortedIn (lx s) a b d' ∧ SWK enc k w0 blk off d' w' := by
  intro N
  induction N with
  | zero => intro a m b d w h1 _ _ _ h2 h3; omega
  | succ N ih =>
    intro a m b d w hN hs S H h1 h2 hb hsz
    by_cases c1 : m = a + 1
    · exact sym_one k L s enc g cb blk off cap a m b d0 d w0 w eg hcmp R hs S H c1 h2 hb hsz
    · by_cases c2 : b = m + 1
      · exact sym_end k L s enc g cb blk off cap a m b d0 d w0 w eg hcmp R hs S H (by omega) c2 hb hsz
      · have IH : ∀ (a' m' b' : Nat) (dk : Array Nat) w, d0.size = dk.size → SWK enc k w0 blk off dk w → Hv s a' m' b' dk → b' - a' < b - a → a' < m' → m' < b' → b' ≤ dk.size →
          Calls P 59 #[.slice (some ⟨blk, off, none⟩) dk.size cap, .int .i64 a', .int .i64 m', .int .i64 b', .func (.func g) #[] cb] w fun e w' => e = .returned (.tuple #[]) ∧ ∃ d', PermIn a' b' dk d' ∧ SortedIn (lx s) a' b' d' ∧ SWK enc k w0 blk off d' w' :=
          fun a' m' b' dk w hs' S' H' hlt k1 k2 k3 => ih a' m' b' dk w (by omega) hs' S' H' k1 k2 k3 (by omega)
        by_cases c3 : (a + b) / 2 < m
        · exact sym_big k L s enc g cb blk off cap a m b d0 d w0 w eg hcmp R hs S H (by omega) (by omega) hb hsz c3 IH
        · exact sym_small k L s enc g cb blk off cap a m b d0 d w0 w eg hcmp R hs S H (by omega) (by omega) hb hsz (by omega) IH
end Go.Proofs.Ytplaicdbcfnjbaa
