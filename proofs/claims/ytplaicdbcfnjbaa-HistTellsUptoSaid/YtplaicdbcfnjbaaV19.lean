/- slices.SortFunc's family at calls: the shelf's structure, laid at this program. -/
import Derived.Test.YtplaicdbcfnjbaaProg
import Derived.Shelf.SlSortCmp.WholeK
import Derived.Test.YtplaicdbcfnjbaaV18
import Derived.Lib.Hide
set_option linter.unusedSimpArgs false
set_option linter.unusedVariables false
namespace Go.Proofs.Ytplaicdbcfnjbaa
open Go.Shelf Go.RowKit Go.Lib Go.Sort
def sortRen : Go.Shelf.Ren := ⟨fun | 6 => 45 | 14 => 56 | 15 => 57 | 20 => 58 | 21 => 64 | 22 => 65 | 23 => 66 | 24 => 67 | 25 => 68 | 26 => 69 | 27 => 70 | 28 => 71 | 29 => 72 | 46 => 83 | 47 => 84 | 48 => 85 | 49 => 86 | 50 => 87 | 57 => 92 | n => n, fun | 22 => 38 | 24 => 36 | 25 => 62 | 39 => 81 | 45 => 87 | 46 => 88 | 50 => 92 | 53 => 95 | 55 => 53 | 66 => 103 | 70 => 107 | 76 => 111 | 77 => 112 | n => n, fun | n => n⟩
theorem sortLay : SlLaysF0.n6 Try.prog sortRen := {
  mixed := by kernel_rfl
  f6 := ⟨Try.f45.name, by decide, Try.func45.trans (congrArg some (by kernel_rfl))⟩
  f14 := ⟨Try.f56.name, by decide, Try.func56.trans (congrArg some (by kernel_rfl))⟩
  f15 := Try.func57.trans (congrArg some (by kernel_rfl))
  f20 := ⟨Try.f58.name, by decide, Try.func58.trans (congrArg some (by kernel_rfl))⟩
  f21 := ⟨Try.f64.name, by decide, Try.func64.trans (congrArg some (by kernel_rfl))⟩
  f22 := ⟨Try.f65.name, by decide, Try.func65.trans (congrArg some (by kernel_rfl))⟩
  f23 := ⟨Try.f66.name, by decide, Try.func66.trans (congrArg some (by kernel_rfl))⟩
  f24 := ⟨Try.f67.name, by decide, Try.func67.trans (congrArg some (by kernel_rfl))⟩
  f25 := ⟨Try.f68.name, by decide, Try.func68.trans (congrArg some (by kernel_rfl))⟩
  f26 := ⟨Try.f69.name, by decide, Try.func69.trans (congrArg some (by kernel_rfl))⟩
  f27 := ⟨Try.f70.name, by decide, Try.func70.trans (congrArg some (by kernel_rfl))⟩
  f28 := Try.func71.trans (congrArg some (by kernel_rfl))
  f29 := Try.func72.trans (congrArg some (by kernel_rfl))
  f46 := ⟨Try.f83.name, by decide, Try.func83.trans (congrArg some (by kernel_rfl))⟩
  f47 := Try.func84.trans (congrArg some (by kernel_rfl))
  f48 := Try.func85.trans (congrArg some (by kernel_rfl))
  f49 := ⟨Try.f86.name, by decide, Try.func86.trans (congrArg some (by kernel_rfl))⟩
  f50 := ⟨Try.f87.name, by decide, Try.func87.trans (congrArg some (by kernel_rfl))⟩
  f57 := ⟨Try.f92.name, by decide, Try.func92.trans (congrArg some (by kernel_rfl))⟩
  t0 := Try.underlying0
  a0 := Try.isAgg0
  z0 := Try.sizeOf0
  v0 := Try.zeroValue0
  t3 := Try.underlying3
  a3 := Try.isAgg3
  z3 := Try.sizeOf3
  v3 := Try.zeroValue3
  t4 := Try.underlying4
  a4 := Try.isAgg4
  z4 := Try.sizeOf4
  v4 := Try.zeroValue4
  t5 := Try.underlying5
  a5 := Try.isAgg5
  z5 := Try.sizeOf5
  v5 := Try.zeroValue5
  t9 := Try.underlying9
  a9 := Try.isAgg9
  z9 := Try.sizeOf9
  v9 := Try.zeroValue9
  t22 := Try.underlying38
  a22 := Try.isAgg38
  z22 := Try.sizeOf38
  v22 := Try.zeroValue38
  t25 := Try.underlying62
  a25 := Try.isAgg62
  z25 := Try.sizeOf62
  v25 := Try.zeroValue62
  t39 := Try.underlying81
  a39 := Try.isAgg81
  z39 := Try.sizeOf81
  v39 := Try.zeroValue81
  t45 := Try.underlying87
  a45 := Try.isAgg87
  z45 := Try.sizeOf87
  v45 := Try.zeroValue87
  t46 := Try.underlying88
  a46 := Try.isAgg88
  z46 := Try.sizeOf88
  v46 := Try.zeroValue88
  t50 := Try.underlying92
  a50 := Try.isAgg92
  z50 := Try.sizeOf92
  v50 := Try.zeroValue92
  t53 := Try.underlying95
  a53 := Try.isAgg95
  z53 := Try.sizeOf95
  v53 := Try.zeroValue95
  t55 := Try.underlying53
  a55 := Try.isAgg53
  z55 := Try.sizeOf53
  v55 := Try.zeroValue53
  t66 := Try.underlying103
  a66 := Try.isAgg103
  z66 := Try.sizeOf103
  v66 := Try.zeroValue103
  t70 := Try.underlying107
  a70 := Try.isAgg107
  z70 := Try.sizeOf107
  v70 := Try.zeroValue107
  t76 := Try.underlying111
  a76 := Try.isAgg111
  z76 := Try.sizeOf111
  v76 := Try.zeroValue111
  t77 := Try.underlying112
  a77 := Try.isAgg112
  z77 := Try.sizeOf112
  v77 := Try.zeroValue112 }
theorem insLay : SlLaysF0.n20 Try.prog sortRen := { sortLay with }
end Go.Proofs.Ytplaicdbcfnjbaa
/- slices.stableCmpFunc of 40 calls or fewer: its walk. -/
namespace Go.Proofs.Ytplaicdbcfnjbaa
open Go.Shelf Go.RowKit Go.Lib Go.Sort
set_option linter.unusedVariables false
set_option maxHeartbeats 8000000
set_option maxRecDepth 1000000
theorem symLay : SLays Try.prog 19 := {
  mixed := by kernel_rfl
  f59 := Try.func59
  f73 := Try.func73
  f88 := Try.func88
  t0 := Try.underlying0
  a0 := Try.isAgg0
  z0 := Try.sizeOf0
  v0 := Try.zeroValue0
  t3 := Try.underlying3
  a3 := Try.isAgg3
  z3 := Try.sizeOf3
  v3 := Try.zeroValue3
  t4 := Try.underlying4
  a4 := Try.isAgg4
  z4 := Try.sizeOf4
  v4 := Try.zeroValue4
  t38 := Try.underlying38
  a38 := Try.isAgg38
  z38 := Try.sizeOf38
  v38 := Try.zeroValue38
  t62 := Try.underlying62
  a62 := Try.isAgg62
  z62 := Try.sizeOf62
  v62 := Try.zeroValue62
  t81 := Try.underlying81
  a81 := Try.isAgg81
  z81 := Try.sizeOf81
  v81 := Try.zeroValue81
  aE := Try.isAgg36
  zE := Try.sizeOf36 }
theorem ls_swo (s : Nat → Int) : SWO (ls s) where
  irrefl x := by rw [ls_not]; omega
  trans x y z h k := by rw [ls_iff] at *; omega
  ntrans x y z h k := by rw [ls_not] at *; omega
theorem two_runs {s : Nat → Int} {d d1 d2 : Array Nat} {m : Nat} (hm : m ≤ d.size) (h : ∀ i j, i < j → j < d.size → d[i]! < d[j]!) (p1 : PermIn 0 m d d1) (s1 : SortedIn (lx s) 0 m d1) (p2 : PermIn m d.size d1 d2) (s2 : SortedIn (lx s) m d.size d2) :
    Hv s 0 m d.size d2 := by
  refine ⟨fun x y hx hxy hy => ?_, s2, fun i j hi him hj hjb => ?_⟩
  · rw [p2.2.1 x (Or.inl (by omega)), p2.2.1 y (Or.inl (by omega))]; exact s1 x y hx hxy hy
  · rw [p2.2.1 i (Or.inl him)]
    have k1 : ∀ i, 0 ≤ i → i < m → ∀ j, m ≤ j → j < d.size → d1[i]! < d[j]! := permIn_all d d1 0 m (fun z => ∀ j, m ≤ j → j < d.size → z < d[j]!) hm p1 (fun i _ him j hj hjb => h i j (by omega) hjb)
    exact permIn_all d1 d2 m d.size (fun z => d1[i]! < z) (by rw [p1.1]; exact Nat.le_refl _) p2 (fun j hj hjb => by rw [p1.2.1 j (Or.inr hj)]; exact k1 i hi him j hj hjb) j hj hjb
theorem ins_any (s : Nat → Int) (enc : Nat → List Value) (g : Nat) (cb : Array Value) (blk off cap : Nat) (d : Array Nat) (w0 : World)
    (eg : ∀ args w, (callFunc g args).run Try.prog w = .ok (.enter g args) w) (hcmp : CmpLays Try.prog g cb enc 19 (cfS s) blk off d.size w0) (R : RowK enc 19 w0 blk off d) (hsz : d.size < 4611686018427387904)
    (a b : Nat) (ai bi : Int) (ea : ai = a) (eb : bi = b) (dk : Array Nat) (w : World) (hs : dk.size = d.size) (S : SWK enc 19 w0 blk off dk w) (hab : a ≤ b) (hb : b ≤ d.size) (h : ∀ i j, a ≤ i → i < j → j < b → dk[i]! < dk[j]!) :
    Calls Try.prog 58 #[.slice (some ⟨blk, off, none⟩) d.size cap, .int .i64 ai, .int .i64 bi, .func (.func g) #[] cb] w fun e w' => e = .returned (.tuple #[]) ∧ ∃ d', PermIn a b dk d' ∧ SortedIn (lx s) a b d' ∧ SWK enc 19 w0 blk off d' w' := by
  subst ea eb
  have key := AnyQ.insertionSortCmpFunc_w insLay 19 Try.isAgg36 Try.sizeOf36 enc (cfS s) g cb blk off cap a b d dk w0 w eg hcmp R hs.symm S (by rw [ltOf_cfS]; exact ls_swo s) hab (by omega) (by omega)
  rw [hs] at key
  have p := ins_stable (s := s) dk a b hab (by omega) h
  exact key.mono fun e w' ⟨k1, k2⟩ => ⟨k1, _, p.1, p.2, k2⟩
theorem mer_any (s : Nat → Int) (enc : Nat → List Value) (g : Nat) (cb : Array Value) (blk off cap : Nat) (d : Array Nat) (w0 : World)
    (eg : ∀ args w, (callFunc g args).run Try.prog w = .ok (.enter g args) w) (hcmp : CmpLays Try.prog g cb enc 19 (cfS s) blk off d.size w0) (R : RowK enc 19 w0 blk off d) (hsz : d.size < 4611686018427387904)
    (a m b : Nat) (ai mi bi : Int) (ea : ai = a) (em : mi = m) (eb : bi = b) (dk : Array Nat) (w : World) (hs : dk.size = d.size) (S : SWK enc 19 w0 blk off dk w) (hab : a < m) (hmb : m < b) (hb : b ≤ d.size) (h : Hv s a m b dk) :
    Calls Try.prog 59 #[.slice (some ⟨blk, off, none⟩) d.size cap, .int .i64 ai, .int .i64 mi, .int .i64 bi, .func (.func g) #[] cb] w fun e w' => e = .returned (.tuple #[]) ∧ ∃ d', PermIn a b dk d' ∧ SortedIn (lx s) a b d' ∧ SWK enc 19 w0 blk off d' w' := by
  subst ea em eb
  have key := symMerge_any 19 symLay s enc g cb blk off cap d w0 eg hcmp R (b - a) a m b dk w (Nat.le_refl _) hs.symm S h hab hmb (by omega) (by omega)
  rwa [hs] at key
theorem stable_any (s : Nat → Int) (enc : Nat → List Value) (g : Nat) (cb : Array Value) (blk off cap : Nat) (d : Array Nat) (w0 : World)
    (eg : ∀ args w, (callFunc g args).run Try.prog w = .ok (.enter g args) w) (hcmp : CmpLays Try.prog g cb enc 19 (cfS s) blk off d.size w0) (R : RowK enc 19 w0 blk off d) (h : ∀ i j, i < j → j < d.size → d[i]! < d[j]!) (h40 : d.size ≤ 40) :
    Calls Try.prog 49 #[.slice (some ⟨blk, off, none⟩) d.size cap, .int .i64 d.size, .func (.func g) #[] cb] w0 fun e w' => e = .returned (.tuple #[]) ∧ ∃ d', PermIn 0 d.size d d' ∧ SortedIn (lx s) 0 d.size d' ∧ SWK enc 19 w0 blk off d' w' := by
  have S0 : Hid (SWK enc 19 w0 blk off d w0) := Lib.hid (SWK.start R.hH)
  have CI := Lib.hid (ins_any s enc g cb blk off cap d w0 eg hcmp R (by omega))
  have CM := Lib.hid (mer_any s enc g cb blk off cap d w0 eg hcmp R (by omega))
  have T := Lib.hid (fun (m : Nat) (d1 d2 : Array Nat) (hm : m ≤ d.size) (p1 : PermIn 0 m d d1) (s1 : SortedIn (lx s) 0 m d1) (p2 : PermIn m d.size d1 d2) (s2 : SortedIn (lx s) m d.size d2) => two_runs hm h p1 s1 p2 s2)
  have e58 : ∀ args w, (callFunc 58 args).run Try.prog w = .ok (.enter 58 args) w := enters_of Try.func58 (by kernel_rfl) rfl
  have e59 : ∀ args w, (callFunc 59 args).run Try.prog w = .ok (.enter 59 args) w := enters_of Try.func59 (by kernel_rfl) rfl
  replace h := Lib.hid h
  clear hcmp R
  by_cases c1 : d.size < 20
  · have q1 : ¬ (20 : Int) ≤ (d.size : Int) := by omega
    have q2 : ¬ (20 : Int) < (d.size : Int) := by omega
    have C1 := Lib.hid (CI.out 0 d.size 0 d.size rfl rfl d w0 rfl S0.out (Nat.zero_le _) (Nat.le_refl _) fun i j _ hij hj => h.out i j hij hj)
    clear CI CM T S0 h
    go_enter Try.func49, Try.ntmps49
    go_wp2
    refine wp_loop_rounds 1 ?_
    rw [rounds_succ]
    go_wp2_with (first | (go_at_call 58; refine (C1.out).mono ?_; rintro e w1 ⟨rfl, d1, p1, s1, g1⟩; replace p1 := Lib.hid p1; replace s1 := Lib.hid s1; replace g1 := Lib.hid g1))
    refine wp_loop_rounds 1 ?_
    rw [rounds_succ]
    go_wp2
    go_end0
    exact ⟨rfl, d1, p1.out, s1.out, g1.out⟩
  · have q1 : (20 : Int) ≤ (d.size : Int) := by omega
    have C1 := Lib.hid (CI.out 0 20 0 20 rfl rfl d w0 rfl S0.out (Nat.zero_le _) (by omega) fun i j _ hij hj => h.out i j hij (by omega))
    by_cases c2 : d.size < 40
    · have q2 : ¬ (40 : Int) ≤ (d.size : Int) := by omega
      go_enter Try.func49, Try.ntmps49
      go_wp2
      refine wp_loop_rounds 2 ?_
      rw [rounds_succ]
      go_wp2_with (first | (go_at_call 58; refine (C1.out).mono ?_; rintro e w1 ⟨rfl, d1, p1, s1, g1⟩; replace p1 := Lib.hid p1; replace s1 := Lib.hid s1; replace g1 := Lib.hid g1))
      clear C1
      have z1 : d1.size = d.size := p1.out.1
      have C2 := Lib.hid (CI.out 20 d.size 20 d.size rfl rfl d1 w1 z1 g1.out (by omega) (Nat.le_refl _) fun i j hi hij hj => by rw [p1.out.2.1 i (Or.inr hi), p1.out.2.1 j (Or.inr (by omega))]; exact h.out i j hij hj)
      rw [rounds_succ]
      go_wp2_with (first | (go_at_call 58; refine (C2.out).mono ?_; rintro e w2 ⟨rfl, d2, p2, s2, g2⟩; replace p2 := Lib.hid p2; replace s2 := Lib.hid s2; replace g2 := Lib.hid g2))
      clear C2
      have z2 : d2.size = d.size := p2.out.1.trans z1
      have H2 := Lib.hid (T.out 20 d1 d2 (by omega) p1.out s1.out p2.out s2.out)
      by_cases c3 : d.size = 20
      · have q3 : ¬ (20 : Int) < (d.size : Int) := by omega
        have c4 : d.size ≤ 20 := by omega
        clear c3
        refine wp_loop_rounds 1 ?_
        rw [rounds_succ]
        go_wp2
        go_end0
        refine ⟨rfl, d2, permIn_trans _ _ _ _ _ (permIn_mono _ _ _ _ _ _ (Nat.le_refl _) (by omega) (Nat.le_refl _) p1.out) (permIn_mono _ _ _ _ _ _ (by omega) (Nat.le_refl _) (by omega) p2.out), H2.out.flat (by omega), g2.out⟩
      · have q3 : (20 : Int) < (d.size : Int) := by omega
        have q4 : ¬ (40 : Int) < (d.size : Int) := by omega
        have C3 := Lib.hid (CM.out 0 20 d.size 0 20 d.size rfl rfl rfl d2 w2 z2 g2.out (by omega) (by omega) (Nat.le_refl _) H2.out)
        refine wp_loop_rounds 2 ?_
        rw [rounds_succ]
        go_wp2
        refine wp_loop_rounds 1 ?_
        rw [rounds_succ]
        go_wp2_with (first | (go_at_call 59; refine (C3.out).mono ?_; rintro e w3 ⟨rfl, d3, p3, s3, g3⟩; replace p3 := Lib.hid p3; replace s3 := Lib.hid s3; replace g3 := Lib.hid g3))
        rw [rounds_succ]
        go_wp2
        go_end0
        refine ⟨rfl, d3, permIn_trans _ _ _ _ _ (permIn_trans _ _ _ _ _ (permIn_mono _ _ _ _ _ _ (Nat.le_refl _) (by omega) (Nat.le_refl _) p1.out) (permIn_mono _ _ _ _ _ _ (by omega) (Nat.le_refl _) (by omega) p2.out)) p3.out, s3.out, g3.out⟩
    · have q2 : (40 : Int) ≤ (d.size : Int) := by omega
      have q5 : ¬ (60 : Int) ≤ (d.size : Int) := by omega
      have q6 : ¬ (80 : Int) ≤ (d.size : Int) := by omega
      have q7 : ¬ (60 : Int) < (d.size : Int) := by omega
      go_enter Try.func49, Try.ntmps49
      go_wp2
      refine wp_loop_rounds 3 ?_
      rw [rounds_succ]
      go_wp2_with (first | (go_at_call 58; refine (C1.out).mono ?_; rintro e w1 ⟨rfl, d1, p1, s1, g1⟩; replace p1 := Lib.hid p1; replace s1 := Lib.hid s1; replace g1 := Lib.hid g1))
      clear C1
      have z1 : d1.size = d.size := p1.out.1
      have C2 := Lib.hid (CI.out 20 d.size 20 40 rfl (by omega) d1 w1 z1 g1.out (by omega) (Nat.le_refl _) fun i j hi hij hj => by rw [p1.out.2.1 i (Or.inr hi), p1.out.2.1 j (Or.inr (by omega))]; exact h.out i j hij hj)
      rw [rounds_succ]
      go_wp2_with (first | (go_at_call 58; refine (C2.out).mono ?_; rintro e w2 ⟨rfl, d2, p2, s2, g2⟩; replace p2 := Lib.hid p2; replace s2 := Lib.hid s2; replace g2 := Lib.hid g2))
      clear C2
      have z2 : d2.size = d.size := p2.out.1.trans z1
      have C4 := Lib.hid (CI.out d.size d.size 40 d.size (by omega) rfl d2 w2 z2 g2.out (Nat.le_refl _) (Nat.le_refl _) fun i j hi hij hj => by omega)
      rw [rounds_succ]
      go_wp2_with (first | (go_at_call 58; refine (C4.out).mono ?_; rintro e w4 ⟨rfl, d4, p4, s4, g4⟩; replace p4 := Lib.hid p4; replace s4 := Lib.hid s4; replace g4 := Lib.hid g4))
      clear C4
      have z4 : d4.size = d.size := p4.out.1.trans z2
      have p5 : Hid (PermIn 20 d.size d1 d4) := Lib.hid (permIn_trans _ _ _ _ _ p2.out (permIn_mono _ _ _ _ _ _ (by omega) (Nat.le_refl _) (by omega) p4.out))
      have s5 : Hid (SortedIn (lx s) 20 d.size d4) := Lib.hid fun x y hx hxy hy => by rw [p4.out.2.1 x (Or.inl (by omega)), p4.out.2.1 y (Or.inl (by omega))]; exact s2.out x y hx hxy hy
      have H2 := Lib.hid (T.out 20 d1 d4 (by omega) p1.out s1.out p5.out s5.out)
      have q3 : (20 : Int) < (d.size : Int) := by omega
      have q4 : ¬ (40 : Int) < (d.size : Int) := by omega
      have C3 := Lib.hid (CM.out 0 20 d.size 0 20 40 rfl rfl (by omega) d4 w4 z4 g4.out (by omega) (by omega) (Nat.le_refl _) H2.out)
      refine wp_loop_rounds 2 ?_
      rw [rounds_succ]
      go_wp2
      refine wp_loop_rounds 2 ?_
      rw [rounds_succ]
      go_wp2_with (first | (go_at_call 59; refine (C3.out).mono ?_; rintro e w3 ⟨rfl, d3, p3, s3, g3⟩; replace p3 := Lib.hid p3; replace s3 := Lib.hid s3; replace g3 := Lib.hid g3))
      rw [rounds_succ]
      go_wp2
      rw [rounds_succ]
      go_wp2
      go_end0
      refine ⟨rfl, d3, permIn_trans _ _ _ _ _ (permIn_trans _ _ _ _ _ (permIn_mono _ _ _ _ _ _ (Nat.le_refl _) (by omega) (Nat.le_refl _) p1.out) (permIn_mono _ _ _ _ _ _ (by omega) (Nat.le_refl _) (by omega) p5.out)) p3.out, s3.out, g3.out⟩
theorem stableFunc_any (s : Nat → Int) (enc : Nat → List Value) (g : Nat) (cb : Array Value) (blk off cap : Nat) (d : Array Nat) (w0 : World)
    (eg : ∀ args w, (callFunc g args).run Try.prog w = .ok (.enter g args) w) (hcmp : CmpLays Try.prog g cb enc 19 (cfS s) blk off d.size w0) (R : RowK enc 19 w0 blk off d) (h : ∀ i j, i < j → j < d.size → d[i]! < d[j]!) (h40 : d.size ≤ 40) :
    Calls Try.prog 35 #[.slice (some ⟨blk, off, none⟩) d.size cap, .func (.func g) #[] cb] w0 fun e w' => e = .returned (.tuple #[]) ∧ ∃ d', PermIn 0 d.size d d' ∧ SortedIn (lx s) 0 d.size d' ∧ SWK enc 19 w0 blk off d' w' := by
  have H := Lib.hid (stable_any s enc g cb blk off cap d w0 eg hcmp R h h40)
  clear hcmp R h
  go_enter Try.func35, Try.ntmps35
  go_wp2_with (first | (go_at_call 49; refine (H.out).mono ?_; rintro e w3 ⟨rfl, d3, p3, s3, g3⟩; replace p3 := Lib.hid p3; replace s3 := Lib.hid s3; replace g3 := Lib.hid g3))
  go_end0
  exact ⟨rfl, d3, p3.out, s3.out, g3.out⟩
end Go.Proofs.Ytplaicdbcfnjbaa
