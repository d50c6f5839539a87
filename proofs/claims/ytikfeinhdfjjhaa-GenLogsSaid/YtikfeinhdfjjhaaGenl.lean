/- Contract of gen.Logs. GenTells, the walk. -/
import Derived.Test.YtikfeinhdfjjhaaGenp
import Derived.OpenShut
namespace Go.Proofs.Ytikfeinhdfjjhaa
open Go.RowKit
set_option linter.unusedVariables false

/-- a slice that holds the logs: at the place of a power less 1 its exponent -/
def IsLog (xs : List Value) (g q i : Nat) : Prop := ∀ t, t < i → xs[gpw g q t - 1]? = some (.int .i64 (t : Int))

theorem IsLog.set {xs : List Value} {g q i : Nat} (h : IsLog xs g q i) (hq : Pr q) (hg : IsGen q g) (hl : xs.length = q - 1) (hi : i < q - 1) : IsLog (xs.set (gpw g q i - 1) (.int .i64 (i : Int))) g q (i + 1) := by
  intro t ht
  have hgn := not_dvd_small hg.pos hg.lt
  have r1 := pow_range (i := i) hq hgn
  have r2 := pow_range (i := t) hq hgn
  by_cases e : t = i
  · subst e
    rw [List.getElem?_set_self (by unfold gpw; omega)]
  · have hne : gpw g q i - 1 ≠ gpw g q t - 1 := by
      intro h2
      have : gpw g q t = gpw g q i := by unfold gpw at h2 ⊢; omega
      exact e (hg.ord.inj hq hgn (by omega) hi this)
    rw [List.getElem?_set_ne hne]
    exact h t (by omega)

set_option maxHeartbeats 400000 in
theorem logs_no (q : Int) (w : World) (h : isB q = false) : Calls Try.prog 24 #[.int .i64 q] w fun e w' => e = .returned (.tuple #[.slice none 0 0, .int .i64 2]) ∧ New w w' := by
  have HT := Lib.hid fun W => gpowers_no q W h
  clear h
  go_enter Try.func24, Try.ntmps24
  go_wp2_with fail
  refine (HT.out _).mono ?_
  rintro e w1 ⟨rfl, hn⟩
  go_wp2
  go_ret2
  exact ⟨rfl, hn⟩

/-- a slice of a prime's logs -/
def ReadsLog (w : World) (v : Value) (q g : Nat) : Prop :=
  ∃ b, v = .slice (some ⟨b, 0, none⟩) (q - 1) (q - 1) ∧ b < w.heap.size ∧ ∀ t, t < q - 1 → w.cell? ⟨b, gpw g q t - 1, none⟩ = some (.int .i64 (t : Int))
theorem ReadsLog.new {w w' : World} {v : Value} {q g : Nat} (h : ReadsLog w v q g) (hn : New w w') : ReadsLog w' v q g := by
  obtain ⟨b, e, hb, hc⟩ := h
  exact ⟨b, e, by have := hn.lt; omega, fun t ht => (hn.cell hb).trans (hc t ht)⟩

set_option maxHeartbeats 1000000 in
theorem logs_yes (q : Nat) (w : World) (hq : Pr q) (hq2 : q ≤ 131072) :
    Calls Try.prog 24 #[.int .i64 q] w fun e w' => ∃ g v, e = .returned (.tuple #[v, .int .i64 0]) ∧ IsGen q g ∧ ReadsLog w' v q g ∧ New w w' := by
  have hq1 := hq.1
  have HT := Lib.hid fun W => gpowers_yes q W hq hq2
  have HPR := Lib.hid hq
  obtain ⟨i0, hi, hz0, hz1, hz2⟩ := info_parts Try.info3
  clear hq
  go_enter Try.func24, Try.ntmps24
  go_wp2_with fail
  refine (HT.out _).mono ?_
  rintro e w0 ⟨g, v, rfl, hg, hown, hn0⟩
  obtain ⟨A1, c1, rfl, r1⟩ := readsF_own hown
  have HG := Lib.hid hg
  clear hg hown
  go_wp2_with (at_make; refine wpList_make_full _ rfl _ _ 28 rfl w0.heap.size 3 i0 (.int .i64 0) 1 Try.underlying28 hi hz0 hz1 _ _ _ _ (q - 1) rfl rfl (by omega) (by omega) (by rw [hz2]; omega) (by unfold maxLen; omega) (Nat.le_refl _) ?_)
  intro w1 hown hgrow
  have hn1 := (New.refl w0).grown hgrow (by intro k hk; cases hk)
  have hbs := hn0.lt
  clear hgrow
  go_wp2
  go_loopg [22] (q - 1) (fun n i wr => ∃ j xs, i = .int .i64 ((j : Nat) : Int) ∧ j ≤ q - 1 ∧ q - 1 ≤ n + j ∧ wr.ownsRow w0.heap.size 3 1 (.slice (some ⟨w0.heap.size, 0, none⟩) (q - 1) (q - 1)) (q - 1) xs ∧ Hid (IsLog xs g q j) ∧ New w0 wr)
  case atStart => exact ⟨0, _, rfl, by omega, by omega, hown, fun t h => by omega, hn1⟩
  case round =>
    obtain ⟨j, xs, rfl, hj, hjn, hownj, HL, hnj⟩ := hrel
    by_cases hjq : j < q - 1
    · have hjq2 : (j : Int) < ((q - 1 : Nat) : Int) := by omega
      obtain ⟨b, rfl, hb, hcell⟩ := (r1.new hnj).2 (by omega)
      have hc := hcell j hjq
      have hxl : xs.length = q - 1 := by have := hownj.1; omega
      have rr := pow_range (q := q) (g := g) (i := j) HPR.out (not_dvd_small HG.out.pos HG.out.lt)
      have HST := Lib.hid ((hownj.stored (gpw g q j - 1) (.int .i64 (j : Int))).1)
      have HL2 : Hid (IsLog (xs.set (gpw g q j - 1) (.int .i64 (j : Int))) g q (j + 1)) := HL.out.set HPR.out HG.out hxl hjq
      have hns := hnj.setCell (p := ⟨w0.heap.size, gpw g q j - 1, none⟩) (Nat.le_refl _) (.int .i64 (j : Int))
      obtain ⟨u, hu⟩ : ∃ u, xs[gpw g q j - 1]? = some u := ⟨_, List.getElem?_eq_getElem (by unfold gpw; omega)⟩
      have hcu : wr.cell? ⟨w0.heap.size, gpw g q j - 1, none⟩ = some u := by
        rw [hownj.cellAt _ (by unfold gpw; omega)]; exact hu
      have hf : wr.frozen? ⟨w0.heap.size, gpw g q j - 1, none⟩ = false := hownj.frozenAt _
      change 1 ≤ gpw g q j ∧ gpw g q j < q at rr
      obtain ⟨rr1, rr2⟩ := rr
      generalize gpw g q j = a at *
      clear hcell hownj hnj hu
      go_wp2
      go_roundg (gk - 1)
      case rel => exact ⟨j + 1, _, by simp, by omega, by omega, HST.out, HL2, hns⟩
      case measure => omega
    · have hje : j = q - 1 := by omega
      have HR : Hid (ReadsLog wr (.slice (some ⟨w0.heap.size, 0, none⟩) (q - 1) (q - 1)) q g) := by
        refine ⟨_, rfl, ?_, fun t ht => ?_⟩
        · have := (hownj.lt w0.heap.size rfl).2; exact this
        · have rr := pow_range (q := q) (g := g) (i := t) HPR.out (not_dvd_small HG.out.pos HG.out.lt)
          rw [hownj.cellAt _ (by unfold gpw; omega)]
          exact HL.out t (by omega)
      clear hje
      have hjq2 : ¬ (j : Int) < ((q - 1 : Nat) : Int) := by omega
      clear hownj
      go_wp2
      go_ret2
      exact ⟨g, _, rfl, HG.out, HR.out, hn0.trans hnj⟩

set_option maxHeartbeats 400000 in
theorem gtells_no (q : Int) (w : World) (h : isB q = false) : Calls Try.prog 6 #[.int .i64 q] w fun e w' => e = .returned (.bool true) ∧ New w w' := by
  have HG := Lib.hid fun W => gen_no q W h
  have HP := Lib.hid fun W => gpowers_no q W h
  have HL := Lib.hid fun W => logs_no q W h
  have HI := Lib.hid fun W => refis_any q W
  rw [h] at HI
  clear h
  go_enter Try.func6, Try.ntmps6
  go_wp2_with fail
  refine (HG.out _).mono ?_
  rintro e w1 ⟨rfl, hn1⟩
  go_wp2_with fail
  refine (HP.out _).mono ?_
  rintro e w2 ⟨rfl, hn2⟩
  go_wp2_with fail
  refine (HL.out _).mono ?_
  rintro e w3 ⟨rfl, hn3⟩
  go_wp2_with fail
  refine (HI.out _).mono ?_
  rintro e w4 ⟨rfl, rfl⟩
  go_wp2_with fail
  refine (live9_any _).mono ?_
  rintro e w5 ⟨rfl, hn5⟩
  go_wp2
  go_ret
  exact ⟨rfl, ((hn1.trans hn2).trans hn3).trans hn5⟩

set_option maxRecDepth 100000 in
set_option maxHeartbeats 2000000 in
theorem gtells_yes (q : Nat) (w : World) (hq : Pr q) (hq2 : q ≤ 131072) : Calls Try.prog 6 #[.int .i64 q] w fun e w' => e = .returned (.bool true) ∧ New w w' := by
  have hq1 := hq.1
  have HG := Lib.hid fun W => gen_yes q W hq hq2
  have HP := Lib.hid fun W => gpowers_yes q W hq hq2
  have HL := Lib.hid fun W => logs_yes q W hq hq2
  have HRG := Lib.hid fun W => refgen_any q W hq hq2
  have HRP := Lib.hid fun W => refgpowers_any q W hq hq2
  have HI := Lib.hid fun W => refis_any q W
  rw [isB_of hq hq2] at HI
  have HPR := Lib.hid hq
  clear hq
  go_enter Try.func6, Try.ntmps6
  go_wp2_with fail
  refine (HG.out _).mono ?_
  rintro e w1 ⟨⟨g, rfl, hg⟩, hn1⟩
  have HGG := Lib.hid hg
  clear hg HG
  go_wp2_with fail
  refine (HP.out _).mono ?_
  rintro e w2 ⟨g', v, rfl, hg, hown, hn2⟩
  obtain rfl : g = g' := HGG.out.uniq hg
  obtain ⟨A1, c1, rfl, r1⟩ := readsF_own hown
  clear hg hown HP
  go_wp2_with fail
  refine (HL.out _).mono ?_
  rintro e w3 ⟨g', v, rfl, hg, rl, hn3⟩
  obtain rfl : g = g' := HGG.out.uniq hg
  obtain ⟨b, rfl, rl2⟩ := rl
  have RL : Hid (ReadsLog w3 (.slice (some ⟨b, 0, none⟩) (q - 1) (q - 1)) q g) := ⟨b, rfl, rl2⟩
  have r1 := r1.new hn3
  have hnew := (hn1.trans hn2).trans hn3
  clear hg HL rl2 hn1 hn2 hn3
  go_wp2_with fail
  refine (HI.out _).mono ?_
  rintro e w4 ⟨rfl, rfl⟩
  go_wp2_with fail
  refine (HRG.out _).mono ?_
  rintro e w4 ⟨⟨g', rfl, hg⟩, rfl⟩
  obtain rfl : g = g' := HGG.out.uniq hg
  clear hg
  go_wp2_with fail
  refine (HRP.out _).mono ?_
  rintro e w4 ⟨g', v, rfl, hg, hown, hn4⟩
  obtain rfl : g = g' := HGG.out.uniq hg
  obtain ⟨A2, c2, rfl, r2⟩ := readsF_own hown
  have r1 := r1.new hn4
  have RL4 : Hid (ReadsLog w4 (.slice (some ⟨b, 0, none⟩) (q - 1) (q - 1)) q g) := RL.out.new hn4
  have hnew := hnew.trans hn4
  clear hg hown RL HI HRG HRP hn4
  go_wp2_with fail
  refine (same_yes A1 A2 (q - 1) c1 c2 _ _ r1 r2).mono ?_
  rintro e w5 ⟨rfl, hn5⟩
  have r1 := r1.new hn5
  have RL5 : Hid (ReadsLog w5 (.slice (some ⟨b, 0, none⟩) (q - 1) (q - 1)) q g) := RL4.out.new hn5
  have hnew := hnew.trans hn5
  have ecast : ((q - 1 : Nat) : Int) = (q : Int) - 1 := cast_pred (Nat.le_of_lt hq1)
  have e1 : (((q - 1 : Nat) : Int) != (q : Int) - 1) = false := by rw [ecast]; simp
  clear r2 hn5 RL4 ecast
  go_wp2_with fail
  go_loopg [9] (q - 1) (fun n i wr => ∃ j : Nat, i = .int .i64 j ∧ j ≤ q - 1 ∧ q - 1 ≤ n + j ∧ w5 = wr)
  case atStart => exact ⟨0, rfl, by omega, by omega, rfl⟩
  case round =>
    obtain ⟨j, rfl, hj, hjn, rfl⟩ := hrel
    by_cases hjq : j < q - 1
    · have hjq' : (j : Int) < (q : Int) - 1 := by omega
      obtain ⟨bp, rfl, hbp, hcell⟩ := r1.2 (by omega)
      have hc := hcell j hjq
      obtain ⟨b', eb, hb', hcl⟩ := RL5.out
      obtain rfl : b = b' := by simpa using eb
      have hl := hcl j hjq
      obtain ⟨rr1, rr2⟩ := pow_range (q := q) (g := g) (i := j) HPR.out (not_dvd_small HGG.out.pos HGG.out.lt)
      change 1 ≤ gpw g q j at rr1
      change gpw g q j < q at rr2
      generalize gpw g q j = a at *
      clear hcell hcl eb r1
      go_wp2
      go_roundg (gk - 1)
      case rel => exact ⟨j + 1, by simp, by omega, by omega, rfl⟩
      case measure => omega
    · have hjq' : ¬ (j : Int) < (q : Int) - 1 := by omega
      clear r1
      go_wp2_with fail
      refine (live9_any _).mono ?_
      rintro e w6 ⟨rfl, hn6⟩
      go_wp2
      go_ret
      exact ⟨rfl, hnew.trans hn6⟩

theorem gtells_walk (q : Int) (wq : (Lit.int .i64 q).wf = true) (w : World) :
    Calls Try.prog 6 #[.int .i64 q] w fun e w' => e = .returned (.bool true) ∧ New w w' := by
  by_cases h : isB q = true
  · obtain ⟨n, rfl, hq, hq2⟩ := isB_yes h
    exact gtells_yes n w hq hq2
  · exact gtells_no q w (by simpa using h)
end Go.Proofs.Ytikfeinhdfjjhaa
