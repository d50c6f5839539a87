/- Equality of two rows of calls: slices.EqualFunc at the closure, and hist.Same. -/
import Derived.Test.YtplaicdbcfnjbaaS1
namespace Go.Proofs.Ytplaicdbcfnjbaa
open Go.RowKit
set_option linter.unusedVariables false

/-- a row of calls -/
def RowO (w : World) (f : Nat) (A : Option Addr) (n : Nat) (o : Nat → OD) : Prop :=
  n ≤ 7000000000000 ∧ (∀ i, i < n → IsO w f (o i)) ∧ (0 < n → ∃ ad : Addr, A = some ad ∧ ∀ i, i < n → OpAt w (ad.add (i * 19)) (ocs (o i)))
theorem RowO.new {w w' : World} {f n : Nat} {A : Option Addr} {o : Nat → OD} (h : RowO w f A n o) (m : New w w') : RowO w' f A n o := by
  refine ⟨h.1, fun i hi => (h.2.1 i hi).new m, fun h0 => ?_⟩
  obtain ⟨ad, e, hc⟩ := h.2.2 h0
  exact ⟨ad, e, fun i hi => (hc i hi).new m⟩
/-- all the same -/
def allO (f n : Nat) (o p : Nat → OD) : Bool := decide (∀ i, i < n → oneO f (o i) (p i) = true)
def sameO (f n m : Nat) (o p : Nat → OD) : Bool := decide (n = m) && allO f n o p
theorem sameO_len {f n m : Nat} {o p : Nat → OD} (h : n ≠ m) : sameO f n m o p = false := by simp [sameO, h]
theorem sameO_no {f n : Nat} {o p : Nat → OD} (k : Nat) (hk : k < n) (h : oneO f (o k) (p k) = false) : sameO f n n o p = false := by
  simp only [sameO, allO, decide_true, Bool.true_and, decide_eq_false_iff_not]
  intro q
  rw [q k hk] at h; cases h
theorem sameO_yes {f n : Nat} {o p : Nat → OD} (h : ∀ i, i < n → oneO f (o i) (p i) = true) : sameO f n n o p = true := by
  simp only [sameO, allO, decide_true, Bool.true_and, decide_eq_true_eq]
  exact h
/-- a call's row is laid into a block that was made just before, named otherwise -/
theorem wpl_store' {ops : Array Oper} {rest : List Oper} {o : Oper} {a : Act} {w : World} {Q : Exit → Act → World → Prop} {x y : Operand} {c c' : Array Value} {g : Nat}
    (ho : o.op = .store 36 x y) (hx : a.eval x = .pointer (some ⟨g, 0, none⟩)) (hg : g = w.heap.size) (hy : a.eval y = .agg c') (h : c.size = 19) (h' : IsOp c') (hgd : o.guard = none)
    (hk : wpList Try.prog ops Q rest (a.put o.dst undef) (w.alloc (.cells c' 36))) : wpList Try.prog ops Q (o :: rest) a (w.alloc (.cells c 36)) := by
  subst hg
  exact wpl_store ho hx hy h h' hgd hk
set_option maxRecDepth 100000 in
set_option maxHeartbeats 4000000 in
theorem eqf_any (f n m : Nat) (o p : Nat → OD) (A : Option Addr) (ca : Nat) (B : Option Addr) (cb : Nat) (w : World) (hA : RowO w f A n o) (hB : RowO w f B m p) :
    Calls Try.prog 23 #[.slice A n ca, .slice B m cb, .func (.func 24) #[] #[]] w fun x w' => x = .returned (.bool (sameO f n m o p)) ∧ New w w' := by
  have h1 := hA.1
  have h2 := hB.1
  have HA := Lib.hid hA
  have HB := Lib.hid hB
  clear hA hB
  by_cases hnm : n = m
  · subst hnm
    have HN := Lib.hid (fun j (hj : j < n) h => sameO_no (f := f) (o := o) (p := p) j hj h)
    have HY := Lib.hid (fun h => sameO_yes (f := f) (n := n) (o := o) (p := p) h)
    generalize sameO f n n o p = R at *
    go_enter Try.func23, Try.ntmps23
    go_wp2_with fail
    go_loopg [17] n (fun q i wr => ∃ k : Nat, k + q = n ∧ i = .int .i64 k ∧ (∀ j, j < k → oneO f (o j) (p j) = true) ∧ New w wr)
    case atStart => exact ⟨0, by omega, rfl, fun j hj => absurd hj (by omega), New.refl w⟩
    case round =>
      obtain ⟨k, hk, rfl, he, nw⟩ := hrel
      by_cases hkn : k < n
      · obtain ⟨a1, rfl, ca1⟩ := HA.out.2.2 (by omega)
        obtain ⟨a2, rfl, ca2⟩ := HB.out.2.2 (by omega)
        have L1 := Lib.hid ((ca1 k hkn).new nw)
        have L2 := Lib.hid ((ca2 k hkn).new (nw.alloc (.cells (ocs (o k)) 36)))
        have I1 := Lib.hid (ocs_op (o k))
        have I2 := Lib.hid (ocs_op (p k))
        have L3 := Lib.hid ((OpAt.made wr (ocs (o k)) (ocs_op _)).new ((New.refl _).alloc (.cells (ocs (p k)) 36)))
        have L4 := Lib.hid (show OpAt ((wr.alloc (.cells (ocs (o k)) 36)).alloc (.cells (ocs (p k)) 36)) ⟨wr.heap.size + 1, 0, none⟩ (ocs (p k)) from by
          have := OpAt.made (wr.alloc (.cells (ocs (o k)) 36)) (ocs (p k)) (ocs_op _)
          simpa using this)
        have HC := Lib.hid (hone_any f (o k) (p k) ((wr.alloc (.cells (ocs (o k)) 36)).alloc (.cells (ocs (p k)) 36)) ((HA.out.2.1 k hkn).new ((nw.alloc _).alloc _)) ((HB.out.2.1 k hkn).new ((nw.alloc _).alloc _)))
        have hkn' : (k : Int) < n := by omega
        have hkk : (k : Int) ≤ 7000000000000 := by omega
        have NW := Lib.hid ((nw.alloc (.cells (ocs (o k)) 36)).alloc (.cells (ocs (p k)) 36))
        have HE := Lib.hid he
        have HK := Lib.hid (fun (h : oneO f (o k) (p k) = true) j (hj : j < k + 1) => show oneO f (o j) (p j) = true from by
          rcases Nat.lt_or_ge j k with h' | h'
          · exact HE.out j h'
          · obtain rfl : j = k := by omega
            exact h)
        have HM := Lib.hid (fun h => HN.out k hkn h)
        clear ca1 ca2 he nw HE HN HY HA HB
        generalize ocs (o k) = ra at *
        generalize ocs (p k) = rb at *
        generalize oneO f (o k) (p k) = T at *
        cases T
        · have hr := HM.out (by trivial)
          subst hr
          go_wp2_with (first | (go_at_call 24; refine HC.out.mono ?_; rintro e w1 ⟨rfl, n1⟩) | (refine wpl_load rfl rfl L1.out rfl ?_) | (refine wpl_load rfl rfl L2.out rfl ?_) | (refine wpl_load rfl rfl L3.out rfl ?_) | (refine wpl_load rfl rfl L4.out rfl ?_) | (refine wpl_store rfl rfl rfl rfl I1.out rfl ?_) | (refine wpl_store' rfl rfl (by simp) rfl rfl I2.out rfl ?_))
          exact bodyPost_ret (by simp [results, Try.results23, go_sem]) rfl ⟨rfl, NW.out.trans n1⟩
        · go_wp2_with (first | (go_at_call 24; refine HC.out.mono ?_; rintro e w1 ⟨rfl, n1⟩) | (refine wpl_load rfl rfl L1.out rfl ?_) | (refine wpl_load rfl rfl L2.out rfl ?_) | (refine wpl_load rfl rfl L3.out rfl ?_) | (refine wpl_load rfl rfl L4.out rfl ?_) | (refine wpl_store rfl rfl rfl rfl I1.out rfl ?_) | (refine wpl_store' rfl rfl (by simp) rfl rfl I2.out rfl ?_))
          go_roundg (gk - 1)
          case rel => exact ⟨k + 1, by omega, by go_num, HK.out (by trivial), NW.out.trans n1⟩
          case measure => omega
      · obtain rfl : k = n := by omega
        have hr := HY.out he
        subst hr
        clear he
        go_wp2
        go_ret
        exact ⟨rfl, nw⟩
  · have hr := sameO_len (f := f) (o := o) (p := p) hnm
    rw [hr]
    have t : ((n : Int) != (m : Int)) = true := by
      simp only [bne_iff_ne, ne_eq]; omega
    clear hnm hr
    go_enter Try.func23, Try.ntmps23
    go_wp2
    go_ret
    exact ⟨rfl, New.refl w⟩
set_option maxRecDepth 100000 in
set_option maxHeartbeats 1000000 in
theorem hsame_any (f n m : Nat) (o p : Nat → OD) (A : Option Addr) (ca : Nat) (B : Option Addr) (cb : Nat) (w : World) (hA : RowO w f A n o) (hB : RowO w f B m p) :
    Calls Try.prog 10 #[.slice A n ca, .slice B m cb] w fun x w' => x = .returned (.bool (sameO f n m o p)) ∧ New w w' := by
  have HC := Lib.hid (eqf_any f n m o p A ca B cb w hA hB)
  clear hA hB
  generalize sameO f n m o p = R at *
  go_enter Try.func10, Try.ntmps10
  go_wp2_with (go_at_call 23; refine HC.out.mono ?_; rintro e w1 ⟨rfl, n1⟩)
  go_ret
  exact ⟨rfl, n1⟩
end Go.Proofs.Ytplaicdbcfnjbaa
