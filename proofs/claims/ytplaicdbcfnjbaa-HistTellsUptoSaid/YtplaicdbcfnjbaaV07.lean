/- Equality of two rows of calls: slices.EqualFunc at the closure, and hist.Same. -/
import Derived.Test.YtplaicdbcfnjbaaV06
set_option linter.unusedSimpArgs false
set_option linter.unusedVariables false
namespace Go.Proofs.Ytplaicdbcfnjbaa
open Go.RowKit
set_option linter.unusedVariables false

/-- a row of calls -/
def RowO (w : World) (f : Nat) (A : Option Addr) (n : Nat) (o : Nat → OD) : Prop :=
  n ≤ 7000000000000 ∧ (∀ i, i < n → IsO w f (o i)) ∧ (0 < n → ∃ ad : Addr, A = some ad ∧ ∀ i, i < n → OpAt w (ad.add (i * 19)) (ocs (o i)))
theorem RowO.new {w w' : World} {f n : Nat} {A : Option Addr} {o : Nat → OD} (h : RowO w f A n o) (m : New w w') : RowO w' f A n o := by
  refine ⟨h.1, fun i hi => (h.2.1 i hi).new m, fun h0 => ?_⟩
  obtain ⟨ad, e, hc⟩ := h.2.2 h0
  exact ⟨ad, e, fun i hi => (hc i hi).new m⟩
/-- all the same -/
def allO (f n : Nat) (o p : Nat → OD) : Bool := decide (∀ i, i < n → oneO f (o i) (p i) = true)
def sameO (f n m : Nat) (o p : Nat → OD) : Bool := decide (n = m) && allO f n o p
theorem sameO_len {f n m : Nat} {o p : Nat → OD} (h : n ≠ m) : sameO f n m o p = false := by simp [sameO, h]
theorem sameO_no {f n : Nat} {o p : Nat → OD} (k : Nat) (hk : k < n) (h : oneO f (o k) (p k) = false) : sameO f n n o p = false := by
  simp only [sameO, allO, decide_true, Bool.true_and, decide_eq_false_iff_not]
  intro q
  rw [q k hk] at h; cases h
theorem sameO_yes {f n : Nat} {o p : Nat → OD} (h : ∀ i, i < n → oneO f (o i) (p i) = true) : sameO f n n o p = true := by
  simp only [sameO, allO, decide_true, Bool.true_and, decide_eq_true_eq]
  exact h
/-- a call's row is laid into a block that was made just before, named otherwise -/
theorem wpl_store' {ops : Array Oper} {rest : List Oper} {o : Oper} {a : Act} {w : World} {Q : Exit → Act → World → Prop} {x y : Operand} {c c' : Array Value} {g : Nat}
    (ho : o.op = .store 36 x y) (hx : a.eval x = .pointer (some ⟨g, 0, none⟩)) (hg : g = w.heap.size) (hy : a.eval y = .agg c') (h : c.size = 19) (h' : IsOp c') (hgd : o.guard = none)
    (hk : wpList Try.prog ops Q rest (a.put o.dst undef) (w.alloc (.cells c' 36))) : wpList Try.prog ops Q (o :: rest) a (w.alloc (.cells c 36)) := by
  subst hg
  exact wpl_store ho hx hy h h' hgd hk
set_option maxRecDepth 100000 in
set_option maxHeartbeats 4000000 in
theorem eqf_any (f n m : Nat) (o p : Nat → OD) (A : Option Addr) (ca : Nat) (B : Option Addr) (cb : Nat) (w : World) (hA : RowO w f A n o) (hB : RowO w f B m p) :
    Calls Try.prog 23 #[.slice A n ca, .slice B m cb, .func (.func 24) #[] #[]] w fun x w' => x = .returned (.bool (sameO f n m o p)) ∧ New w w' := by
  have h1 := hA.1
  have h2 := hB.1
  have HA := Lib.hid hA
  have HB := Lib.hid hB
  clear hA hB
  by_cases hnm : n = m
  · subst hnm
    have HN := Lib.hid (fun j (hj : j < n) h => sameO_no (f := f) (o := o) (p := p) j hj h)
    have HY := Lib.hid (fun h => sameO_yes (f := f) (n := n) (o := o) (p := p) h)
    generalize sameO f n n o p = R at *
    go_enter Try.func23, Try.ntmps23
    go_wp2_with fail
    go_loopg [17] n (fun q i wr => ∃ k : Nat, k + q = n ∧ i = .int .i64 k ∧ (∀ j, j < k → oneO f (o j) (p j) = true) ∧ New w wr)
    case atStart => exact ⟨0, by omega, rfl, fun j hj => absurd hj (by omega), New.refl w⟩
    case round =>
      obtain ⟨k, hk, rfl, he, nw⟩ := hrel
      by_cases hkn : k < n
      · obtain ⟨a1, rfl, ca1⟩ := HA.out.2.2 (by omega)
        obtain ⟨a2, rfl, ca2⟩ := HB.out.2.2 (by omega)
        have L1 := Lib.hid ((ca1 k hkn).new nw)
        have L2 := Lib.hid ((ca2 k hkn).new (nw.alloc (.cells (ocs (o k)) 36)))
        have I1 := Lib.hid (ocs_op (o k))
        have I2 := Lib.hid (ocs_op (p k))
        have L3 := Lib.hid ((OpAt.made wr (ocs (o k)) (ocs_op _)).new ((New.refl _).alloc (.cells (ocs (p k)) 36)))
        have L4 := Lib.hid (show OpAt ((wr.alloc (.cells (ocs (o k)) 36)).alloc (.cells (ocs (p k)) 36)) ⟨wr.heap.size + 1, 0, none⟩ (ocs (p k)) from by
          have := OpAt.made (wr.alloc (.cells (ocs (o k)) 36)) (ocs (p k)) (ocs_op _)
          simpa using this)
        have HC := Lib.hid (hone_any f (o k) (p k) ((wr.alloc (.cells (ocs (o k)) 36)).alloc (.cells (ocs (p k)) 36)) ((HA.out.2.1 k hkn).new ((nw.alloc _).alloc _)) ((HB.out.2.1 k hkn).new ((nw.alloc _).alloc _)))
        have hkn' : (k : Int) < n := by omega
        have hkk : (k : Int) ≤ 7000000000000 := by omega
        have NW := Lib.hid ((nw.alloc (.cells (ocs (o k)) 36)).alloc (.cells (ocs (p k)) 36))
        have HE := Lib.hid he
        have HK := Lib.hid (fun (h : oneO f (o k) (p k) = true) j (hj : j < k + 1) => show oneO f (o j) (p j) = true from by
          rcases Nat.lt_or_ge j k with h' | h'
          · exact HE.out j h'
          · obtain rfl : j = k := by omega
            exact h)
        have HM := Lib.hid (fun h => HN.out k hkn h)
        clear ca1 ca2 he nw HE HN HY HA HB
        generalize ocs (o k) = ra at *
        generalize ocs (p k) = rb at *
        generalize oneO f (o k) (p k) = T at *
        cases T
        · have hr := HM.out (by trivial)
          subst hr
          go_wp2_with (first | (go_at_call 24; refine HC.out.mono ?_; rintro e w1 ⟨rfl, n1⟩) | (refine wpl_load rfl rfl L1.out rfl ?_) | (refine wpl_load rfl rfl L2.out rfl ?_) | (refine wpl_load rfl rfl L3.out rfl ?_) | (refine wpl_load rfl rfl L4.out rfl ?_) | (refine wpl_store rfl rfl rfl rfl I1.out rfl ?_) | (refine wpl_store' rfl rfl (by simp) rfl rfl I2.out rfl ?_))
          exact bodyPost_ret (by simp [results, Try.results23, go_sem]) rfl ⟨rfl, NW.out.trans n1⟩
        · go_wp2_with (first | (go_at_call 24; refine HC.out.mono ?_; rintro e w1 ⟨rfl, n1⟩) | (refine wpl_load rfl rfl L1.out rfl ?_) | (refine wpl_load rfl rfl L2.out rfl ?_) | (refine wpl_load rfl rfl L3.out rfl ?_) | (refine wpl_load rfl rfl L4.out rfl ?_) | (refine wpl_store rfl rfl rfl rfl I1.out rfl ?_) | (refine wpl_store' rfl rfl (by simp) rfl rfl I2.out rfl ?_))
          go_roundg (gk - 1)
          case rel => exact ⟨k + 1, by omega, by go_num, HK.out (by trivial), NW.out.trans n1⟩
          case measure => omega
      · obtain rfl : k = n := by omega
        have hr := HY.out he
        subst hr
        clear he
        go_wp2
        go_ret
        exact ⟨rfl, nw⟩
  · have hr := sameO_len (f := f) (o := o) (p := p) hnm
    rw [hr]
    have t : ((n : Int) != (m : Int)) = true := by
      simp only [bne_iff_ne, ne_eq]; omega
    clear hnm hr
    go_enter Try.func23, Try.ntmps23
    go_wp2
    go_ret
    exact ⟨rfl, New.refl w⟩
set_option maxRecDepth 100000 in
set_option maxHeartbeats 1000000 in
theorem hsame_any (f n m : Nat) (o p : Nat → OD) (A : Option Addr) (ca : Nat) (B : Option Addr) (cb : Nat) (w : World) (hA : RowO w f A n o) (hB : RowO w f B m p) :
    Calls Try.prog 10 #[.slice A n ca, .slice B m cb] w fun x w' => x = .returned (.bool (sameO f n m o p)) ∧ New w w' := by
  have HC := Lib.hid (eqf_any f n m o p A ca B cb w hA hB)
  clear hA hB
  generalize sameO f n m o p = R at *
  go_enter Try.func10, Try.ntmps10
  go_wp2_with (go_at_call 23; refine HC.out.mono ?_; rintro e w1 ⟨rfl, n1⟩)
  go_ret
  exact ⟨rfl, n1⟩
end Go.Proofs.Ytplaicdbcfnjbaa
/- Most: how many calls are under way at one time (the program's). -/
namespace Go.Proofs.Ytplaicdbcfnjbaa
open Go.RowKit
set_option linter.unusedVariables false

def undB (s e a : Int) : Bool := decide (s ≤ a) && ((e == -1) || decide (a < e))
def cntU (o : Nat → OD) (a : Int) : Nat → Nat
  | 0 => 0
  | k + 1 => cntU o a k + if undB (o k).s (o k).e a = true then 1 else 0
def mostU (o : Nat → OD) (n : Nat) : Nat → Nat
  | 0 => 0
  | k + 1 => if ((o k).e == -1 || decide ((o k).s < (o k).e)) = true then max (mostU o n k) (cntU o (o k).s n) else mostU o n k
theorem cntU_le (o : Nat → OD) (a : Int) : ∀ k, cntU o a k ≤ k
  | 0 => Nat.le_refl _
  | k + 1 => by have := cntU_le o a k; unfold cntU; split <;> omega
theorem mostU_le (o : Nat → OD) (n : Nat) : ∀ k, mostU o n k ≤ n
  | 0 => Nat.zero_le _
  | k + 1 => by have := mostU_le o n k; have := cntU_le o (o k).s n; unfold mostU; split <;> omega
theorem cntU_yes {o : Nat → OD} {a : Int} {k : Nat} (h : undB (o k).s (o k).e a = true) : cntU o a (k + 1) = cntU o a k + 1 := by
  show cntU o a k + _ = _
  rw [if_pos h]
theorem cntU_no {o : Nat → OD} {a : Int} {k : Nat} (h : undB (o k).s (o k).e a = false) : cntU o a (k + 1) = cntU o a k := by
  show cntU o a k + _ = _
  rw [if_neg (by simp [h]), Nat.add_zero]
theorem max_val {m a b d : Nat} (h : m = max a b) (hd : (a ≤ b ∧ d = b) ∨ (b ≤ a ∧ d = a)) : Value.int .i64 (d : Int) = Value.int .i64 (m : Int) := by
  rw [h, Nat.max_def]
  split <;> (congr 1; omega)
attribute [local irreducible] Go.wpList
set_option maxRecDepth 100000 in
set_option maxHeartbeats 4000000 in
theorem most_any (f n : Nat) (o : Nat → OD) (A : Option Addr) (cap : Nat) (w : World) (hA : RowO w f A n o) :
    Calls Try.prog 18 #[.slice A n cap] w fun x w' => x = .returned (.int .i64 (mostU o n n : Nat)) ∧ New w w' := by
  have h1 := hA.1
  have HA := Lib.hid hA
  clear hA
  go_enter Try.func18, Try.ntmps18
  go_wp2_with fail
  go_loopg [11, 3] n (fun q i m wr => ∃ k : Nat, k + q = n ∧ i = .int .i64 k ∧ m = .int .i64 (mostU o n k : Nat) ∧ New w wr)
  case atStart => exact ⟨0, by omega, rfl, rfl, New.refl w⟩
  case round =>
    obtain ⟨k, hk, rfl, rfl, nw⟩ := hrel
    obtain ⟨wo, rfl⟩ : ∃ wo : World, wo = wr := ⟨_, rfl⟩
    obtain ⟨gq, rfl⟩ : ∃ gq : Nat, gq = gk := ⟨_, rfl⟩
    by_cases hkn : k < n
    · obtain ⟨ad, rfl, ca⟩ := HA.out.2.2 (by omega)
      have L := Lib.hid ((ca k hkn).new nw)
      have CA := Lib.hid ca
      have NW := Lib.hid (nw.alloc (.cells (ocs (o k)) 36))
      have I1 := Lib.hid (ocs_op (o k))
      have BX := Lib.hid (Box.made wo 36 (ocs (o k)))
      have hkn' : (k : Int) < n := by omega
      have hm := mostU_le o n k
      have HM := Lib.hid (show mostU o n (k + 1) = if ((o k).e == -1 || decide ((o k).s < (o k).e)) = true then max (mostU o n k) (cntU o (o k).s n) else mostU o n k from rfl)
      have R17 := Lib.hid (show (ocs (o k))[17]? = some (.int .i64 (o k).s) from rfl)
      have R18 := Lib.hid (show (ocs (o k))[18]? = some (.int .i64 (o k).e) from rfl)
      have hcl := fun j => cntU_le o (o k).s j
      have HCL := Lib.hid hcl
      have HYS := Lib.hid (fun j h => cntU_yes (o := o) (a := (o k).s) (k := j) h)
      have HNO := Lib.hid (fun j h => cntU_no (o := o) (a := (o k).s) (k := j) h)
      clear ca nw hcl
      generalize mostU o n k = mk at *
      generalize ocs (o k) = ra at *
      generalize (o k).s = sa at *
      generalize (o k).e = ea at *
      go_wp2_with (first | (refine wpl_load rfl rfl L.out rfl ?_; clear L) | (refine wpl_store rfl rfl rfl rfl I1.out rfl ?_; clear I1) | fail)
      go_loopg [17, 6] n (fun q i c w2 => ∃ j : Nat, j + q = n ∧ i = .int .i64 j ∧ c = .int .i64 (cntU o sa j : Nat) ∧ New (wo.alloc (.cells ra 36)) w2)
      case atStart => exact ⟨0, by omega, rfl, rfl, New.refl _⟩
      case round =>
        obtain ⟨j, hj, rfl, rfl, n2⟩ := hrel
        have b2 := BX.out.new n2
        have d17 := (b2.cell 17).trans R17.out
        have d18 := (b2.cell 18).trans R18.out
        have hlt := b2.lt
        have hcj := HCL.out j
        have N2 := Lib.hid n2
        clear b2
        by_cases hjn : j < n
        · have L2 := Lib.hid (((CA.out j hjn).new NW.out).new n2)
          have I2 := Lib.hid (ocs_op (o j))
          have e17 : (ocs (o j))[17]? = some (.int .i64 (o j).s) := rfl
          have e18 : (ocs (o j))[18]? = some (.int .i64 (o j).e) := rfl
          have hy := HYS.out j
          have hno := HNO.out j
          have hu : undB (o j).s (o j).e sa = (decide ((o j).s ≤ sa) && (((o j).e == -1) || decide (sa < (o j).e))) := rfl
          have hjn' : (j : Int) < n := by omega
          clear n2
          generalize cntU o sa j = c at *
          generalize undB (o j).s (o j).e sa = U at *
          generalize ocs (o j) = rb at *
          generalize (o j).s = sb at *
          generalize (o j).e = eb at *
          have HU := Lib.hid hu
          have HY := Lib.hid hy
          have HO := Lib.hid hno
          clear hu hy hno
          by_cases t1 : sb ≤ sa
          · by_cases t2 : eb = -1
            · have hU : U = true := by rw [HU.out, decide_eq_true t1, t2]; rfl
              have HC := Lib.hid (HY.out hU)
              clear hU HU HY HO
              have t2' : (eb == -1) = true := by simpa using t2
              clear t2
              go_wp2_with (first | (refine wpl_load rfl rfl L2.out rfl ?_; clear L2) | (refine wpl_store rfl rfl rfl rfl I2.out rfl ?_; clear I2) | fail)
              go_roundg (gk - 1)
              case rel => exact ⟨j + 1, by omega, by go_num, by rw [HC.out]; go_num, N2.out.alloc _⟩
              case measure => omega
            · have t2' : (eb == -1) = false := by simpa using t2
              clear t2
              by_cases t3 : sa < eb
              · have hU : U = true := by rw [HU.out, decide_eq_true t1, t2', decide_eq_true t3]; rfl
                have HC := Lib.hid (HY.out hU)
                clear hU HU HY HO
                go_wp2_with (first | (refine wpl_load rfl rfl L2.out rfl ?_; clear L2) | (refine wpl_store rfl rfl rfl rfl I2.out rfl ?_; clear I2) | fail)
                go_roundg (gk - 1)
                case rel => exact ⟨j + 1, by omega, by go_num, by rw [HC.out]; go_num, N2.out.alloc _⟩
                case measure => omega
              · have hU : U = false := by rw [HU.out, decide_eq_true t1, t2', decide_eq_false t3]; rfl
                have t3' : decide (sa < eb) = false := decide_eq_false t3
                clear t3
                have HC := Lib.hid (HO.out hU)
                clear hU HU HY HO
                go_wp2_with (first | (refine wpl_load rfl rfl L2.out rfl ?_; clear L2) | (refine wpl_store rfl rfl rfl rfl I2.out rfl ?_; clear I2) | fail)
                go_roundg (gk - 1)
                case rel => exact ⟨j + 1, by omega, by go_num, by rw [HC.out], N2.out.alloc _⟩
                case measure => omega
          · have hU : U = false := by rw [HU.out, decide_eq_false t1]; rfl
            have t1' : decide (sb ≤ sa) = false := decide_eq_false t1
            clear t1
            have HC := Lib.hid (HO.out hU)
            clear hU HU HY HO
            go_wp2_with (first | (refine wpl_load rfl rfl L2.out rfl ?_; clear L2) | (refine wpl_store rfl rfl rfl rfl I2.out rfl ?_; clear I2) | fail)
            go_roundg (gk - 1)
            case rel => exact ⟨j + 1, by omega, by go_num, by rw [HC.out], N2.out.alloc _⟩
            case measure => omega
        · obtain rfl : n = j := by omega
          have HQ := Lib.hid (NW.out.trans n2)
          have HK1 := Lib.hid (fun (h : (ea == -1 || decide (sa < ea)) = true) => show mostU o n (k + 1) = max mk (cntU o sa n) from by rw [HM.out, if_pos h])
          have HK0 := Lib.hid (fun (h : (ea == -1 || decide (sa < ea)) = false) => show mostU o n (k + 1) = mk from by rw [HM.out, if_neg (by rw [h]; decide)])
          clear n2 HM
          generalize cntU o sa n = c at *
          by_cases t2 : ea = -1
          · have t2' : (ea == -1) = true := by simpa using t2
            have HK := Lib.hid (HK1.out (by rw [t2']; rfl))
            clear t2 HK1 HK0
            go_wp2
            all_goals
              go_roundg (gq - 1)
              case rel => exact ⟨k + 1, by omega, by go_num, max_val HK.out (by omega), HQ.out⟩
              case measure => omega
          · have t2' : (ea == -1) = false := by simpa using t2
            clear t2
            by_cases t3 : sa < ea
            · have HK := Lib.hid (HK1.out (by rw [t2', decide_eq_true t3]; rfl))
              clear HK1 HK0
              go_wp2
              all_goals
                go_roundg (gq - 1)
                case rel => exact ⟨k + 1, by omega, by go_num, max_val HK.out (by omega), HQ.out⟩
                case measure => omega
            · have HK := Lib.hid (HK0.out (by rw [t2', decide_eq_false t3]; rfl))
              have t3' : decide (sa < ea) = false := decide_eq_false t3
              clear t3 HK1 HK0
              go_wp2
              go_roundg (gq - 1)
              case rel => exact ⟨k + 1, by omega, by go_num, by rw [HK.out], HQ.out⟩
              case measure => omega
    · obtain rfl : k = n := by omega
      go_wp2
      go_ret
      exact ⟨rfl, nw⟩
end Go.Proofs.Ytplaicdbcfnjbaa
/- The reference's test whether a call is under way at a time, and of its times; whether two clash. -/
namespace Go.Proofs.Ytplaicdbcfnjbaa
open Go.RowKit
set_option linter.unusedVariables false
attribute [local irreducible] Go.wpList
set_option maxRecDepth 100000 in
set_option maxHeartbeats 1000000 in
theorem under_any (ra : Array Value) (s e t : Int) (w : World) (h1 : ra[17]? = some (.int .i64 s)) (h2 : ra[18]? = some (.int .i64 e)) :
    Calls Try.prog 38 #[.agg ra, .int .i64 t] w fun x w' => x = .returned (.bool (undB s e t)) ∧ New w w' := by
  have hu : undB s e t = (decide (s ≤ t) && ((e == -1) || decide (t < e))) := rfl
  have HW := Lib.hid (show New w (w.alloc (.cells ra 36)) from (New.refl w).alloc _)
  have HU := Lib.hid hu
  clear hu
  generalize undB s e t = U at *
  cases t1 : decide (s ≤ t)
  · have hU : U = false := by rw [HU.out, t1]; rfl
    subst hU
    go_enter Try.func38, Try.ntmps38
    go_wp2
    go_ret
    exact ⟨rfl, HW.out⟩
  · cases t2 : (e == -1)
    · cases t3 : decide (t < e)
      · have hU : U = false := by rw [HU.out, t1, t2, t3]; rfl
        subst hU
        go_enter Try.func38, Try.ntmps38
        go_wp2
        go_ret
        exact ⟨rfl, HW.out⟩
      · have hU : U = true := by rw [HU.out, t1, t2, t3]; rfl
        subst hU
        go_enter Try.func38, Try.ntmps38
        go_wp2
        go_ret
        exact ⟨rfl, HW.out⟩
    · have hU : U = true := by rw [HU.out, t1, t2]; rfl
      subst hU
      go_enter Try.func38, Try.ntmps38
      go_wp2
      go_ret
      exact ⟨rfl, HW.out⟩
def rngB (s e : Int) : Bool := decide (0 ≤ s) && ((e == -1) || decide (s < e))
set_option maxRecDepth 100000 in
set_option maxHeartbeats 1000000 in
theorem ranged_any (ra : Array Value) (s e : Int) (w : World) (h1 : ra[17]? = some (.int .i64 s)) (h2 : ra[18]? = some (.int .i64 e)) :
    Calls Try.prog 29 #[.agg ra] w fun x w' => x = .returned (.bool (rngB s e)) ∧ New w w' := by
  have hu : rngB s e = (decide (0 ≤ s) && ((e == -1) || decide (s < e))) := rfl
  have HW := Lib.hid (show New w (w.alloc (.cells ra 36)) from (New.refl w).alloc _)
  have HU := Lib.hid hu
  clear hu
  generalize rngB s e = U at *
  cases t1 : decide (0 ≤ s)
  · have hU : U = false := by rw [HU.out, t1]; rfl
    subst hU
    go_enter Try.func29, Try.ntmps29
    go_wp2
    go_ret
    exact ⟨rfl, HW.out⟩
  · cases t2 : (e == -1)
    · cases t3 : decide (s < e)
      · have hU : U = false := by rw [HU.out, t1, t2, t3]; rfl
        subst hU
        go_enter Try.func29, Try.ntmps29
        go_wp2
        go_ret
        exact ⟨rfl, HW.out⟩
      · have hU : U = true := by rw [HU.out, t1, t2, t3]; rfl
        subst hU
        go_enter Try.func29, Try.ntmps29
        go_wp2
        go_ret
        exact ⟨rfl, HW.out⟩
    · have hU : U = true := by rw [HU.out, t1, t2]; rfl
      subst hU
      go_enter Try.func29, Try.ntmps29
      go_wp2
      go_ret
      exact ⟨rfl, HW.out⟩
def clashB (s e s' e' : Int) : Bool := (s == s') || (e == s') || (s == e') || ((e == e') && (e != -1))
set_option maxRecDepth 100000 in
set_option maxHeartbeats 1000000 in
theorem clash_any (ra rb : Array Value) (s e s' e' : Int) (w : World) (h1 : ra[17]? = some (.int .i64 s)) (h2 : ra[18]? = some (.int .i64 e)) (h3 : rb[17]? = some (.int .i64 s')) (h4 : rb[18]? = some (.int .i64 e')) :
    Calls Try.prog 33 #[.agg ra, .agg rb] w fun x w' => x = .returned (.bool (clashB s e s' e')) ∧ New w w' := by
  have hu : clashB s e s' e' = ((s == s') || (e == s') || (s == e') || ((e == e') && (e != -1))) := rfl
  have HW := Lib.hid (show New w ((w.alloc (.cells ra 36)).alloc (.cells rb 36)) from ((New.refl w).alloc _).alloc _)
  have HU := Lib.hid hu
  clear hu
  generalize clashB s e s' e' = U at *
  cases t1 : (s == s')
  · cases t2 : (e == s')
    · cases t3 : (s == e')
      · cases t4 : (e == e')
        · have hU : U = false := by rw [HU.out, t1, t2, t3, t4]; rfl
          subst hU
          go_enter Try.func33, Try.ntmps33
          go_wp2
          go_ret
          exact ⟨rfl, HW.out⟩
        · cases t5 : (e != -1)
          all_goals
            have hU := HU.out
            rw [t1, t2, t3, t4, t5] at hU
            simp only [Bool.or_false, Bool.false_or, Bool.and_true, Bool.and_false, Bool.true_and] at hU
            subst hU
            go_enter Try.func33, Try.ntmps33
            go_wp2
            go_ret
            exact ⟨rfl, HW.out⟩
      · have hU : U = true := by rw [HU.out, t1, t2, t3]; rfl
        subst hU
        go_enter Try.func33, Try.ntmps33
        go_wp2
        go_ret
        exact ⟨rfl, HW.out⟩
    · have hU : U = true := by rw [HU.out, t1, t2]; rfl
      subst hU
      go_enter Try.func33, Try.ntmps33
      go_wp2
      go_ret
      exact ⟨rfl, HW.out⟩
  · have hU : U = true := by rw [HU.out, t1]; rfl
    subst hU
    go_enter Try.func33, Try.ntmps33
    go_wp2
    go_ret
    exact ⟨rfl, HW.out⟩
end Go.Proofs.Ytplaicdbcfnjbaa
