/- Most: how many calls are under way at one time (the program's). -/
import Derived.Test.YtplaicdbcfnjbaaEqf
namespace Go.Proofs.Ytplaicdbcfnjbaa
open Go.RowKit
set_option linter.unusedVariables false

def undB (s e a : Int) : Bool := decide (s ≤ a) && ((e == -1) || decide (a < e))
def cntU (o : Nat → OD) (a : Int) : Nat → Nat
  | 0 => 0
  | k + 1 => cntU o a k + if undB (o k).s (o k).e a = true then 1 else 0
def mostU (o : Nat → OD) (n : Nat) : Nat → Nat
  | 0 => 0
  | k + 1 => if ((o k).e == -1 || decide ((o k).s < (o k).e)) = true then max (mostU o n k) (cntU o (o k).s n) else mostU o n k
theorem cntU_le (o : Nat → OD) (a : Int) : ∀ k, cntU o a k ≤ k
  | 0 => Nat.le_refl _
  | k + 1 => by have := cntU_le o a k; unfold cntU; split <;> omega
theorem mostU_le (o : Nat → OD) (n : Nat) : ∀ k, mostU o n k ≤ n
  | 0 => Nat.zero_le _
  | k + 1 => by have := mostU_le o n k; have := cntU_le o (o k).s n; unfold mostU; split <;> omega
theorem cntU_yes {o : Nat → OD} {a : Int} {k : Nat} (h : undB (o k).s (o k).e a = true) : cntU o a (k + 1) = cntU o a k + 1 := by
  show cntU o a k + _ = _
  rw [if_pos h]
theorem cntU_no {o : Nat → OD} {a : Int} {k : Nat} (h : undB (o k).s (o k).e a = false) : cntU o a (k + 1) = cntU o a k := by
  show cntU o a k + _ = _
  rw [if_neg (by simp [h]), Nat.add_zero]
theorem max_val {m a b d : Nat} (h : m = max a b) (hd : (a ≤ b ∧ d = b) ∨ (b ≤ a ∧ d = a)) : Value.int .i64 (d : Int) = Value.int .i64 (m : Int) := by
  rw [h, Nat.max_def]
  split <;> (congr 1; omega)
attribute [local irreducible] Go.wpList
set_option maxRecDepth 100000 in
set_option maxHeartbeats 4000000 in
theorem most_any (f n : Nat) (o : Nat → OD) (A : Option Addr) (cap : Nat) (w : World) (hA : RowO w f A n o) :
    Calls Try.prog 18 #[.slice A n cap] w fun x w' => x = .returned (.int .i64 (mostU o n n : Nat)) ∧ New w w' := by
  have h1 := hA.1
  have HA := Lib.hid hA
  clear hA
  go_enter Try.func18, Try.ntmps18
  go_wp2_with fail
  go_loopg [11, 3] n (fun q i m wr => ∃ k : Nat, k + q = n ∧ i = .int .i64 k ∧ m = .int .i64 (mostU o n k : Nat) ∧ New w wr)
  case atStart => exact ⟨0, by omega, rfl, rfl, New.refl w⟩
  case round =>
    obtain ⟨k, hk, rfl, rfl, nw⟩ := hrel
    obtain ⟨wo, rfl⟩ : ∃ wo : World, wo = wr := ⟨_, rfl⟩
    obtain ⟨gq, rfl⟩ : ∃ gq : Nat, gq = gk := ⟨_, rfl⟩
    by_cases hkn : k < n
    · obtain ⟨ad, rfl, ca⟩ := HA.out.2.2 (by omega)
      have L := Lib.hid ((ca k hkn).new nw)
      have CA := Lib.hid ca
      have NW := Lib.hid (nw.alloc (.cells (ocs (o k)) 36))
      have I1 := Lib.hid (ocs_op (o k))
      have BX := Lib.hid (Box.made wo 36 (ocs (o k)))
      have hkn' : (k : Int) < n := by omega
      have hm := mostU_le o n k
      have HM := Lib.hid (show mostU o n (k + 1) = if ((o k).e == -1 || decide ((o k).s < (o k).e)) = true then max (mostU o n k) (cntU o (o k).s n) else mostU o n k from rfl)
      have R17 := Lib.hid (show (ocs (o k))[17]? = some (.int .i64 (o k).s) from rfl)
      have R18 := Lib.hid (show (ocs (o k))[18]? = some (.int .i64 (o k).e) from rfl)
      have hcl := fun j => cntU_le o (o k).s j
      have HCL := Lib.hid hcl
      have HYS := Lib.hid (fun j h => cntU_yes (o := o) (a := (o k).s) (k := j) h)
      have HNO := Lib.hid (fun j h => cntU_no (o := o) (a := (o k).s) (k := j) h)
      clear ca nw hcl
      generalize mostU o n k = mk at *
      generalize ocs (o k) = ra at *
      generalize (o k).s = sa at *
      generalize (o k).e = ea at *
      go_wp2_with (first | (refine wpl_load rfl rfl L.out rfl ?_; clear L) | (refine wpl_store rfl rfl rfl rfl I1.out rfl ?_; clear I1) | fail)
      go_loopg [17, 6] n (fun q i c w2 => ∃ j : Nat, j + q = n ∧ i = .int .i64 j ∧ c = .int .i64 (cntU o sa j : Nat) ∧ New (wo.alloc (.cells ra 36)) w2)
      case atStart => exact ⟨0, by omega, rfl, rfl, New.refl _⟩
      case round =>
        obtain ⟨j, hj, rfl, rfl, n2⟩ := hrel
        have b2 := BX.out.new n2
        have d17 := (b2.cell 17).trans R17.out
        have d18 := (b2.cell 18).trans R18.out
        have hlt := b2.lt
        have hcj := HCL.out j
        have N2 := Lib.hid n2
        clear b2
        by_cases hjn : j < n
        · have L2 := Lib.hid (((CA.out j hjn).new NW.out).new n2)
          have I2 := Lib.hid (ocs_op (o j))
          have e17 : (ocs (o j))[17]? = some (.int .i64 (o j).s) := rfl
          have e18 : (ocs (o j))[18]? = some (.int .i64 (o j).e) := rfl
          have hy := HYS.out j
          have hno := HNO.out j
          have hu : undB (o j).s (o j).e sa = (decide ((o j).s ≤ sa) && (((o j).e == -1) || decide (sa < (o j).e))) := rfl
          have hjn' : (j : Int) < n := by omega
          clear n2
          generalize cntU o sa j = c at *
          generalize undB (o j).s (o j).e sa = U at *
          generalize ocs (o j) = rb at *
          generalize (o j).s = sb at *
          generalize (o j).e = eb at *
          have HU := Lib.hid hu
          have HY := Lib.hid hy
          have HO := Lib.hid hno
          clear hu hy hno
          by_cases t1 : sb ≤ sa
          · by_cases t2 : eb = -1
            · have hU : U = true := by rw [HU.out, decide_eq_true t1, t2]; rfl
              have HC := Lib.hid (HY.out hU)
              clear hU HU HY HO
              have t2' : (eb == -1) = true := by simpa using t2
              clear t2
              go_wp2_with (first | (refine wpl_load rfl rfl L2.out rfl ?_; clear L2) | (refine wpl_store rfl rfl rfl rfl I2.out rfl ?_; clear I2) | fail)
              go_roundg (gk - 1)
              case rel => exact ⟨j + 1, by omega, by go_num, by rw [HC.out]; go_num, N2.out.alloc _⟩
              case measure => omega
            · have t2' : (eb == -1) = false := by simpa using t2
              clear t2
              by_cases t3 : sa < eb
              · have hU : U = true := by rw [HU.out, decide_eq_true t1, t2', decide_eq_true t3]; rfl
                have HC := Lib.hid (HY.out hU)
                clear hU HU HY HO
                go_wp2_with (first | (refine wpl_load rfl rfl L2.out rfl ?_; clear L2) | (refine wpl_store rfl rfl rfl rfl I2.out rfl ?_; clear I2) | fail)
                go_roundg (gk - 1)
                case rel => exact ⟨j + 1, by omega, by go_num, by rw [HC.out]; go_num, N2.out.alloc _⟩
                case measure => omega
              · have hU : U = false := by rw [HU.out, decide_eq_true t1, t2', decide_eq_false t3]; rfl
                have t3' : decide (sa < eb) = false := decide_eq_false t3
                clear t3
                have HC := Lib.hid (HO.out hU)
                clear hU HU HY HO
                go_wp2_with (first | (refine wpl_load rfl rfl L2.out rfl ?_; clear L2) | (refine wpl_store rfl rfl rfl rfl I2.out rfl ?_; clear I2) | fail)
                go_roundg (gk - 1)
                case rel => exact ⟨j + 1, by omega, by go_num, by rw [HC.out], N2.out.alloc _⟩
                case measure => omega
          · have hU : U = false := by rw [HU.out, decide_eq_false t1]; rfl
            have t1' : decide (sb ≤ sa) = false := decide_eq_false t1
            clear t1
            have HC := Lib.hid (HO.out hU)
            clear hU HU HY HO
            go_wp2_with (first | (refine wpl_load rfl rfl L2.out rfl ?_; clear L2) | (refine wpl_store rfl rfl rfl rfl I2.out rfl ?_; clear I2) | fail)
            go_roundg (gk - 1)
            case rel => exact ⟨j + 1, by omega, by go_num, by rw [HC.out], N2.out.alloc _⟩
            case measure => omega
        · obtain rfl : n = j := by omega
          have HQ := Lib.hid (NW.out.trans n2)
          have HK1 := Lib.hid (fun (h : (ea == -1 || decide (sa < ea)) = true) => show mostU o n (k + 1) = max mk (cntU o sa n) from by rw [HM.out, if_pos h])
          have HK0 := Lib.hid (fun (h : (ea == -1 || decide (sa < ea)) = false) => show mostU o n (k + 1) = mk from by rw [HM.out, if_neg (by rw [h]; decide)])
          clear n2 HM
          generalize cntU o sa n = c at *
          by_cases t2 : ea = -1
          · have t2' : (ea == -1) = true := by simpa using t2
            have HK := Lib.hid (HK1.out (by rw [t2']; rfl))
            clear t2 HK1 HK0
            go_wp2
            all_goals
              go_roundg (gq - 1)
              case rel => exact ⟨k + 1, by omega, by go_num, max_val HK.out (by omega), HQ.out⟩
              case measure => omega
          · have t2' : (ea == -1) = false := by simpa using t2
            clear t2
            by_cases t3 : sa < ea
            · have HK := Lib.hid (HK1.out (by rw [t2', decide_eq_true t3]; rfl))
              clear HK1 HK0
              go_wp2
              all_goals
                go_roundg (gq - 1)
                case rel => exact ⟨k + 1, by omega, by go_num, max_val HK.out (by omega), HQ.out⟩
                case measure => omega
            · have HK := Lib.hid (HK0.out (by rw [t2', decide_eq_false t3]; rfl))
              have t3' : decide (sa < ea) = false := decide_eq_false t3
              clear t3 HK1 HK0
              go_wp2
              go_roundg (gq - 1)
              case rel => exact ⟨k + 1, by omega, by go_num, by rw [HK.out], HQ.out⟩
              case measure => omega
    · obtain rfl : k = n := by omega
      go_wp2
      go_ret
      exact ⟨rfl, nw⟩
end Go.Proofs.Ytplaicdbcfnjbaa
