/- Loads counted over chosen calls, in numbers: what is added is the same however it is parted. -/
import Derived.Test.YtplejooihfhpdaaOf
import Derived.Test.YtplejooihfhpdaaKind
namespace Go.Proofs.Ytplejooihfhpdaa
open Go.RowKit
set_option linter.unusedVariables false

theorem Ld.ext' {a b : Ld} (h1 : a.c = b.c) (h2 : a.e = b.e) (h3 : a.n = b.n) (h4 : a.l = b.l) : a = b := by
  cases a; cases b; simp_all
/-- two loads together -/
def pl (a b : Ld) : Ld := ⟨a.c + b.c, a.e + b.e, a.n + b.n, max a.l b.l⟩
def ld0 : Ld := ⟨0, 0, 0, 0⟩
theorem pl_comm (a b : Ld) : pl a b = pl b a := Ld.ext' (Int.add_comm _ _) (Int.add_comm _ _) (Int.add_comm _ _) (by simp only [pl]; omega)
theorem pl_assoc (a b c : Ld) : pl (pl a b) c = pl a (pl b c) := Ld.ext' (Int.add_assoc _ _ _) (Int.add_assoc _ _ _) (Int.add_assoc _ _ _) (by simp only [pl]; omega)
theorem pl_right (a b c : Ld) : pl (pl a b) c = pl (pl a c) b := by rw [pl_assoc, pl_comm b c, ← pl_assoc]
/-- one call's load -/
def oneL (z : Nm) : Ld := if z.to = -1 then ⟨1, 0, 0, 0⟩ else ⟨1, if z.er = 0 then 0 else 1, 1, las z⟩
/-- the load of those of the first n that are chosen -/
def accL (z : Nat → Nm) (P : Nat → Bool) : Nat → Ld
  | 0 => ld0
  | n + 1 => if P n = true then pl (accL z P n) (oneL (z n)) else accL z P n
theorem accL_yes {z : Nat → Nm} {P : Nat → Bool} {n : Nat} (h : P n = true) : accL z P (n + 1) = pl (accL z P n) (oneL (z n)) := by show (if _ then _ else _) = _; rw [if_pos h]
theorem accL_no {z : Nat → Nm} {P : Nat → Bool} {n : Nat} (h : P n = false) : accL z P (n + 1) = accL z P n := by show (if _ then _ else _) = _; rw [if_neg (by simp [h])]
/-- within bounds -/
def Lin (a : Ld) (k : Int) : Prop := (0 ≤ a.c ∧ a.c ≤ k) ∧ (0 ≤ a.e ∧ a.e ≤ k) ∧ (0 ≤ a.n ∧ a.n ≤ k) ∧ (0 ≤ a.l ∧ a.l ≤ 1152921504606846976)
theorem lin_one (z : Nm) : Lin (oneL z) 1 := by
  have b := lasI_bd z.fr z.to
  have hl : las z = lasI z.fr z.to := rfl
  unfold oneL Lin
  split
  · simp
  · refine ⟨?_, ?_, ?_, ?_⟩ <;> simp only []
    · omega
    · split <;> omega
    · omega
    · omega
theorem lin_pl {a b : Ld} {i j k : Int} (h : Lin a i) (g : Lin b j) (hk : i + j ≤ k) : Lin (pl a b) k := by
  obtain ⟨⟨a1, a2⟩, ⟨a3, a4⟩, ⟨a5, a6⟩, a7, a8⟩ := h
  obtain ⟨⟨b1, b2⟩, ⟨b3, b4⟩, ⟨b5, b6⟩, b7, b8⟩ := g
  unfold pl Lin
  simp only []
  refine ⟨⟨?_, ?_⟩, ⟨?_, ?_⟩, ⟨?_, ?_⟩, ?_, ?_⟩ <;> omega
theorem lin_mono {a : Ld} {i k : Int} (h : Lin a i) (hk : i ≤ k) : Lin a k := by
  obtain ⟨⟨a1, a2⟩, ⟨a3, a4⟩, ⟨a5, a6⟩, a7, a8⟩ := h
  refine ⟨⟨?_, ?_⟩, ⟨?_, ?_⟩, ⟨?_, ?_⟩, ?_, ?_⟩ <;> omega
theorem lin_zero : Lin ld0 0 := by unfold Lin ld0; simp
theorem lin_acc (z : Nat → Nm) (P : Nat → Bool) : ∀ n : Nat, Lin (accL z P n) n
  | 0 => lin_zero
  | n + 1 => by
    have ih := lin_acc z P n
    by_cases h : P n = true
    · rw [accL_yes h]; exact lin_pl ih (lin_one _) (by omega)
    · rw [accL_no (by simpa using h)]; exact lin_mono ih (by omega)
theorem lin_ok {a : Ld} {k : Int} (h : Lin a k) (hk : k ≤ 1000000) : a.ok := by
  obtain ⟨⟨a1, a2⟩, ⟨a3, a4⟩, ⟨a5, a6⟩, a7, a8⟩ := h
  refine ⟨⟨?_, ?_⟩, ⟨?_, ?_⟩, ⟨?_, ?_⟩, ?_, ?_⟩ <;> omega
/-- the sum of two in the row's words -/
theorem sum_two {a b : Ld} {i j : Int} (h : Lin a i) (g : Lin b j) (hi : i ≤ 1000000) (hj : j ≤ 1000000) : sumL (fun k => if k = 0 then a else b) 2 = pl a b := by
  obtain ⟨⟨a1, a2⟩, ⟨a3, a4⟩, ⟨a5, a6⟩, a7, a8⟩ := h
  obtain ⟨⟨b1, b2⟩, ⟨b3, b4⟩, ⟨b5, b6⟩, b7, b8⟩ := g
  show addL (addL ⟨0, 0, 0, 0⟩ (if (0 : Nat) = 0 then a else b)) (if (1 : Nat) = 0 then a else b) = _
  rw [if_pos rfl, if_neg (by decide)]
  refine Ld.ext' ?_ ?_ ?_ ?_
  · simp only [addL, pl, Int.zero_add]; rw [wrap_id (x := a.c) ⟨by omega, by omega⟩]; exact wrap_id ⟨by omega, by omega⟩
  · simp only [addL, pl, Int.zero_add]; rw [wrap_id (x := a.e) ⟨by omega, by omega⟩]; exact wrap_id ⟨by omega, by omega⟩
  · simp only [addL, pl, Int.zero_add]; rw [wrap_id (x := a.n) ⟨by omega, by omega⟩]; exact wrap_id ⟨by omega, by omega⟩
  · simp only [addL, pl]; omega
/-- the reference's Of counts one by one -/
theorem ofL_step (z : Nat → Nm) (n : Nat) : ofL z (n + 1) = pl (ofL z n) (oneL (z n)) := by
  have hb := (ofL_bd z n).2.2.2
  have b := lasI_bd (z n).fr (z n).to
  have hl : las (z n) = lasI (z n).fr (z n).to := rfl
  by_cases h : (z n).to = -1
  · rw [ofL_open h]
    unfold oneL
    rw [if_pos h]
    refine Ld.ext' rfl ?_ ?_ ?_ <;> simp only [pl] <;> omega
  · rw [ofL_end h]
    unfold oneL
    rw [if_neg h]
    refine Ld.ext' rfl ?_ rfl ?_
    · simp only [pl]; split <;> omega
    · simp only [pl]; split <;> omega
theorem ofL_congr {z z' : Nat → Nm} : ∀ n, (∀ j, j < n → z j = z' j) → ofL z n = ofL z' n
  | 0, _ => rfl
  | n + 1, h => by rw [ofL_step, ofL_step, ofL_congr n (fun j hj => h j (by omega)), h n (by omega)]
theorem ofL_all (z : Nat → Nm) : ∀ n, ofL z n = accL z (fun _ => true) n
  | 0 => rfl
  | n + 1 => by rw [ofL_step, accL_yes rfl, ofL_all z n]
/-- of chosen calls -/
theorem ofL_sel (z : Nat → Nm) (P : Nat → Bool) : ∀ n, ofL (fun j => z ((sel P n).getD j 0)) (sel P n).length = accL z P n
  | 0 => rfl
  | n + 1 => by
    have ih := ofL_sel z P n
    by_cases hp : P n = true
    · rw [sel_yes hp, List.length_append, List.length_singleton, ofL_step, accL_yes hp]
      rw [ofL_congr (z' := fun j => z ((sel P n).getD j 0)) _ (fun j hj => by
        show z _ = z _
        congr 1
        simp [List.getD, List.getElem?_append_left hj]), ih]
      congr 2
      show z _ = z n
      congr 1
      simp [List.getD]
    · rw [sel_no (by simpa using hp), accL_no (by simpa using hp), ih]
/-! over kinds -/
def kP (z : Nat → Nm) (q : Nat) : Nat → Bool := fun i => knd (z i) == (q : Int)
def foldK (f : Nat → Ld) : Nat → Ld
  | 0 => ld0
  | k + 1 => pl (foldK f k) (f k)
theorem foldK_congr {f g : Nat → Ld} : ∀ k, (∀ j, j < k → f j = g j) → foldK f k = foldK g k
  | 0, _ => rfl
  | k + 1, h => by show pl _ _ = pl _ _; rw [foldK_congr k (fun j hj => h j (by omega)), h k (by omega)]
theorem foldK_one {f g : Nat → Ld} {o : Ld} {q : Nat} (hq : g q = pl (f q) o) (hne : ∀ j, j ≠ q → g j = f j) : ∀ k, q < k → foldK g k = pl (foldK f k) o
  | 0, h => absurd h (by omega)
  | k + 1, h => by
    show pl _ _ = pl (pl _ _) _
    by_cases e : q = k
    · subst e
      rw [hq, foldK_congr q (fun j hj => hne j (by omega)), pl_assoc]
    · rw [foldK_one hq hne k (by omega), hne k (by omega), pl_right]
theorem foldK_zero : ∀ k, foldK (fun _ => ld0) k = ld0
  | 0 => rfl
  | k + 1 => by show pl _ _ = _; rw [foldK_zero k]; rfl
theorem knd_lt (z : Nm) : ∃ q : Nat, q < 8 ∧ knd z = (q : Int) := by
  refine ⟨(knd z).toNat, ?_, ?_⟩ <;> (unfold knd; split <;> omega)
theorem kinds_all (z : Nat → Nm) : ∀ n, foldK (fun q => accL z (kP z q) n) 8 = accL z (fun _ => true) n
  | 0 => foldK_zero 8
  | n + 1 => by
    obtain ⟨q, hq, e⟩ := knd_lt (z n)
    rw [accL_yes rfl, ← kinds_all z n]
    refine foldK_one (q := q) ?_ ?_ 8 hq
    · exact accL_yes (by unfold kP; simp [e])
    · intro j hj
      exact accL_no (by unfold kP; rw [e]; simp; omega)
theorem lin_foldK {f : Nat → Ld} {c : Int} (h : ∀ j, Lin (f j) c) (h0 : 0 ≤ c) : ∀ k : Nat, Lin (foldK f k) (k * c)
  | 0 => by rw [show ((0 : Nat) : Int) * c = 0 by simp]; exact lin_zero
  | k + 1 => by
    refine lin_pl (lin_foldK h h0 k) (h k) ?_
    rw [show ((k + 1 : Nat) : Int) = (k : Int) + 1 by omega, Int.add_mul]
    omega
/-! over clients -/
def wP (z : Nat → Nm) (q : Int) : Nat → Bool := fun i => (z i).who == q
/-- is nobody before of the same client? -/
def newW (z : Nat → Nm) (i : Nat) : Bool := (sel (wP z (z i).who) i).length == 0
def foldW (z : Nat → Nm) (F : Int → Ld) : Nat → Ld
  | 0 => ld0
  | k + 1 => if newW z k = true then pl (foldW z F k) (F (z k).who) else foldW z F k
def manyW (z : Nat → Nm) : Nat → Nat
  | 0 => 0
  | k + 1 => manyW z k + if newW z k = true then 1 else 0
theorem sel_some {P : Nat → Bool} {n i : Nat} (hi : i < n) (hp : P i = true) : (sel P n).length ≠ 0 := by
  have : i ∈ sel P n := by simp [sel, hi, hp]
  intro h
  rw [List.length_eq_zero_iff] at h
  rw [h] at this
  cases this
theorem sel_none {P : Nat → Bool} {n : Nat} (h : ∀ i, i < n → P i = false) : (sel P n).length = 0 := by
  rw [List.length_eq_zero_iff]
  unfold sel
  rw [List.filter_eq_nil_iff]
  intro i hi
  rw [h i (List.mem_range.1 hi)]
  simp
theorem sel_zero {P : Nat → Bool} {n : Nat} (h : (sel P n).length = 0) : ∀ i, i < n → P i = false := by
  intro i hi
  cases hp : P i
  · rfl
  · exact absurd h (sel_some hi hp)
/-- raised at one client: once, if that client is among the first n -/
theorem foldW_one (z : Nat → Nm) {F G : Int → Ld} {o : Ld} {q : Int} (hq : G q = pl (F q) o) (hne : ∀ x, x ≠ q → G x = F x) : ∀ n, foldW z G n = if (sel (wP z q) n).length = 0 then foldW z F n else pl (foldW z F n) o
  | 0 => rfl
  | n + 1 => by
    have ih := foldW_one z hq hne n
    show (if newW z n = true then pl (foldW z G n) (G (z n).who) else foldW z G n) = _
    have hF : foldW z F (n + 1) = if newW z n = true then pl (foldW z F n) (F (z n).who) else foldW z F n := rfl
    rw [hF, ih]
    by_cases hw : (z n).who = q
    · have hy : wP z q n = true := by unfold wP; simpa using hw
      have h1 : (sel (wP z q) (n + 1)).length ≠ 0 := sel_some (Nat.lt_succ_self n) hy
      rw [if_neg h1]
      have hnw : newW z n = ((sel (wP z q) n).length == 0) := by unfold newW; rw [hw]
      by_cases h0 : (sel (wP z q) n).length = 0
      · rw [if_pos h0, hnw, h0, hw, hq]
        simp only [beq_self_eq_true, if_true]
        rw [pl_assoc]
      · rw [if_neg h0, hnw]
        have : ((sel (wP z q) n).length == 0) = false := by simpa using h0
        rw [this]
        simp
    · have hn : wP z q n = false := by unfold wP; simpa using hw
      rw [sel_no hn, hne _ hw]
      by_cases h0 : (sel (wP z q) n).length = 0
      · rw [if_pos h0, if_pos h0]
      · rw [if_neg h0, if_neg h0]
        cases newW z n
        · simp
        · simp only [if_true]; rw [pl_right]
theorem foldW_zero (z : Nat → Nm) : ∀ n, foldW z (fun _ => ld0) n = ld0
  | 0 => rfl
  | n + 1 => by
    show (if newW z n = true then pl (foldW z _ n) ld0 else foldW z _ n) = _
    rw [foldW_zero z n]
    cases newW z n <;> rfl
theorem clients_all (z : Nat → Nm) (n : Nat) : ∀ m, m ≤ n → foldW z (fun q => accL z (wP z q) m) n = accL z (fun _ => true) m
  | 0, _ => foldW_zero z n
  | m + 1, h => by
    rw [accL_yes rfl, ← clients_all z n m (by omega)]
    rw [foldW_one z (F := fun q => accL z (wP z q) m) (q := (z m).who) (o := oneL (z m)) (accL_yes (by unfold wP; simp)) (fun x hx => accL_no (by unfold wP; simpa using fun e => hx e.symm)) n]
    rw [if_neg (sel_some (show m < n by omega) (by unfold wP; simp))]
theorem lin_foldW (z : Nat → Nm) {F : Int → Ld} {c : Int} (h : ∀ j, Lin (F j) c) (h0 : 0 ≤ c) : ∀ k : Nat, Lin (foldW z F k) (k * c)
  | 0 => by rw [show ((0 : Nat) : Int) * c = 0 by simp]; exact lin_zero
  | k + 1 => by
    have e : ((k + 1 : Nat) : Int) * c = (k : Int) * c + c := by rw [show ((k + 1 : Nat) : Int) = (k : Int) + 1 by omega, Int.add_mul]; omega
    have ih := lin_foldW z h h0 k
    show Lin (if newW z k = true then pl (foldW z F k) (F (z k).who) else foldW z F k) _
    rw [e]
    split
    · exact lin_pl ih (h _) (Int.le_refl _)
    · exact lin_mono ih (by omega)
theorem manyW_le (z : Nat → Nm) : ∀ k, manyW z k ≤ k
  | 0 => Nat.le_refl _
  | k + 1 => by have := manyW_le z k; unfold manyW; split <;> omega
/-- a client is there just if it was seen -/
theorem acc_c (z : Nat → Nm) (P : Nat → Bool) : ∀ n, (accL z P n).c = ((sel P n).length : Nat)
  | 0 => rfl
  | n + 1 => by
    have ih := acc_c z P n
    by_cases hp : P n = true
    · rw [accL_yes hp, sel_yes hp, List.length_append, List.length_singleton]
      show (accL z P n).c + (oneL (z n)).c = _
      have h1 : (oneL (z n)).c = 1 := by unfold oneL; split <;> rfl
      rw [ih, h1]; omega
    · rw [accL_no (by simpa using hp), sel_no (by simpa using hp), ih]
end Go.Proofs.Ytplejooihfhpdaa
