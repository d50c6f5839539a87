/- Check: the reference's. -/
import Derived.Test.YtplaicdbcfnjbaaV07
import Derived.Test.YtplaicdbcfnjbaaV08
set_option linter.unusedSimpArgs false
set_option linter.unusedVariables false
namespace Go.Proofs.Ytplaicdbcfnjbaa
open Go.RowKit
set_option linter.unusedVariables false
/-- is there one below n? -/
def anyB (n : Nat) (p : Nat → Bool) : Bool := decide (∃ i, i < n ∧ p i = true)
theorem anyB_yes {n : Nat} {p : Nat → Bool} (i : Nat) (h : i < n) (hp : p i = true) : anyB n p = true := decide_eq_true ⟨i, h, hp⟩
theorem anyB_no {n : Nat} {p : Nat → Bool} (h : ∀ i, i < n → p i = false) : anyB n p = false := decide_eq_false fun ⟨i, hi, hp⟩ => by rw [h i hi] at hp; cases hp
theorem anyB_get {n : Nat} {p : Nat → Bool} (h : anyB n p = false) (i : Nat) (hi : i < n) : p i = false := by
  cases hp : p i
  · rfl
  · rw [anyB_yes i hi hp] at h; cases h
theorem anyB_ex {n : Nat} {p : Nat → Bool} (h : anyB n p = true) : ∃ i, i < n ∧ p i = true := of_decide_eq_true h
def badR (a : OD) : Bool := decide (a.s < 0) || decide (a.e < -1) || ((a.e != -1) && decide (a.e ≤ a.s))
def refR (a b : OD) : Bool := eq2 a.r0 a.r1 b.r0 b.r1
def clsR (a b : OD) : Bool := clashB a.s a.e b.s b.e
def ordR (a b : OD) : Bool := (a.r0 == b.r0) && decide (a.r1 < b.r1) && !aheadB a.e b.s
def chk1 (n : Nat) (o : Nat → OD) : Bool := anyB n fun i => badR (o i)
def chk2 (n : Nat) (o : Nat → OD) : Bool := anyB n fun i => anyB i fun k => refR (o i) (o k)
def chk3 (n : Nat) (o : Nat → OD) : Bool := anyB n fun i => anyB i fun k => clsR (o i) (o k)
def chk4 (n : Nat) (o : Nat → OD) : Bool := anyB n fun i => anyB n fun k => ordR (o i) (o k)
def chkR (n : Nat) (o : Nat → OD) : Int := if chk1 n o = true then 3 else if chk2 n o = true then 2 else if chk3 n o = true then 11 else if chk4 n o = true then 13 else 0
section
variable {n : Nat} {o : Nat → OD}
theorem chk_a (i : Nat) (h : i < n) (hb : badR (o i) = true) : chkR n o = 3 := by
  have : chk1 n o = true := anyB_yes i h hb
  unfold chkR; rw [if_pos this]
theorem chk_b (h1 : ∀ i, i < n → badR (o i) = false) (i k : Nat) (h : i < n) (hk : k < i) (hb : refR (o i) (o k) = true) : chkR n o = 2 := by
  have e1 : chk1 n o = false := anyB_no h1
  have : chk2 n o = true := anyB_yes i h (anyB_yes k hk hb)
  unfold chkR; rw [if_neg (by simp [e1]), if_pos this]
theorem chk_c (h1 : ∀ i, i < n → badR (o i) = false) (h2 : ∀ i, i < n → ∀ k, k < i → refR (o i) (o k) = false) (i k : Nat) (h : i < n) (hk : k < i) (hb : clsR (o i) (o k) = true) : chkR n o = 11 := by
  have e1 : chk1 n o = false := anyB_no h1
  have e2 : chk2 n o = false := anyB_no fun i hi => anyB_no (h2 i hi)
  have : chk3 n o = true := anyB_yes i h (anyB_yes k hk hb)
  unfold chkR; rw [if_neg (by simp [e1]), if_neg (by simp [e2]), if_pos this]
theorem chk_d (h1 : ∀ i, i < n → badR (o i) = false) (h2 : ∀ i, i < n → ∀ k, k < i → refR (o i) (o k) = false) (h3 : ∀ i, i < n → ∀ k, k < i → clsR (o i) (o k) = false) (i k : Nat) (h : i < n) (hk : k < n) (hb : ordR (o i) (o k) = true) : chkR n o = 13 := by
  have e1 : chk1 n o = false := anyB_no h1
  have e2 : chk2 n o = false := anyB_no fun i hi => anyB_no (h2 i hi)
  have e3 : chk3 n o = false := anyB_no fun i hi => anyB_no (h3 i hi)
  have : chk4 n o = true := anyB_yes i h (anyB_yes k hk hb)
  unfold chkR; rw [if_neg (by simp [e1]), if_neg (by simp [e2]), if_neg (by simp [e3]), if_pos this]
theorem chk_e (h1 : ∀ i, i < n → badR (o i) = false) (h2 : ∀ i, i < n → ∀ k, k < i → refR (o i) (o k) = false) (h3 : ∀ i, i < n → ∀ k, k < i → clsR (o i) (o k) = false) (h4 : ∀ i, i < n → ∀ k, k < n → ordR (o i) (o k) = false) : chkR n o = 0 := by
  have e1 : chk1 n o = false := anyB_no h1
  have e2 : chk2 n o = false := anyB_no fun i hi => anyB_no (h2 i hi)
  have e3 : chk3 n o = false := anyB_no fun i hi => anyB_no (h3 i hi)
  have e4 : chk4 n o = false := anyB_no fun i hi => anyB_no (h4 i hi)
  unfold chkR; rw [if_neg (by simp [e1]), if_neg (by simp [e2]), if_neg (by simp [e3]), if_neg (by simp [e4])]
end
theorem more_no {p : Nat → Bool} {k : Nat} (h : ∀ j, j < k → p j = false) (hk : p k = false) : ∀ j, j < k + 1 → p j = false := fun j hj => by
  rcases Nat.lt_or_ge j k with h' | h'
  · exact h j h'
  · obtain rfl : j = k := by omega
    exact hk
theorem more_no2 {m : Nat → Nat} {p : Nat → Nat → Bool} {i : Nat} (h : ∀ j, j < i → ∀ k, k < m j → p j k = false) (hk : ∀ k, k < m i → p i k = false) : ∀ j, j < i + 1 → ∀ k, k < m j → p j k = false := fun j hj => by
  rcases Nat.lt_or_ge j i with h' | h'
  · exact h j h'
  · obtain rfl : j = i := by omega
    exact hk
attribute [local irreducible] Go.wpList

set_option maxRecDepth 100000 in
set_option maxHeartbeats 8000000 in
theorem rcheck_any (f n : Nat) (o : Nat → OD) (A : Option Addr) (cap : Nat) (w : World) (hA : RowO w f A n o) :
    Calls Try.prog 15 #[.slice A n cap] w fun x w' => x = .returned (.int .i64 (chkR n o)) ∧ New w w' := by
  have h1 := hA.1
  have HA := Lib.hid hA
  clear hA
  have YA := Lib.hid (fun i h hb => chk_a (n := n) (o := o) i h hb)
  have YB := Lib.hid (fun a i k h hk hb => chk_b (n := n) (o := o) a i k h hk hb)
  have YC := Lib.hid (fun a b i k h hk hb => chk_c (n := n) (o := o) a b i k h hk hb)
  have YD := Lib.hid (fun a b c i k h hk hb => chk_d (n := n) (o := o) a b c i k h hk hb)
  have YE := Lib.hid (fun a b c d => chk_e (n := n) (o := o) a b c d)
  have HAD := Lib.hid (fun (h0 : 0 < n) => HA.out.2.2 h0)
  have CA := Lib.hid (fun (ad : Addr) (hd : ∀ i, i < n → OpAt w (ad.add (i * 19)) (ocs (o i))) i (h : i < n) w' (m : New w w') => (hd i h).new m)
  have C17 := Lib.hid (fun (ad : Addr) (hd : ∀ i, i < n → OpAt w (ad.add (i * 19)) (ocs (o i))) i (h : i < n) w' (m : New w w') => opat_cell ((hd i h).new m) 17 (.int .i64 (o i).s) (by decide) rfl)
  have C18 := Lib.hid (fun (ad : Addr) (hd : ∀ i, i < n → OpAt w (ad.add (i * 19)) (ocs (o i))) i (h : i < n) w' (m : New w w') => opat_cell ((hd i h).new m) 18 (.int .i64 (o i).e) (by decide) rfl)
  have C1 := Lib.hid (fun (ad : Addr) (hd : ∀ i, i < n → OpAt w (ad.add (i * 19)) (ocs (o i))) i (h : i < n) w' (m : New w w') => opat_cell ((hd i h).new m) 1 (.int .i64 (o i).r1) (by decide) rfl)
  have C0 := Lib.hid (fun (ad : Addr) (hd : ∀ i, i < n → OpAt w (ad.add (i * 19)) (ocs (o i))) i (h : i < n) w' (m : New w w') => (show w'.cell? (ad.add (i * 19)) = some (.int .i64 (o i).r0) from by have q := ((hd i h).new m).2.2 0 _ (show (ocs (o i))[0]? = some (.int .i64 (o i).r0) from rfl); simpa [Addr.add_zero'] using q))
  have KC := Lib.hid (fun i k w => clash_any (ocs (o i)) (ocs (o k)) (o i).s (o i).e (o k).s (o k).e w rfl rfl rfl rfl)
  have KA := Lib.hid (fun i k w => rahead_any (ocs (o i)) (ocs (o k)) (o i).e (o k).s w rfl rfl)
  generalize chkR n o = R at *
  go_enter Try.func15, Try.ntmps15
  go_wp2_with fail
  go_loopg [3] n (fun q i wr => ∃ k : Nat, k + q = n ∧ i = .int .i64 k ∧ (∀ j, j < k → badR (o j) = false) ∧ New w wr)
  case atStart => exact ⟨0, by omega, rfl, fun j hj => absurd hj (by omega), New.refl w⟩
  case round =>
    obtain ⟨i, hi, rfl, he, nw⟩ := hrel
    obtain ⟨gq, rfl⟩ : ∃ gq : Nat, gq = gk := ⟨_, rfl⟩
    have HE := Lib.hid he
    clear he
    by_cases hin : i < n
    · obtain ⟨ad, rfl, hd0⟩ := HAD.out (by omega)
      have HD := Lib.hid hd0
      clear hd0
      have hin' : (i : Int) < n := by omega
      have c17 := Lib.hid (C17.out ad HD.out i hin)
      have c18 := Lib.hid (C18.out ad HD.out i hin)
      have YK := Lib.hid (YA.out i hin)
      have MO := Lib.hid (show badR (o i) = false → ∀ j, j < i + 1 → badR (o j) = false from more_no (p := fun j => badR (o j)) HE.out)
      have hb := Lib.hid (show badR (o i) = (decide ((o i).s < 0) || decide ((o i).e < -1) || (((o i).e != -1) && decide ((o i).e ≤ (o i).s))) from rfl)
      generalize badR (o i) = U at YK hb MO
      generalize (o i).s = s at *
      generalize (o i).e = e at *
      cases tA : decide (s < 0)
      · cases tB : decide (e < -1)
        · cases tC : (e != -1)
          · go_wp2_with fail
            refine wp_region_held_drew (S := fun w' => New w w') (by kernel_rfl) nw.drew (fun hH => ?_)
            clear nw
            refine wpAnyH_take (i := 0) (oi := { dst := some 16, op := Go.Op.move (Go.Operand.tmp 0), type := 38, pos := "ref.go:30", after := #[], guard := none }) (v := .slice (some ad) n cap) rfl (by kernel_rfl) (by kernel_rfl) (by kernel_rfl) (fun _ _ _ h => h) (Or.inl ⟨by rfl, ?_⟩) hH ?_
            (intro w5 hS5; go_simp; try rfl)
            try simp only [Act.put, List.setIfInBounds_toArray, List.set_cons_zero, List.set_cons_succ]
            refine wpAnyH_take (i := 1) (oi := { dst := some 17, op := Go.Op.move (Go.Operand.tmp 3), type := 3, pos := "ref.go:30", after := #[], guard := none }) (v := .int .i64 (i : Nat)) rfl (by kernel_rfl) (by kernel_rfl) (by kernel_rfl) (fun _ _ _ h => h) (Or.inl ⟨by rfl, ?_⟩) hH ?_
            (intro w5 hS5; go_simp; try rfl)
            try simp only [Act.put, List.setIfInBounds_toArray, List.set_cons_zero, List.set_cons_succ]
            refine wpAnyH_take (i := 2) (oi := { dst := some 18, op := Go.Op.indexAddr 38 (Go.Operand.tmp 16) (Go.Operand.tmp 17), type := 0, pos := "ref.go:30", after := #[{ on := 0, ground := Go.Ground.data }, { on := 1, ground := Go.Ground.data }], guard := none }) (v := .pointer (some (ad.add (i * 19)))) rfl (by kernel_rfl) (by kernel_rfl) (by kernel_rfl) (fun _ _ _ h => h) (Or.inl ⟨by rfl, ?_⟩) hH ?_
            (intro w5 hS5; go_simp; try rfl)
            try simp only [Act.put, List.setIfInBounds_toArray, List.set_cons_zero, List.set_cons_succ]
            refine wpAnyH_take (i := 3) (oi := { dst := some 19, op := Go.Op.fieldAddr 36 (Go.Operand.tmp 18) 3, type := 0, pos := "ref.go:30", after := #[{ on := 2, ground := Go.Ground.data }], guard := none }) (v := .pointer (some ⟨(ad.add (i * 19)).block, (ad.add (i * 19)).off + 17, none⟩)) rfl (by kernel_rfl) (by kernel_rfl) (by kernel_rfl) (fun _ _ _ h => h) (Or.inl ⟨by rfl, ?_⟩) hH ?_
            (intro w5 hS5; go_simp; try rfl)
            try simp only [Act.put, List.setIfInBounds_toArray, List.set_cons_zero, List.set_cons_succ]
            refine wpAnyH_take (i := 4) (oi := { dst := some 20, op := Go.Op.load 3 (Go.Operand.tmp 19), type := 3, pos := "ref.go:30", after := #[{ on := 3, ground := Go.Ground.data }], guard := none }) (v := .int .i64 s) rfl (by kernel_rfl) (by kernel_rfl) (by kernel_rfl) (fun _ _ _ h => h) (Or.inl ⟨by rfl, ?_⟩) hH ?_
            (intro w5 hS5; have ck := c17.out _ hS5; go_simp; try rfl)
            try simp only [Act.put, List.setIfInBounds_toArray, List.set_cons_zero, List.set_cons_succ]
            refine wpAnyH_take (i := 5) (oi := { dst := some 21, op := Go.Op.binOp Go.BinOp.lss 3 (Go.Operand.tmp 20) (Go.Operand.const (Go.Value.int Go.IntKind.i64 0)) 3, type := 4, pos := "ref.go:30", after := #[{ on := 4, ground := Go.Ground.data }], guard := none }) (v := .bool false) rfl (by kernel_rfl) (by kernel_rfl) (by kernel_rfl) (fun _ _ _ h => h) (Or.inl ⟨by rfl, ?_⟩) hH ?_
            (intro w5 hS5; go_simp; try rfl)
            try simp only [Act.put, List.setIfInBounds_toArray, List.set_cons_zero, List.set_cons_succ]
            refine wpAnyH_take (i := 6) (oi := { dst := some 22, op := Go.Op.move (Go.Operand.tmp 21), type := 4, pos := "ref.go:30", after := #[{ on := 5, ground := Go.Ground.data }], guard := none }) (v := .bool false) rfl (by kernel_rfl) (by kernel_rfl) (by kernel_rfl) (fun _ _ _ h => h) (Or.inl ⟨by rfl, ?_⟩) hH ?_
            (intro w5 hS5; go_simp; try rfl)
            try simp only [Act.put, List.setIfInBounds_toArray, List.set_cons_zero, List.set_cons_succ]
            refine wpAnyH_take (i := 7) (oi := { dst := some 23, op := Go.Op.move (Go.Operand.tmp 0), type := 38, pos := "ref.go:30", after := #[{ on := 6, ground := Go.Ground.guard }], guard := some (6, false) }) (v := .slice (some ad) n cap) rfl (by kernel_rfl) (by kernel_rfl) (by kernel_rfl) (fun _ _ _ h => h) (Or.inl ⟨by rfl, ?_⟩) hH ?_
            (intro w5 hS5; go_simp; try rfl)
            try simp only [Act.put, List.setIfInBounds_toArray, List.set_cons_zero, List.set_cons_succ]
            refine wpAnyH_take (i := 8) (oi := { dst := some 24, op := Go.Op.move (Go.Operand.tmp 3), type := 3, pos := "ref.go:30", after := #[{ on := 6, ground := Go.Ground.guard }], guard := some (6, false) }) (v := .int .i64 (i : Nat)) rfl (by kernel_rfl) (by kernel_rfl) (by kernel_rfl) (fun _ _ _ h => h) (Or.inl ⟨by rfl, ?_⟩) hH ?_
            (intro w5 hS5; go_simp; try rfl)
            try simp only [Act.put, List.setIfInBounds_toArray, List.set_cons_zero, List.set_cons_succ]
            refine wpAnyH_take (i := 9) (oi := { dst := some 25, op := Go.Op.indexAddr 38 (Go.Operand.tmp 23) (Go.Operand.tmp 24), type := 0, pos := "ref.go:30", after := #[{ on := 7, ground := Go.Ground.data }, { on := 8, ground := Go.Ground.data }, { on := 6, ground := Go.Ground.guard }], guard := some (6, false) }) (v := .pointer (some (ad.add (i * 19)))) rfl (by kernel_rfl) (by kernel_rfl) (by kernel_rfl) (fun _ _ _ h => h) (Or.inl ⟨by rfl, ?_⟩) hH ?_
            (intro w5 hS5; go_simp; try rfl)
            try simp only [Act.put, List.setIfInBounds_toArray, List.set_cons_zero, List.set_cons_succ]
            refine wpAnyH_take (i := 10) (oi := { dst := some 26, op := Go.Op.fieldAddr 36 (Go.Operand.tmp 25) 4, type := 0, pos := "ref.go:30", after := #[{ on := 9, ground := Go.Ground.data }, { on := 6, ground := Go.Ground.guard }], guard := some (6, false) }) (v := .pointer (some ⟨(ad.add (i * 19)).block, (ad.add (i * 19)).off + 18, none⟩)) rfl (by kernel_rfl) (by kernel_rfl) (by kernel_rfl) (fun _ _ _ h => h) (Or.inl ⟨by rfl, ?_⟩) hH ?_
            (intro w5 hS5; go_simp; try rfl)
            try simp only [Act.put, List.setIfInBounds_toArray, List.set_cons_zero, List.set_cons_succ]
            refine wpAnyH_take (i := 11) (oi := { dst := some 27, op := Go.Op.load 3 (Go.Operand.tmp 26), type := 3, pos := "ref.go:30", after := #[{ on := 10, ground := Go.Ground.data }, { on := 6, ground := Go.Ground.guard }], guard := some (6, false) }) (v := .int .i64 e) rfl (by kernel_rfl) (by kernel_rfl) (by kernel_rfl) (fun _ _ _ h => h) (Or.inl ⟨by rfl, ?_⟩) hH ?_
            (intro w5 hS5; have ck := c18.out _ hS5; go_simp; try rfl)
            try simp only [Act.put, List.setIfInBounds_toArray, List.set_cons_zero, List.set_cons_succ]
            refine wpAnyH_take (i := 12) (oi := { dst := some 28, op := Go.Op.binOp Go.BinOp.lss 3 (Go.Operand.tmp 27) (Go.Operand.const (Go.Value.int Go.IntKind.i64 (-1))) 3, type := 4, pos := "ref.go:30", after := #[{ on := 11, ground := Go.Ground.data }, { on := 6, ground := Go.Ground.guard }], guard := some (6, false) }) (v := .bool false) rfl (by kernel_rfl) (by kernel_rfl) (by kernel_rfl) (fun _ _ _ h => h) (Or.inl ⟨by rfl, ?_⟩) hH ?_
            (intro w5 hS5; go_simp; try rfl)
            try simp only [Act.put, List.setIfInBounds_toArray, List.set_cons_zero, List.set_cons_succ]
            refine wpAnyH_take (i := 13) (oi := { dst := some 29, op := Go.Op.pick (Go.Operand.tmp 22) (Go.Operand.const (Go.Value.bool true)) (Go.Operand.tmp 28), type := 4, pos := "ref.go:30", after := #[{ on := 6, ground := Go.Ground.data }, { on := 12, ground := Go.Ground.data }], guard := none }) (v := .bool false) rfl (by kernel_rfl) (by kernel_rfl) (by kernel_rfl) (fun _ _ _ h => h) (Or.inl ⟨by rfl, ?_⟩) hH ?_
            (intro w5 hS5; go_simp; try rfl)
            try simp only [Act.put, List.setIfInBounds_toArray, List.set_cons_zero, List.set_cons_succ]
            refine wpAnyH_take (i := 14) (oi := { dst := some 30, op := Go.Op.move (Go.Operand.tmp 29), type := 4, pos := "ref.go:30", after := #[{ on := 13, ground := Go.Ground.data }, { on := 6, ground := Go.Ground.chain }], guard := none }) (v := .bool false) rfl (by kernel_rfl) (by kernel_rfl) (by kernel_rfl) (fun _ _ _ h => h) (Or.inl ⟨by rfl, ?_⟩) hH ?_
            (intro w5 hS5; go_simp; try rfl)
            try simp only [Act.put, List.setIfInBounds_toArray, List.set_cons_zero, List.set_cons_succ]
            refine wpAnyH_take (i := 15) (oi := { dst := some 31, op := Go.Op.move (Go.Operand.tmp 0), type := 38, pos := "ref.go:30", after := #[{ on := 14, ground := Go.Ground.guard }], guard := some (14, false) }) (v := .slice (some ad) n cap) rfl (by kernel_rfl) (by kernel_rfl) (by kernel_rfl) (fun _ _ _ h => h) (Or.inl ⟨by rfl, ?_⟩) hH ?_
            (intro w5 hS5; go_simp; try rfl)
            try simp only [Act.put, List.setIfInBounds_toArray, List.set_cons_zero, List.set_cons_succ]
            refine wpAnyH_take (i := 16) (oi := { dst := some 32, op := Go.Op.move (Go.Operand.tmp 3), type := 3, pos := "ref.go:30", after := #[{ on := 14, ground := Go.Ground.guard }], guard := some (14, false) }) (v := .int .i64 (i : Nat)) rfl (by kernel_rfl) (by kernel_rfl) (by kernel_rfl) (fun _ _ _ h => h) (Or.inl ⟨by rfl, ?_⟩) hH ?_
            (intro w5 hS5; go_simp; try rfl)
            try simp only [Act.put, List.setIfInBounds_toArray, List.set_cons_zero, List.set_cons_succ]
            refine wpAnyH_take (i := 17) (oi := { dst := some 33, op := Go.Op.indexAddr 38 (Go.Operand.tmp 31) (Go.Operand.tmp 32), type := 0, pos := "ref.go:30", after := #[{ on := 15, ground := Go.Ground.data }, { on := 16, ground := Go.Ground.data }, { on := 14, ground := Go.Ground.guard }], guard := some (14, false) }) (v := .pointer (some (ad.add (i * 19)))) rfl (by kernel_rfl) (by kernel_rfl) (by kernel_rfl) (fun _ _ _ h => h) (Or.inl ⟨by rfl, ?_⟩) hH ?_
            (intro w5 hS5; go_simp; try rfl)
            try simp only [Act.put, List.setIfInBounds_toArray, List.set_cons_zero, List.set_cons_succ]
            refine wpAnyH_take (i := 18) (oi := { dst := some 34, op := Go.Op.fieldAddr 36 (Go.Operand.tmp 33) 4, type := 0, pos := "ref.go:30", after := #[{ on := 17, ground := Go.Ground.data }, { on := 14, ground := Go.Ground.guard }], guard := some (14, false) }) (v := .pointer (some ⟨(ad.add (i * 19)).block, (ad.add (i * 19)).off + 18, none⟩)) rfl (by kernel_rfl) (by kernel_rfl) (by kernel_rfl) (fun _ _ _ h => h) (Or.inl ⟨by rfl, ?_⟩) hH ?_
            (intro w5 hS5; go_simp; try rfl)
            try simp only [Act.put, List.setIfInBounds_toArray, List.set_cons_zero, List.set_cons_succ]
            refine wpAnyH_take (i := 19) (oi := { dst := some 35, op := Go.Op.load 3 (Go.Operand.tmp 34), type := 3, pos := "ref.go:30", after := #[{ on := 18, ground := Go.Ground.data }, { on := 14, ground := Go.Ground.guard }], guard := some (14, false) }) (v := .int .i64 e) rfl (by kernel_rfl) (by kernel_rfl) (by kernel_rfl) (fun _ _ _ h => h) (Or.inl ⟨by rfl, ?_⟩) hH ?_
            (intro w5 hS5; have ck := c18.out _ hS5; go_simp; try rfl)
            try simp only [Act.put, List.setIfInBounds_toArray, List.set_cons_zero, List.set_cons_succ]
            refine wpAnyH_take (i := 20) (oi := { dst := some 36, op := Go.Op.binOp Go.BinOp.neq 3 (Go.Operand.tmp 35) (Go.Operand.const (Go.Value.int Go.IntKind.i64 (-1))) 3, type := 4, pos := "ref.go:30", after := #[{ on := 19, ground := Go.Ground.data }, { on := 14, ground := Go.Ground.guard }], guard := some (14, false) }) (v := .bool false) rfl (by kernel_rfl) (by kernel_rfl) (by kernel_rfl) (fun _ _ _ h => h) (Or.inl ⟨by rfl, ?_⟩) hH ?_
            (intro w5 hS5; go_simp; try rfl)
            try simp only [Act.put, List.setIfInBounds_toArray, List.set_cons_zero, List.set_cons_succ]
            refine wpAnyH_take (i := 21) (oi := { dst := some 37, op := Go.Op.move (Go.Operand.tmp 36), type := 4, pos := "ref.go:30", after := #[{ on := 20, ground := Go.Ground.data }, { on := 14, ground := Go.Ground.chain }, { on := 14, ground := Go.Ground.guard }], guard := some (14, false) }) (v := .bool false) rfl (by kernel_rfl) (by kernel_rfl) (by kernel_rfl) (fun _ _ _ h => h) (Or.inl ⟨by rfl, ?_⟩) hH ?_
            (intro w5 hS5; go_simp; try rfl)
            try simp only [Act.put, List.setIfInBounds_toArray, List.set_cons_zero, List.set_cons_succ]
            refine wpAnyH_take (i := 22) (oi := { dst := some 38, op := Go.Op.move (Go.Operand.tmp 0), type := 38, pos := "ref.go:30", after := #[{ on := 21, ground := Go.Ground.guard }], guard := some (21, true) }) (v := undef) rfl (by kernel_rfl) (by kernel_rfl) (by kernel_rfl) (fun _ _ _ h => h) (Or.inr ⟨by rfl, rfl⟩) hH ?_
            try simp only [Act.put, List.setIfInBounds_toArray, List.set_cons_zero, List.set_cons_succ]
            refine wpAnyH_take (i := 23) (oi := { dst := some 39, op := Go.Op.move (Go.Operand.tmp 3), type := 3, pos := "ref.go:30", after := #[{ on := 21, ground := Go.Ground.guard }], guard := some (21, true) }) (v := undef) rfl (by kernel_rfl) (by kernel_rfl) (by kernel_rfl) (fun _ _ _ h => h) (Or.inr ⟨by rfl, rfl⟩) hH ?_
            try simp only [Act.put, List.setIfInBounds_toArray, List.set_cons_zero, List.set_cons_succ]
            refine wpAnyH_take (i := 24) (oi := { dst := some 40, op := Go.Op.indexAddr 38 (Go.Operand.tmp 38) (Go.Operand.tmp 39), type := 0, pos := "ref.go:30", after := #[{ on := 22, ground := Go.Ground.data }, { on := 23, ground := Go.Ground.data }, { on := 21, ground := Go.Ground.guard }], guard := some (21, true) }) (v := undef) rfl (by kernel_rfl) (by kernel_rfl) (by kernel_rfl) (fun _ _ _ h => h) (Or.inr ⟨by rfl, rfl⟩) hH ?_
            try simp only [Act.put, List.setIfInBounds_toArray, List.set_cons_zero, List.set_cons_succ]
            refine wpAnyH_take (i := 25) (oi := { dst := some 41, op := Go.Op.fieldAddr 36 (Go.Operand.tmp 40) 4, type := 0, pos := "ref.go:30", after := #[{ on := 24, ground := Go.Ground.data }, { on := 21, ground := Go.Ground.guard }], guard := some (21, true) }) (v := undef) rfl (by kernel_rfl) (by kernel_rfl) (by kernel_rfl) (fun _ _ _ h => h) (Or.inr ⟨by rfl, rfl⟩) hH ?_
            try simp only [Act.put, List.setIfInBounds_toArray, List.set_cons_zero, List.set_cons_succ]
            refine wpAnyH_take (i := 26) (oi := { dst := some 42, op := Go.Op.load 3 (Go.Operand.tmp 41), type := 3, pos := "ref.go:30", after := #[{ on := 25, ground := Go.Ground.data }, { on := 21, ground := Go.Ground.guard }], guard := some (21, true) }) (v := undef) rfl (by kernel_rfl) (by kernel_rfl) (by kernel_rfl) (fun _ _ _ h => h) (Or.inr ⟨by rfl, rfl⟩) hH ?_
            try simp only [Act.put, List.setIfInBounds_toArray, List.set_cons_zero, List.set_cons_succ]
            refine wpAnyH_take (i := 27) (oi := { dst := some 43, op := Go.Op.move (Go.Operand.tmp 0), type := 38, pos := "ref.go:30", after := #[{ on := 21, ground := Go.Ground.guard }], guard := some (21, true) }) (v := undef) rfl (by kernel_rfl) (by kernel_rfl) (by kernel_rfl) (fun _ _ _ h => h) (Or.inr ⟨by rfl, rfl⟩) hH ?_
            try simp only [Act.put, List.setIfInBounds_toArray, List.set_cons_zero, List.set_cons_succ]
            refine wpAnyH_take (i := 28) (oi := { dst := some 44, op := Go.Op.move (Go.Operand.tmp 3), type := 3, pos := "ref.go:30", after := #[{ on := 21, ground := Go.Ground.guard }], guard := some (21, true) }) (v := undef) rfl (by kernel_rfl) (by kernel_rfl) (by kernel_rfl) (fun _ _ _ h => h) (Or.inr ⟨by rfl, rfl⟩) hH ?_
            try simp only [Act.put, List.setIfInBounds_toArray, List.set_cons_zero, List.set_cons_succ]
            refine wpAnyH_take (i := 29) (oi := { dst := some 45, op := Go.Op.indexAddr 38 (Go.Operand.tmp 43) (Go.Operand.tmp 44), type := 0, pos := "ref.go:30", after := #[{ on := 27, ground := Go.Ground.data }, { on := 28, ground := Go.Ground.data }, { on := 21, ground := Go.Ground.guard }], guard := some (21, true) }) (v := undef) rfl (by kernel_rfl) (by kernel_rfl) (by kernel_rfl) (fun _ _ _ h => h) (Or.inr ⟨by rfl, rfl⟩) hH ?_
            try simp only [Act.put, List.setIfInBounds_toArray, List.set_cons_zero, List.set_cons_succ]
            refine wpAnyH_take (i := 30) (oi := { dst := some 46, op := Go.Op.fieldAddr 36 (Go.Operand.tmp 45) 3, type := 0, pos := "ref.go:30", after := #[{ on := 29, ground := Go.Ground.data }, { on := 21, ground := Go.Ground.guard }], guard := some (21, true) }) (v := undef) rfl (by kernel_rfl) (by kernel_rfl) (by kernel_rfl) (fun _ _ _ h => h) (Or.inr ⟨by rfl, rfl⟩) hH ?_
            try simp only [Act.put, List.setIfInBounds_toArray, List.set_cons_zero, List.set_cons_succ]
            refine wpAnyH_take (i := 31) (oi := { dst := some 47, op := Go.Op.load 3 (Go.Operand.tmp 46), type := 3, pos := "ref.go:30", after := #[{ on := 30, ground := Go.Ground.data }, { on := 21, ground := Go.Ground.guard }], guard := some (21, true) }) (v := undef) rfl (by kernel_rfl) (by kernel_rfl) (by kernel_rfl) (fun _ _ _ h => h) (Or.inr ⟨by rfl, rfl⟩) hH ?_
            try simp only [Act.put, List.setIfInBounds_toArray, List.set_cons_zero, List.set_cons_succ]
            refine wpAnyH_take (i := 32) (oi := { dst := some 48, op := Go.Op.binOp Go.BinOp.leq 3 (Go.Operand.tmp 42) (Go.Operand.tmp 47) 3, type := 4, pos := "ref.go:30", after := #[{ on := 26, ground := Go.Ground.data }, { on := 31, ground := Go.Ground.data }, { on := 21, ground := Go.Ground.guard }], guard := some (21, true) }) (v := undef) rfl (by kernel_rfl) (by kernel_rfl) (by kernel_rfl) (fun _ _ _ h => h) (Or.inr ⟨by rfl, rfl⟩) hH ?_
            try simp only [Act.put, List.setIfInBounds_toArray, List.set_cons_zero, List.set_cons_succ]
            refine wpAnyH_take (i := 33) (oi := { dst := some 49, op := Go.Op.pick (Go.Operand.tmp 37) (Go.Operand.tmp 48) (Go.Operand.const (Go.Value.bool false)), type := 4, pos := "ref.go:30", after := #[{ on := 21, ground := Go.Ground.data }, { on := 32, ground := Go.Ground.data }, { on := 14, ground := Go.Ground.guard }], guard := some (14, false) }) (v := .bool false) rfl (by kernel_rfl) (by kernel_rfl) (by kernel_rfl) (fun _ _ _ h => h) (Or.inl ⟨by rfl, ?_⟩) hH ?_
            (intro w5 hS5; go_simp; try rfl)
            try simp only [Act.put, List.setIfInBounds_toArray, List.set_cons_zero, List.set_cons_succ]
            refine wpAnyH_take (i := 34) (oi := { dst := some 50, op := Go.Op.pick (Go.Operand.tmp 30) (Go.Operand.const (Go.Value.bool true)) (Go.Operand.tmp 49), type := 4, pos := "ref.go:30", after := #[{ on := 14, ground := Go.Ground.data }, { on := 33, ground := Go.Ground.data }], guard := none }) (v := .bool false) rfl (by kernel_rfl) (by kernel_rfl) (by kernel_rfl) (fun _ _ _ h => h) (Or.inl ⟨by rfl, ?_⟩) hH ?_
            (intro w5 hS5; go_simp; try rfl)
            try simp only [Act.put, List.setIfInBounds_toArray, List.set_cons_zero, List.set_cons_succ]
            refine wpAnyH_done (by kernel_rfl) ?_ _
            have HZ := Lib.hid hH
            clear hH
            have hn := Lib.hid (MO.out (by rw [hb.out, tA, tB, tC]; rfl))
            go_wp2_with fail
            go_roundg (gq - 1)
            case rel => exact ⟨i + 1, by omega, by go_num, hn.out, HZ.out⟩
            case measure => omega
          · cases tD : decide (e ≤ s)
            · go_wp2_with fail
              refine wp_region_held_drew (S := fun w' => New w w') (by kernel_rfl) nw.drew (fun hH => ?_)
              clear nw
              refine wpAnyH_take (i := 0) (oi := { dst := some 16, op := Go.Op.move (Go.Operand.tmp 0), type := 38, pos := "ref.go:30", after := #[], guard := none }) (v := .slice (some ad) n cap) rfl (by kernel_rfl) (by kernel_rfl) (by kernel_rfl) (fun _ _ _ h => h) (Or.inl ⟨by rfl, ?_⟩) hH ?_
              (intro w5 hS5; go_simp; try rfl)
              try simp only [Act.put, List.setIfInBounds_toArray, List.set_cons_zero, List.set_cons_succ]
              refine wpAnyH_take (i := 1) (oi := { dst := some 17, op := Go.Op.move (Go.Operand.tmp 3), type := 3, pos := "ref.go:30", after := #[], guard := none }) (v := .int .i64 (i : Nat)) rfl (by kernel_rfl) (by kernel_rfl) (by kernel_rfl) (fun _ _ _ h => h) (Or.inl ⟨by rfl, ?_⟩) hH ?_
              (intro w5 hS5; go_simp; try rfl)
              try simp only [Act.put, List.setIfInBounds_toArray, List.set_cons_zero, List.set_cons_succ]
              refine wpAnyH_take (i := 2) (oi := { dst := some 18, op := Go.Op.indexAddr 38 (Go.Operand.tmp 16) (Go.Operand.tmp 17), type := 0, pos := "ref.go:30", after := #[{ on := 0, ground := Go.Ground.data }, { on := 1, ground := Go.Ground.data }], guard := none }) (v := .pointer (some (ad.add (i * 19)))) rfl (by kernel_rfl) (by kernel_rfl) (by kernel_rfl) (fun _ _ _ h => h) (Or.inl ⟨by rfl, ?_⟩) hH ?_
              (intro w5 hS5; go_simp; try rfl)
              try simp only [Act.put, List.setIfInBounds_toArray, List.set_cons_zero, List.set_cons_succ]
              refine wpAnyH_take (i := 3) (oi := { dst := some 19, op := Go.Op.fieldAddr 36 (Go.Operand.tmp 18) 3, type := 0, pos := "ref.go:30", after := #[{ on := 2, ground := Go.Ground.data }], guard := none }) (v := .pointer (some ⟨(ad.add (i * 19)).block, (ad.add (i * 19)).off + 17, none⟩)) rfl (by kernel_rfl) (by kernel_rfl) (by kernel_rfl) (fun _ _ _ h => h) (Or.inl ⟨by rfl, ?_⟩) hH ?_
              (intro w5 hS5; go_simp; try rfl)
              try simp only [Act.put, List.setIfInBounds_toArray, List.set_cons_zero, List.set_cons_succ]
              refine wpAnyH_take (i := 4) (oi := { dst := some 20, op := Go.Op.load 3 (Go.Operand.tmp 19), type := 3, pos := "ref.go:30", after := #[{ on := 3, ground := Go.Ground.data }], guard := none }) (v := .int .i64 s) rfl (by kernel_rfl) (by kernel_rfl) (by kernel_rfl) (fun _ _ _ h => h) (Or.inl ⟨by rfl, ?_⟩) hH ?_
              (intro w5 hS5; have ck := c17.out _ hS5; go_simp; try rfl)
              try simp only [Act.put, List.setIfInBounds_toArray, List.set_cons_zero, List.set_cons_succ]
              refine wpAnyH_take (i := 5) (oi := { dst := some 21, op := Go.Op.binOp Go.BinOp.lss 3 (Go.Operand.tmp 20) (Go.Operand.const (Go.Value.int Go.IntKind.i64 0)) 3, type := 4, pos := "ref.go:30", after := #[{ on := 4, ground := Go.Ground.data }], guard := none }) (v := .bool false) rfl (by kernel_rfl) (by kernel_rfl) (by kernel_rfl) (fun _ _ _ h => h) (Or.inl ⟨by rfl, ?_⟩) hH ?_
              (intro w5 hS5; go_simp; try rfl)
              try simp only [Act.put, List.setIfInBounds_toArray, List.set_cons_zero, List.set_cons_succ]
              refine wpAnyH_take (i := 6) (oi := { dst := some 22, op := Go.Op.move (Go.Operand.tmp 21), type := 4, pos := "ref.go:30", after := #[{ on := 5, ground := Go.Ground.data }], guard := none }) (v := .bool false) rfl (by kernel_rfl) (by kernel_rfl) (by kernel_rfl) (fun _ _ _ h => h) (Or.inl ⟨by rfl, ?_⟩) hH ?_
              (intro w5 hS5; go_simp; try rfl)
              try simp only [Act.put, List.setIfInBounds_toArray, List.set_cons_zero, List.set_cons_succ]
              refine wpAnyH_take (i := 7) (oi := { dst := some 23, op := Go.Op.move (Go.Operand.tmp 0), type := 38, pos := "ref.go:30", after := #[{ on := 6, ground := Go.Ground.guard }], guard := some (6, false) }) (v := .slice (some ad) n cap) rfl (by kernel_rfl) (by kernel_rfl) (by kernel_rfl) (fun _ _ _ h => h) (Or.inl ⟨by rfl, ?_⟩) hH ?_
              (intro w5 hS5; go_simp; try rfl)
              try simp only [Act.put, List.setIfInBounds_toArray, List.set_cons_zero, List.set_cons_succ]
              refine wpAnyH_take (i := 8) (oi := { dst := some 24, op := Go.Op.move (Go.Operand.tmp 3), type := 3, pos := "ref.go:30", after := #[{ on := 6, ground := Go.Ground.guard }], guard := some (6, false) }) (v := .int .i64 (i : Nat)) rfl (by kernel_rfl) (by kernel_rfl) (by kernel_rfl) (fun _ _ _ h => h) (Or.inl ⟨by rfl, ?_⟩) hH ?_
              (intro w5 hS5; go_simp; try rfl)
              try simp only [Act.put, List.setIfInBounds_toArray, List.set_cons_zero, List.set_cons_succ]
              refine wpAnyH_take (i := 9) (oi := { dst := some 25, op := Go.Op.indexAddr 38 (Go.Operand.tmp 23) (Go.Operand.tmp 24), type := 0, pos := "ref.go:30", after := #[{ on := 7, ground := Go.Ground.data }, { on := 8, ground := Go.Ground.data }, { on := 6, ground := Go.Ground.guard }], guard := some (6, false) }) (v := .pointer (some (ad.add (i * 19)))) rfl (by kernel_rfl) (by kernel_rfl) (by kernel_rfl) (fun _ _ _ h => h) (Or.inl ⟨by rfl, ?_⟩) hH ?_
              (intro w5 hS5; go_simp; try rfl)
              try simp only [Act.put, List.setIfInBounds_toArray, List.set_cons_zero, List.set_cons_succ]
              refine wpAnyH_take (i := 10) (oi := { dst := some 26, op := Go.Op.fieldAddr 36 (Go.Operand.tmp 25) 4, type := 0, pos := "ref.go:30", after := #[{ on := 9, ground := Go.Ground.data }, { on := 6, ground := Go.Ground.guard }], guard := some (6, false) }) (v := .pointer (some ⟨(ad.add (i * 19)).block, (ad.add (i * 19)).off + 18, none⟩)) rfl (by kernel_rfl) (by kernel_rfl) (by kernel_rfl) (fun _ _ _ h => h) (Or.inl ⟨by rfl, ?_⟩) hH ?_
              (intro w5 hS5; go_simp; try rfl)
              try simp only [Act.put, List.setIfInBounds_toArray, List.set_cons_zero, List.set_cons_succ]
              refine wpAnyH_take (i := 11) (oi := { dst := some 27, op := Go.Op.load 3 (Go.Operand.tmp 26), type := 3, pos := "ref.go:30", after := #[{ on := 10, ground := Go.Ground.data }, { on := 6, ground := Go.Ground.guard }], guard := some (6, false) }) (v := .int .i64 e) rfl (by kernel_rfl) (by kernel_rfl) (by kernel_rfl) (fun _ _ _ h => h) (Or.inl ⟨by rfl, ?_⟩) hH ?_
              (intro w5 hS5; have ck := c18.out _ hS5; go_simp; try rfl)
              try simp only [Act.put, List.setIfInBounds_toArray, List.set_cons_zero, List.set_cons_succ]
              refine wpAnyH_take (i := 12) (oi := { dst := some 28, op := Go.Op.binOp Go.BinOp.lss 3 (Go.Operand.tmp 27) (Go.Operand.const (Go.Value.int Go.IntKind.i64 (-1))) 3, type := 4, pos := "ref.go:30", after := #[{ on := 11, ground := Go.Ground.data }, { on := 6, ground := Go.Ground.guard }], guard := some (6, false) }) (v := .bool false) rfl (by kernel_rfl) (by kernel_rfl) (by kernel_rfl) (fun _ _ _ h => h) (Or.inl ⟨by rfl, ?_⟩) hH ?_
              (intro w5 hS5; go_simp; try rfl)
              try simp only [Act.put, List.setIfInBounds_toArray, List.set_cons_zero, List.set_cons_succ]
              refine wpAnyH_take (i := 13) (oi := { dst := some 29, op := Go.Op.pick (Go.Operand.tmp 22) (Go.Operand.const (Go.Value.bool true)) (Go.Operand.tmp 28), type := 4, pos := "ref.go:30", after := #[{ on := 6, ground := Go.Ground.data }, { on := 12, ground := Go.Ground.data }], guard := none }) (v := .bool false) rfl (by kernel_rfl) (by kernel_rfl) (by kernel_rfl) (fun _ _ _ h => h) (Or.inl ⟨by rfl, ?_⟩) hH ?_
              (intro w5 hS5; go_simp; try rfl)
              try simp only [Act.put, List.setIfInBounds_toArray, List.set_cons_zero, List.set_cons_succ]
              refine wpAnyH_take (i := 14) (oi := { dst := some 30, op := Go.Op.move (Go.Operand.tmp 29), type := 4, pos := "ref.go:30", after := #[{ on := 13, ground := Go.Ground.data }, { on := 6, ground := Go.Ground.chain }], guard := none }) (v := .bool false) rfl (by kernel_rfl) (by kernel_rfl) (by kernel_rfl) (fun _ _ _ h => h) (Or.inl ⟨by rfl, ?_⟩) hH ?_
              (intro w5 hS5; go_simp; try rfl)
              try simp only [Act.put, List.setIfInBounds_toArray, List.set_cons_zero, List.set_cons_succ]
              refine wpAnyH_take (i := 15) (oi := { dst := some 31, op := Go.Op.move (Go.Operand.tmp 0), type := 38, pos := "ref.go:30", after := #[{ on := 14, ground := Go.Ground.guard }], guard := some (14, false) }) (v := .slice (some ad) n cap) rfl (by kernel_rfl) (by kernel_rfl) (by kernel_rfl) (fun _ _ _ h => h) (Or.inl ⟨by rfl, ?_⟩) hH ?_
              (intro w5 hS5; go_simp; try rfl)
              try simp only [Act.put, List.setIfInBounds_toArray, List.set_cons_zero, List.set_cons_succ]
              refine wpAnyH_take (i := 16) (oi := { dst := some 32, op := Go.Op.move (Go.Operand.tmp 3), type := 3, pos := "ref.go:30", after := #[{ on := 14, ground := Go.Ground.guard }], guard := some (14, false) }) (v := .int .i64 (i : Nat)) rfl (by kernel_rfl) (by kernel_rfl) (by kernel_rfl) (fun _ _ _ h => h) (Or.inl ⟨by rfl, ?_⟩) hH ?_
              (intro w5 hS5; go_simp; try rfl)
              try simp only [Act.put, List.setIfInBounds_toArray, List.set_cons_zero, List.set_cons_succ]
              refine wpAnyH_take (i := 17) (oi := { dst := some 33, op := Go.Op.indexAddr 38 (Go.Operand.tmp 31) (Go.Operand.tmp 32), type := 0, pos := "ref.go:30", after := #[{ on := 15, ground := Go.Ground.data }, { on := 16, ground := Go.Ground.data }, { on := 14, ground := Go.Ground.guard }], guard := some (14, false) }) (v := .pointer (some (ad.add (i * 19)))) rfl (by kernel_rfl) (by kernel_rfl) (by kernel_rfl) (fun _ _ _ h => h) (Or.inl ⟨by rfl, ?_⟩) hH ?_
              (intro w5 hS5; go_simp; try rfl)
              try simp only [Act.put, List.setIfInBounds_toArray, List.set_cons_zero, List.set_cons_succ]
              refine wpAnyH_take (i := 18) (oi := { dst := some 34, op := Go.Op.fieldAddr 36 (Go.Operand.tmp 33) 4, type := 0, pos := "ref.go:30", after := #[{ on := 17, ground := Go.Ground.data }, { on := 14, ground := Go.Ground.guard }], guard := some (14, false) }) (v := .pointer (some ⟨(ad.add (i * 19)).block, (ad.add (i * 19)).off + 18, none⟩)) rfl (by kernel_rfl) (by kernel_rfl) (by kernel_rfl) (fun _ _ _ h => h) (Or.inl ⟨by rfl, ?_⟩) hH ?_
              (intro w5 hS5; go_simp; try rfl)
              try simp only [Act.put, List.setIfInBounds_toArray, List.set_cons_zero, List.set_cons_succ]
              refine wpAnyH_take (i := 19) (oi := { dst := some 35, op := Go.Op.load 3 (Go.Operand.tmp 34), type := 3, pos := "ref.go:30", after := #[{ on := 18, ground := Go.Ground.data }, { on := 14, ground := Go.Ground.guard }], guard := some (14, false) }) (v := .int .i64 e) rfl (by kernel_rfl) (by kernel_rfl) (by kernel_rfl) (fun _ _ _ h => h) (Or.inl ⟨by rfl, ?_⟩) hH ?_
              (intro w5 hS5; have ck := c18.out _ hS5; go_simp; try rfl)
              try simp only [Act.put, List.setIfInBounds_toArray, List.set_cons_zero, List.set_cons_succ]
              refine wpAnyH_take (i := 20) (oi := { dst := some 36, op := Go.Op.binOp Go.BinOp.neq 3 (Go.Operand.tmp 35) (Go.Operand.const (Go.Value.int Go.IntKind.i64 (-1))) 3, type := 4, pos := "ref.go:30", after := #[{ on := 19, ground := Go.Ground.data }, { on := 14, ground := Go.Ground.guard }], guard := some (14, false) }) (v := .bool true) rfl (by kernel_rfl) (by kernel_rfl) (by kernel_rfl) (fun _ _ _ h => h) (Or.inl ⟨by rfl, ?_⟩) hH ?_
              (intro w5 hS5; go_simp; try rfl)
              try simp only [Act.put, List.setIfInBounds_toArray, List.set_cons_zero, List.set_cons_succ]
              refine wpAnyH_take (i := 21) (oi := { dst := some 37, op := Go.Op.move (Go.Operand.tmp 36), type := 4, pos := "ref.go:30", after := #[{ on := 20, ground := Go.Ground.data }, { on := 14, ground := Go.Ground.chain }, { on := 14, ground := Go.Ground.guard }], guard := some (14, false) }) (v := .bool true) rfl (by kernel_rfl) (by kernel_rfl) (by kernel_rfl) (fun _ _ _ h => h) (Or.inl ⟨by rfl, ?_⟩) hH ?_
              (intro w5 hS5; go_simp; try rfl)
              try simp only [Act.put, List.setIfInBounds_toArray, List.set_cons_zero, List.set_cons_succ]
              refine wpAnyH_take (i := 22) (oi := { dst := some 38, op := Go.Op.move (Go.Operand.tmp 0), type := 38, pos := "ref.go:30", after := #[{ on := 21, ground := Go.Ground.guard }], guard := some (21, true) }) (v := .slice (some ad) n cap) rfl (by kernel_rfl) (by kernel_rfl) (by kernel_rfl) (fun _ _ _ h => h) (Or.inl ⟨by rfl, ?_⟩) hH ?_
              (intro w5 hS5; go_simp; try rfl)
              try simp only [Act.put, List.setIfInBounds_toArray, List.set_cons_zero, List.set_cons_succ]
              refine wpAnyH_take (i := 23) (oi := { dst := some 39, op := Go.Op.move (Go.Operand.tmp 3), type := 3, pos := "ref.go:30", after := #[{ on := 21, ground := Go.Ground.guard }], guard := some (21, true) }) (v := .int .i64 (i : Nat)) rfl (by kernel_rfl) (by kernel_rfl) (by kernel_rfl) (fun _ _ _ h => h) (Or.inl ⟨by rfl, ?_⟩) hH ?_
              (intro w5 hS5; go_simp; try rfl)
              try simp only [Act.put, List.setIfInBounds_toArray, List.set_cons_zero, List.set_cons_succ]
              refine wpAnyH_take (i := 24) (oi := { dst := some 40, op := Go.Op.indexAddr 38 (Go.Operand.tmp 38) (Go.Operand.tmp 39), type := 0, pos := "ref.go:30", after := #[{ on := 22, ground := Go.Ground.data }, { on := 23, ground := Go.Ground.data }, { on := 21, ground := Go.Ground.guard }], guard := some (21, true) }) (v := .pointer (some (ad.add (i * 19)))) rfl (by kernel_rfl) (by kernel_rfl) (by kernel_rfl) (fun _ _ _ h => h) (Or.inl ⟨by rfl, ?_⟩) hH ?_
              (intro w5 hS5; go_simp; try rfl)
              try simp only [Act.put, List.setIfInBounds_toArray, List.set_cons_zero, List.set_cons_succ]
              refine wpAnyH_take (i := 25) (oi := { dst := some 41, op := Go.Op.fieldAddr 36 (Go.Operand.tmp 40) 4, type := 0, pos := "ref.go:30", after := #[{ on := 24, ground := Go.Ground.data }, { on := 21, ground := Go.Ground.guard }], guard := some (21, true) }) (v := .pointer (some ⟨(ad.add (i * 19)).block, (ad.add (i * 19)).off + 18, none⟩)) rfl (by kernel_rfl) (by kernel_rfl) (by kernel_rfl) (fun _ _ _ h => h) (Or.inl ⟨by rfl, ?_⟩) hH ?_
              (intro w5 hS5; go_simp; try rfl)
              try simp only [Act.put, List.setIfInBounds_toArray, List.set_cons_zero, List.set_cons_succ]
              refine wpAnyH_take (i := 26) (oi := { dst := some 42, op := Go.Op.load 3 (Go.Operand.tmp 41), type := 3, pos := "ref.go:30", after := #[{ on := 25, ground := Go.Ground.data }, { on := 21, ground := Go.Ground.guard }], guard := some (21, true) }) (v := .int .i64 e) rfl (by kernel_rfl) (by kernel_rfl) (by kernel_rfl) (fun _ _ _ h => h) (Or.inl ⟨by rfl, ?_⟩) hH ?_
              (intro w5 hS5; have ck := c18.out _ hS5; go_simp; try rfl)
              try simp only [Act.put, List.setIfInBounds_toArray, List.set_cons_zero, List.set_cons_succ]
              refine wpAnyH_take (i := 27) (oi := { dst := some 43, op := Go.Op.move (Go.Operand.tmp 0), type := 38, pos := "ref.go:30", after := #[{ on := 21, ground := Go.Ground.guard }], guard := some (21, true) }) (v := .slice (some ad) n cap) rfl (by kernel_rfl) (by kernel_rfl) (by kernel_rfl) (fun _ _ _ h => h) (Or.inl ⟨by rfl, ?_⟩) hH ?_
              (intro w5 hS5; go_simp; try rfl)
              try simp only [Act.put, List.setIfInBounds_toArray, List.set_cons_zero, List.set_cons_succ]
              refine wpAnyH_take (i := 28) (oi := { dst := some 44, op := Go.Op.move (Go.Operand.tmp 3), type := 3, pos := "ref.go:30", after := #[{ on := 21, ground := Go.Ground.guard }], guard := some (21, true) }) (v := .int .i64 (i : Nat)) rfl (by kernel_rfl) (by kernel_rfl) (by kernel_rfl) (fun _ _ _ h => h) (Or.inl ⟨by rfl, ?_⟩) hH ?_
              (intro w5 hS5; go_simp; try rfl)
              try simp only [Act.put, List.setIfInBounds_toArray, List.set_cons_zero, List.set_cons_succ]
              refine wpAnyH_take (i := 29) (oi := { dst := some 45, op := Go.Op.indexAddr 38 (Go.Operand.tmp 43) (Go.Operand.tmp 44), type := 0, pos := "ref.go:30", after := #[{ on := 27, ground := Go.Ground.data }, { on := 28, ground := Go.Ground.data }, { on := 21, ground := Go.Ground.guard }], guard := some (21, true) }) (v := .pointer (some (ad.add (i * 19)))) rfl (by kernel_rfl) (by kernel_rfl) (by kernel_rfl) (fun _ _ _ h => h) (Or.inl ⟨by rfl, ?_⟩) hH ?_
              (intro w5 hS5; go_simp; try rfl)
              try simp only [Act.put, List.setIfInBounds_toArray, List.set_cons_zero, List.set_cons_succ]
              refine wpAnyH_take (i := 30) (oi := { dst := some 46, op := Go.Op.fieldAddr 36 (Go.Operand.tmp 45) 3, type := 0, pos := "ref.go:30", after := #[{ on := 29, ground := Go.Ground.data }, { on := 21, ground := Go.Ground.guard }], guard := some (21, true) }) (v := .pointer (some ⟨(ad.add (i * 19)).block, (ad.add (i * 19)).off + 17, none⟩)) rfl (by kernel_rfl) (by kernel_rfl) (by kernel_rfl) (fun _ _ _ h => h) (Or.inl ⟨by rfl, ?_⟩) hH ?_
              (intro w5 hS5; go_simp; try rfl)
              try simp only [Act.put, List.setIfInBounds_toArray, List.set_cons_zero, List.set_cons_succ]
              refine wpAnyH_take (i := 31) (oi := { dst := some 47, op := Go.Op.load 3 (Go.Operand.tmp 46), type := 3, pos := "ref.go:30", after := #[{ on := 30, ground := Go.Ground.data }, { on := 21, ground := Go.Ground.guard }], guard := some (21, true) }) (v := .int .i64 s) rfl (by kernel_rfl) (by kernel_rfl) (by kernel_rfl) (fun _ _ _ h => h) (Or.inl ⟨by rfl, ?_⟩) hH ?_
              (intro w5 hS5; have ck := c17.out _ hS5; go_simp; try rfl)
              try simp only [Act.put, List.setIfInBounds_toArray, List.set_cons_zero, List.set_cons_succ]
              refine wpAnyH_take (i := 32) (oi := { dst := some 48, op := Go.Op.binOp Go.BinOp.leq 3 (Go.Operand.tmp 42) (Go.Operand.tmp 47) 3, type := 4, pos := "ref.go:30", after := #[{ on := 26, ground := Go.Ground.data }, { on := 31, ground := Go.Ground.data }, { on := 21, ground := Go.Ground.guard }], guard := some (21, true) }) (v := .bool false) rfl (by kernel_rfl) (by kernel_rfl) (by kernel_rfl) (fun _ _ _ h => h) (Or.inl ⟨by rfl, ?_⟩) hH ?_
              (intro w5 hS5; go_simp; try rfl)
              try simp only [Act.put, List.setIfInBounds_toArray, List.set_cons_zero, List.set_cons_succ]
              refine wpAnyH_take (i := 33) (oi := { dst := some 49, op := Go.Op.pick (Go.Operand.tmp 37) (Go.Operand.tmp 48) (Go.Operand.const (Go.Value.bool false)), type := 4, pos := "ref.go:30", after := #[{ on := 21, ground := Go.Ground.data }, { on := 32, ground := Go.Ground.data }, { on := 14, ground := Go.Ground.guard }], guard := some (14, false) }) (v := .bool false) rfl (by kernel_rfl) (by kernel_rfl) (by kernel_rfl) (fun _ _ _ h => h) (Or.inl ⟨by rfl, ?_⟩) hH ?_
              (intro w5 hS5; go_simp; try rfl)
              try simp only [Act.put, List.setIfInBounds_toArray, List.set_cons_zero, List.set_cons_succ]
              refine wpAnyH_take (i := 34) (oi := { dst := some 50, op := Go.Op.pick (Go.Operand.tmp 30) (Go.Operand.const (Go.Value.bool true)) (Go.Operand.tmp 49), type := 4, pos := "ref.go:30", after := #[{ on := 14, ground := Go.Ground.data }, { on := 33, ground := Go.Ground.data }], guard := none }) (v := .bool false) rfl (by kernel_rfl) (by kernel_rfl) (by kernel_rfl) (fun _ _ _ h => h) (Or.inl ⟨by rfl, ?_⟩) hH ?_
              (intro w5 hS5; go_simp; try rfl)
              try simp only [Act.put, List.setIfInBounds_toArray, List.set_cons_zero, List.set_cons_succ]
              refine wpAnyH_done (by kernel_rfl) ?_ _
              have HZ := Lib.hid hH
              clear hH
              have hn := Lib.hid (MO.out (by rw [hb.out, tA, tB, tC, tD]; rfl))
              go_wp2_with fail
              go_roundg (gq - 1)
              case rel => exact ⟨i + 1, by omega, by go_num, hn.out, HZ.out⟩
              case measure => omega
            · go_wp2_with fail
              refine wp_region_held_drew (S := fun w' => New w w') (by kernel_rfl) nw.drew (fun hH => ?_)
              clear nw
              refine wpAnyH_take (i := 0) (oi := { dst := some 16, op := Go.Op.move (Go.Operand.tmp 0), type := 38, pos := "ref.go:30", after := #[], guard := none }) (v := .slice (some ad) n cap) rfl (by kernel_rfl) (by kernel_rfl) (by kernel_rfl) (fun _ _ _ h => h) (Or.inl ⟨by rfl, ?_⟩) hH ?_
              (intro w5 hS5; go_simp; try rfl)
              try simp only [Act.put, List.setIfInBounds_toArray, List.set_cons_zero, List.set_cons_succ]
              refine wpAnyH_take (i := 1) (oi := { dst := some 17, op := Go.Op.move (Go.Operand.tmp 3), type := 3, pos := "ref.go:30", after := #[], guard := none }) (v := .int .i64 (i : Nat)) rfl (by kernel_rfl) (by kernel_rfl) (by kernel_rfl) (fun _ _ _ h => h) (Or.inl ⟨by rfl, ?_⟩) hH ?_
              (intro w5 hS5; go_simp; try rfl)
              try simp only [Act.put, List.setIfInBounds_toArray, List.set_cons_zero, List.set_cons_succ]
              refine wpAnyH_take (i := 2) (oi := { dst := some 18, op := Go.Op.indexAddr 38 (Go.Operand.tmp 16) (Go.Operand.tmp 17), type := 0, pos := "ref.go:30", after := #[{ on := 0, ground := Go.Ground.data }, { on := 1, ground := Go.Ground.data }], guard := none }) (v := .pointer (some (ad.add (i * 19)))) rfl (by kernel_rfl) (by kernel_rfl) (by kernel_rfl) (fun _ _ _ h => h) (Or.inl ⟨by rfl, ?_⟩) hH ?_
              (intro w5 hS5; go_simp; try rfl)
              try simp only [Act.put, List.setIfInBounds_toArray, List.set_cons_zero, List.set_cons_succ]
              refine wpAnyH_take (i := 3) (oi := { dst := some 19, op := Go.Op.fieldAddr 36 (Go.Operand.tmp 18) 3, type := 0, pos := "ref.go:30", after := #[{ on := 2, ground := Go.Ground.data }], guard := none }) (v := .pointer (some ⟨(ad.add (i * 19)).block, (ad.add (i * 19)).off + 17, none⟩)) rfl (by kernel_rfl) (by kernel_rfl) (by kernel_rfl) (fun _ _ _ h => h) (Or.inl ⟨by rfl, ?_⟩) hH ?_
              (intro w5 hS5; go_simp; try rfl)
              try simp only [Act.put, List.setIfInBounds_toArray, List.set_cons_zero, List.set_cons_succ]
              refine wpAnyH_take (i := 4) (oi := { dst := some 20, op := Go.Op.load 3 (Go.Operand.tmp 19), type := 3, pos := "ref.go:30", after := #[{ on := 3, ground := Go.Ground.data }], guard := none }) (v := .int .i64 s) rfl (by kernel_rfl) (by kernel_rfl) (by kernel_rfl) (fun _ _ _ h => h) (Or.inl ⟨by rfl, ?_⟩) hH ?_
              (intro w5 hS5; have ck := c17.out _ hS5; go_simp; try rfl)
              try simp only [Act.put, List.setIfInBounds_toArray, List.set_cons_zero, List.set_cons_succ]
              refine wpAnyH_take (i := 5) (oi := { dst := some 21, op := Go.Op.binOp Go.BinOp.lss 3 (Go.Operand.tmp 20) (Go.Operand.const (Go.Value.int Go.IntKind.i64 0)) 3, type := 4, pos := "ref.go:30", after := #[{ on := 4, ground := Go.Ground.data }], guard := none }) (v := .bool false) rfl (by kernel_rfl) (by kernel_rfl) (by kernel_rfl) (fun _ _ _ h => h) (Or.inl ⟨by rfl, ?_⟩) hH ?_
              (intro w5 hS5; go_simp; try rfl)
              try simp only [Act.put, List.setIfInBounds_toArray, List.set_cons_zero, List.set_cons_succ]
              refine wpAnyH_take (i := 6) (oi := { dst := some 22, op := Go.Op.move (Go.Operand.tmp 21), type := 4, pos := "ref.go:30", after := #[{ on := 5, ground := Go.Ground.data }], guard := none }) (v := .bool false) rfl (by kernel_rfl) (by kernel_rfl) (by kernel_rfl) (fun _ _ _ h => h) (Or.inl ⟨by rfl, ?_⟩) hH ?_
              (intro w5 hS5; go_simp; try rfl)
              try simp only [Act.put, List.setIfInBounds_toArray, List.set_cons_zero, List.set_cons_succ]
              refine wpAnyH_take (i := 7) (oi := { dst := some 23, op := Go.Op.move (Go.Operand.tmp 0), type := 38, pos := "ref.go:30", after := #[{ on := 6, ground := Go.Ground.guard }], guard := some (6, false) }) (v := .slice (some ad) n cap) rfl (by kernel_rfl) (by kernel_rfl) (by kernel_rfl) (fun _ _ _ h => h) (Or.inl ⟨by rfl, ?_⟩) hH ?_
              (intro w5 hS5; go_simp; try rfl)
              try simp only [Act.put, List.setIfInBounds_toArray, List.set_cons_zero, List.set_cons_succ]
              refine wpAnyH_take (i := 8) (oi := { dst := some 24, op := Go.Op.move (Go.Operand.tmp 3), type := 3, pos := "ref.go:30", after := #[{ on := 6, ground := Go.Ground.guard }], guard := some (6, false) }) (v := .int .i64 (i : Nat)) rfl (by kernel_rfl) (by kernel_rfl) (by kernel_rfl) (fun _ _ _ h => h) (Or.inl ⟨by rfl, ?_⟩) hH ?_
              (intro w5 hS5; go_simp; try rfl)
              try simp only [Act.put, List.setIfInBounds_toArray, List.set_cons_zero, List.set_cons_succ]
              refine wpAnyH_take (i := 9) (oi := { dst := some 25, op := Go.Op.indexAddr 38 (Go.Operand.tmp 23) (Go.Operand.tmp 24), type := 0, pos := "ref.go:30", after := #[{ on := 7, ground := Go.Ground.data }, { on := 8, ground := Go.Ground.data }, { on := 6, ground := Go.Ground.guard }], guard := some (6, false) }) (v := .pointer (some (ad.add (i * 19)))) rfl (by kernel_rfl) (by kernel_rfl) (by kernel_rfl) (fun _ _ _ h => h) (Or.inl ⟨by rfl, ?_⟩) hH ?_
              (intro w5 hS5; go_simp; try rfl)
              try simp only [Act.put, List.setIfInBounds_toArray, List.set_cons_zero, List.set_cons_succ]
              refine wpAnyH_take (i := 10) (oi := { dst := some 26, op := Go.Op.fieldAddr 36 (Go.Operand.tmp 25) 4, type := 0, pos := "ref.go:30", after := #[{ on := 9, ground := Go.Ground.data }, { on := 6, ground := Go.Ground.guard }], guard := some (6, false) }) (v := .pointer (some ⟨(ad.add (i * 19)).block, (ad.add (i * 19)).off + 18, none⟩)) rfl (by kernel_rfl) (by kernel_rfl) (by kernel_rfl) (fun _ _ _ h => h) (Or.inl ⟨by rfl, ?_⟩) hH ?_
              (intro w5 hS5; go_simp; try rfl)
              try simp only [Act.put, List.setIfInBounds_toArray, List.set_cons_zero, List.set_cons_succ]
              refine wpAnyH_take (i := 11) (oi := { dst := some 27, op := Go.Op.load 3 (Go.Operand.tmp 26), type := 3, pos := "ref.go:30", after := #[{ on := 10, ground := Go.Ground.data }, { on := 6, ground := Go.Ground.guard }], guard := some (6, false) }) (v := .int .i64 e) rfl (by kernel_rfl) (by kernel_rfl) (by kernel_rfl) (fun _ _ _ h => h) (Or.inl ⟨by rfl, ?_⟩) hH ?_
              (intro w5 hS5; have ck := c18.out _ hS5; go_simp; try rfl)
              try simp only [Act.put, List.setIfInBounds_toArray, List.set_cons_zero, List.set_cons_succ]
              refine wpAnyH_take (i := 12) (oi := { dst := some 28, op := Go.Op.binOp Go.BinOp.lss 3 (Go.Operand.tmp 27) (Go.Operand.const (Go.Value.int Go.IntKind.i64 (-1))) 3, type := 4, pos := "ref.go:30", after := #[{ on := 11, ground := Go.Ground.data }, { on := 6, ground := Go.Ground.guard }], guard := some (6, false) }) (v := .bool false) rfl (by kernel_rfl) (by kernel_rfl) (by kernel_rfl) (fun _ _ _ h => h) (Or.inl ⟨by rfl, ?_⟩) hH ?_
              (intro w5 hS5; go_simp; try rfl)
              try simp only [Act.put, List.setIfInBounds_toArray, List.set_cons_zero, List.set_cons_succ]
              refine wpAnyH_take (i := 13) (oi := { dst := some 29, op := Go.Op.pick (Go.Operand.tmp 22) (Go.Operand.const (Go.Value.bool true)) (Go.Operand.tmp 28), type := 4, pos := "ref.go:30", after := #[{ on := 6, ground := Go.Ground.data }, { on := 12, ground := Go.Ground.data }], guard := none }) (v := .bool false) rfl (by kernel_rfl) (by kernel_rfl) (by kernel_rfl) (fun _ _ _ h => h) (Or.inl ⟨by rfl, ?_⟩) hH ?_
              (intro w5 hS5; go_simp; try rfl)
              try simp only [Act.put, List.setIfInBounds_toArray, List.set_cons_zero, List.set_cons_succ]
              refine wpAnyH_take (i := 14) (oi := { dst := some 30, op := Go.Op.move (Go.Operand.tmp 29), type := 4, pos := "ref.go:30", after := #[{ on := 13, ground := Go.Ground.data }, { on := 6, ground := Go.Ground.chain }], guard := none }) (v := .bool false) rfl (by kernel_rfl) (by kernel_rfl) (by kernel_rfl) (fun _ _ _ h => h) (Or.inl ⟨by rfl, ?_⟩) hH ?_
              (intro w5 hS5; go_simp; try rfl)
              try simp only [Act.put, List.setIfInBounds_toArray, List.set_cons_zero, List.set_cons_succ]
              refine wpAnyH_take (i := 15) (oi := { dst := some 31, op := Go.Op.move (Go.Operand.tmp 0), type := 38, pos := "ref.go:30", after := #[{ on := 14, ground := Go.Ground.guard }], guard := some (14, false) }) (v := .slice (some ad) n cap) rfl (by kernel_rfl) (by kernel_rfl) (by kernel_rfl) (fun _ _ _ h => h) (Or.inl ⟨by rfl, ?_⟩) hH ?_
              (intro w5 hS5; go_simp; try rfl)
              try simp only [Act.put, List.setIfInBounds_toArray, List.set_cons_zero, List.set_cons_succ]
              refine wpAnyH_take (i := 16) (oi := { dst := some 32, op := Go.Op.move (Go.Operand.tmp 3), type := 3, pos := "ref.go:30", after := #[{ on := 14, ground := Go.Ground.guard }], guard := some (14, false) }) (v := .int .i64 (i : Nat)) rfl (by kernel_rfl) (by kernel_rfl) (by kernel_rfl) (fun _ _ _ h => h) (Or.inl ⟨by rfl, ?_⟩) hH ?_
              (intro w5 hS5; go_simp; try rfl)
              try simp only [Act.put, List.setIfInBounds_toArray, List.set_cons_zero, List.set_cons_succ]
              refine wpAnyH_take (i := 17) (oi := { dst := some 33, op := Go.Op.indexAddr 38 (Go.Operand.tmp 31) (Go.Operand.tmp 32), type := 0, pos := "ref.go:30", after := #[{ on := 15, ground := Go.Ground.data }, { on := 16, ground := Go.Ground.data }, { on := 14, ground := Go.Ground.guard }], guard := some (14, false) }) (v := .pointer (some (ad.add (i * 19)))) rfl (by kernel_rfl) (by kernel_rfl) (by kernel_rfl) (fun _ _ _ h => h) (Or.inl ⟨by rfl, ?_⟩) hH ?_
              (intro w5 hS5; go_simp; try rfl)
              try simp only [Act.put, List.setIfInBounds_toArray, List.set_cons_zero, List.set_cons_succ]
              refine wpAnyH_take (i := 18) (oi := { dst := some 34, op := Go.Op.fieldAddr 36 (Go.Operand.tmp 33) 4, type := 0, pos := "ref.go:30", after := #[{ on := 17, ground := Go.Ground.data }, { on := 14, ground := Go.Ground.guard }], guard := some (14, false) }) (v := .pointer (some ⟨(ad.add (i * 19)).block, (ad.add (i * 19)).off + 18, none⟩)) rfl (by kernel_rfl) (by kernel_rfl) (by kernel_rfl) (fun _ _ _ h => h) (Or.inl ⟨by rfl, ?_⟩) hH ?_
              (intro w5 hS5; go_simp; try rfl)
              try simp only [Act.put, List.setIfInBounds_toArray, List.set_cons_zero, List.set_cons_succ]
              refine wpAnyH_take (i := 19) (oi := { dst := some 35, op := Go.Op.load 3 (Go.Operand.tmp 34), type := 3, pos := "ref.go:30", after := #[{ on := 18, ground := Go.Ground.data }, { on := 14, ground := Go.Ground.guard }], guard := some (14, false) }) (v := .int .i64 e) rfl (by kernel_rfl) (by kernel_rfl) (by kernel_rfl) (fun _ _ _ h => h) (Or.inl ⟨by rfl, ?_⟩) hH ?_
              (intro w5 hS5; have ck := c18.out _ hS5; go_simp; try rfl)
              try simp only [Act.put, List.setIfInBounds_toArray, List.set_cons_zero, List.set_cons_succ]
              refine wpAnyH_take (i := 20) (oi := { dst := some 36, op := Go.Op.binOp Go.BinOp.neq 3 (Go.Operand.tmp 35) (Go.Operand.const (Go.Value.int Go.IntKind.i64 (-1))) 3, type := 4, pos := "ref.go:30", after := #[{ on := 19, ground := Go.Ground.data }, { on := 14, ground := Go.Ground.guard }], guard := some (14, false) }) (v := .bool true) rfl (by kernel_rfl) (by kernel_rfl) (by kernel_rfl) (fun _ _ _ h => h) (Or.inl ⟨by rfl, ?_⟩) hH ?_
              (intro w5 hS5; go_simp; try rfl)
              try simp only [Act.put, List.setIfInBounds_toArray, List.set_cons_zero, List.set_cons_succ]
              refine wpAnyH_take (i := 21) (oi := { dst := some 37, op := Go.Op.move (Go.Operand.tmp 36), type := 4, pos := "ref.go:30", after := #[{ on := 20, ground := Go.Ground.data }, { on := 14, ground := Go.Ground.chain }, { on := 14, ground := Go.Ground.guard }], guard := some (14, false) }) (v := .bool true) rfl (by kernel_rfl) (by kernel_rfl) (by kernel_rfl) (fun _ _ _ h => h) (Or.inl ⟨by rfl, ?_⟩) hH ?_
              (intro w5 hS5; go_simp; try rfl)
              try simp only [Act.put, List.setIfInBounds_toArray, List.set_cons_zero, List.set_cons_succ]
              refine wpAnyH_take (i := 22) (oi := { dst := some 38, op := Go.Op.move (Go.Operand.tmp 0), type := 38, pos := "ref.go:30", after := #[{ on := 21, ground := Go.Ground.guard }], guard := some (21, true) }) (v := .slice (some ad) n cap) rfl (by kernel_rfl) (by kernel_rfl) (by kernel_rfl) (fun _ _ _ h => h) (Or.inl ⟨by rfl, ?_⟩) hH ?_
              (intro w5 hS5; go_simp; try rfl)
              try simp only [Act.put, List.setIfInBounds_toArray, List.set_cons_zero, List.set_cons_succ]
              refine wpAnyH_take (i := 23) (oi := { dst := some 39, op := Go.Op.move (Go.Operand.tmp 3), type := 3, pos := "ref.go:30", after := #[{ on := 21, ground := Go.Ground.guard }], guard := some (21, true) }) (v := .int .i64 (i : Nat)) rfl (by kernel_rfl) (by kernel_rfl) (by kernel_rfl) (fun _ _ _ h => h) (Or.inl ⟨by rfl, ?_⟩) hH ?_
              (intro w5 hS5; go_simp; try rfl)
              try simp only [Act.put, List.setIfInBounds_toArray, List.set_cons_zero, List.set_cons_succ]
              refine wpAnyH_take (i := 24) (oi := { dst := some 40, op := Go.Op.indexAddr 38 (Go.Operand.tmp 38) (Go.Operand.tmp 39), type := 0, pos := "ref.go:30", after := #[{ on := 22, ground := Go.Ground.data }, { on := 23, ground := Go.Ground.data }, { on := 21, ground := Go.Ground.guard }], guard := some (21, true) }) (v := .pointer (some (ad.add (i * 19)))) rfl (by kernel_rfl) (by kernel_rfl) (by kernel_rfl) (fun _ _ _ h => h) (Or.inl ⟨by rfl, ?_⟩) hH ?_
              (intro w5 hS5; go_simp; try rfl)
              try simp only [Act.put, List.setIfInBounds_toArray, List.set_cons_zero, List.set_cons_succ]
              refine wpAnyH_take (i := 25) (oi := { dst := some 41, op := Go.Op.fieldAddr 36 (Go.Operand.tmp 40) 4, type := 0, pos := "ref.go:30", after := #[{ on := 24, ground := Go.Ground.data }, { on := 21, ground := Go.Ground.guard }], guard := some (21, true) }) (v := .pointer (some ⟨(ad.add (i * 19)).block, (ad.add (i * 19)).off + 18, none⟩)) rfl (by kernel_rfl) (by kernel_rfl) (by kernel_rfl) (fun _ _ _ h => h) (Or.inl ⟨by rfl, ?_⟩) hH ?_
              (intro w5 hS5; go_simp; try rfl)
              try simp only [Act.put, List.setIfInBounds_toArray, List.set_cons_zero, List.set_cons_succ]
              refine wpAnyH_take (i := 26) (oi := { dst := some 42, op := Go.Op.load 3 (Go.Operand.tmp 41), type := 3, pos := "ref.go:30", after := #[{ on := 25, ground := Go.Ground.data }, { on := 21, ground := Go.Ground.guard }], guard := some (21, true) }) (v := .int .i64 e) rfl (by kernel_rfl) (by kernel_rfl) (by kernel_rfl) (fun _ _ _ h => h) (Or.inl ⟨by rfl, ?_⟩) hH ?_
              (intro w5 hS5; have ck := c18.out _ hS5; go_simp; try rfl)
              try simp only [Act.put, List.setIfInBounds_toArray, List.set_cons_zero, List.set_cons_succ]
              refine wpAnyH_take (i := 27) (oi := { dst := some 43, op := Go.Op.move (Go.Operand.tmp 0), type := 38, pos := "ref.go:30", after := #[{ on := 21, ground := Go.Ground.guard }], guard := some (21, true) }) (v := .slice (some ad) n cap) rfl (by kernel_rfl) (by kernel_rfl) (by kernel_rfl) (fun _ _ _ h => h) (Or.inl ⟨by rfl, ?_⟩) hH ?_
              (intro w5 hS5; go_simp; try rfl)
              try simp only [Act.put, List.setIfInBounds_toArray, List.set_cons_zero, List.set_cons_succ]
              refine wpAnyH_take (i := 28) (oi := { dst := some 44, op := Go.Op.move (Go.Operand.tmp 3), type := 3, pos := "ref.go:30", after := #[{ on := 21, ground := Go.Ground.guard }], guard := some (21, true) }) (v := .int .i64 (i : Nat)) rfl (by kernel_rfl) (by kernel_rfl) (by kernel_rfl) (fun _ _ _ h => h) (Or.inl ⟨by rfl, ?_⟩) hH ?_
              (intro w5 hS5; go_simp; try rfl)
              try simp only [Act.put, List.setIfInBounds_toArray, List.set_cons_zero, List.set_cons_succ]
              refine wpAnyH_take (i := 29) (oi := { dst := some 45, op := Go.Op.indexAddr 38 (Go.Operand.tmp 43) (Go.Operand.tmp 44), type := 0, pos := "ref.go:30", after := #[{ on := 27, ground := Go.Ground.data }, { on := 28, ground := Go.Ground.data }, { on := 21, ground := Go.Ground.guard }], guard := some (21, true) }) (v := .pointer (some (ad.add (i * 19)))) rfl (by kernel_rfl) (by kernel_rfl) (by kernel_rfl) (fun _ _ _ h => h) (Or.inl ⟨by rfl, ?_⟩) hH ?_
              (intro w5 hS5; go_simp; try rfl)
              try simp only [Act.put, List.setIfInBounds_toArray, List.set_cons_zero, List.set_cons_succ]
              refine wpAnyH_take (i := 30) (oi := { dst := some 46, op := Go.Op.fieldAddr 36 (Go.Operand.tmp 45) 3, type := 0, pos := "ref.go:30", after := #[{ on := 29, ground := Go.Ground.data }, { on := 21, ground := Go.Ground.guard }], guard := some (21, true) }) (v := .pointer (some ⟨(ad.add (i * 19)).block, (ad.add (i * 19)).off + 17, none⟩)) rfl (by kernel_rfl) (by kernel_rfl) (by kernel_rfl) (fun _ _ _ h => h) (Or.inl ⟨by rfl, ?_⟩) hH ?_
              (intro w5 hS5; go_simp; try rfl)
              try simp only [Act.put, List.setIfInBounds_toArray, List.set_cons_zero, List.set_cons_succ]
              refine wpAnyH_take (i := 31) (oi := { dst := some 47, op := Go.Op.load 3 (Go.Operand.tmp 46), type := 3, pos := "ref.go:30", after := #[{ on := 30, ground := Go.Ground.data }, { on := 21, ground := Go.Ground.guard }], guard := some (21, true) }) (v := .int .i64 s) rfl (by kernel_rfl) (by kernel_rfl) (by kernel_rfl) (fun _ _ _ h => h) (Or.inl ⟨by rfl, ?_⟩) hH ?_
              (intro w5 hS5; have ck := c17.out _ hS5; go_simp; try rfl)
              try simp only [Act.put, List.setIfInBounds_toArray, List.set_cons_zero, List.set_cons_succ]
              refine wpAnyH_take (i := 32) (oi := { dst := some 48, op := Go.Op.binOp Go.BinOp.leq 3 (Go.Operand.tmp 42) (Go.Operand.tmp 47) 3, type := 4, pos := "ref.go:30", after := #[{ on := 26, ground := Go.Ground.data }, { on := 31, ground := Go.Ground.data }, { on := 21, ground := Go.Ground.guard }], guard := some (21, true) }) (v := .bool true) rfl (by kernel_rfl) (by kernel_rfl) (by kernel_rfl) (fun _ _ _ h => h) (Or.inl ⟨by rfl, ?_⟩) hH ?_
              (intro w5 hS5; go_simp; try rfl)
              try simp only [Act.put, List.setIfInBounds_toArray, List.set_cons_zero, List.set_cons_succ]
              refine wpAnyH_take (i := 33) (oi := { dst := some 49, op := Go.Op.pick (Go.Operand.tmp 37) (Go.Operand.tmp 48) (Go.Operand.const (Go.Value.bool false)), type := 4, pos := "ref.go:30", after := #[{ on := 21, ground := Go.Ground.data }, { on := 32, ground := Go.Ground.data }, { on := 14, ground := Go.Ground.guard }], guard := some (14, false) }) (v := .bool true) rfl (by kernel_rfl) (by kernel_rfl) (by kernel_rfl) (fun _ _ _ h => h) (Or.inl ⟨by rfl, ?_⟩) hH ?_
              (intro w5 hS5; go_simp; try rfl)
              try simp only [Act.put, List.setIfInBounds_toArray, List.set_cons_zero, List.set_cons_succ]
              refine wpAnyH_take (i := 34) (oi := { dst := some 50, op := Go.Op.pick (Go.Operand.tmp 30) (Go.Operand.const (Go.Value.bool true)) (Go.Operand.tmp 49), type := 4, pos := "ref.go:30", after := #[{ on := 14, ground := Go.Ground.data }, { on := 33, ground := Go.Ground.data }], guard := none }) (v := .bool true) rfl (by kernel_rfl) (by kernel_rfl) (by kernel_rfl) (fun _ _ _ h => h) (Or.inl ⟨by rfl, ?_⟩) hH ?_
              (intro w5 hS5; go_simp; try rfl)
              try simp only [Act.put, List.setIfInBounds_toArray, List.set_cons_zero, List.set_cons_succ]
              refine wpAnyH_done (by kernel_rfl) ?_ _
              have HZ := Lib.hid hH
              clear hH
              have hr := YK.out (by rw [hb.out, tA, tB, tC, tD]; rfl)
              subst hr
              go_wp2_with fail
              exact bodyPost_ret (by simp [results, Try.results15, go_sem]) rfl ⟨rfl, HZ.out⟩
        · go_wp2_with fail
          refine wp_region_held_drew (S := fun w' => New w w') (by kernel_rfl) nw.drew (fun hH => ?_)
          clear nw
          refine wpAnyH_take (i := 0) (oi := { dst := some 16, op := Go.Op.move (Go.Operand.tmp 0), type := 38, pos := "ref.go:30", after := #[], guard := none }) (v := .slice (some ad) n cap) rfl (by kernel_rfl) (by kernel_rfl) (by kernel_rfl) (fun _ _ _ h => h) (Or.inl ⟨by rfl, ?_⟩) hH ?_
          (intro w5 hS5; go_simp; try rfl)
          try simp only [Act.put, List.setIfInBounds_toArray, List.set_cons_zero, List.set_cons_succ]
          refine wpAnyH_take (i := 1) (oi := { dst := some 17, op := Go.Op.move (Go.Operand.tmp 3), type := 3, pos := "ref.go:30", after := #[], guard := none }) (v := .int .i64 (i : Nat)) rfl (by kernel_rfl) (by kernel_rfl) (by kernel_rfl) (fun _ _ _ h => h) (Or.inl ⟨by rfl, ?_⟩) hH ?_
          (intro w5 hS5; go_simp; try rfl)
          try simp only [Act.put, List.setIfInBounds_toArray, List.set_cons_zero, List.set_cons_succ]
          refine wpAnyH_take (i := 2) (oi := { dst := some 18, op := Go.Op.indexAddr 38 (Go.Operand.tmp 16) (Go.Operand.tmp 17), type := 0, pos := "ref.go:30", after := #[{ on := 0, ground := Go.Ground.data }, { on := 1, ground := Go.Ground.data }], guard := none }) (v := .pointer (some (ad.add (i * 19)))) rfl (by kernel_rfl) (by kernel_rfl) (by kernel_rfl) (fun _ _ _ h => h) (Or.inl ⟨by rfl, ?_⟩) hH ?_
          (intro w5 hS5; go_simp; try rfl)
          try simp only [Act.put, List.setIfInBounds_toArray, List.set_cons_zero, List.set_cons_succ]
          refine wpAnyH_take (i := 3) (oi := { dst := some 19, op := Go.Op.fieldAddr 36 (Go.Operand.tmp 18) 3, type := 0, pos := "ref.go:30", after := #[{ on := 2, ground := Go.Ground.data }], guard := none }) (v := .pointer (some ⟨(ad.add (i * 19)).block, (ad.add (i * 19)).off + 17, none⟩)) rfl (by kernel_rfl) (by kernel_rfl) (by kernel_rfl) (fun _ _ _ h => h) (Or.inl ⟨by rfl, ?_⟩) hH ?_
          (intro w5 hS5; go_simp; try rfl)
          try simp only [Act.put, List.setIfInBounds_toArray, List.set_cons_zero, List.set_cons_succ]
          refine wpAnyH_take (i := 4) (oi := { dst := some 20, op := Go.Op.load 3 (Go.Operand.tmp 19), type := 3, pos := "ref.go:30", after := #[{ on := 3, ground := Go.Ground.data }], guard := none }) (v := .int .i64 s) rfl (by kernel_rfl) (by kernel_rfl) (by kernel_rfl) (fun _ _ _ h => h) (Or.inl ⟨by rfl, ?_⟩) hH ?_
          (intro w5 hS5; have ck := c17.out _ hS5; go_simp; try rfl)
          try simp only [Act.put, List.setIfInBounds_toArray, List.set_cons_zero, List.set_cons_succ]
          refine wpAnyH_take (i := 5) (oi := { dst := some 21, op := Go.Op.binOp Go.BinOp.lss 3 (Go.Operand.tmp 20) (Go.Operand.const (Go.Value.int Go.IntKind.i64 0)) 3, type := 4, pos := "ref.go:30", after := #[{ on := 4, ground := Go.Ground.data }], guard := none }) (v := .bool false) rfl (by kernel_rfl) (by kernel_rfl) (by kernel_rfl) (fun _ _ _ h => h) (Or.inl ⟨by rfl, ?_⟩) hH ?_
          (intro w5 hS5; go_simp; try rfl)
          try simp only [Act.put, List.setIfInBounds_toArray, List.set_cons_zero, List.set_cons_succ]
          refine wpAnyH_take (i := 6) (oi := { dst := some 22, op := Go.Op.move (Go.Operand.tmp 21), type := 4, pos := "ref.go:30", after := #[{ on := 5, ground := Go.Ground.data }], guard := none }) (v := .bool false) rfl (by kernel_rfl) (by kernel_rfl) (by kernel_rfl) (fun _ _ _ h => h) (Or.inl ⟨by rfl, ?_⟩) hH ?_
          (intro w5 hS5; go_simp; try rfl)
          try simp only [Act.put, List.setIfInBounds_toArray, List.set_cons_zero, List.set_cons_succ]
          refine wpAnyH_take (i := 7) (oi := { dst := some 23, op := Go.Op.move (Go.Operand.tmp 0), type := 38, pos := "ref.go:30", after := #[{ on := 6, ground := Go.Ground.guard }], guard := some (6, false) }) (v := .slice (some ad) n cap) rfl (by kernel_rfl) (by kernel_rfl) (by kernel_rfl) (fun _ _ _ h => h) (Or.inl ⟨by rfl, ?_⟩) hH ?_
          (intro w5 hS5; go_simp; try rfl)
          try simp only [Act.put, List.setIfInBounds_toArray, List.set_cons_zero, List.set_cons_succ]
          refine wpAnyH_take (i := 8) (oi := { dst := some 24, op := Go.Op.move (Go.Operand.tmp 3), type := 3, pos := "ref.go:30", after := #[{ on := 6, ground := Go.Ground.guard }], guard := some (6, false) }) (v := .int .i64 (i : Nat)) rfl (by kernel_rfl) (by kernel_rfl) (by kernel_rfl) (fun _ _ _ h => h) (Or.inl ⟨by rfl, ?_⟩) hH ?_
          (intro w5 hS5; go_simp; try rfl)
          try simp only [Act.put, List.setIfInBounds_toArray, List.set_cons_zero, List.set_cons_succ]
          refine wpAnyH_take (i := 9) (oi := { dst := some 25, op := Go.Op.indexAddr 38 (Go.Operand.tmp 23) (Go.Operand.tmp 24), type := 0, pos := "ref.go:30", after := #[{ on := 7, ground := Go.Ground.data }, { on := 8, ground := Go.Ground.data }, { on := 6, ground := Go.Ground.guard }], guard := some (6, false) }) (v := .pointer (some (ad.add (i * 19)))) rfl (by kernel_rfl) (by kernel_rfl) (by kernel_rfl) (fun _ _ _ h => h) (Or.inl ⟨by rfl, ?_⟩) hH ?_
          (intro w5 hS5; go_simp; try rfl)
          try simp only [Act.put, List.setIfInBounds_toArray, List.set_cons_zero, List.set_cons_succ]
          refine wpAnyH_take (i := 10) (oi := { dst := some 26, op := Go.Op.fieldAddr 36 (Go.Operand.tmp 25) 4, type := 0, pos := "ref.go:30", after := #[{ on := 9, ground := Go.Ground.data }, { on := 6, ground := Go.Ground.guard }], guard := some (6, false) }) (v := .pointer (some ⟨(ad.add (i * 19)).block, (ad.add (i * 19)).off + 18, none⟩)) rfl (by kernel_rfl) (by kernel_rfl) (by kernel_rfl) (fun _ _ _ h => h) (Or.inl ⟨by rfl, ?_⟩) hH ?_
          (intro w5 hS5; go_simp; try rfl)
          try simp only [Act.put, List.setIfInBounds_toArray, List.set_cons_zero, List.set_cons_succ]
          refine wpAnyH_take (i := 11) (oi := { dst := some 27, op := Go.Op.load 3 (Go.Operand.tmp 26), type := 3, pos := "ref.go:30", after := #[{ on := 10, ground := Go.Ground.data }, { on := 6, ground := Go.Ground.guard }], guard := some (6, false) }) (v := .int .i64 e) rfl (by kernel_rfl) (by kernel_rfl) (by kernel_rfl) (fun _ _ _ h => h) (Or.inl ⟨by rfl, ?_⟩) hH ?_
          (intro w5 hS5; have ck := c18.out _ hS5; go_simp; try rfl)
          try simp only [Act.put, List.setIfInBounds_toArray, List.set_cons_zero, List.set_cons_succ]
          refine wpAnyH_take (i := 12) (oi := { dst := some 28, op := Go.Op.binOp Go.BinOp.lss 3 (Go.Operand.tmp 27) (Go.Operand.const (Go.Value.int Go.IntKind.i64 (-1))) 3, type := 4, pos := "ref.go:30", after := #[{ on := 11, ground := Go.Ground.data }, { on := 6, ground := Go.Ground.guard }], guard := some (6, false) }) (v := .bool true) rfl (by kernel_rfl) (by kernel_rfl) (by kernel_rfl) (fun _ _ _ h => h) (Or.inl ⟨by rfl, ?_⟩) hH ?_
          (intro w5 hS5; go_simp; try rfl)
          try simp only [Act.put, List.setIfInBounds_toArray, List.set_cons_zero, List.set_cons_succ]
          refine wpAnyH_take (i := 13) (oi := { dst := some 29, op := Go.Op.pick (Go.Operand.tmp 22) (Go.Operand.const (Go.Value.bool true)) (Go.Operand.tmp 28), type := 4, pos := "ref.go:30", after := #[{ on := 6, ground := Go.Ground.data }, { on := 12, ground := Go.Ground.data }], guard := none }) (v := .bool true) rfl (by kernel_rfl) (by kernel_rfl) (by kernel_rfl) (fun _ _ _ h => h) (Or.inl ⟨by rfl, ?_⟩) hH ?_
          (intro w5 hS5; go_simp; try rfl)
          try simp only [Act.put, List.setIfInBounds_toArray, List.set_cons_zero, List.set_cons_succ]
          refine wpAnyH_take (i := 14) (oi := { dst := some 30, op := Go.Op.move (Go.Operand.tmp 29), type := 4, pos := "ref.go:30", after := #[{ on := 13, ground := Go.Ground.data }, { on := 6, ground := Go.Ground.chain }], guard := none }) (v := .bool true) rfl (by kernel_rfl) (by kernel_rfl) (by kernel_rfl) (fun _ _ _ h => h) (Or.inl ⟨by rfl, ?_⟩) hH ?_
          (intro w5 hS5; go_simp; try rfl)
          try simp only [Act.put, List.setIfInBounds_toArray, List.set_cons_zero, List.set_cons_succ]
          refine wpAnyH_take (i := 15) (oi := { dst := some 31, op := Go.Op.move (Go.Operand.tmp 0), type := 38, pos := "ref.go:30", after := #[{ on := 14, ground := Go.Ground.guard }], guard := some (14, false) }) (v := undef) rfl (by kernel_rfl) (by kernel_rfl) (by kernel_rfl) (fun _ _ _ h => h) (Or.inr ⟨by rfl, rfl⟩) hH ?_
          try simp only [Act.put, List.setIfInBounds_toArray, List.set_cons_zero, List.set_cons_succ]
          refine wpAnyH_take (i := 16) (oi := { dst := some 32, op := Go.Op.move (Go.Operand.tmp 3), type := 3, pos := "ref.go:30", after := #[{ on := 14, ground := Go.Ground.guard }], guard := some (14, false) }) (v := undef) rfl (by kernel_rfl) (by kernel_rfl) (by kernel_rfl) (fun _ _ _ h => h) (Or.inr ⟨by rfl, rfl⟩) hH ?_
          try simp only [Act.put, List.setIfInBounds_toArray, List.set_cons_zero, List.set_cons_succ]
          refine wpAnyH_take (i := 17) (oi := { dst := some 33, op := Go.Op.indexAddr 38 (Go.Operand.tmp 31) (Go.Operand.tmp 32), type := 0, pos := "ref.go:30", after := #[{ on := 15, ground := Go.Ground.data }, { on := 16, ground := Go.Ground.data }, { on := 14, ground := Go.Ground.guard }], guard := some (14, false) }) (v := undef) rfl (by kernel_rfl) (by kernel_rfl) (by kernel_rfl) (fun _ _ _ h => h) (Or.inr ⟨by rfl, rfl⟩) hH ?_
          try simp only [Act.put, List.setIfInBounds_toArray, List.set_cons_zero, List.set_cons_succ]
          refine wpAnyH_take (i := 18) (oi := { dst := some 34, op := Go.Op.fieldAddr 36 (Go.Operand.tmp 33) 4, type := 0, pos := "ref.go:30", after := #[{ on := 17, ground := Go.Ground.data }, { on := 14, ground := Go.Ground.guard }], guard := some (14, false) }) (v := undef) rfl (by kernel_rfl) (by kernel_rfl) (by kernel_rfl) (fun _ _ _ h => h) (Or.inr ⟨by rfl, rfl⟩) hH ?_
          try simp only [Act.put, List.setIfInBounds_toArray, List.set_cons_zero, List.set_cons_succ]
          refine wpAnyH_take (i := 19) (oi := { dst := some 35, op := Go.Op.load 3 (Go.Operand.tmp 34), type := 3, pos := "ref.go:30", after := #[{ on := 18, ground := Go.Ground.data }, { on := 14, ground := Go.Ground.guard }], guard := some (14, false) }) (v := undef) rfl (by kernel_rfl) (by kernel_rfl) (by kernel_rfl) (fun _ _ _ h => h) (Or.inr ⟨by rfl, rfl⟩) hH ?_
          try simp only [Act.put, List.setIfInBounds_toArray, List.set_cons_zero, List.set_cons_succ]
          refine wpAnyH_take (i := 20) (oi := { dst := some 36, op := Go.Op.binOp Go.BinOp.neq 3 (Go.Operand.tmp 35) (Go.Operand.const (Go.Value.int Go.IntKind.i64 (-1))) 3, type := 4, pos := "ref.go:30", after := #[{ on := 19, ground := Go.Ground.data }, { on := 14, ground := Go.Ground.guard }], guard := some (14, false) }) (v := undef) rfl (by kernel_rfl) (by kernel_rfl) (by kernel_rfl) (fun _ _ _ h => h) (Or.inr ⟨by rfl, rfl⟩) hH ?_
          try simp only [Act.put, List.setIfInBounds_toArray, List.set_cons_zero, List.set_cons_succ]
          refine wpAnyH_take (i := 21) (oi := { dst := some 37, op := Go.Op.move (Go.Operand.tmp 36), type := 4, pos := "ref.go:30", after := #[{ on := 20, ground := Go.Ground.data }, { on := 14, ground := Go.Ground.chain }, { on := 14, ground := Go.Ground.guard }], guard := some (14, false) }) (v := undef) rfl (by kernel_rfl) (by kernel_rfl) (by kernel_rfl) (fun _ _ _ h => h) (Or.inr ⟨by rfl, rfl⟩) hH ?_
          try simp only [Act.put, List.setIfInBounds_toArray, List.set_cons_zero, List.set_cons_succ]
          refine wpAnyH_take (i := 22) (oi := { dst := some 38, op := Go.Op.move (Go.Operand.tmp 0), type := 38, pos := "ref.go:30", after := #[{ on := 21, ground := Go.Ground.guard }], guard := some (21, true) }) (v := undef) rfl (by kernel_rfl) (by kernel_rfl) (by kernel_rfl) (fun _ _ _ h => h) (Or.inr ⟨by rfl, rfl⟩) hH ?_
          try simp only [Act.put, List.setIfInBounds_toArray, List.set_cons_zero, List.set_cons_succ]
          refine wpAnyH_take (i := 23) (oi := { dst := some 39, op := Go.Op.move (Go.Operand.tmp 3), type := 3, pos := "ref.go:30", after := #[{ on := 21, ground := Go.Ground.guard }], guard := some (21, true) }) (v := undef) rfl (by kernel_rfl) (by kernel_rfl) (by kernel_rfl) (fun _ _ _ h => h) (Or.inr ⟨by rfl, rfl⟩) hH ?_
          try simp only [Act.put, List.setIfInBounds_toArray, List.set_cons_zero, List.set_cons_succ]
          refine wpAnyH_take (i := 24) (oi := { dst := some 40, op := Go.Op.indexAddr 38 (Go.Operand.tmp 38) (Go.Operand.tmp 39), type := 0, pos := "ref.go:30", after := #[{ on := 22, ground := Go.Ground.data }, { on := 23, ground := Go.Ground.data }, { on := 21, ground := Go.Ground.guard }], guard := some (21, true) }) (v := undef) rfl (by kernel_rfl) (by kernel_rfl) (by kernel_rfl) (fun _ _ _ h => h) (Or.inr ⟨by rfl, rfl⟩) hH ?_
          try simp only [Act.put, List.setIfInBounds_toArray, List.set_cons_zero, List.set_cons_succ]
          refine wpAnyH_take (i := 25) (oi := { dst := some 41, op := Go.Op.fieldAddr 36 (Go.Operand.tmp 40) 4, type := 0, pos := "ref.go:30", after := #[{ on := 24, ground := Go.Ground.data }, { on := 21, ground := Go.Ground.guard }], guard := some (21, true) }) (v := undef) rfl (by kernel_rfl) (by kernel_rfl) (by kernel_rfl) (fun _ _ _ h => h) (Or.inr ⟨by rfl, rfl⟩) hH ?_
          try simp only [Act.put, List.setIfInBounds_toArray, List.set_cons_zero, List.set_cons_succ]
          refine wpAnyH_take (i := 26) (oi := { dst := some 42, op := Go.Op.load 3 (Go.Operand.tmp 41), type := 3, pos := "ref.go:30", after := #[{ on := 25, ground := Go.Ground.data }, { on := 21, ground := Go.Ground.guard }], guard := some (21, true) }) (v := undef) rfl (by kernel_rfl) (by kernel_rfl) (by kernel_rfl) (fun _ _ _ h => h) (Or.inr ⟨by rfl, rfl⟩) hH ?_
          try simp only [Act.put, List.setIfInBounds_toArray, List.set_cons_zero, List.set_cons_succ]
          refine wpAnyH_take (i := 27) (oi := { dst := some 43, op := Go.Op.move (Go.Operand.tmp 0), type := 38, pos := "ref.go:30", after := #[{ on := 21, ground := Go.Ground.guard }], guard := some (21, true) }) (v := undef) rfl (by kernel_rfl) (by kernel_rfl) (by kernel_rfl) (fun _ _ _ h => h) (Or.inr ⟨by rfl, rfl⟩) hH ?_
          try simp only [Act.put, List.setIfInBounds_toArray, List.set_cons_zero, List.set_cons_succ]
          refine wpAnyH_take (i := 28) (oi := { dst := some 44, op := Go.Op.move (Go.Operand.tmp 3), type := 3, pos := "ref.go:30", after := #[{ on := 21, ground := Go.Ground.guard }], guard := some (21, true) }) (v := undef) rfl (by kernel_rfl) (by kernel_rfl) (by kernel_rfl) (fun _ _ _ h => h) (Or.inr ⟨by rfl, rfl⟩) hH ?_
          try simp only [Act.put, List.setIfInBounds_toArray, List.set_cons_zero, List.set_cons_succ]
          refine wpAnyH_take (i := 29) (oi := { dst := some 45, op := Go.Op.indexAddr 38 (Go.Operand.tmp 43) (Go.Operand.tmp 44), type := 0, pos := "ref.go:30", after := #[{ on := 27, ground := Go.Ground.data }, { on := 28, ground := Go.Ground.data }, { on := 21, ground := Go.Ground.guard }], guard := some (21, true) }) (v := undef) rfl (by kernel_rfl) (by kernel_rfl) (by kernel_rfl) (fun _ _ _ h => h) (Or.inr ⟨by rfl, rfl⟩) hH ?_
          try simp only [Act.put, List.setIfInBounds_toArray, List.set_cons_zero, List.set_cons_succ]
          refine wpAnyH_take (i := 30) (oi := { dst := some 46, op := Go.Op.fieldAddr 36 (Go.Operand.tmp 45) 3, type := 0, pos := "ref.go:30", after := #[{ on := 29, ground := Go.Ground.data }, { on := 21, ground := Go.Ground.guard }], guard := some (21, true) }) (v := undef) rfl (by kernel_rfl) (by kernel_rfl) (by kernel_rfl) (fun _ _ _ h => h) (Or.inr ⟨by rfl, rfl⟩) hH ?_
          try simp only [Act.put, List.setIfInBounds_toArray, List.set_cons_zero, List.set_cons_succ]
          refine wpAnyH_take (i := 31) (oi := { dst := some 47, op := Go.Op.load 3 (Go.Operand.tmp 46), type := 3, pos := "ref.go:30", after := #[{ on := 30, ground := Go.Ground.data }, { on := 21, ground := Go.Ground.guard }], guard := some (21, true) }) (v := undef) rfl (by kernel_rfl) (by kernel_rfl) (by kernel_rfl) (fun _ _ _ h => h) (Or.inr ⟨by rfl, rfl⟩) hH ?_
          try simp only [Act.put, List.setIfInBounds_toArray, List.set_cons_zero, List.set_cons_succ]
          refine wpAnyH_take (i := 32) (oi := { dst := some 48, op := Go.Op.binOp Go.BinOp.leq 3 (Go.Operand.tmp 42) (Go.Operand.tmp 47) 3, type := 4, pos := "ref.go:30", after := #[{ on := 26, ground := Go.Ground.data }, { on := 31, ground := Go.Ground.data }, { on := 21, ground := Go.Ground.guard }], guard := some (21, true) }) (v := undef) rfl (by kernel_rfl) (by kernel_rfl) (by kernel_rfl) (fun _ _ _ h => h) (Or.inr ⟨by rfl, rfl⟩) hH ?_
          try simp only [Act.put, List.setIfInBounds_toArray, List.set_cons_zero, List.set_cons_succ]
          refine wpAnyH_take (i := 33) (oi := { dst := some 49, op := Go.Op.pick (Go.Operand.tmp 37) (Go.Operand.tmp 48) (Go.Operand.const (Go.Value.bool false)), type := 4, pos := "ref.go:30", after := #[{ on := 21, ground := Go.Ground.data }, { on := 32, ground := Go.Ground.data }, { on := 14, ground := Go.Ground.guard }], guard := some (14, false) }) (v := undef) rfl (by kernel_rfl) (by kernel_rfl) (by kernel_rfl) (fun _ _ _ h => h) (Or.inr ⟨by rfl, rfl⟩) hH ?_
          try simp only [Act.put, List.setIfInBounds_toArray, List.set_cons_zero, List.set_cons_succ]
          refine wpAnyH_take (i := 34) (oi := { dst := some 50, op := Go.Op.pick (Go.Operand.tmp 30) (Go.Operand.const (Go.Value.bool true)) (Go.Operand.tmp 49), type := 4, pos := "ref.go:30", after := #[{ on := 14, ground := Go.Ground.data }, { on := 33, ground := Go.Ground.data }], guard := none }) (v := .bool true) rfl (by kernel_rfl) (by kernel_rfl) (by kernel_rfl) (fun _ _ _ h => h) (Or.inl ⟨by rfl, ?_⟩) hH ?_
          (intro w5 hS5; go_simp; try rfl)
          try simp only [Act.put, List.setIfInBounds_toArray, List.set_cons_zero, List.set_cons_succ]
          refine wpAnyH_done (by kernel_rfl) ?_ _
          have HZ := Lib.hid hH
          clear hH
          have hr := YK.out (by rw [hb.out, tA, tB]; rfl)
          subst hr
          go_wp2_with fail
          exact bodyPost_ret (by simp [results, Try.results15, go_sem]) rfl ⟨rfl, HZ.out⟩
      · go_wp2_with fail
        refine wp_region_held_drew (S := fun w' => New w w') (by kernel_rfl) nw.drew (fun hH => ?_)
        clear nw
        refine wpAnyH_take (i := 0) (oi := { dst := some 16, op := Go.Op.move (Go.Operand.tmp 0), type := 38, pos := "ref.go:30", after := #[], guard := none }) (v := .slice (some ad) n cap) rfl (by kernel_rfl) (by kernel_rfl) (by kernel_rfl) (fun _ _ _ h => h) (Or.inl ⟨by rfl, ?_⟩) hH ?_
        (intro w5 hS5; go_simp; try rfl)
        try simp only [Act.put, List.setIfInBounds_toArray, List.set_cons_zero, List.set_cons_succ]
        refine wpAnyH_take (i := 1) (oi := { dst := some 17, op := Go.Op.move (Go.Operand.tmp 3), type := 3, pos := "ref.go:30", after := #[], guard := none }) (v := .int .i64 (i : Nat)) rfl (by kernel_rfl) (by kernel_rfl) (by kernel_rfl) (fun _ _ _ h => h) (Or.inl ⟨by rfl, ?_⟩) hH ?_
        (intro w5 hS5; go_simp; try rfl)
        try simp only [Act.put, List.setIfInBounds_toArray, List.set_cons_zero, List.set_cons_succ]
        refine wpAnyH_take (i := 2) (oi := { dst := some 18, op := Go.Op.indexAddr 38 (Go.Operand.tmp 16) (Go.Operand.tmp 17), type := 0, pos := "ref.go:30", after := #[{ on := 0, ground := Go.Ground.data }, { on := 1, ground := Go.Ground.data }], guard := none }) (v := .pointer (some (ad.add (i * 19)))) rfl (by kernel_rfl) (by kernel_rfl) (by kernel_rfl) (fun _ _ _ h => h) (Or.inl ⟨by rfl, ?_⟩) hH ?_
        (intro w5 hS5; go_simp; try rfl)
        try simp only [Act.put, List.setIfInBounds_toArray, List.set_cons_zero, List.set_cons_succ]
        refine wpAnyH_take (i := 3) (oi := { dst := some 19, op := Go.Op.fieldAddr 36 (Go.Operand.tmp 18) 3, type := 0, pos := "ref.go:30", after := #[{ on := 2, ground := Go.Ground.data }], guard := none }) (v := .pointer (some ⟨(ad.add (i * 19)).block, (ad.add (i * 19)).off + 17, none⟩)) rfl (by kernel_rfl) (by kernel_rfl) (by kernel_rfl) (fun _ _ _ h => h) (Or.inl ⟨by rfl, ?_⟩) hH ?_
        (intro w5 hS5; go_simp; try rfl)
        try simp only [Act.put, List.setIfInBounds_toArray, List.set_cons_zero, List.set_cons_succ]
        refine wpAnyH_take (i := 4) (oi := { dst := some 20, op := Go.Op.load 3 (Go.Operand.tmp 19), type := 3, pos := "ref.go:30", after := #[{ on := 3, ground := Go.Ground.data }], guard := none }) (v := .int .i64 s) rfl (by kernel_rfl) (by kernel_rfl) (by kernel_rfl) (fun _ _ _ h => h) (Or.inl ⟨by rfl, ?_⟩) hH ?_
        (intro w5 hS5; have ck := c17.out _ hS5; go_simp; try rfl)
        try simp only [Act.put, List.setIfInBounds_toArray, List.set_cons_zero, List.set_cons_succ]
        refine wpAnyH_take (i := 5) (oi := { dst := some 21, op := Go.Op.binOp Go.BinOp.lss 3 (Go.Operand.tmp 20) (Go.Operand.const (Go.Value.int Go.IntKind.i64 0)) 3, type := 4, pos := "ref.go:30", after := #[{ on := 4, ground := Go.Ground.data }], guard := none }) (v := .bool true) rfl (by kernel_rfl) (by kernel_rfl) (by kernel_rfl) (fun _ _ _ h => h) (Or.inl ⟨by rfl, ?_⟩) hH ?_
        (intro w5 hS5; go_simp; try rfl)
        try simp only [Act.put, List.setIfInBounds_toArray, List.set_cons_zero, List.set_cons_succ]
        refine wpAnyH_take (i := 6) (oi := { dst := some 22, op := Go.Op.move (Go.Operand.tmp 21), type := 4, pos := "ref.go:30", after := #[{ on := 5, ground := Go.Ground.data }], guard := none }) (v := .bool true) rfl (by kernel_rfl) (by kernel_rfl) (by kernel_rfl) (fun _ _ _ h => h) (Or.inl ⟨by rfl, ?_⟩) hH ?_
        (intro w5 hS5; go_simp; try rfl)
        try simp only [Act.put, List.setIfInBounds_toArray, List.set_cons_zero, List.set_cons_succ]
        refine wpAnyH_take (i := 7) (oi := { dst := some 23, op := Go.Op.move (Go.Operand.tmp 0), type := 38, pos := "ref.go:30", after := #[{ on := 6, ground := Go.Ground.guard }], guard := some (6, false) }) (v := undef) rfl (by kernel_rfl) (by kernel_rfl) (by kernel_rfl) (fun _ _ _ h => h) (Or.inr ⟨by rfl, rfl⟩) hH ?_
        try simp only [Act.put, List.setIfInBounds_toArray, List.set_cons_zero, List.set_cons_succ]
        refine wpAnyH_take (i := 8) (oi := { dst := some 24, op := Go.Op.move (Go.Operand.tmp 3), type := 3, pos := "ref.go:30", after := #[{ on := 6, ground := Go.Ground.guard }], guard := some (6, false) }) (v := undef) rfl (by kernel_rfl) (by kernel_rfl) (by kernel_rfl) (fun _ _ _ h => h) (Or.inr ⟨by rfl, rfl⟩) hH ?_
        try simp only [Act.put, List.setIfInBounds_toArray, List.set_cons_zero, List.set_cons_succ]
        refine wpAnyH_take (i := 9) (oi := { dst := some 25, op := Go.Op.indexAddr 38 (Go.Operand.tmp 23) (Go.Operand.tmp 24), type := 0, pos := "ref.go:30", after := #[{ on := 7, ground := Go.Ground.data }, { on := 8, ground := Go.Ground.data }, { on := 6, ground := Go.Ground.guard }], guard := some (6, false) }) (v := undef) rfl (by kernel_rfl) (by kernel_rfl) (by kernel_rfl) (fun _ _ _ h => h) (Or.inr ⟨by rfl, rfl⟩) hH ?_
        try simp only [Act.put, List.setIfInBounds_toArray, List.set_cons_zero, List.set_cons_succ]
        refine wpAnyH_take (i := 10) (oi := { dst := some 26, op := Go.Op.fieldAddr 36 (Go.Operand.tmp 25) 4, type := 0, pos := "ref.go:30", after := #[{ on := 9, ground := Go.Ground.data }, { on := 6, ground := Go.Ground.guard }], guard := some (6, false) }) (v := undef) rfl (by kernel_rfl) (by kernel_rfl) (by kernel_rfl) (fun _ _ _ h => h) (Or.inr ⟨by rfl, rfl⟩) hH ?_
        try simp only [Act.put, List.setIfInBounds_toArray, List.set_cons_zero, List.set_cons_succ]
        refine wpAnyH_take (i := 11) (oi := { dst := some 27, op := Go.Op.load 3 (Go.Operand.tmp 26), type := 3, pos := "ref.go:30", after := #[{ on := 10, ground := Go.Ground.data }, { on := 6, ground := Go.Ground.guard }], guard := some (6, false) }) (v := undef) rfl (by kernel_rfl) (by kernel_rfl) (by kernel_rfl) (fun _ _ _ h => h) (Or.inr ⟨by rfl, rfl⟩) hH ?_
        try simp only [Act.put, List.setIfInBounds_toArray, List.set_cons_zero, List.set_cons_succ]
        refine wpAnyH_take (i := 12) (oi := { dst := some 28, op := Go.Op.binOp Go.BinOp.lss 3 (Go.Operand.tmp 27) (Go.Operand.const (Go.Value.int Go.IntKind.i64 (-1))) 3, type := 4, pos := "ref.go:30", after := #[{ on := 11, ground := Go.Ground.data }, { on := 6, ground := Go.Ground.guard }], guard := some (6, false) }) (v := undef) rfl (by kernel_rfl) (by kernel_rfl) (by kernel_rfl) (fun _ _ _ h => h) (Or.inr ⟨by rfl, rfl⟩) hH ?_
        try simp only [Act.put, List.setIfInBounds_toArray, List.set_cons_zero, List.set_cons_succ]
        refine wpAnyH_take (i := 13) (oi := { dst := some 29, op := Go.Op.pick (Go.Operand.tmp 22) (Go.Operand.const (Go.Value.bool true)) (Go.Operand.tmp 28), type := 4, pos := "ref.go:30", after := #[{ on := 6, ground := Go.Ground.data }, { on := 12, ground := Go.Ground.data }], guard := none }) (v := .bool true) rfl (by kernel_rfl) (by kernel_rfl) (by kernel_rfl) (fun _ _ _ h => h) (Or.inl ⟨by rfl, ?_⟩) hH ?_
        (intro w5 hS5; go_simp; try rfl)
        try simp only [Act.put, List.setIfInBounds_toArray, List.set_cons_zero, List.set_cons_succ]
        refine wpAnyH_take (i := 14) (oi := { dst := some 30, op := Go.Op.move (Go.Operand.tmp 29), type := 4, pos := "ref.go:30", after := #[{ on := 13, ground := Go.Ground.data }, { on := 6, ground := Go.Ground.chain }], guard := none }) (v := .bool true) rfl (by kernel_rfl) (by kernel_rfl) (by kernel_rfl) (fun _ _ _ h => h) (Or.inl ⟨by rfl, ?_⟩) hH ?_
        (intro w5 hS5; go_simp; try rfl)
        try simp only [Act.put, List.setIfInBounds_toArray, List.set_cons_zero, List.set_cons_succ]
        refine wpAnyH_take (i := 15) (oi := { dst := some 31, op := Go.Op.move (Go.Operand.tmp 0), type := 38, pos := "ref.go:30", after := #[{ on := 14, ground := Go.Ground.guard }], guard := some (14, false) }) (v := undef) rfl (by kernel_rfl) (by kernel_rfl) (by kernel_rfl) (fun _ _ _ h => h) (Or.inr ⟨by rfl, rfl⟩) hH ?_
        try simp only [Act.put, List.setIfInBounds_toArray, List.set_cons_zero, List.set_cons_succ]
        refine wpAnyH_take (i := 16) (oi := { dst := some 32, op := Go.Op.move (Go.Operand.tmp 3), type := 3, pos := "ref.go:30", after := #[{ on := 14, ground := Go.Ground.guard }], guard := some (14, false) }) (v := undef) rfl (by kernel_rfl) (by kernel_rfl) (by kernel_rfl) (fun _ _ _ h => h) (Or.inr ⟨by rfl, rfl⟩) hH ?_
        try simp only [Act.put, List.setIfInBounds_toArray, List.set_cons_zero, List.set_cons_succ]
        refine wpAnyH_take (i := 17) (oi := { dst := some 33, op := Go.Op.indexAddr 38 (Go.Operand.tmp 31) (Go.Operand.tmp 32), type := 0, pos := "ref.go:30", after := #[{ on := 15, ground := Go.Ground.data }, { on := 16, ground := Go.Ground.data }, { on := 14, ground := Go.Ground.guard }], guard := some (14, false) }) (v := undef) rfl (by kernel_rfl) (by kernel_rfl) (by kernel_rfl) (fun _ _ _ h => h) (Or.inr ⟨by rfl, rfl⟩) hH ?_
        try simp only [Act.put, List.setIfInBounds_toArray, List.set_cons_zero, List.set_cons_succ]
        refine wpAnyH_take (i := 18) (oi := { dst := some 34, op := Go.Op.fieldAddr 36 (Go.Operand.tmp 33) 4, type := 0, pos := "ref.go:30", after := #[{ on := 17, ground := Go.Ground.data }, { on := 14, ground := Go.Ground.guard }], guard := some (14, false) }) (v := undef) rfl (by kernel_rfl) (by kernel_rfl) (by kernel_rfl) (fun _ _ _ h => h) (Or.inr ⟨by rfl, rfl⟩) hH ?_
        try simp only [Act.put, List.setIfInBounds_toArray, List.set_cons_zero, List.set_cons_succ]
        refine wpAnyH_take (i := 19) (oi := { dst := some 35, op := Go.Op.load 3 (Go.Operand.tmp 34), type := 3, pos := "ref.go:30", after := #[{ on := 18, ground := Go.Ground.data }, { on := 14, ground := Go.Ground.guard }], guard := some (14, false) }) (v := undef) rfl (by kernel_rfl) (by kernel_rfl) (by kernel_rfl) (fun _ _ _ h => h) (Or.inr ⟨by rfl, rfl⟩) hH ?_
        try simp only [Act.put, List.setIfInBounds_toArray, List.set_cons_zero, List.set_cons_succ]
        refine wpAnyH_take (i := 20) (oi := { dst := some 36, op := Go.Op.binOp Go.BinOp.neq 3 (Go.Operand.tmp 35) (Go.Operand.const (Go.Value.int Go.IntKind.i64 (-1))) 3, type := 4, pos := "ref.go:30", after := #[{ on := 19, ground := Go.Ground.data }, { on := 14, ground := Go.Ground.guard }], guard := some (14, false) }) (v := undef) rfl (by kernel_rfl) (by kernel_rfl) (by kernel_rfl) (fun _ _ _ h => h) (Or.inr ⟨by rfl, rfl⟩) hH ?_
        try simp only [Act.put, List.setIfInBounds_toArray, List.set_cons_zero, List.set_cons_succ]
        refine wpAnyH_take (i := 21) (oi := { dst := some 37, op := Go.Op.move (Go.Operand.tmp 36), type := 4, pos := "ref.go:30", after := #[{ on := 20, ground := Go.Ground.data }, { on := 14, ground := Go.Ground.chain }, { on := 14, ground := Go.Ground.guard }], guard := some (14, false) }) (v := undef) rfl (by kernel_rfl) (by kernel_rfl) (by kernel_rfl) (fun _ _ _ h => h) (Or.inr ⟨by rfl, rfl⟩) hH ?_
        try simp only [Act.put, List.setIfInBounds_toArray, List.set_cons_zero, List.set_cons_succ]
        refine wpAnyH_take (i := 22) (oi := { dst := some 38, op := Go.Op.move (Go.Operand.tmp 0), type := 38, pos := "ref.go:30", after := #[{ on := 21, ground := Go.Ground.guard }], guard := some (21, true) }) (v := undef) rfl (by kernel_rfl) (by kernel_rfl) (by kernel_rfl) (fun _ _ _ h => h) (Or.inr ⟨by rfl, rfl⟩) hH ?_
        try simp only [Act.put, List.setIfInBounds_toArray, List.set_cons_zero, List.set_cons_succ]
        refine wpAnyH_take (i := 23) (oi := { dst := some 39, op := Go.Op.move (Go.Operand.tmp 3), type := 3, pos := "ref.go:30", after := #[{ on := 21, ground := Go.Ground.guard }], guard := some (21, true) }) (v := undef) rfl (by kernel_rfl) (by kernel_rfl) (by kernel_rfl) (fun _ _ _ h => h) (Or.inr ⟨by rfl, rfl⟩) hH ?_
        try simp only [Act.put, List.setIfInBounds_toArray, List.set_cons_zero, List.set_cons_succ]
        refine wpAnyH_take (i := 24) (oi := { dst := some 40, op := Go.Op.indexAddr 38 (Go.Operand.tmp 38) (Go.Operand.tmp 39), type := 0, pos := "ref.go:30", after := #[{ on := 22, ground := Go.Ground.data }, { on := 23, ground := Go.Ground.data }, { on := 21, ground := Go.Ground.guard }], guard := some (21, true) }) (v := undef) rfl (by kernel_rfl) (by kernel_rfl) (by kernel_rfl) (fun _ _ _ h => h) (Or.inr ⟨by rfl, rfl⟩) hH ?_
        try simp only [Act.put, List.setIfInBounds_toArray, List.set_cons_zero, List.set_cons_succ]
        refine wpAnyH_take (i := 25) (oi := { dst := some 41, op := Go.Op.fieldAddr 36 (Go.Operand.tmp 40) 4, type := 0, pos := "ref.go:30", after := #[{ on := 24, ground := Go.Ground.data }, { on := 21, ground := Go.Ground.guard }], guard := some (21, true) }) (v := undef) rfl (by kernel_rfl) (by kernel_rfl) (by kernel_rfl) (fun _ _ _ h => h) (Or.inr ⟨by rfl, rfl⟩) hH ?_
        try simp only [Act.put, List.setIfInBounds_toArray, List.set_cons_zero, List.set_cons_succ]
        refine wpAnyH_take (i := 26) (oi := { dst := some 42, op := Go.Op.load 3 (Go.Operand.tmp 41), type := 3, pos := "ref.go:30", after := #[{ on := 25, ground := Go.Ground.data }, { on := 21, ground := Go.Ground.guard }], guard := some (21, true) }) (v := undef) rfl (by kernel_rfl) (by kernel_rfl) (by kernel_rfl) (fun _ _ _ h => h) (Or.inr ⟨by rfl, rfl⟩) hH ?_
        try simp only [Act.put, List.setIfInBounds_toArray, List.set_cons_zero, List.set_cons_succ]
        refine wpAnyH_take (i := 27) (oi := { dst := some 43, op := Go.Op.move (Go.Operand.tmp 0), type := 38, pos := "ref.go:30", after := #[{ on := 21, ground := Go.Ground.guard }], guard := some (21, true) }) (v := undef) rfl (by kernel_rfl) (by kernel_rfl) (by kernel_rfl) (fun _ _ _ h => h) (Or.inr ⟨by rfl, rfl⟩) hH ?_
        try simp only [Act.put, List.setIfInBounds_toArray, List.set_cons_zero, List.set_cons_succ]
        refine wpAnyH_take (i := 28) (oi := { dst := some 44, op := Go.Op.move (Go.Operand.tmp 3), type := 3, pos := "ref.go:30", after := #[{ on := 21, ground := Go.Ground.guard }], guard := some (21, true) }) (v := undef) rfl (by kernel_rfl) (by kernel_rfl) (by kernel_rfl) (fun _ _ _ h => h) (Or.inr ⟨by rfl, rfl⟩) hH ?_
        try simp only [Act.put, List.setIfInBounds_toArray, List.set_cons_zero, List.set_cons_succ]
        refine wpAnyH_take (i := 29) (oi := { dst := some 45, op := Go.Op.indexAddr 38 (Go.Operand.tmp 43) (Go.Operand.tmp 44), type := 0, pos := "ref.go:30", after := #[{ on := 27, ground := Go.Ground.data }, { on := 28, ground := Go.Ground.data }, { on := 21, ground := Go.Ground.guard }], guard := some (21, true) }) (v := undef) rfl (by kernel_rfl) (by kernel_rfl) (by kernel_rfl) (fun _ _ _ h => h) (Or.inr ⟨by rfl, rfl⟩) hH ?_
        try simp only [Act.put, List.setIfInBounds_toArray, List.set_cons_zero, List.set_cons_succ]
        refine wpAnyH_take (i := 30) (oi := { dst := some 46, op := Go.Op.fieldAddr 36 (Go.Operand.tmp 45) 3, type := 0, pos := "ref.go:30", after := #[{ on := 29, ground := Go.Ground.data }, { on := 21, ground := Go.Ground.guard }], guard := some (21, true) }) (v := undef) rfl (by kernel_rfl) (by kernel_rfl) (by kernel_rfl) (fun _ _ _ h => h) (Or.inr ⟨by rfl, rfl⟩) hH ?_
        try simp only [Act.put, List.setIfInBounds_toArray, List.set_cons_zero, List.set_cons_succ]
        refine wpAnyH_take (i := 31) (oi := { dst := some 47, op := Go.Op.load 3 (Go.Operand.tmp 46), type := 3, pos := "ref.go:30", after := #[{ on := 30, ground := Go.Ground.data }, { on := 21, ground := Go.Ground.guard }], guard := some (21, true) }) (v := undef) rfl (by kernel_rfl) (by kernel_rfl) (by kernel_rfl) (fun _ _ _ h => h) (Or.inr ⟨by rfl, rfl⟩) hH ?_
        try simp only [Act.put, List.setIfInBounds_toArray, List.set_cons_zero, List.set_cons_succ]
        refine wpAnyH_take (i := 32) (oi := { dst := some 48, op := Go.Op.binOp Go.BinOp.leq 3 (Go.Operand.tmp 42) (Go.Operand.tmp 47) 3, type := 4, pos := "ref.go:30", after := #[{ on := 26, ground := Go.Ground.data }, { on := 31, ground := Go.Ground.data }, { on := 21, ground := Go.Ground.guard }], guard := some (21, true) }) (v := undef) rfl (by kernel_rfl) (by kernel_rfl) (by kernel_rfl) (fun _ _ _ h => h) (Or.inr ⟨by rfl, rfl⟩) hH ?_
        try simp only [Act.put, List.setIfInBounds_toArray, List.set_cons_zero, List.set_cons_succ]
        refine wpAnyH_take (i := 33) (oi := { dst := some 49, op := Go.Op.pick (Go.Operand.tmp 37) (Go.Operand.tmp 48) (Go.Operand.const (Go.Value.bool false)), type := 4, pos := "ref.go:30", after := #[{ on := 21, ground := Go.Ground.data }, { on := 32, ground := Go.Ground.data }, { on := 14, ground := Go.Ground.guard }], guard := some (14, false) }) (v := undef) rfl (by kernel_rfl) (by kernel_rfl) (by kernel_rfl) (fun _ _ _ h => h) (Or.inr ⟨by rfl, rfl⟩) hH ?_
        try simp only [Act.put, List.setIfInBounds_toArray, List.set_cons_zero, List.set_cons_succ]
        refine wpAnyH_take (i := 34) (oi := { dst := some 50, op := Go.Op.pick (Go.Operand.tmp 30) (Go.Operand.const (Go.Value.bool true)) (Go.Operand.tmp 49), type := 4, pos := "ref.go:30", after := #[{ on := 14, ground := Go.Ground.data }, { on := 33, ground := Go.Ground.data }], guard := none }) (v := .bool true) rfl (by kernel_rfl) (by kernel_rfl) (by kernel_rfl) (fun _ _ _ h => h) (Or.inl ⟨by rfl, ?_⟩) hH ?_
        (intro w5 hS5; go_simp; try rfl)
        try simp only [Act.put, List.setIfInBounds_toArray, List.set_cons_zero, List.set_cons_succ]
        refine wpAnyH_done (by kernel_rfl) ?_ _
        have HZ := Lib.hid hH
        clear hH
        have hr := YK.out (by rw [hb.out, tA]; rfl)
        subst hr
        go_wp2_with fail
        exact bodyPost_ret (by simp [results, Try.results15, go_sem]) rfl ⟨rfl, HZ.out⟩
    · obtain rfl : n = i := by omega
      have H1 := HE
      clear HE
      go_wp2_with fail
      go_loopg [4] n (fun q i wr => ∃ k : Nat, k + q = n ∧ i = .int .i64 k ∧ (∀ j, j < k → ∀ k, k < j → refR (o j) (o k) = false) ∧ New w wr)
      case atStart => exact ⟨0, by omega, rfl, fun j hj => absurd hj (by omega), nw⟩
      case round =>
        clear nw
        obtain ⟨i, hi, rfl, he, nw⟩ := hrel
        obtain ⟨gq, rfl⟩ : ∃ gq : Nat, gq = gk := ⟨_, rfl⟩
        have HE := Lib.hid he
        clear he
        by_cases hin : i < n
        · have hin' : (i : Int) < n := by omega
          go_wp2_with fail
          go_loopg [5] i (fun q kv w2 => ∃ k : Nat, k + q = i ∧ kv = .int .i64 k ∧ (∀ j, j < k → refR (o i) (o j) = false) ∧ New w w2)
          case atStart => exact ⟨0, by omega, rfl, fun j hj => absurd hj (by omega), nw⟩
          case round =>
            clear nw
            obtain ⟨k, hk, rfl, hke, nw⟩ := hrel
            have HKE := Lib.hid hke
            clear hke
            by_cases hki : k < i
            · obtain ⟨ad, rfl, hd0⟩ := HAD.out (by omega)
              have HD := Lib.hid hd0
              clear hd0
              have hki' : (k : Int) < i := by omega
              have hkn' : (k : Int) < n := by omega
              have hkn : k < n := by omega
              have YK := Lib.hid (YB.out H1.out i k hin hki)
              have MO := Lib.hid (show refR (o i) (o k) = false → ∀ j, j < k + 1 → refR (o i) (o j) = false from more_no (p := fun j => refR (o i) (o j)) HKE.out)
              have a0 := Lib.hid (C0.out ad HD.out i hin)
              have a1 := Lib.hid (C1.out ad HD.out i hin)
              have b0 := Lib.hid (C0.out ad HD.out k hkn)
              have b1 := Lib.hid (C1.out ad HD.out k hkn)
              have q := fun w => eql23 (o i).r0 (o i).r1 (o k).r0 (o k).r1 w
              have q2 : refR (o i) (o k) = eq2 (o i).r0 (o i).r1 (o k).r0 (o k).r1 := rfl
              rw [← q2] at q
              clear q2
              generalize refR (o i) (o k) = U at YK MO q
              generalize (o i).r0 = x0 at a0 q
              generalize (o i).r1 = x1 at a1 q
              generalize (o k).r0 = y0 at b0 q
              generalize (o k).r1 = y1 at b1 q
              have HQ := Lib.hid q
              clear q
              go_wp2_with fail
              refine wp_region_held_drew (S := fun w' => New w w') (by kernel_rfl) nw.drew (fun hH => ?_)
              clear nw
              refine wpAnyH_take (i := 0) (oi := { dst := some 62, op := Go.Op.move (Go.Operand.tmp 0), type := 38, pos := "ref.go:36", after := #[], guard := none }) (v := .slice (some ad) n cap) rfl (by kernel_rfl) (by kernel_rfl) (by kernel_rfl) (fun _ _ _ h => h) (Or.inl ⟨by rfl, ?_⟩) hH ?_
              (intro w5 hS5; go_simp; try rfl)
              try simp only [Act.put, List.setIfInBounds_toArray, List.set_cons_zero, List.set_cons_succ]
              refine wpAnyH_take (i := 1) (oi := { dst := some 63, op := Go.Op.move (Go.Operand.tmp 4), type := 3, pos := "ref.go:36", after := #[], guard := none }) (v := .int .i64 (i : Nat)) rfl (by kernel_rfl) (by kernel_rfl) (by kernel_rfl) (fun _ _ _ h => h) (Or.inl ⟨by rfl, ?_⟩) hH ?_
              (intro w5 hS5; go_simp; try rfl)
              try simp only [Act.put, List.setIfInBounds_toArray, List.set_cons_zero, List.set_cons_succ]
              refine wpAnyH_take (i := 2) (oi := { dst := some 64, op := Go.Op.indexAddr 38 (Go.Operand.tmp 62) (Go.Operand.tmp 63), type := 0, pos := "ref.go:36", after := #[{ on := 0, ground := Go.Ground.data }, { on := 1, ground := Go.Ground.data }], guard := none }) (v := .pointer (some (ad.add (i * 19)))) rfl (by kernel_rfl) (by kernel_rfl) (by kernel_rfl) (fun _ _ _ h => h) (Or.inl ⟨by rfl, ?_⟩) hH ?_
              (intro w5 hS5; go_simp; try rfl)
              try simp only [Act.put, List.setIfInBounds_toArray, List.set_cons_zero, List.set_cons_succ]
              refine wpAnyH_take (i := 3) (oi := { dst := some 65, op := Go.Op.fieldAddr 36 (Go.Operand.tmp 64) 0, type := 0, pos := "ref.go:36", after := #[{ on := 2, ground := Go.Ground.data }], guard := none }) (v := .pointer (some (ad.add (i * 19)))) rfl (by kernel_rfl) (by kernel_rfl) (by kernel_rfl) (fun _ _ _ h => h) (Or.inl ⟨by rfl, ?_⟩) hH ?_
              (intro w5 hS5; go_simp; try rfl)
              try simp only [Act.put, List.setIfInBounds_toArray, List.set_cons_zero, List.set_cons_succ]
              refine wpAnyH_take (i := 4) (oi := { dst := some 66, op := Go.Op.load 23 (Go.Operand.tmp 65), type := 23, pos := "ref.go:36", after := #[{ on := 3, ground := Go.Ground.data }], guard := none }) (v := .agg #[.int .i64 x0, .int .i64 x1]) rfl (by kernel_rfl) (by kernel_rfl) (by kernel_rfl) (fun _ _ _ h => h) (Or.inl ⟨by rfl, ?_⟩) hH ?_
              (intro w5 hS5; have ca := a0.out _ hS5; have cb := a1.out _ hS5; go_simp; try rfl)
              try simp only [Act.put, List.setIfInBounds_toArray, List.set_cons_zero, List.set_cons_succ]
              refine wpAnyH_take (i := 5) (oi := { dst := some 67, op := Go.Op.move (Go.Operand.tmp 0), type := 38, pos := "ref.go:36", after := #[], guard := none }) (v := .slice (some ad) n cap) rfl (by kernel_rfl) (by kernel_rfl) (by kernel_rfl) (fun _ _ _ h => h) (Or.inl ⟨by rfl, ?_⟩) hH ?_
              (intro w5 hS5; go_simp; try rfl)
              try simp only [Act.put, List.setIfInBounds_toArray, List.set_cons_zero, List.set_cons_succ]
              refine wpAnyH_take (i := 6) (oi := { dst := some 68, op := Go.Op.move (Go.Operand.tmp 5), type := 3, pos := "ref.go:36", after := #[], guard := none }) (v := .int .i64 (k : Nat)) rfl (by kernel_rfl) (by kernel_rfl) (by kernel_rfl) (fun _ _ _ h => h) (Or.inl ⟨by rfl, ?_⟩) hH ?_
              (intro w5 hS5; go_simp; try rfl)
              try simp only [Act.put, List.setIfInBounds_toArray, List.set_cons_zero, List.set_cons_succ]
              refine wpAnyH_take (i := 7) (oi := { dst := some 69, op := Go.Op.indexAddr 38 (Go.Operand.tmp 67) (Go.Operand.tmp 68), type := 0, pos := "ref.go:36", after := #[{ on := 5, ground := Go.Ground.data }, { on := 6, ground := Go.Ground.data }], guard := none }) (v := .pointer (some (ad.add (k * 19)))) rfl (by kernel_rfl) (by kernel_rfl) (by kernel_rfl) (fun _ _ _ h => h) (Or.inl ⟨by rfl, ?_⟩) hH ?_
              (intro w5 hS5; go_simp; try rfl)
              try simp only [Act.put, List.setIfInBounds_toArray, List.set_cons_zero, List.set_cons_succ]
              refine wpAnyH_take (i := 8) (oi := { dst := some 70, op := Go.Op.fieldAddr 36 (Go.Operand.tmp 69) 0, type := 0, pos := "ref.go:36", after := #[{ on := 7, ground := Go.Ground.data }], guard := none }) (v := .pointer (some (ad.add (k * 19)))) rfl (by kernel_rfl) (by kernel_rfl) (by kernel_rfl) (fun _ _ _ h => h) (Or.inl ⟨by rfl, ?_⟩) hH ?_
              (intro w5 hS5; go_simp; try rfl)
              try simp only [Act.put, List.setIfInBounds_toArray, List.set_cons_zero, List.set_cons_succ]
              refine wpAnyH_take (i := 9) (oi := { dst := some 71, op := Go.Op.load 23 (Go.Operand.tmp 70), type := 23, pos := "ref.go:36", after := #[{ on := 8, ground := Go.Ground.data }], guard := none }) (v := .agg #[.int .i64 y0, .int .i64 y1]) rfl (by kernel_rfl) (by kernel_rfl) (by kernel_rfl) (fun _ _ _ h => h) (Or.inl ⟨by rfl, ?_⟩) hH ?_
              (intro w5 hS5; have ca := b0.out _ hS5; have cb := b1.out _ hS5; go_simp; try rfl)
              try simp only [Act.put, List.setIfInBounds_toArray, List.set_cons_zero, List.set_cons_succ]
              refine wpAnyH_take (i := 10) (oi := { dst := some 72, op := Go.Op.binOp Go.BinOp.eql 23 (Go.Operand.tmp 66) (Go.Operand.tmp 71) 23, type := 4, pos := "ref.go:36", after := #[{ on := 4, ground := Go.Ground.data }, { on := 9, ground := Go.Ground.data }], guard := none }) (v := .bool U) rfl (by kernel_rfl) (by kernel_rfl) (by kernel_rfl) (fun _ _ _ h => h) (Or.inl ⟨by rfl, ?_⟩) hH ?_
              (intro w5 hS5; have q := HQ.out; go_simp; try rfl)
              try simp only [Act.put, List.setIfInBounds_toArray, List.set_cons_zero, List.set_cons_succ]
              refine wpAnyH_done (by kernel_rfl) ?_ _
              have HZ := Lib.hid hH
              clear hH
              cases U
              · have hn := Lib.hid (MO.out rfl)
                go_wp2_with fail
                go_roundg (gk - 1)
                case rel => exact ⟨k + 1, by omega, by go_num, hn.out, HZ.out⟩
                case measure => omega
              · have hr := YK.out rfl
                subst hr
                go_wp2_with fail
                exact bodyPost_ret (by simp [results, Try.results15, go_sem]) rfl ⟨rfl, HZ.out⟩
            · obtain rfl : k = i := by omega
              have hn := Lib.hid (more_no2 (m := fun j => j) (p := fun j k => refR (o j) (o k)) HE.out HKE.out)
              have NW := Lib.hid nw
              clear nw
              go_wp2_with fail
              go_roundg (gq - 1)
              case rel => exact ⟨k + 1, by omega, by go_num, hn.out, NW.out⟩
              case measure => omega
        · obtain rfl : n = i := by omega
          have H2 := HE
          clear HE
          go_wp2_with fail
          go_loopg [6] n (fun q i wr => ∃ k : Nat, k + q = n ∧ i = .int .i64 k ∧ (∀ j, j < k → ∀ k, k < j → clsR (o j) (o k) = false) ∧ New w wr)
          case atStart => exact ⟨0, by omega, rfl, fun j hj => absurd hj (by omega), nw⟩
          case round =>
            clear nw
            obtain ⟨i, hi, rfl, he, nw⟩ := hrel
            obtain ⟨gq, rfl⟩ : ∃ gq : Nat, gq = gk := ⟨_, rfl⟩
            have HE := Lib.hid he
            clear he
            by_cases hin : i < n
            · have hin' : (i : Int) < n := by omega
              go_wp2_with fail
              go_loopg [7] i (fun q kv w2 => ∃ k : Nat, k + q = i ∧ kv = .int .i64 k ∧ (∀ j, j < k → clsR (o i) (o j) = false) ∧ New w w2)
              case atStart => exact ⟨0, by omega, rfl, fun j hj => absurd hj (by omega), nw⟩
              case round =>
                clear nw
                obtain ⟨k, hk, rfl, hke, nw⟩ := hrel
                have HKE := Lib.hid hke
                clear hke
                by_cases hki : k < i
                · obtain ⟨ad, rfl, hd0⟩ := HAD.out (by omega)
                  have HD := Lib.hid hd0
                  clear hd0
                  have hki' : (k : Int) < i := by omega
                  have hkn' : (k : Int) < n := by omega
                  have hkn : k < n := by omega
                  have YK := Lib.hid (YC.out H1.out H2.out i k hin hki)
                  have MO := Lib.hid (show clsR (o i) (o k) = false → ∀ j, j < k + 1 → clsR (o i) (o j) = false from more_no (p := fun j => clsR (o i) (o j)) HKE.out)
                  have LI := Lib.hid (CA.out ad HD.out i hin)
                  have LK := Lib.hid (CA.out ad HD.out k hkn)
                  have HC := Lib.hid (KC.out i k)
                  have q2 : clsR (o i) (o k) = clashB (o i).s (o i).e (o k).s (o k).e := rfl
                  rw [← q2] at HC
                  clear q2
                  generalize clsR (o i) (o k) = U at YK MO HC
                  generalize ocs (o i) = ra at LI HC
                  generalize ocs (o k) = rb at LK HC
                  go_wp2_with fail
                  refine wp_region_held_drew (S := fun w' => New w w') (by kernel_rfl) nw.drew (fun hH => ?_)
                  clear nw
                  refine wpAnyH_take (i := 0) (oi := { dst := some 84, op := Go.Op.move (Go.Operand.tmp 0), type := 38, pos := "ref.go:43", after := #[], guard := none }) (v := .slice (some ad) n cap) rfl (by kernel_rfl) (by kernel_rfl) (by kernel_rfl) (fun _ _ _ h => h) (Or.inl ⟨by rfl, ?_⟩) hH ?_
                  (intro w5 hS5; go_simp; try rfl)
                  try simp only [Act.put, List.setIfInBounds_toArray, List.set_cons_zero, List.set_cons_succ]
                  refine wpAnyH_take (i := 1) (oi := { dst := some 85, op := Go.Op.move (Go.Operand.tmp 6), type := 3, pos := "ref.go:43", after := #[], guard := none }) (v := .int .i64 (i : Nat)) rfl (by kernel_rfl) (by kernel_rfl) (by kernel_rfl) (fun _ _ _ h => h) (Or.inl ⟨by rfl, ?_⟩) hH ?_
                  (intro w5 hS5; go_simp; try rfl)
                  try simp only [Act.put, List.setIfInBounds_toArray, List.set_cons_zero, List.set_cons_succ]
                  refine wpAnyH_take (i := 2) (oi := { dst := some 86, op := Go.Op.indexAddr 38 (Go.Operand.tmp 84) (Go.Operand.tmp 85), type := 0, pos := "ref.go:43", after := #[{ on := 0, ground := Go.Ground.data }, { on := 1, ground := Go.Ground.data }], guard := none }) (v := .pointer (some (ad.add (i * 19)))) rfl (by kernel_rfl) (by kernel_rfl) (by kernel_rfl) (fun _ _ _ h => h) (Or.inl ⟨by rfl, ?_⟩) hH ?_
                  (intro w5 hS5; go_simp; try rfl)
                  try simp only [Act.put, List.setIfInBounds_toArray, List.set_cons_zero, List.set_cons_succ]
                  refine wpAnyH_take (i := 3) (oi := { dst := some 87, op := Go.Op.load 36 (Go.Operand.tmp 86), type := 36, pos := "ref.go:43", after := #[{ on := 2, ground := Go.Ground.data }], guard := none }) (v := .agg ra) rfl (by kernel_rfl) (by kernel_rfl) (by kernel_rfl) (fun _ _ _ h => h) (Or.inl ⟨by rfl, ?_⟩) hH ?_
                  (intro w5 hS5; refine yl_ld rfl rfl (lda_at _ _ _ (LI.out _ hS5)))
                  try simp only [Act.put, List.setIfInBounds_toArray, List.set_cons_zero, List.set_cons_succ]
                  refine wpAnyH_take (i := 4) (oi := { dst := some 88, op := Go.Op.move (Go.Operand.tmp 0), type := 38, pos := "ref.go:43", after := #[], guard := none }) (v := .slice (some ad) n cap) rfl (by kernel_rfl) (by kernel_rfl) (by kernel_rfl) (fun _ _ _ h => h) (Or.inl ⟨by rfl, ?_⟩) hH ?_
                  (intro w5 hS5; go_simp; try rfl)
                  try simp only [Act.put, List.setIfInBounds_toArray, List.set_cons_zero, List.set_cons_succ]
                  refine wpAnyH_take (i := 5) (oi := { dst := some 89, op := Go.Op.move (Go.Operand.tmp 7), type := 3, pos := "ref.go:43", after := #[], guard := none }) (v := .int .i64 (k : Nat)) rfl (by kernel_rfl) (by kernel_rfl) (by kernel_rfl) (fun _ _ _ h => h) (Or.inl ⟨by rfl, ?_⟩) hH ?_
                  (intro w5 hS5; go_simp; try rfl)
                  try simp only [Act.put, List.setIfInBounds_toArray, List.set_cons_zero, List.set_cons_succ]
                  refine wpAnyH_take (i := 6) (oi := { dst := some 90, op := Go.Op.indexAddr 38 (Go.Operand.tmp 88) (Go.Operand.tmp 89), type := 0, pos := "ref.go:43", after := #[{ on := 4, ground := Go.Ground.data }, { on := 5, ground := Go.Ground.data }], guard := none }) (v := .pointer (some (ad.add (k * 19)))) rfl (by kernel_rfl) (by kernel_rfl) (by kernel_rfl) (fun _ _ _ h => h) (Or.inl ⟨by rfl, ?_⟩) hH ?_
                  (intro w5 hS5; go_simp; try rfl)
                  try simp only [Act.put, List.setIfInBounds_toArray, List.set_cons_zero, List.set_cons_succ]
                  refine wpAnyH_take (i := 7) (oi := { dst := some 91, op := Go.Op.load 36 (Go.Operand.tmp 90), type := 36, pos := "ref.go:43", after := #[{ on := 6, ground := Go.Ground.data }], guard := none }) (v := .agg rb) rfl (by kernel_rfl) (by kernel_rfl) (by kernel_rfl) (fun _ _ _ h => h) (Or.inl ⟨by rfl, ?_⟩) hH ?_
                  (intro w5 hS5; refine yl_ld rfl rfl (lda_at _ _ _ (LK.out _ hS5)))
                  try simp only [Act.put, List.setIfInBounds_toArray, List.set_cons_zero, List.set_cons_succ]
                  refine wpAnyH_ready (rs := [8]) (by kernel_rfl) (by simp) ?_
                  refine AllReadyH.cons (o := { dst := some 92, op := Go.Op.call { callee := Go.Callee.value (Go.Operand.func 33), args := #[Go.Operand.tmp 87, Go.Operand.tmp 91], argTypes := #[36, 36] }, type := 4, pos := "ref.go:43", after := #[{ on := 3, ground := Go.Ground.data }, { on := 7, ground := Go.Ground.data }], guard := none }) rfl (fun K5 hK5 => ?_) AllReadyH.nil
                  go_simp
                  refine (HC.out _).mono ?_; rintro e w9 ⟨rfl, n9⟩
                  refine hK5.out _ _ (New.trans hH n9) (fun hH9 => ?_)
                  clear hK5 K5
                  try simp only [Act.put, List.setIfInBounds_toArray, List.set_cons_zero, List.set_cons_succ]
                  refine wpAnyH_done (by kernel_rfl) ?_ _
                  have HZ := Lib.hid hH9
                  clear hH hH9
                  cases U
                  · have hn := Lib.hid (MO.out rfl)
                    go_wp2_with fail
                    go_roundg (gk - 1)
                    case rel => exact ⟨k + 1, by omega, by go_num, hn.out, HZ.out⟩
                    case measure => omega
                  · have hr := YK.out rfl
                    subst hr
                    go_wp2_with fail
                    exact bodyPost_ret (by simp [results, Try.results15, go_sem]) rfl ⟨rfl, HZ.out⟩
                · obtain rfl : k = i := by omega
                  have hn := Lib.hid (more_no2 (m := fun j => j) (p := fun j k => clsR (o j) (o k)) HE.out HKE.out)
                  have NW := Lib.hid nw
                  clear nw
                  go_wp2_with fail
                  go_roundg (gq - 1)
                  case rel => exact ⟨k + 1, by omega, by go_num, hn.out, NW.out⟩
                  case measure => omega
            · obtain rfl : n = i := by omega
              have H3 := HE
              clear HE
              go_wp2_with fail
              go_loopg [8] n (fun q i wr => ∃ k : Nat, k + q = n ∧ i = .int .i64 k ∧ (∀ j, j < k → ∀ k, k < n → ordR (o j) (o k) = false) ∧ New w wr)
              case atStart => exact ⟨0, by omega, rfl, fun j hj => absurd hj (by omega), nw⟩
              case round =>
                clear nw
                obtain ⟨i, hi, rfl, he, nw⟩ := hrel
                obtain ⟨gq, rfl⟩ : ∃ gq : Nat, gq = gk := ⟨_, rfl⟩
                have HE := Lib.hid he
                clear he
                by_cases hin : i < n
                · have hin' : (i : Int) < n := by omega
                  go_wp2_with fail
                  go_loopg [9] n (fun q kv w2 => ∃ k : Nat, k + q = n ∧ kv = .int .i64 k ∧ (∀ j, j < k → ordR (o i) (o j) = false) ∧ New w w2)
                  case atStart => exact ⟨0, by omega, rfl, fun j hj => absurd hj (by omega), nw⟩
                  case round =>
                    clear nw
                    obtain ⟨k, hk, rfl, hke, nw⟩ := hrel
                    have HKE := Lib.hid hke
                    clear hke
                    by_cases hki : k < n
                    · obtain ⟨ad, rfl, hd0⟩ := HAD.out (by omega)
                      have HD := Lib.hid hd0
                      clear hd0
                      have hki' : (k : Int) < n := by omega
                      have hkn' : (k : Int) < n := by omega
                      have hkn : k < n := by omega
                      have YK := Lib.hid (YD.out H1.out H2.out H3.out i k hin hki)
                      have MO := Lib.hid (show ordR (o i) (o k) = false → ∀ j, j < k + 1 → ordR (o i) (o j) = false from more_no (p := fun j => ordR (o i) (o j)) HKE.out)
                      have LI := Lib.hid (CA.out ad HD.out i hin)
                      have LK := Lib.hid (CA.out ad HD.out k hkn)
                      have HC := Lib.hid (KA.out i k)
                      have a0 := Lib.hid (C0.out ad HD.out i hin)
                      have a1 := Lib.hid (C1.out ad HD.out i hin)
                      have b0 := Lib.hid (C0.out ad HD.out k hkn)
                      have b1 := Lib.hid (C1.out ad HD.out k hkn)
                      have hu := Lib.hid (show ordR (o i) (o k) = (((o i).r0 == (o k).r0) && decide ((o i).r1 < (o k).r1) && !aheadB (o i).e (o k).s) from rfl)
                      generalize ordR (o i) (o k) = U at YK MO hu
                      generalize aheadB (o i).e (o k).s = V at HC hu
                      generalize ocs (o i) = ra at LI HC
                      generalize ocs (o k) = rb at LK HC
                      generalize (o i).r0 = x0 at a0 hu
                      generalize (o i).r1 = x1 at a1 hu
                      generalize (o k).r0 = y0 at b0 hu
                      generalize (o k).r1 = y1 at b1 hu
                      cases tE : (x0 == y0)
                      · go_wp2_with fail
                        refine wp_region_held_drew (S := fun w' => New w w') (by kernel_rfl) nw.drew (fun hH => ?_)
                        clear nw
                        refine wpAnyH_take (i := 0) (oi := { dst := some 105, op := Go.Op.move (Go.Operand.tmp 0), type := 38, pos := "ref.go:50", after := #[], guard := none }) (v := .slice (some ad) n cap) rfl (by kernel_rfl) (by kernel_rfl) (by kernel_rfl) (fun _ _ _ h => h) (Or.inl ⟨by rfl, ?_⟩) hH ?_
                        (intro w5 hS5; go_simp; try rfl)
                        try simp only [Act.put, List.setIfInBounds_toArray, List.set_cons_zero, List.set_cons_succ]
                        refine wpAnyH_take (i := 1) (oi := { dst := some 106, op := Go.Op.move (Go.Operand.tmp 8), type := 3, pos := "ref.go:50", after := #[], guard := none }) (v := .int .i64 (i : Nat)) rfl (by kernel_rfl) (by kernel_rfl) (by kernel_rfl) (fun _ _ _ h => h) (Or.inl ⟨by rfl, ?_⟩) hH ?_
                        (intro w5 hS5; go_simp; try rfl)
                        try simp only [Act.put, List.setIfInBounds_toArray, List.set_cons_zero, List.set_cons_succ]
                        refine wpAnyH_take (i := 2) (oi := { dst := some 107, op := Go.Op.indexAddr 38 (Go.Operand.tmp 105) (Go.Operand.tmp 106), type := 0, pos := "ref.go:50", after := #[{ on := 0, ground := Go.Ground.data }, { on := 1, ground := Go.Ground.data }], guard := none }) (v := .pointer (some (ad.add (i * 19)))) rfl (by kernel_rfl) (by kernel_rfl) (by kernel_rfl) (fun _ _ _ h => h) (Or.inl ⟨by rfl, ?_⟩) hH ?_
                        (intro w5 hS5; go_simp; try rfl)
                        try simp only [Act.put, List.setIfInBounds_toArray, List.set_cons_zero, List.set_cons_succ]
                        refine wpAnyH_take (i := 3) (oi := { dst := some 108, op := Go.Op.fieldAddr 36 (Go.Operand.tmp 107) 0, type := 0, pos := "ref.go:50", after := #[{ on := 2, ground := Go.Ground.data }], guard := none }) (v := .pointer (some (ad.add (i * 19)))) rfl (by kernel_rfl) (by kernel_rfl) (by kernel_rfl) (fun _ _ _ h => h) (Or.inl ⟨by rfl, ?_⟩) hH ?_
                        (intro w5 hS5; go_simp; try rfl)
                        try simp only [Act.put, List.setIfInBounds_toArray, List.set_cons_zero, List.set_cons_succ]
                        refine wpAnyH_take (i := 4) (oi := { dst := some 109, op := Go.Op.fieldAddr 23 (Go.Operand.tmp 108) 0, type := 0, pos := "ref.go:50", after := #[{ on := 3, ground := Go.Ground.data }], guard := none }) (v := .pointer (some (ad.add (i * 19)))) rfl (by kernel_rfl) (by kernel_rfl) (by kernel_rfl) (fun _ _ _ h => h) (Or.inl ⟨by rfl, ?_⟩) hH ?_
                        (intro w5 hS5; go_simp; try rfl)
                        try simp only [Act.put, List.setIfInBounds_toArray, List.set_cons_zero, List.set_cons_succ]
                        refine wpAnyH_take (i := 5) (oi := { dst := some 110, op := Go.Op.load 3 (Go.Operand.tmp 109), type := 3, pos := "ref.go:50", after := #[{ on := 4, ground := Go.Ground.data }], guard := none }) (v := .int .i64 x0) rfl (by kernel_rfl) (by kernel_rfl) (by kernel_rfl) (fun _ _ _ h => h) (Or.inl ⟨by rfl, ?_⟩) hH ?_
                        (intro w5 hS5; have ck := a0.out _ hS5; go_simp; try rfl)
                        try simp only [Act.put, List.setIfInBounds_toArray, List.set_cons_zero, List.set_cons_succ]
                        refine wpAnyH_take (i := 6) (oi := { dst := some 111, op := Go.Op.move (Go.Operand.tmp 0), type := 38, pos := "ref.go:50", after := #[], guard := none }) (v := .slice (some ad) n cap) rfl (by kernel_rfl) (by kernel_rfl) (by kernel_rfl) (fun _ _ _ h => h) (Or.inl ⟨by rfl, ?_⟩) hH ?_
                        (intro w5 hS5; go_simp; try rfl)
                        try simp only [Act.put, List.setIfInBounds_toArray, List.set_cons_zero, List.set_cons_succ]
                        refine wpAnyH_take (i := 7) (oi := { dst := some 112, op := Go.Op.move (Go.Operand.tmp 9), type := 3, pos := "ref.go:50", after := #[], guard := none }) (v := .int .i64 (k : Nat)) rfl (by kernel_rfl) (by kernel_rfl) (by kernel_rfl) (fun _ _ _ h => h) (Or.inl ⟨by rfl, ?_⟩) hH ?_
                        (intro w5 hS5; go_simp; try rfl)
                        try simp only [Act.put, List.setIfInBounds_toArray, List.set_cons_zero, List.set_cons_succ]
                        refine wpAnyH_take (i := 8) (oi := { dst := some 113, op := Go.Op.indexAddr 38 (Go.Operand.tmp 111) (Go.Operand.tmp 112), type := 0, pos := "ref.go:50", after := #[{ on := 6, ground := Go.Ground.data }, { on := 7, ground := Go.Ground.data }], guard := none }) (v := .pointer (some (ad.add (k * 19)))) rfl (by kernel_rfl) (by kernel_rfl) (by kernel_rfl) (fun _ _ _ h => h) (Or.inl ⟨by rfl, ?_⟩) hH ?_
                        (intro w5 hS5; go_simp; try rfl)
                        try simp only [Act.put, List.setIfInBounds_toArray, List.set_cons_zero, List.set_cons_succ]
                        refine wpAnyH_take (i := 9) (oi := { dst := some 114, op := Go.Op.fieldAddr 36 (Go.Operand.tmp 113) 0, type := 0, pos := "ref.go:50", after := #[{ on := 8, ground := Go.Ground.data }], guard := none }) (v := .pointer (some (ad.add (k * 19)))) rfl (by kernel_rfl) (by kernel_rfl) (by kernel_rfl) (fun _ _ _ h => h) (Or.inl ⟨by rfl, ?_⟩) hH ?_
                        (intro w5 hS5; go_simp; try rfl)
                        try simp only [Act.put, List.setIfInBounds_toArray, List.set_cons_zero, List.set_cons_succ]
                        refine wpAnyH_take (i := 10) (oi := { dst := some 115, op := Go.Op.fieldAddr 23 (Go.Operand.tmp 114) 0, type := 0, pos := "ref.go:50", after := #[{ on := 9, ground := Go.Ground.data }], guard := none }) (v := .pointer (some (ad.add (k * 19)))) rfl (by kernel_rfl) (by kernel_rfl) (by kernel_rfl) (fun _ _ _ h => h) (Or.inl ⟨by rfl, ?_⟩) hH ?_
                        (intro w5 hS5; go_simp; try rfl)
                        try simp only [Act.put, List.setIfInBounds_toArray, List.set_cons_zero, List.set_cons_succ]
                        refine wpAnyH_take (i := 11) (oi := { dst := some 116, op := Go.Op.load 3 (Go.Operand.tmp 115), type := 3, pos := "ref.go:50", after := #[{ on := 10, ground := Go.Ground.data }], guard := none }) (v := .int .i64 y0) rfl (by kernel_rfl) (by kernel_rfl) (by kernel_rfl) (fun _ _ _ h => h) (Or.inl ⟨by rfl, ?_⟩) hH ?_
                        (intro w5 hS5; have ck := b0.out _ hS5; go_simp; try rfl)
                        try simp only [Act.put, List.setIfInBounds_toArray, List.set_cons_zero, List.set_cons_succ]
                        refine wpAnyH_take (i := 12) (oi := { dst := some 117, op := Go.Op.binOp Go.BinOp.eql 3 (Go.Operand.tmp 110) (Go.Operand.tmp 116) 3, type := 4, pos := "ref.go:50", after := #[{ on := 5, ground := Go.Ground.data }, { on := 11, ground := Go.Ground.data }], guard := none }) (v := .bool false) rfl (by kernel_rfl) (by kernel_rfl) (by kernel_rfl) (fun _ _ _ h => h) (Or.inl ⟨by rfl, ?_⟩) hH ?_
                        (intro w5 hS5; go_simp; try rfl)
                        try simp only [Act.put, List.setIfInBounds_toArray, List.set_cons_zero, List.set_cons_succ]
                        refine wpAnyH_take (i := 13) (oi := { dst := some 118, op := Go.Op.move (Go.Operand.tmp 117), type := 4, pos := "ref.go:50", after := #[{ on := 12, ground := Go.Ground.data }], guard := none }) (v := .bool false) rfl (by kernel_rfl) (by kernel_rfl) (by kernel_rfl) (fun _ _ _ h => h) (Or.inl ⟨by rfl, ?_⟩) hH ?_
                        (intro w5 hS5; go_simp; try rfl)
                        try simp only [Act.put, List.setIfInBounds_toArray, List.set_cons_zero, List.set_cons_succ]
                        refine wpAnyH_take (i := 14) (oi := { dst := some 119, op := Go.Op.move (Go.Operand.tmp 0), type := 38, pos := "ref.go:50", after := #[{ on := 13, ground := Go.Ground.guard }], guard := some (13, true) }) (v := undef) rfl (by kernel_rfl) (by kernel_rfl) (by kernel_rfl) (fun _ _ _ h => h) (Or.inr ⟨by rfl, rfl⟩) hH ?_
                        try simp only [Act.put, List.setIfInBounds_toArray, List.set_cons_zero, List.set_cons_succ]
                        refine wpAnyH_take (i := 15) (oi := { dst := some 120, op := Go.Op.move (Go.Operand.tmp 8), type := 3, pos := "ref.go:50", after := #[{ on := 13, ground := Go.Ground.guard }], guard := some (13, true) }) (v := undef) rfl (by kernel_rfl) (by kernel_rfl) (by kernel_rfl) (fun _ _ _ h => h) (Or.inr ⟨by rfl, rfl⟩) hH ?_
                        try simp only [Act.put, List.setIfInBounds_toArray, List.set_cons_zero, List.set_cons_succ]
                        refine wpAnyH_take (i := 16) (oi := { dst := some 121, op := Go.Op.indexAddr 38 (Go.Operand.tmp 119) (Go.Operand.tmp 120), type := 0, pos := "ref.go:50", after := #[{ on := 14, ground := Go.Ground.data }, { on := 15, ground := Go.Ground.data }, { on := 13, ground := Go.Ground.guard }], guard := some (13, true) }) (v := undef) rfl (by kernel_rfl) (by kernel_rfl) (by kernel_rfl) (fun _ _ _ h => h) (Or.inr ⟨by rfl, rfl⟩) hH ?_
                        try simp only [Act.put, List.setIfInBounds_toArray, List.set_cons_zero, List.set_cons_succ]
                        refine wpAnyH_take (i := 17) (oi := { dst := some 122, op := Go.Op.fieldAddr 36 (Go.Operand.tmp 121) 0, type := 0, pos := "ref.go:50", after := #[{ on := 16, ground := Go.Ground.data }, { on := 13, ground := Go.Ground.guard }], guard := some (13, true) }) (v := undef) rfl (by kernel_rfl) (by kernel_rfl) (by kernel_rfl) (fun _ _ _ h => h) (Or.inr ⟨by rfl, rfl⟩) hH ?_
                        try simp only [Act.put, List.setIfInBounds_toArray, List.set_cons_zero, List.set_cons_succ]
                        refine wpAnyH_take (i := 18) (oi := { dst := some 123, op := Go.Op.fieldAddr 23 (Go.Operand.tmp 122) 1, type := 0, pos := "ref.go:50", after := #[{ on := 17, ground := Go.Ground.data }, { on := 13, ground := Go.Ground.guard }], guard := some (13, true) }) (v := undef) rfl (by kernel_rfl) (by kernel_rfl) (by kernel_rfl) (fun _ _ _ h => h) (Or.inr ⟨by rfl, rfl⟩) hH ?_
                        try simp only [Act.put, List.setIfInBounds_toArray, List.set_cons_zero, List.set_cons_succ]
                        refine wpAnyH_take (i := 19) (oi := { dst := some 124, op := Go.Op.load 3 (Go.Operand.tmp 123), type := 3, pos := "ref.go:50", after := #[{ on := 18, ground := Go.Ground.data }, { on := 13, ground := Go.Ground.guard }], guard := some (13, true) }) (v := undef) rfl (by kernel_rfl) (by kernel_rfl) (by kernel_rfl) (fun _ _ _ h => h) (Or.inr ⟨by rfl, rfl⟩) hH ?_
                        try simp only [Act.put, List.setIfInBounds_toArray, List.set_cons_zero, List.set_cons_succ]
                        refine wpAnyH_take (i := 20) (oi := { dst := some 125, op := Go.Op.move (Go.Operand.tmp 0), type := 38, pos := "ref.go:50", after := #[{ on := 13, ground := Go.Ground.guard }], guard := some (13, true) }) (v := undef) rfl (by kernel_rfl) (by kernel_rfl) (by kernel_rfl) (fun _ _ _ h => h) (Or.inr ⟨by rfl, rfl⟩) hH ?_
                        try simp only [Act.put, List.setIfInBounds_toArray, List.set_cons_zero, List.set_cons_succ]
                        refine wpAnyH_take (i := 21) (oi := { dst := some 126, op := Go.Op.move (Go.Operand.tmp 9), type := 3, pos := "ref.go:50", after := #[{ on := 13, ground := Go.Ground.guard }], guard := some (13, true) }) (v := undef) rfl (by kernel_rfl) (by kernel_rfl) (by kernel_rfl) (fun _ _ _ h => h) (Or.inr ⟨by rfl, rfl⟩) hH ?_
                        try simp only [Act.put, List.setIfInBounds_toArray, List.set_cons_zero, List.set_cons_succ]
                        refine wpAnyH_take (i := 22) (oi := { dst := some 127, op := Go.Op.indexAddr 38 (Go.Operand.tmp 125) (Go.Operand.tmp 126), type := 0, pos := "ref.go:50", after := #[{ on := 20, ground := Go.Ground.data }, { on := 21, ground := Go.Ground.data }, { on := 13, ground := Go.Ground.guard }], guard := some (13, true) }) (v := undef) rfl (by kernel_rfl) (by kernel_rfl) (by kernel_rfl) (fun _ _ _ h => h) (Or.inr ⟨by rfl, rfl⟩) hH ?_
                        try simp only [Act.put, List.setIfInBounds_toArray, List.set_cons_zero, List.set_cons_succ]
                        refine wpAnyH_take (i := 23) (oi := { dst := some 128, op := Go.Op.fieldAddr 36 (Go.Operand.tmp 127) 0, type := 0, pos := "ref.go:50", after := #[{ on := 22, ground := Go.Ground.data }, { on := 13, ground := Go.Ground.guard }], guard := some (13, true) }) (v := undef) rfl (by kernel_rfl) (by kernel_rfl) (by kernel_rfl) (fun _ _ _ h => h) (Or.inr ⟨by rfl, rfl⟩) hH ?_
                        try simp only [Act.put, List.setIfInBounds_toArray, List.set_cons_zero, List.set_cons_succ]
                        refine wpAnyH_take (i := 24) (oi := { dst := some 129, op := Go.Op.fieldAddr 23 (Go.Operand.tmp 128) 1, type := 0, pos := "ref.go:50", after := #[{ on := 23, ground := Go.Ground.data }, { on := 13, ground := Go.Ground.guard }], guard := some (13, true) }) (v := undef) rfl (by kernel_rfl) (by kernel_rfl) (by kernel_rfl) (fun _ _ _ h => h) (Or.inr ⟨by rfl, rfl⟩) hH ?_
                        try simp only [Act.put, List.setIfInBounds_toArray, List.set_cons_zero, List.set_cons_succ]
                        refine wpAnyH_take (i := 25) (oi := { dst := some 130, op := Go.Op.load 3 (Go.Operand.tmp 129), type := 3, pos := "ref.go:50", after := #[{ on := 24, ground := Go.Ground.data }, { on := 13, ground := Go.Ground.guard }], guard := some (13, true) }) (v := undef) rfl (by kernel_rfl) (by kernel_rfl) (by kernel_rfl) (fun _ _ _ h => h) (Or.inr ⟨by rfl, rfl⟩) hH ?_
                        try simp only [Act.put, List.setIfInBounds_toArray, List.set_cons_zero, List.set_cons_succ]
                        refine wpAnyH_take (i := 26) (oi := { dst := some 131, op := Go.Op.binOp Go.BinOp.lss 3 (Go.Operand.tmp 124) (Go.Operand.tmp 130) 3, type := 4, pos := "ref.go:50", after := #[{ on := 19, ground := Go.Ground.data }, { on := 25, ground := Go.Ground.data }, { on := 13, ground := Go.Ground.guard }], guard := some (13, true) }) (v := undef) rfl (by kernel_rfl) (by kernel_rfl) (by kernel_rfl) (fun _ _ _ h => h) (Or.inr ⟨by rfl, rfl⟩) hH ?_
                        try simp only [Act.put, List.setIfInBounds_toArray, List.set_cons_zero, List.set_cons_succ]
                        refine wpAnyH_take (i := 27) (oi := { dst := some 132, op := Go.Op.pick (Go.Operand.tmp 118) (Go.Operand.tmp 131) (Go.Operand.const (Go.Value.bool false)), type := 4, pos := "ref.go:50", after := #[{ on := 13, ground := Go.Ground.data }, { on := 26, ground := Go.Ground.data }], guard := none }) (v := .bool false) rfl (by kernel_rfl) (by kernel_rfl) (by kernel_rfl) (fun _ _ _ h => h) (Or.inl ⟨by rfl, ?_⟩) hH ?_
                        (intro w5 hS5; go_simp; try rfl)
                        try simp only [Act.put, List.setIfInBounds_toArray, List.set_cons_zero, List.set_cons_succ]
                        refine wpAnyH_take (i := 28) (oi := { dst := some 133, op := Go.Op.move (Go.Operand.tmp 132), type := 4, pos := "ref.go:50", after := #[{ on := 27, ground := Go.Ground.data }, { on := 13, ground := Go.Ground.chain }], guard := none }) (v := .bool false) rfl (by kernel_rfl) (by kernel_rfl) (by kernel_rfl) (fun _ _ _ h => h) (Or.inl ⟨by rfl, ?_⟩) hH ?_
                        (intro w5 hS5; go_simp; try rfl)
                        try simp only [Act.put, List.setIfInBounds_toArray, List.set_cons_zero, List.set_cons_succ]
                        refine wpAnyH_take (i := 29) (oi := { dst := some 134, op := Go.Op.move (Go.Operand.tmp 0), type := 38, pos := "ref.go:50", after := #[{ on := 28, ground := Go.Ground.guard }], guard := some (28, true) }) (v := undef) rfl (by kernel_rfl) (by kernel_rfl) (by kernel_rfl) (fun _ _ _ h => h) (Or.inr ⟨by rfl, rfl⟩) hH ?_
                        try simp only [Act.put, List.setIfInBounds_toArray, List.set_cons_zero, List.set_cons_succ]
                        refine wpAnyH_take (i := 30) (oi := { dst := some 135, op := Go.Op.move (Go.Operand.tmp 8), type := 3, pos := "ref.go:50", after := #[{ on := 28, ground := Go.Ground.guard }], guard := some (28, true) }) (v := undef) rfl (by kernel_rfl) (by kernel_rfl) (by kernel_rfl) (fun _ _ _ h => h) (Or.inr ⟨by rfl, rfl⟩) hH ?_
                        try simp only [Act.put, List.setIfInBounds_toArray, List.set_cons_zero, List.set_cons_succ]
                        refine wpAnyH_take (i := 31) (oi := { dst := some 136, op := Go.Op.indexAddr 38 (Go.Operand.tmp 134) (Go.Operand.tmp 135), type := 0, pos := "ref.go:50", after := #[{ on := 29, ground := Go.Ground.data }, { on := 30, ground := Go.Ground.data }, { on := 28, ground := Go.Ground.guard }], guard := some (28, true) }) (v := undef) rfl (by kernel_rfl) (by kernel_rfl) (by kernel_rfl) (fun _ _ _ h => h) (Or.inr ⟨by rfl, rfl⟩) hH ?_
                        try simp only [Act.put, List.setIfInBounds_toArray, List.set_cons_zero, List.set_cons_succ]
                        refine wpAnyH_take (i := 32) (oi := { dst := some 137, op := Go.Op.load 36 (Go.Operand.tmp 136), type := 36, pos := "ref.go:50", after := #[{ on := 31, ground := Go.Ground.data }, { on := 28, ground := Go.Ground.guard }], guard := some (28, true) }) (v := undef) rfl (by kernel_rfl) (by kernel_rfl) (by kernel_rfl) (fun _ _ _ h => h) (Or.inr ⟨by rfl, rfl⟩) hH ?_
                        try simp only [Act.put, List.setIfInBounds_toArray, List.set_cons_zero, List.set_cons_succ]
                        refine wpAnyH_take (i := 33) (oi := { dst := some 138, op := Go.Op.move (Go.Operand.tmp 0), type := 38, pos := "ref.go:50", after := #[{ on := 28, ground := Go.Ground.guard }], guard := some (28, true) }) (v := undef) rfl (by kernel_rfl) (by kernel_rfl) (by kernel_rfl) (fun _ _ _ h => h) (Or.inr ⟨by rfl, rfl⟩) hH ?_
                        try simp only [Act.put, List.setIfInBounds_toArray, List.set_cons_zero, List.set_cons_succ]
                        refine wpAnyH_take (i := 34) (oi := { dst := some 139, op := Go.Op.move (Go.Operand.tmp 9), type := 3, pos := "ref.go:50", after := #[{ on := 28, ground := Go.Ground.guard }], guard := some (28, true) }) (v := undef) rfl (by kernel_rfl) (by kernel_rfl) (by kernel_rfl) (fun _ _ _ h => h) (Or.inr ⟨by rfl, rfl⟩) hH ?_
                        try simp only [Act.put, List.setIfInBounds_toArray, List.set_cons_zero, List.set_cons_succ]
                        refine wpAnyH_take (i := 35) (oi := { dst := some 140, op := Go.Op.indexAddr 38 (Go.Operand.tmp 138) (Go.Operand.tmp 139), type := 0, pos := "ref.go:50", after := #[{ on := 33, ground := Go.Ground.data }, { on := 34, ground := Go.Ground.data }, { on := 28, ground := Go.Ground.guard }], guard := some (28, true) }) (v := undef) rfl (by kernel_rfl) (by kernel_rfl) (by kernel_rfl) (fun _ _ _ h => h) (Or.inr ⟨by rfl, rfl⟩) hH ?_
                        try simp only [Act.put, List.setIfInBounds_toArray, List.set_cons_zero, List.set_cons_succ]
                        refine wpAnyH_take (i := 36) (oi := { dst := some 141, op := Go.Op.load 36 (Go.Operand.tmp 140), type := 36, pos := "ref.go:50", after := #[{ on := 35, ground := Go.Ground.data }, { on := 28, ground := Go.Ground.guard }], guard := some (28, true) }) (v := undef) rfl (by kernel_rfl) (by kernel_rfl) (by kernel_rfl) (fun _ _ _ h => h) (Or.inr ⟨by rfl, rfl⟩) hH ?_
                        try simp only [Act.put, List.setIfInBounds_toArray, List.set_cons_zero, List.set_cons_succ]
                        refine wpAnyH_take (i := 37) (oi := { dst := some 142, op := Go.Op.call { callee := Go.Callee.value (Go.Operand.func 9), args := #[Go.Operand.tmp 137, Go.Operand.tmp 141], argTypes := #[36, 36] }, type := 4, pos := "ref.go:50", after := #[{ on := 32, ground := Go.Ground.data }, { on := 36, ground := Go.Ground.data }, { on := 28, ground := Go.Ground.chain }, { on := 28, ground := Go.Ground.guard }], guard := some (28, true) }) (v := undef) rfl (by kernel_rfl) (by kernel_rfl) (by kernel_rfl) (fun _ _ _ h => h) (Or.inr ⟨by rfl, rfl⟩) hH ?_
                        try simp only [Act.put, List.setIfInBounds_toArray, List.set_cons_zero, List.set_cons_succ]
                        refine wpAnyH_take (i := 38) (oi := { dst := some 143, op := Go.Op.unOp Go.UnOp.not 4 (Go.Operand.tmp 142), type := 4, pos := "ref.go:50", after := #[{ on := 37, ground := Go.Ground.data }, { on := 28, ground := Go.Ground.guard }], guard := some (28, true) }) (v := undef) rfl (by kernel_rfl) (by kernel_rfl) (by kernel_rfl) (fun _ _ _ h => h) (Or.inr ⟨by rfl, rfl⟩) hH ?_
                        try simp only [Act.put, List.setIfInBounds_toArray, List.set_cons_zero, List.set_cons_succ]
                        refine wpAnyH_take (i := 39) (oi := { dst := some 144, op := Go.Op.pick (Go.Operand.tmp 133) (Go.Operand.tmp 143) (Go.Operand.const (Go.Value.bool false)), type := 4, pos := "ref.go:50", after := #[{ on := 28, ground := Go.Ground.data }, { on := 38, ground := Go.Ground.data }], guard := none }) (v := .bool false) rfl (by kernel_rfl) (by kernel_rfl) (by kernel_rfl) (fun _ _ _ h => h) (Or.inl ⟨by rfl, ?_⟩) hH ?_
                        (intro w5 hS5; go_simp; try rfl)
                        try simp only [Act.put, List.setIfInBounds_toArray, List.set_cons_zero, List.set_cons_succ]
                        refine wpAnyH_done (by kernel_rfl) ?_ _
                        have HZ := Lib.hid hH
                        clear hH
                        have hn := Lib.hid (MO.out (by rw [hu.out, tE]; rfl))
                        go_wp2_with fail
                        go_roundg (gk - 1)
                        case rel => exact ⟨k + 1, by omega, by go_num, hn.out, HZ.out⟩
                        case measure => omega
                      · cases tL : decide (x1 < y1)
                        · go_wp2_with fail
                          refine wp_region_held_drew (S := fun w' => New w w') (by kernel_rfl) nw.drew (fun hH => ?_)
                          clear nw
                          refine wpAnyH_take (i := 0) (oi := { dst := some 105, op := Go.Op.move (Go.Operand.tmp 0), type := 38, pos := "ref.go:50", after := #[], guard := none }) (v := .slice (some ad) n cap) rfl (by kernel_rfl) (by kernel_rfl) (by kernel_rfl) (fun _ _ _ h => h) (Or.inl ⟨by rfl, ?_⟩) hH ?_
                          (intro w5 hS5; go_simp; try rfl)
                          try simp only [Act.put, List.setIfInBounds_toArray, List.set_cons_zero, List.set_cons_succ]
                          refine wpAnyH_take (i := 1) (oi := { dst := some 106, op := Go.Op.move (Go.Operand.tmp 8), type := 3, pos := "ref.go:50", after := #[], guard := none }) (v := .int .i64 (i : Nat)) rfl (by kernel_rfl) (by kernel_rfl) (by kernel_rfl) (fun _ _ _ h => h) (Or.inl ⟨by rfl, ?_⟩) hH ?_
                          (intro w5 hS5; go_simp; try rfl)
                          try simp only [Act.put, List.setIfInBounds_toArray, List.set_cons_zero, List.set_cons_succ]
                          refine wpAnyH_take (i := 2) (oi := { dst := some 107, op := Go.Op.indexAddr 38 (Go.Operand.tmp 105) (Go.Operand.tmp 106), type := 0, pos := "ref.go:50", after := #[{ on := 0, ground := Go.Ground.data }, { on := 1, ground := Go.Ground.data }], guard := none }) (v := .pointer (some (ad.add (i * 19)))) rfl (by kernel_rfl) (by kernel_rfl) (by kernel_rfl) (fun _ _ _ h => h) (Or.inl ⟨by rfl, ?_⟩) hH ?_
                          (intro w5 hS5; go_simp; try rfl)
                          try simp only [Act.put, List.setIfInBounds_toArray, List.set_cons_zero, List.set_cons_succ]
                          refine wpAnyH_take (i := 3) (oi := { dst := some 108, op := Go.Op.fieldAddr 36 (Go.Operand.tmp 107) 0, type := 0, pos := "ref.go:50", after := #[{ on := 2, ground := Go.Ground.data }], guard := none }) (v := .pointer (some (ad.add (i * 19)))) rfl (by kernel_rfl) (by kernel_rfl) (by kernel_rfl) (fun _ _ _ h => h) (Or.inl ⟨by rfl, ?_⟩) hH ?_
                          (intro w5 hS5; go_simp; try rfl)
                          try simp only [Act.put, List.setIfInBounds_toArray, List.set_cons_zero, List.set_cons_succ]
                          refine wpAnyH_take (i := 4) (oi := { dst := some 109, op := Go.Op.fieldAddr 23 (Go.Operand.tmp 108) 0, type := 0, pos := "ref.go:50", after := #[{ on := 3, ground := Go.Ground.data }], guard := none }) (v := .pointer (some (ad.add (i * 19)))) rfl (by kernel_rfl) (by kernel_rfl) (by kernel_rfl) (fun _ _ _ h => h) (Or.inl ⟨by rfl, ?_⟩) hH ?_
                          (intro w5 hS5; go_simp; try rfl)
                          try simp only [Act.put, List.setIfInBounds_toArray, List.set_cons_zero, List.set_cons_succ]
                          refine wpAnyH_take (i := 5) (oi := { dst := some 110, op := Go.Op.load 3 (Go.Operand.tmp 109), type := 3, pos := "ref.go:50", after := #[{ on := 4, ground := Go.Ground.data }], guard := none }) (v := .int .i64 x0) rfl (by kernel_rfl) (by kernel_rfl) (by kernel_rfl) (fun _ _ _ h => h) (Or.inl ⟨by rfl, ?_⟩) hH ?_
                          (intro w5 hS5; have ck := a0.out _ hS5; go_simp; try rfl)
                          try simp only [Act.put, List.setIfInBounds_toArray, List.set_cons_zero, List.set_cons_succ]
                          refine wpAnyH_take (i := 6) (oi := { dst := some 111, op := Go.Op.move (Go.Operand.tmp 0), type := 38, pos := "ref.go:50", after := #[], guard := none }) (v := .slice (some ad) n cap) rfl (by kernel_rfl) (by kernel_rfl) (by kernel_rfl) (fun _ _ _ h => h) (Or.inl ⟨by rfl, ?_⟩) hH ?_
                          (intro w5 hS5; go_simp; try rfl)
                          try simp only [Act.put, List.setIfInBounds_toArray, List.set_cons_zero, List.set_cons_succ]
                          refine wpAnyH_take (i := 7) (oi := { dst := some 112, op := Go.Op.move (Go.Operand.tmp 9), type := 3, pos := "ref.go:50", after := #[], guard := none }) (v := .int .i64 (k : Nat)) rfl (by kernel_rfl) (by kernel_rfl) (by kernel_rfl) (fun _ _ _ h => h) (Or.inl ⟨by rfl, ?_⟩) hH ?_
                          (intro w5 hS5; go_simp; try rfl)
                          try simp only [Act.put, List.setIfInBounds_toArray, List.set_cons_zero, List.set_cons_succ]
                          refine wpAnyH_take (i := 8) (oi := { dst := some 113, op := Go.Op.indexAddr 38 (Go.Operand.tmp 111) (Go.Operand.tmp 112), type := 0, pos := "ref.go:50", after := #[{ on := 6, ground := Go.Ground.data }, { on := 7, ground := Go.Ground.data }], guard := none }) (v := .pointer (some (ad.add (k * 19)))) rfl (by kernel_rfl) (by kernel_rfl) (by kernel_rfl) (fun _ _ _ h => h) (Or.inl ⟨by rfl, ?_⟩) hH ?_
                          (intro w5 hS5; go_simp; try rfl)
                          try simp only [Act.put, List.setIfInBounds_toArray, List.set_cons_zero, List.set_cons_succ]
                          refine wpAnyH_take (i := 9) (oi := { dst := some 114, op := Go.Op.fieldAddr 36 (Go.Operand.tmp 113) 0, type := 0, pos := "ref.go:50", after := #[{ on := 8, ground := Go.Ground.data }], guard := none }) (v := .pointer (some (ad.add (k * 19)))) rfl (by kernel_rfl) (by kernel_rfl) (by kernel_rfl) (fun _ _ _ h => h) (Or.inl ⟨by rfl, ?_⟩) hH ?_
                          (intro w5 hS5; go_simp; try rfl)
                          try simp only [Act.put, List.setIfInBounds_toArray, List.set_cons_zero, List.set_cons_succ]
                          refine wpAnyH_take (i := 10) (oi := { dst := some 115, op := Go.Op.fieldAddr 23 (Go.Operand.tmp 114) 0, type := 0, pos := "ref.go:50", after := #[{ on := 9, ground := Go.Ground.data }], guard := none }) (v := .pointer (some (ad.add (k * 19)))) rfl (by kernel_rfl) (by kernel_rfl) (by kernel_rfl) (fun _ _ _ h => h) (Or.inl ⟨by rfl, ?_⟩) hH ?_
                          (intro w5 hS5; go_simp; try rfl)
                          try simp only [Act.put, List.setIfInBounds_toArray, List.set_cons_zero, List.set_cons_succ]
                          refine wpAnyH_take (i := 11) (oi := { dst := some 116, op := Go.Op.load 3 (Go.Operand.tmp 115), type := 3, pos := "ref.go:50", after := #[{ on := 10, ground := Go.Ground.data }], guard := none }) (v := .int .i64 y0) rfl (by kernel_rfl) (by kernel_rfl) (by kernel_rfl) (fun _ _ _ h => h) (Or.inl ⟨by rfl, ?_⟩) hH ?_
                          (intro w5 hS5; have ck := b0.out _ hS5; go_simp; try rfl)
                          try simp only [Act.put, List.setIfInBounds_toArray, List.set_cons_zero, List.set_cons_succ]
                          refine wpAnyH_take (i := 12) (oi := { dst := some 117, op := Go.Op.binOp Go.BinOp.eql 3 (Go.Operand.tmp 110) (Go.Operand.tmp 116) 3, type := 4, pos := "ref.go:50", after := #[{ on := 5, ground := Go.Ground.data }, { on := 11, ground := Go.Ground.data }], guard := none }) (v := .bool true) rfl (by kernel_rfl) (by kernel_rfl) (by kernel_rfl) (fun _ _ _ h => h) (Or.inl ⟨by rfl, ?_⟩) hH ?_
                          (intro w5 hS5; go_simp; try rfl)
                          try simp only [Act.put, List.setIfInBounds_toArray, List.set_cons_zero, List.set_cons_succ]
                          refine wpAnyH_take (i := 13) (oi := { dst := some 118, op := Go.Op.move (Go.Operand.tmp 117), type := 4, pos := "ref.go:50", after := #[{ on := 12, ground := Go.Ground.data }], guard := none }) (v := .bool true) rfl (by kernel_rfl) (by kernel_rfl) (by kernel_rfl) (fun _ _ _ h => h) (Or.inl ⟨by rfl, ?_⟩) hH ?_
                          (intro w5 hS5; go_simp; try rfl)
                          try simp only [Act.put, List.setIfInBounds_toArray, List.set_cons_zero, List.set_cons_succ]
                          refine wpAnyH_take (i := 14) (oi := { dst := some 119, op := Go.Op.move (Go.Operand.tmp 0), type := 38, pos := "ref.go:50", after := #[{ on := 13, ground := Go.Ground.guard }], guard := some (13, true) }) (v := .slice (some ad) n cap) rfl (by kernel_rfl) (by kernel_rfl) (by kernel_rfl) (fun _ _ _ h => h) (Or.inl ⟨by rfl, ?_⟩) hH ?_
                          (intro w5 hS5; go_simp; try rfl)
                          try simp only [Act.put, List.setIfInBounds_toArray, List.set_cons_zero, List.set_cons_succ]
                          refine wpAnyH_take (i := 15) (oi := { dst := some 120, op := Go.Op.move (Go.Operand.tmp 8), type := 3, pos := "ref.go:50", after := #[{ on := 13, ground := Go.Ground.guard }], guard := some (13, true) }) (v := .int .i64 (i : Nat)) rfl (by kernel_rfl) (by kernel_rfl) (by kernel_rfl) (fun _ _ _ h => h) (Or.inl ⟨by rfl, ?_⟩) hH ?_
                          (intro w5 hS5; go_simp; try rfl)
                          try simp only [Act.put, List.setIfInBounds_toArray, List.set_cons_zero, List.set_cons_succ]
                          refine wpAnyH_take (i := 16) (oi := { dst := some 121, op := Go.Op.indexAddr 38 (Go.Operand.tmp 119) (Go.Operand.tmp 120), type := 0, pos := "ref.go:50", after := #[{ on := 14, ground := Go.Ground.data }, { on := 15, ground := Go.Ground.data }, { on := 13, ground := Go.Ground.guard }], guard := some (13, true) }) (v := .pointer (some (ad.add (i * 19)))) rfl (by kernel_rfl) (by kernel_rfl) (by kernel_rfl) (fun _ _ _ h => h) (Or.inl ⟨by rfl, ?_⟩) hH ?_
                          (intro w5 hS5; go_simp; try rfl)
                          try simp only [Act.put, List.setIfInBounds_toArray, List.set_cons_zero, List.set_cons_succ]
                          refine wpAnyH_take (i := 17) (oi := { dst := some 122, op := Go.Op.fieldAddr 36 (Go.Operand.tmp 121) 0, type := 0, pos := "ref.go:50", after := #[{ on := 16, ground := Go.Ground.data }, { on := 13, ground := Go.Ground.guard }], guard := some (13, true) }) (v := .pointer (some (ad.add (i * 19)))) rfl (by kernel_rfl) (by kernel_rfl) (by kernel_rfl) (fun _ _ _ h => h) (Or.inl ⟨by rfl, ?_⟩) hH ?_
                          (intro w5 hS5; go_simp; try rfl)
                          try simp only [Act.put, List.setIfInBounds_toArray, List.set_cons_zero, List.set_cons_succ]
                          refine wpAnyH_take (i := 18) (oi := { dst := some 123, op := Go.Op.fieldAddr 23 (Go.Operand.tmp 122) 1, type := 0, pos := "ref.go:50", after := #[{ on := 17, ground := Go.Ground.data }, { on := 13, ground := Go.Ground.guard }], guard := some (13, true) }) (v := .pointer (some ⟨(ad.add (i * 19)).block, (ad.add (i * 19)).off + 1, none⟩)) rfl (by kernel_rfl) (by kernel_rfl) (by kernel_rfl) (fun _ _ _ h => h) (Or.inl ⟨by rfl, ?_⟩) hH ?_
                          (intro w5 hS5; go_simp; try rfl)
                          try simp only [Act.put, List.setIfInBounds_toArray, List.set_cons_zero, List.set_cons_succ]
                          refine wpAnyH_take (i := 19) (oi := { dst := some 124, op := Go.Op.load 3 (Go.Operand.tmp 123), type := 3, pos := "ref.go:50", after := #[{ on := 18, ground := Go.Ground.data }, { on := 13, ground := Go.Ground.guard }], guard := some (13, true) }) (v := .int .i64 x1) rfl (by kernel_rfl) (by kernel_rfl) (by kernel_rfl) (fun _ _ _ h => h) (Or.inl ⟨by rfl, ?_⟩) hH ?_
                          (intro w5 hS5; have ck := a1.out _ hS5; go_simp; try rfl)
                          try simp only [Act.put, List.setIfInBounds_toArray, List.set_cons_zero, List.set_cons_succ]
                          refine wpAnyH_take (i := 20) (oi := { dst := some 125, op := Go.Op.move (Go.Operand.tmp 0), type := 38, pos := "ref.go:50", after := #[{ on := 13, ground := Go.Ground.guard }], guard := some (13, true) }) (v := .slice (some ad) n cap) rfl (by kernel_rfl) (by kernel_rfl) (by kernel_rfl) (fun _ _ _ h => h) (Or.inl ⟨by rfl, ?_⟩) hH ?_
                          (intro w5 hS5; go_simp; try rfl)
                          try simp only [Act.put, List.setIfInBounds_toArray, List.set_cons_zero, List.set_cons_succ]
                          refine wpAnyH_take (i := 21) (oi := { dst := some 126, op := Go.Op.move (Go.Operand.tmp 9), type := 3, pos := "ref.go:50", after := #[{ on := 13, ground := Go.Ground.guard }], guard := some (13, true) }) (v := .int .i64 (k : Nat)) rfl (by kernel_rfl) (by kernel_rfl) (by kernel_rfl) (fun _ _ _ h => h) (Or.inl ⟨by rfl, ?_⟩) hH ?_
                          (intro w5 hS5; go_simp; try rfl)
                          try simp only [Act.put, List.setIfInBounds_toArray, List.set_cons_zero, List.set_cons_succ]
                          refine wpAnyH_take (i := 22) (oi := { dst := some 127, op := Go.Op.indexAddr 38 (Go.Operand.tmp 125) (Go.Operand.tmp 126), type := 0, pos := "ref.go:50", after := #[{ on := 20, ground := Go.Ground.data }, { on := 21, ground := Go.Ground.data }, { on := 13, ground := Go.Ground.guard }], guard := some (13, true) }) (v := .pointer (some (ad.add (k * 19)))) rfl (by kernel_rfl) (by kernel_rfl) (by kernel_rfl) (fun _ _ _ h => h) (Or.inl ⟨by rfl, ?_⟩) hH ?_
                          (intro w5 hS5; go_simp; try rfl)
                          try simp only [Act.put, List.setIfInBounds_toArray, List.set_cons_zero, List.set_cons_succ]
                          refine wpAnyH_take (i := 23) (oi := { dst := some 128, op := Go.Op.fieldAddr 36 (Go.Operand.tmp 127) 0, type := 0, pos := "ref.go:50", after := #[{ on := 22, ground := Go.Ground.data }, { on := 13, ground := Go.Ground.guard }], guard := some (13, true) }) (v := .pointer (some (ad.add (k * 19)))) rfl (by kernel_rfl) (by kernel_rfl) (by kernel_rfl) (fun _ _ _ h => h) (Or.inl ⟨by rfl, ?_⟩) hH ?_
                          (intro w5 hS5; go_simp; try rfl)
                          try simp only [Act.put, List.setIfInBounds_toArray, List.set_cons_zero, List.set_cons_succ]
                          refine wpAnyH_take (i := 24) (oi := { dst := some 129, op := Go.Op.fieldAddr 23 (Go.Operand.tmp 128) 1, type := 0, pos := "ref.go:50", after := #[{ on := 23, ground := Go.Ground.data }, { on := 13, ground := Go.Ground.guard }], guard := some (13, true) }) (v := .pointer (some ⟨(ad.add (k * 19)).block, (ad.add (k * 19)).off + 1, none⟩)) rfl (by kernel_rfl) (by kernel_rfl) (by kernel_rfl) (fun _ _ _ h => h) (Or.inl ⟨by rfl, ?_⟩) hH ?_
                          (intro w5 hS5; go_simp; try rfl)
                          try simp only [Act.put, List.setIfInBounds_toArray, List.set_cons_zero, List.set_cons_succ]
                          refine wpAnyH_take (i := 25) (oi := { dst := some 130, op := Go.Op.load 3 (Go.Operand.tmp 129), type := 3, pos := "ref.go:50", after := #[{ on := 24, ground := Go.Ground.data }, { on := 13, ground := Go.Ground.guard }], guard := some (13, true) }) (v := .int .i64 y1) rfl (by kernel_rfl) (by kernel_rfl) (by kernel_rfl) (fun _ _ _ h => h) (Or.inl ⟨by rfl, ?_⟩) hH ?_
                          (intro w5 hS5; have ck := b1.out _ hS5; go_simp; try rfl)
                          try simp only [Act.put, List.setIfInBounds_toArray, List.set_cons_zero, List.set_cons_succ]
                          refine wpAnyH_take (i := 26) (oi := { dst := some 131, op := Go.Op.binOp Go.BinOp.lss 3 (Go.Operand.tmp 124) (Go.Operand.tmp 130) 3, type := 4, pos := "ref.go:50", after := #[{ on := 19, ground := Go.Ground.data }, { on := 25, ground := Go.Ground.data }, { on := 13, ground := Go.Ground.guard }], guard := some (13, true) }) (v := .bool false) rfl (by kernel_rfl) (by kernel_rfl) (by kernel_rfl) (fun _ _ _ h => h) (Or.inl ⟨by rfl, ?_⟩) hH ?_
                          (intro w5 hS5; go_simp; try rfl)
                          try simp only [Act.put, List.setIfInBounds_toArray, List.set_cons_zero, List.set_cons_succ]
                          refine wpAnyH_take (i := 27) (oi := { dst := some 132, op := Go.Op.pick (Go.Operand.tmp 118) (Go.Operand.tmp 131) (Go.Operand.const (Go.Value.bool false)), type := 4, pos := "ref.go:50", after := #[{ on := 13, ground := Go.Ground.data }, { on := 26, ground := Go.Ground.data }], guard := none }) (v := .bool false) rfl (by kernel_rfl) (by kernel_rfl) (by kernel_rfl) (fun _ _ _ h => h) (Or.inl ⟨by rfl, ?_⟩) hH ?_
                          (intro w5 hS5; go_simp; try rfl)
                          try simp only [Act.put, List.setIfInBounds_toArray, List.set_cons_zero, List.set_cons_succ]
                          refine wpAnyH_take (i := 28) (oi := { dst := some 133, op := Go.Op.move (Go.Operand.tmp 132), type := 4, pos := "ref.go:50", after := #[{ on := 27, ground := Go.Ground.data }, { on := 13, ground := Go.Ground.chain }], guard := none }) (v := .bool false) rfl (by kernel_rfl) (by kernel_rfl) (by kernel_rfl) (fun _ _ _ h => h) (Or.inl ⟨by rfl, ?_⟩) hH ?_
                          (intro w5 hS5; go_simp; try rfl)
                          try simp only [Act.put, List.setIfInBounds_toArray, List.set_cons_zero, List.set_cons_succ]
                          refine wpAnyH_take (i := 29) (oi := { dst := some 134, op := Go.Op.move (Go.Operand.tmp 0), type := 38, pos := "ref.go:50", after := #[{ on := 28, ground := Go.Ground.guard }], guard := some (28, true) }) (v := undef) rfl (by kernel_rfl) (by kernel_rfl) (by kernel_rfl) (fun _ _ _ h => h) (Or.inr ⟨by rfl, rfl⟩) hH ?_
                          try simp only [Act.put, List.setIfInBounds_toArray, List.set_cons_zero, List.set_cons_succ]
                          refine wpAnyH_take (i := 30) (oi := { dst := some 135, op := Go.Op.move (Go.Operand.tmp 8), type := 3, pos := "ref.go:50", after := #[{ on := 28, ground := Go.Ground.guard }], guard := some (28, true) }) (v := undef) rfl (by kernel_rfl) (by kernel_rfl) (by kernel_rfl) (fun _ _ _ h => h) (Or.inr ⟨by rfl, rfl⟩) hH ?_
                          try simp only [Act.put, List.setIfInBounds_toArray, List.set_cons_zero, List.set_cons_succ]
                          refine wpAnyH_take (i := 31) (oi := { dst := some 136, op := Go.Op.indexAddr 38 (Go.Operand.tmp 134) (Go.Operand.tmp 135), type := 0, pos := "ref.go:50", after := #[{ on := 29, ground := Go.Ground.data }, { on := 30, ground := Go.Ground.data }, { on := 28, ground := Go.Ground.guard }], guard := some (28, true) }) (v := undef) rfl (by kernel_rfl) (by kernel_rfl) (by kernel_rfl) (fun _ _ _ h => h) (Or.inr ⟨by rfl, rfl⟩) hH ?_
                          try simp only [Act.put, List.setIfInBounds_toArray, List.set_cons_zero, List.set_cons_succ]
                          refine wpAnyH_take (i := 32) (oi := { dst := some 137, op := Go.Op.load 36 (Go.Operand.tmp 136), type := 36, pos := "ref.go:50", after := #[{ on := 31, ground := Go.Ground.data }, { on := 28, ground := Go.Ground.guard }], guard := some (28, true) }) (v := undef) rfl (by kernel_rfl) (by kernel_rfl) (by kernel_rfl) (fun _ _ _ h => h) (Or.inr ⟨by rfl, rfl⟩) hH ?_
                          try simp only [Act.put, List.setIfInBounds_toArray, List.set_cons_zero, List.set_cons_succ]
                          refine wpAnyH_take (i := 33) (oi := { dst := some 138, op := Go.Op.move (Go.Operand.tmp 0), type := 38, pos := "ref.go:50", after := #[{ on := 28, ground := Go.Ground.guard }], guard := some (28, true) }) (v := undef) rfl (by kernel_rfl) (by kernel_rfl) (by kernel_rfl) (fun _ _ _ h => h) (Or.inr ⟨by rfl, rfl⟩) hH ?_
                          try simp only [Act.put, List.setIfInBounds_toArray, List.set_cons_zero, List.set_cons_succ]
                          refine wpAnyH_take (i := 34) (oi := { dst := some 139, op := Go.Op.move (Go.Operand.tmp 9), type := 3, pos := "ref.go:50", after := #[{ on := 28, ground := Go.Ground.guard }], guard := some (28, true) }) (v := undef) rfl (by kernel_rfl) (by kernel_rfl) (by kernel_rfl) (fun _ _ _ h => h) (Or.inr ⟨by rfl, rfl⟩) hH ?_
                          try simp only [Act.put, List.setIfInBounds_toArray, List.set_cons_zero, List.set_cons_succ]
                          refine wpAnyH_take (i := 35) (oi := { dst := some 140, op := Go.Op.indexAddr 38 (Go.Operand.tmp 138) (Go.Operand.tmp 139), type := 0, pos := "ref.go:50", after := #[{ on := 33, ground := Go.Ground.data }, { on := 34, ground := Go.Ground.data }, { on := 28, ground := Go.Ground.guard }], guard := some (28, true) }) (v := undef) rfl (by kernel_rfl) (by kernel_rfl) (by kernel_rfl) (fun _ _ _ h => h) (Or.inr ⟨by rfl, rfl⟩) hH ?_
                          try simp only [Act.put, List.setIfInBounds_toArray, List.set_cons_zero, List.set_cons_succ]
                          refine wpAnyH_take (i := 36) (oi := { dst := some 141, op := Go.Op.load 36 (Go.Operand.tmp 140), type := 36, pos := "ref.go:50", after := #[{ on := 35, ground := Go.Ground.data }, { on := 28, ground := Go.Ground.guard }], guard := some (28, true) }) (v := undef) rfl (by kernel_rfl) (by kernel_rfl) (by kernel_rfl) (fun _ _ _ h => h) (Or.inr ⟨by rfl, rfl⟩) hH ?_
                          try simp only [Act.put, List.setIfInBounds_toArray, List.set_cons_zero, List.set_cons_succ]
                          refine wpAnyH_take (i := 37) (oi := { dst := some 142, op := Go.Op.call { callee := Go.Callee.value (Go.Operand.func 9), args := #[Go.Operand.tmp 137, Go.Operand.tmp 141], argTypes := #[36, 36] }, type := 4, pos := "ref.go:50", after := #[{ on := 32, ground := Go.Ground.data }, { on := 36, ground := Go.Ground.data }, { on := 28, ground := Go.Ground.chain }, { on := 28, ground := Go.Ground.guard }], guard := some (28, true) }) (v := undef) rfl (by kernel_rfl) (by kernel_rfl) (by kernel_rfl) (fun _ _ _ h => h) (Or.inr ⟨by rfl, rfl⟩) hH ?_
                          try simp only [Act.put, List.setIfInBounds_toArray, List.set_cons_zero, List.set_cons_succ]
                          refine wpAnyH_take (i := 38) (oi := { dst := some 143, op := Go.Op.unOp Go.UnOp.not 4 (Go.Operand.tmp 142), type := 4, pos := "ref.go:50", after := #[{ on := 37, ground := Go.Ground.data }, { on := 28, ground := Go.Ground.guard }], guard := some (28, true) }) (v := undef) rfl (by kernel_rfl) (by kernel_rfl) (by kernel_rfl) (fun _ _ _ h => h) (Or.inr ⟨by rfl, rfl⟩) hH ?_
                          try simp only [Act.put, List.setIfInBounds_toArray, List.set_cons_zero, List.set_cons_succ]
                          refine wpAnyH_take (i := 39) (oi := { dst := some 144, op := Go.Op.pick (Go.Operand.tmp 133) (Go.Operand.tmp 143) (Go.Operand.const (Go.Value.bool false)), type := 4, pos := "ref.go:50", after := #[{ on := 28, ground := Go.Ground.data }, { on := 38, ground := Go.Ground.data }], guard := none }) (v := .bool false) rfl (by kernel_rfl) (by kernel_rfl) (by kernel_rfl) (fun _ _ _ h => h) (Or.inl ⟨by rfl, ?_⟩) hH ?_
                          (intro w5 hS5; go_simp; try rfl)
                          try simp only [Act.put, List.setIfInBounds_toArray, List.set_cons_zero, List.set_cons_succ]
                          refine wpAnyH_done (by kernel_rfl) ?_ _
                          have HZ := Lib.hid hH
                          clear hH
                          have hn := Lib.hid (MO.out (by rw [hu.out, tE, tL]; rfl))
                          go_wp2_with fail
                          go_roundg (gk - 1)
                          case rel => exact ⟨k + 1, by omega, by go_num, hn.out, HZ.out⟩
                          case measure => omega
                        · go_wp2_with fail
                          refine wp_region_held_drew (S := fun w' => New w w') (by kernel_rfl) nw.drew (fun hH => ?_)
                          clear nw
                          refine wpAnyH_take (i := 0) (oi := { dst := some 105, op := Go.Op.move (Go.Operand.tmp 0), type := 38, pos := "ref.go:50", after := #[], guard := none }) (v := .slice (some ad) n cap) rfl (by kernel_rfl) (by kernel_rfl) (by kernel_rfl) (fun _ _ _ h => h) (Or.inl ⟨by rfl, ?_⟩) hH ?_
                          (intro w5 hS5; go_simp; try rfl)
                          try simp only [Act.put, List.setIfInBounds_toArray, List.set_cons_zero, List.set_cons_succ]
                          refine wpAnyH_take (i := 1) (oi := { dst := some 106, op := Go.Op.move (Go.Operand.tmp 8), type := 3, pos := "ref.go:50", after := #[], guard := none }) (v := .int .i64 (i : Nat)) rfl (by kernel_rfl) (by kernel_rfl) (by kernel_rfl) (fun _ _ _ h => h) (Or.inl ⟨by rfl, ?_⟩) hH ?_
                          (intro w5 hS5; go_simp; try rfl)
                          try simp only [Act.put, List.setIfInBounds_toArray, List.set_cons_zero, List.set_cons_succ]
                          refine wpAnyH_take (i := 2) (oi := { dst := some 107, op := Go.Op.indexAddr 38 (Go.Operand.tmp 105) (Go.Operand.tmp 106), type := 0, pos := "ref.go:50", after := #[{ on := 0, ground := Go.Ground.data }, { on := 1, ground := Go.Ground.data }], guard := none }) (v := .pointer (some (ad.add (i * 19)))) rfl (by kernel_rfl) (by kernel_rfl) (by kernel_rfl) (fun _ _ _ h => h) (Or.inl ⟨by rfl, ?_⟩) hH ?_
                          (intro w5 hS5; go_simp; try rfl)
                          try simp only [Act.put, List.setIfInBounds_toArray, List.set_cons_zero, List.set_cons_succ]
                          refine wpAnyH_take (i := 3) (oi := { dst := some 108, op := Go.Op.fieldAddr 36 (Go.Operand.tmp 107) 0, type := 0, pos := "ref.go:50", after := #[{ on := 2, ground := Go.Ground.data }], guard := none }) (v := .pointer (some (ad.add (i * 19)))) rfl (by kernel_rfl) (by kernel_rfl) (by kernel_rfl) (fun _ _ _ h => h) (Or.inl ⟨by rfl, ?_⟩) hH ?_
                          (intro w5 hS5; go_simp; try rfl)
                          try simp only [Act.put, List.setIfInBounds_toArray, List.set_cons_zero, List.set_cons_succ]
                          refine wpAnyH_take (i := 4) (oi := { dst := some 109, op := Go.Op.fieldAddr 23 (Go.Operand.tmp 108) 0, type := 0, pos := "ref.go:50", after := #[{ on := 3, ground := Go.Ground.data }], guard := none }) (v := .pointer (some (ad.add (i * 19)))) rfl (by kernel_rfl) (by kernel_rfl) (by kernel_rfl) (fun _ _ _ h => h) (Or.inl ⟨by rfl, ?_⟩) hH ?_
                          (intro w5 hS5; go_simp; try rfl)
                          try simp only [Act.put, List.setIfInBounds_toArray, List.set_cons_zero, List.set_cons_succ]
                          refine wpAnyH_take (i := 5) (oi := { dst := some 110, op := Go.Op.load 3 (Go.Operand.tmp 109), type := 3, pos := "ref.go:50", after := #[{ on := 4, ground := Go.Ground.data }], guard := none }) (v := .int .i64 x0) rfl (by kernel_rfl) (by kernel_rfl) (by kernel_rfl) (fun _ _ _ h => h) (Or.inl ⟨by rfl, ?_⟩) hH ?_
                          (intro w5 hS5; have ck := a0.out _ hS5; go_simp; try rfl)
                          try simp only [Act.put, List.setIfInBounds_toArray, List.set_cons_zero, List.set_cons_succ]
                          refine wpAnyH_take (i := 6) (oi := { dst := some 111, op := Go.Op.move (Go.Operand.tmp 0), type := 38, pos := "ref.go:50", after := #[], guard := none }) (v := .slice (some ad) n cap) rfl (by kernel_rfl) (by kernel_rfl) (by kernel_rfl) (fun _ _ _ h => h) (Or.inl ⟨by rfl, ?_⟩) hH ?_
                          (intro w5 hS5; go_simp; try rfl)
                          try simp only [Act.put, List.setIfInBounds_toArray, List.set_cons_zero, List.set_cons_succ]
                          refine wpAnyH_take (i := 7) (oi := { dst := some 112, op := Go.Op.move (Go.Operand.tmp 9), type := 3, pos := "ref.go:50", after := #[], guard := none }) (v := .int .i64 (k : Nat)) rfl (by kernel_rfl) (by kernel_rfl) (by kernel_rfl) (fun _ _ _ h => h) (Or.inl ⟨by rfl, ?_⟩) hH ?_
                          (intro w5 hS5; go_simp; try rfl)
                          try simp only [Act.put, List.setIfInBounds_toArray, List.set_cons_zero, List.set_cons_succ]
                          refine wpAnyH_take (i := 8) (oi := { dst := some 113, op := Go.Op.indexAddr 38 (Go.Operand.tmp 111) (Go.Operand.tmp 112), type := 0, pos := "ref.go:50", after := #[{ on := 6, ground := Go.Ground.data }, { on := 7, ground := Go.Ground.data }], guard := none }) (v := .pointer (some (ad.add (k * 19)))) rfl (by kernel_rfl) (by kernel_rfl) (by kernel_rfl) (fun _ _ _ h => h) (Or.inl ⟨by rfl, ?_⟩) hH ?_
                          (intro w5 hS5; go_simp; try rfl)
                          try simp only [Act.put, List.setIfInBounds_toArray, List.set_cons_zero, List.set_cons_succ]
                          refine wpAnyH_take (i := 9) (oi := { dst := some 114, op := Go.Op.fieldAddr 36 (Go.Operand.tmp 113) 0, type := 0, pos := "ref.go:50", after := #[{ on := 8, ground := Go.Ground.data }], guard := none }) (v := .pointer (some (ad.add (k * 19)))) rfl (by kernel_rfl) (by kernel_rfl) (by kernel_rfl) (fun _ _ _ h => h) (Or.inl ⟨by rfl, ?_⟩) hH ?_
                          (intro w5 hS5; go_simp; try rfl)
                          try simp only [Act.put, List.setIfInBounds_toArray, List.set_cons_zero, List.set_cons_succ]
                          refine wpAnyH_take (i := 10) (oi := { dst := some 115, op := Go.Op.fieldAddr 23 (Go.Operand.tmp 114) 0, type := 0, pos := "ref.go:50", after := #[{ on := 9, ground := Go.Ground.data }], guard := none }) (v := .pointer (some (ad.add (k * 19)))) rfl (by kernel_rfl) (by kernel_rfl) (by kernel_rfl) (fun _ _ _ h => h) (Or.inl ⟨by rfl, ?_⟩) hH ?_
                          (intro w5 hS5; go_simp; try rfl)
                          try simp only [Act.put, List.setIfInBounds_toArray, List.set_cons_zero, List.set_cons_succ]
                          refine wpAnyH_take (i := 11) (oi := { dst := some 116, op := Go.Op.load 3 (Go.Operand.tmp 115), type := 3, pos := "ref.go:50", after := #[{ on := 10, ground := Go.Ground.data }], guard := none }) (v := .int .i64 y0) rfl (by kernel_rfl) (by kernel_rfl) (by kernel_rfl) (fun _ _ _ h => h) (Or.inl ⟨by rfl, ?_⟩) hH ?_
                          (intro w5 hS5; have ck := b0.out _ hS5; go_simp; try rfl)
                          try simp only [Act.put, List.setIfInBounds_toArray, List.set_cons_zero, List.set_cons_succ]
                          refine wpAnyH_take (i := 12) (oi := { dst := some 117, op := Go.Op.binOp Go.BinOp.eql 3 (Go.Operand.tmp 110) (Go.Operand.tmp 116) 3, type := 4, pos := "ref.go:50", after := #[{ on := 5, ground := Go.Ground.data }, { on := 11, ground := Go.Ground.data }], guard := none }) (v := .bool true) rfl (by kernel_rfl) (by kernel_rfl) (by kernel_rfl) (fun _ _ _ h => h) (Or.inl ⟨by rfl, ?_⟩) hH ?_
                          (intro w5 hS5; go_simp; try rfl)
                          try simp only [Act.put, List.setIfInBounds_toArray, List.set_cons_zero, List.set_cons_succ]
                          refine wpAnyH_take (i := 13) (oi := { dst := some 118, op := Go.Op.move (Go.Operand.tmp 117), type := 4, pos := "ref.go:50", after := #[{ on := 12, ground := Go.Ground.data }], guard := none }) (v := .bool true) rfl (by kernel_rfl) (by kernel_rfl) (by kernel_rfl) (fun _ _ _ h => h) (Or.inl ⟨by rfl, ?_⟩) hH ?_
                          (intro w5 hS5; go_simp; try rfl)
                          try simp only [Act.put, List.setIfInBounds_toArray, List.set_cons_zero, List.set_cons_succ]
                          refine wpAnyH_take (i := 14) (oi := { dst := some 119, op := Go.Op.move (Go.Operand.tmp 0), type := 38, pos := "ref.go:50", after := #[{ on := 13, ground := Go.Ground.guard }], guard := some (13, true) }) (v := .slice (some ad) n cap) rfl (by kernel_rfl) (by kernel_rfl) (by kernel_rfl) (fun _ _ _ h => h) (Or.inl ⟨by rfl, ?_⟩) hH ?_
                          (intro w5 hS5; go_simp; try rfl)
                          try simp only [Act.put, List.setIfInBounds_toArray, List.set_cons_zero, List.set_cons_succ]
                          refine wpAnyH_take (i := 15) (oi := { dst := some 120, op := Go.Op.move (Go.Operand.tmp 8), type := 3, pos := "ref.go:50", after := #[{ on := 13, ground := Go.Ground.guard }], guard := some (13, true) }) (v := .int .i64 (i : Nat)) rfl (by kernel_rfl) (by kernel_rfl) (by kernel_rfl) (fun _ _ _ h => h) (Or.inl ⟨by rfl, ?_⟩) hH ?_
                          (intro w5 hS5; go_simp; try rfl)
                          try simp only [Act.put, List.setIfInBounds_toArray, List.set_cons_zero, List.set_cons_succ]
                          refine wpAnyH_take (i := 16) (oi := { dst := some 121, op := Go.Op.indexAddr 38 (Go.Operand.tmp 119) (Go.Operand.tmp 120), type := 0, pos := "ref.go:50", after := #[{ on := 14, ground := Go.Ground.data }, { on := 15, ground := Go.Ground.data }, { on := 13, ground := Go.Ground.guard }], guard := some (13, true) }) (v := .pointer (some (ad.add (i * 19)))) rfl (by kernel_rfl) (by kernel_rfl) (by kernel_rfl) (fun _ _ _ h => h) (Or.inl ⟨by rfl, ?_⟩) hH ?_
                          (intro w5 hS5; go_simp; try rfl)
                          try simp only [Act.put, List.setIfInBounds_toArray, List.set_cons_zero, List.set_cons_succ]
                          refine wpAnyH_take (i := 17) (oi := { dst := some 122, op := Go.Op.fieldAddr 36 (Go.Operand.tmp 121) 0, type := 0, pos := "ref.go:50", after := #[{ on := 16, ground := Go.Ground.data }, { on := 13, ground := Go.Ground.guard }], guard := some (13, true) }) (v := .pointer (some (ad.add (i * 19)))) rfl (by kernel_rfl) (by kernel_rfl) (by kernel_rfl) (fun _ _ _ h => h) (Or.inl ⟨by rfl, ?_⟩) hH ?_
                          (intro w5 hS5; go_simp; try rfl)
                          try simp only [Act.put, List.setIfInBounds_toArray, List.set_cons_zero, List.set_cons_succ]
                          refine wpAnyH_take (i := 18) (oi := { dst := some 123, op := Go.Op.fieldAddr 23 (Go.Operand.tmp 122) 1, type := 0, pos := "ref.go:50", after := #[{ on := 17, ground := Go.Ground.data }, { on := 13, ground := Go.Ground.guard }], guard := some (13, true) }) (v := .pointer (some ⟨(ad.add (i * 19)).block, (ad.add (i * 19)).off + 1, none⟩)) rfl (by kernel_rfl) (by kernel_rfl) (by kernel_rfl) (fun _ _ _ h => h) (Or.inl ⟨by rfl, ?_⟩) hH ?_
                          (intro w5 hS5; go_simp; try rfl)
                          try simp only [Act.put, List.setIfInBounds_toArray, List.set_cons_zero, List.set_cons_succ]
                          refine wpAnyH_take (i := 19) (oi := { dst := some 124, op := Go.Op.load 3 (Go.Operand.tmp 123), type := 3, pos := "ref.go:50", after := #[{ on := 18, ground := Go.Ground.data }, { on := 13, ground := Go.Ground.guard }], guard := some (13, true) }) (v := .int .i64 x1) rfl (by kernel_rfl) (by kernel_rfl) (by kernel_rfl) (fun _ _ _ h => h) (Or.inl ⟨by rfl, ?_⟩) hH ?_
                          (intro w5 hS5; have ck := a1.out _ hS5; go_simp; try rfl)
                          try simp only [Act.put, List.setIfInBounds_toArray, List.set_cons_zero, List.set_cons_succ]
                          refine wpAnyH_take (i := 20) (oi := { dst := some 125, op := Go.Op.move (Go.Operand.tmp 0), type := 38, pos := "ref.go:50", after := #[{ on := 13, ground := Go.Ground.guard }], guard := some (13, true) }) (v := .slice (some ad) n cap) rfl (by kernel_rfl) (by kernel_rfl) (by kernel_rfl) (fun _ _ _ h => h) (Or.inl ⟨by rfl, ?_⟩) hH ?_
                          (intro w5 hS5; go_simp; try rfl)
                          try simp only [Act.put, List.setIfInBounds_toArray, List.set_cons_zero, List.set_cons_succ]
                          refine wpAnyH_take (i := 21) (oi := { dst := some 126, op := Go.Op.move (Go.Operand.tmp 9), type := 3, pos := "ref.go:50", after := #[{ on := 13, ground := Go.Ground.guard }], guard := some (13, true) }) (v := .int .i64 (k : Nat)) rfl (by kernel_rfl) (by kernel_rfl) (by kernel_rfl) (fun _ _ _ h => h) (Or.inl ⟨by rfl, ?_⟩) hH ?_
                          (intro w5 hS5; go_simp; try rfl)
                          try simp only [Act.put, List.setIfInBounds_toArray, List.set_cons_zero, List.set_cons_succ]
                          refine wpAnyH_take (i := 22) (oi := { dst := some 127, op := Go.Op.indexAddr 38 (Go.Operand.tmp 125) (Go.Operand.tmp 126), type := 0, pos := "ref.go:50", after := #[{ on := 20, ground := Go.Ground.data }, { on := 21, ground := Go.Ground.data }, { on := 13, ground := Go.Ground.guard }], guard := some (13, true) }) (v := .pointer (some (ad.add (k * 19)))) rfl (by kernel_rfl) (by kernel_rfl) (by kernel_rfl) (fun _ _ _ h => h) (Or.inl ⟨by rfl, ?_⟩) hH ?_
                          (intro w5 hS5; go_simp; try rfl)
                          try simp only [Act.put, List.setIfInBounds_toArray, List.set_cons_zero, List.set_cons_succ]
                          refine wpAnyH_take (i := 23) (oi := { dst := some 128, op := Go.Op.fieldAddr 36 (Go.Operand.tmp 127) 0, type := 0, pos := "ref.go:50", after := #[{ on := 22, ground := Go.Ground.data }, { on := 13, ground := Go.Ground.guard }], guard := some (13, true) }) (v := .pointer (some (ad.add (k * 19)))) rfl (by kernel_rfl) (by kernel_rfl) (by kernel_rfl) (fun _ _ _ h => h) (Or.inl ⟨by rfl, ?_⟩) hH ?_
                          (intro w5 hS5; go_simp; try rfl)
                          try simp only [Act.put, List.setIfInBounds_toArray, List.set_cons_zero, List.set_cons_succ]
                          refine wpAnyH_take (i := 24) (oi := { dst := some 129, op := Go.Op.fieldAddr 23 (Go.Operand.tmp 128) 1, type := 0, pos := "ref.go:50", after := #[{ on := 23, ground := Go.Ground.data }, { on := 13, ground := Go.Ground.guard }], guard := some (13, true) }) (v := .pointer (some ⟨(ad.add (k * 19)).block, (ad.add (k * 19)).off + 1, none⟩)) rfl (by kernel_rfl) (by kernel_rfl) (by kernel_rfl) (fun _ _ _ h => h) (Or.inl ⟨by rfl, ?_⟩) hH ?_
                          (intro w5 hS5; go_simp; try rfl)
                          try simp only [Act.put, List.setIfInBounds_toArray, List.set_cons_zero, List.set_cons_succ]
                          refine wpAnyH_take (i := 25) (oi := { dst := some 130, op := Go.Op.load 3 (Go.Operand.tmp 129), type := 3, pos := "ref.go:50", after := #[{ on := 24, ground := Go.Ground.data }, { on := 13, ground := Go.Ground.guard }], guard := some (13, true) }) (v := .int .i64 y1) rfl (by kernel_rfl) (by kernel_rfl) (by kernel_rfl) (fun _ _ _ h => h) (Or.inl ⟨by rfl, ?_⟩) hH ?_
                          (intro w5 hS5; have ck := b1.out _ hS5; go_simp; try rfl)
                          try simp only [Act.put, List.setIfInBounds_toArray, List.set_cons_zero, List.set_cons_succ]
                          refine wpAnyH_take (i := 26) (oi := { dst := some 131, op := Go.Op.binOp Go.BinOp.lss 3 (Go.Operand.tmp 124) (Go.Operand.tmp 130) 3, type := 4, pos := "ref.go:50", after := #[{ on := 19, ground := Go.Ground.data }, { on := 25, ground := Go.Ground.data }, { on := 13, ground := Go.Ground.guard }], guard := some (13, true) }) (v := .bool true) rfl (by kernel_rfl) (by kernel_rfl) (by kernel_rfl) (fun _ _ _ h => h) (Or.inl ⟨by rfl, ?_⟩) hH ?_
                          (intro w5 hS5; go_simp; try rfl)
                          try simp only [Act.put, List.setIfInBounds_toArray, List.set_cons_zero, List.set_cons_succ]
                          refine wpAnyH_take (i := 27) (oi := { dst := some 132, op := Go.Op.pick (Go.Operand.tmp 118) (Go.Operand.tmp 131) (Go.Operand.const (Go.Value.bool false)), type := 4, pos := "ref.go:50", after := #[{ on := 13, ground := Go.Ground.data }, { on := 26, ground := Go.Ground.data }], guard := none }) (v := .bool true) rfl (by kernel_rfl) (by kernel_rfl) (by kernel_rfl) (fun _ _ _ h => h) (Or.inl ⟨by rfl, ?_⟩) hH ?_
                          (intro w5 hS5; go_simp; try rfl)
                          try simp only [Act.put, List.setIfInBounds_toArray, List.set_cons_zero, List.set_cons_succ]
                          refine wpAnyH_take (i := 28) (oi := { dst := some 133, op := Go.Op.move (Go.Operand.tmp 132), type := 4, pos := "ref.go:50", after := #[{ on := 27, ground := Go.Ground.data }, { on := 13, ground := Go.Ground.chain }], guard := none }) (v := .bool true) rfl (by kernel_rfl) (by kernel_rfl) (by kernel_rfl) (fun _ _ _ h => h) (Or.inl ⟨by rfl, ?_⟩) hH ?_
                          (intro w5 hS5; go_simp; try rfl)
                          try simp only [Act.put, List.setIfInBounds_toArray, List.set_cons_zero, List.set_cons_succ]
                          refine wpAnyH_take (i := 29) (oi := { dst := some 134, op := Go.Op.move (Go.Operand.tmp 0), type := 38, pos := "ref.go:50", after := #[{ on := 28, ground := Go.Ground.guard }], guard := some (28, true) }) (v := .slice (some ad) n cap) rfl (by kernel_rfl) (by kernel_rfl) (by kernel_rfl) (fun _ _ _ h => h) (Or.inl ⟨by rfl, ?_⟩) hH ?_
                          (intro w5 hS5; go_simp; try rfl)
                          try simp only [Act.put, List.setIfInBounds_toArray, List.set_cons_zero, List.set_cons_succ]
                          refine wpAnyH_take (i := 30) (oi := { dst := some 135, op := Go.Op.move (Go.Operand.tmp 8), type := 3, pos := "ref.go:50", after := #[{ on := 28, ground := Go.Ground.guard }], guard := some (28, true) }) (v := .int .i64 (i : Nat)) rfl (by kernel_rfl) (by kernel_rfl) (by kernel_rfl) (fun _ _ _ h => h) (Or.inl ⟨by rfl, ?_⟩) hH ?_
                          (intro w5 hS5; go_simp; try rfl)
                          try simp only [Act.put, List.setIfInBounds_toArray, List.set_cons_zero, List.set_cons_succ]
                          refine wpAnyH_take (i := 31) (oi := { dst := some 136, op := Go.Op.indexAddr 38 (Go.Operand.tmp 134) (Go.Operand.tmp 135), type := 0, pos := "ref.go:50", after := #[{ on := 29, ground := Go.Ground.data }, { on := 30, ground := Go.Ground.data }, { on := 28, ground := Go.Ground.guard }], guard := some (28, true) }) (v := .pointer (some (ad.add (i * 19)))) rfl (by kernel_rfl) (by kernel_rfl) (by kernel_rfl) (fun _ _ _ h => h) (Or.inl ⟨by rfl, ?_⟩) hH ?_
                          (intro w5 hS5; go_simp; try rfl)
                          try simp only [Act.put, List.setIfInBounds_toArray, List.set_cons_zero, List.set_cons_succ]
                          refine wpAnyH_take (i := 32) (oi := { dst := some 137, op := Go.Op.load 36 (Go.Operand.tmp 136), type := 36, pos := "ref.go:50", after := #[{ on := 31, ground := Go.Ground.data }, { on := 28, ground := Go.Ground.guard }], guard := some (28, true) }) (v := .agg ra) rfl (by kernel_rfl) (by kernel_rfl) (by kernel_rfl) (fun _ _ _ h => h) (Or.inl ⟨by rfl, ?_⟩) hH ?_
                          (intro w5 hS5; refine yl_ld rfl rfl (lda_at _ _ _ (LI.out _ hS5)))
                          try simp only [Act.put, List.setIfInBounds_toArray, List.set_cons_zero, List.set_cons_succ]
                          refine wpAnyH_take (i := 33) (oi := { dst := some 138, op := Go.Op.move (Go.Operand.tmp 0), type := 38, pos := "ref.go:50", after := #[{ on := 28, ground := Go.Ground.guard }], guard := some (28, true) }) (v := .slice (some ad) n cap) rfl (by kernel_rfl) (by kernel_rfl) (by kernel_rfl) (fun _ _ _ h => h) (Or.inl ⟨by rfl, ?_⟩) hH ?_
                          (intro w5 hS5; go_simp; try rfl)
                          try simp only [Act.put, List.setIfInBounds_toArray, List.set_cons_zero, List.set_cons_succ]
                          refine wpAnyH_take (i := 34) (oi := { dst := some 139, op := Go.Op.move (Go.Operand.tmp 9), type := 3, pos := "ref.go:50", after := #[{ on := 28, ground := Go.Ground.guard }], guard := some (28, true) }) (v := .int .i64 (k : Nat)) rfl (by kernel_rfl) (by kernel_rfl) (by kernel_rfl) (fun _ _ _ h => h) (Or.inl ⟨by rfl, ?_⟩) hH ?_
                          (intro w5 hS5; go_simp; try rfl)
                          try simp only [Act.put, List.setIfInBounds_toArray, List.set_cons_zero, List.set_cons_succ]
                          refine wpAnyH_take (i := 35) (oi := { dst := some 140, op := Go.Op.indexAddr 38 (Go.Operand.tmp 138) (Go.Operand.tmp 139), type := 0, pos := "ref.go:50", after := #[{ on := 33, ground := Go.Ground.data }, { on := 34, ground := Go.Ground.data }, { on := 28, ground := Go.Ground.guard }], guard := some (28, true) }) (v := .pointer (some (ad.add (k * 19)))) rfl (by kernel_rfl) (by kernel_rfl) (by kernel_rfl) (fun _ _ _ h => h) (Or.inl ⟨by rfl, ?_⟩) hH ?_
                          (intro w5 hS5; go_simp; try rfl)
                          try simp only [Act.put, List.setIfInBounds_toArray, List.set_cons_zero, List.set_cons_succ]
                          refine wpAnyH_take (i := 36) (oi := { dst := some 141, op := Go.Op.load 36 (Go.Operand.tmp 140), type := 36, pos := "ref.go:50", after := #[{ on := 35, ground := Go.Ground.data }, { on := 28, ground := Go.Ground.guard }], guard := some (28, true) }) (v := .agg rb) rfl (by kernel_rfl) (by kernel_rfl) (by kernel_rfl) (fun _ _ _ h => h) (Or.inl ⟨by rfl, ?_⟩) hH ?_
                          (intro w5 hS5; refine yl_ld rfl rfl (lda_at _ _ _ (LK.out _ hS5)))
                          try simp only [Act.put, List.setIfInBounds_toArray, List.set_cons_zero, List.set_cons_succ]
                          refine wpAnyH_ready (rs := [37]) (by kernel_rfl) (by simp) ?_
                          refine AllReadyH.cons (o := { dst := some 142, op := Go.Op.call { callee := Go.Callee.value (Go.Operand.func 9), args := #[Go.Operand.tmp 137, Go.Operand.tmp 141], argTypes := #[36, 36] }, type := 4, pos := "ref.go:50", after := #[{ on := 32, ground := Go.Ground.data }, { on := 36, ground := Go.Ground.data }, { on := 28, ground := Go.Ground.chain }, { on := 28, ground := Go.Ground.guard }], guard := some (28, true) }) rfl (fun K5 hK5 => ?_) AllReadyH.nil
                          go_simp
                          refine (HC.out _).mono ?_; rintro e w9 ⟨rfl, n9⟩
                          refine hK5.out _ _ (New.trans hH n9) (fun hH9 => ?_)
                          clear hK5 K5
                          try simp only [Act.put, List.setIfInBounds_toArray, List.set_cons_zero, List.set_cons_succ]
                          refine wpAnyH_take (i := 38) (oi := { dst := some 143, op := Go.Op.unOp Go.UnOp.not 4 (Go.Operand.tmp 142), type := 4, pos := "ref.go:50", after := #[{ on := 37, ground := Go.Ground.data }, { on := 28, ground := Go.Ground.guard }], guard := some (28, true) }) (v := .bool !V) rfl (by kernel_rfl) (by kernel_rfl) (by kernel_rfl) (fun _ _ _ h => h) (Or.inl ⟨by rfl, ?_⟩) hH9 ?_
                          (intro w5 hS5; go_simp; try rfl)
                          try simp only [Act.put, List.setIfInBounds_toArray, List.set_cons_zero, List.set_cons_succ]
                          refine wpAnyH_take (i := 39) (oi := { dst := some 144, op := Go.Op.pick (Go.Operand.tmp 133) (Go.Operand.tmp 143) (Go.Operand.const (Go.Value.bool false)), type := 4, pos := "ref.go:50", after := #[{ on := 28, ground := Go.Ground.data }, { on := 38, ground := Go.Ground.data }], guard := none }) (v := .bool !V) rfl (by kernel_rfl) (by kernel_rfl) (by kernel_rfl) (fun _ _ _ h => h) (Or.inl ⟨by rfl, ?_⟩) hH9 ?_
                          (intro w5 hS5; cases V <;> (go_simp; try rfl))
                          try simp only [Act.put, List.setIfInBounds_toArray, List.set_cons_zero, List.set_cons_succ]
                          refine wpAnyH_done (by kernel_rfl) ?_ _
                          have HZ := Lib.hid hH9
                          clear hH hH9
                          cases V
                          · have hr := YK.out (by rw [hu.out, tE, tL]; rfl)
                            subst hr
                            go_wp2_with fail
                            exact bodyPost_ret (by simp [results, Try.results15, go_sem]) rfl ⟨rfl, HZ.out⟩
                          · have hn := Lib.hid (MO.out (by rw [hu.out, tE, tL]; rfl))
                            go_wp2_with fail
                            go_roundg (gk - 1)
                            case rel => exact ⟨k + 1, by omega, by go_num, hn.out, HZ.out⟩
                            case measure => omega
                    · obtain rfl : n = k := by omega
                      have hn := Lib.hid (more_no2 (m := fun j => n) (p := fun j k => ordR (o j) (o k)) HE.out HKE.out)
                      have NW := Lib.hid nw
                      clear nw
                      go_wp2_with fail
                      go_roundg (gq - 1)
                      case rel => exact ⟨i + 1, by omega, by go_num, hn.out, NW.out⟩
                      case measure => omega
                · obtain rfl : n = i := by omega
                  have H4 := HE
                  clear HE
                  have hr := YE.out H1.out H2.out H3.out H4.out
                  subst hr
                  go_wp2
                  go_ret
                  exact ⟨rfl, nw⟩
end Go.Proofs.Ytplaicdbcfnjbaa
