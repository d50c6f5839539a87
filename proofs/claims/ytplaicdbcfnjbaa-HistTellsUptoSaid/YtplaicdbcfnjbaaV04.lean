/- Equality of two rows of numbers: slices.Equal and the reference's Same. -/
import Derived.Test.YtplaicdbcfnjbaaV02
import Derived.Test.YtplaicdbcfnjbaaV03
import Derived.Test.YtplaicdbcfnjbaaProg
import Derived.Test.YtplaicdbcfnjbaaV01
import Derived.BigQuiet
import Derived.Deep.QuietTactic
import Derived.Deep.RegionHeld3
import Derived.Deep.LoopGhost
import Derived.Deep.MidRow
import Derived.Deep.WholeRow
import Derived.WalkMore
set_option linter.unusedSimpArgs false
set_option linter.unusedVariables false
namespace Go.Proofs.Ytplaicdbcfnjbaa
open Go.RowKit
set_option linter.unusedVariables false

/-- two rows of numbers are the same -/
def eqR (n m : Nat) (f g : Nat → Nat) : Bool := decide (n = m ∧ ∀ j, j < n → f j = g j)
theorem eqR_len {n m : Nat} {f g : Nat → Nat} (h : n ≠ m) : eqR n m f g = false := by simp [eqR, h]
theorem eqR_no {n : Nat} {f g : Nat → Nat} (j : Nat) (hj : j < n) (h : f j ≠ g j) : eqR n n f g = false := by
  simp only [eqR, decide_eq_false_iff_not]
  exact fun q => h (q.2 j hj)
theorem eqR_yes {n : Nat} {f g : Nat → Nat} (h : ∀ j, j < n → f j = g j) : eqR n n f g = true := by
  simp only [eqR, decide_eq_true_eq]
  exact ⟨trivial, h⟩
set_option maxRecDepth 100000 in
set_option maxHeartbeats 1000000 in
theorem eq_any (n m : Nat) (f g : Nat → Nat) (A : Option Addr) (ca : Nat) (B : Option Addr) (cb : Nat) (w : World) (hA : ReadsF w .u64 A n f) (hB : ReadsF w .u64 B m g) :
    Calls Try.prog 25 #[.slice A n ca, .slice B m cb] w fun e w' => e = .returned (.bool (eqR n m f g)) ∧ New w w' := by
  have h1 := hA.1
  have h2 := hB.1
  have HA := Lib.hid hA.2
  have HB := Lib.hid hB.2
  clear hA hB
  by_cases hnm : n = m
  · subst hnm
    have HN := Lib.hid (fun j (hj : j < n) h => eqR_no (f := f) (g := g) j hj h)
    have HY := Lib.hid (fun h => eqR_yes (n := n) (f := f) (g := g) h)
    generalize eqR n n f g = R at *
    go_enter Try.func25, Try.ntmps25
    go_wp2_with fail
    go_loopg [13] n (fun q i wr => ∃ k : Nat, k + q = n ∧ i = .int .i64 k ∧ (∀ j, j < k → f j = g j) ∧ New w wr)
    case atStart => exact ⟨0, by omega, rfl, fun j hj => absurd hj (by omega), New.refl w⟩
    case round =>
      obtain ⟨k, hk, rfl, he, nw⟩ := hrel
      by_cases hkn : k < n
      · obtain ⟨ga, rfl, la, ca'⟩ := HA.out (by omega)
        obtain ⟨gb, rfl, lb, cb'⟩ := HB.out (by omega)
        have c1 := (nw.cell (p := ga.add k) (by rw [add_blk]; exact la)).trans (ca' k hkn)
        have c2 := (nw.cell (p := gb.add k) (by rw [add_blk]; exact lb)).trans (cb' k hkn)
        have hkn' : (k : Int) < n := by omega
        have hkk : (k : Int) ≤ 9223372036854775806 := by omega
        clear ca' cb' la lb
        have HE := Lib.hid he
        clear he
        by_cases hfg : f k = g k
        · have HE2 := Lib.hid (show ∀ j, j < k + 1 → f j = g j from fun j hj => by
            rcases Nat.lt_or_ge j k with h | h
            · exact HE.out j h
            · obtain rfl : j = k := by omega
              exact hfg)
          have t : ((f k : Int) != (g k : Int)) = false := by simp [hfg]
          clear hfg
          go_wp2
          go_quiet (fail)
          go_wp2
          go_roundg (gk - 1)
          case rel => exact ⟨k + 1, by omega, by simp, HE2.out, nw.draws _⟩
          case measure => omega
        · have hr := HN.out k hkn hfg
          have t : ((f k : Int) != (g k : Int)) = true := by
            simp only [bne_iff_ne, ne_eq]; omega
          clear hfg
          subst hr
          go_wp2
          go_quiet (fail)
          go_wp2
          exact bodyPost_ret (by simp [results, Try.results25, go_sem]) rfl ⟨rfl, nw.draws _⟩
      · obtain rfl : k = n := by omega
        have hr := HY.out he
        subst hr
        clear he
        go_wp2
        go_ret
        exact ⟨rfl, nw⟩
  · have hr := eqR_len (f := f) (g := g) hnm
    rw [hr]
    have t : ((n : Int) != (m : Int)) = true := by
      simp only [bne_iff_ne, ne_eq]; omega
    clear hnm hr
    go_enter Try.func25, Try.ntmps25
    go_wp2
    go_ret
    exact ⟨rfl, New.refl w⟩
end Go.Proofs.Ytplaicdbcfnjbaa
/- Equality of two rows of numbers: the reference's Same. -/
namespace Go.Proofs.Ytplaicdbcfnjbaa
open Go.RowKit
set_option linter.unusedVariables false

set_option maxRecDepth 100000 in
set_option maxHeartbeats 1000000 in
theorem req_any (n m : Nat) (f g : Nat → Nat) (A : Option Addr) (ca : Nat) (B : Option Addr) (cb : Nat) (w : World) (hA : ReadsF w .u64 A n f) (hB : ReadsF w .u64 B m g) :
    Calls Try.prog 27 #[.slice A n ca, .slice B m cb] w fun e w' => e = .returned (.bool (eqR n m f g)) ∧ New w w' := by
  have h1 := hA.1
  have h2 := hB.1
  have HA := Lib.hid hA.2
  have HB := Lib.hid hB.2
  clear hA hB
  by_cases hnm : n = m
  · subst hnm
    have HN := Lib.hid (fun j (hj : j < n) h => eqR_no (f := f) (g := g) j hj h)
    have HY := Lib.hid (fun h => eqR_yes (n := n) (f := f) (g := g) h)
    generalize eqR n n f g = R at *
    go_enter Try.func27, Try.ntmps27
    go_wp2_with fail
    go_loopg [5] n (fun q i wr => ∃ k : Nat, k + q = n ∧ i = .int .i64 k ∧ (∀ j, j < k → f j = g j) ∧ New w wr)
    case atStart => exact ⟨0, by omega, rfl, fun j hj => absurd hj (by omega), New.refl w⟩
    case round =>
      obtain ⟨k, hk, rfl, he, nw⟩ := hrel
      by_cases hkn : k < n
      · obtain ⟨ga, rfl, la, ca'⟩ := HA.out (by omega)
        obtain ⟨gb, rfl, lb, cb'⟩ := HB.out (by omega)
        have c1 := (nw.cell (p := ga.add k) (by rw [add_blk]; exact la)).trans (ca' k hkn)
        have c2 := (nw.cell (p := gb.add k) (by rw [add_blk]; exact lb)).trans (cb' k hkn)
        have hkn' : (k : Int) < n := by omega
        have hkk : (k : Int) ≤ 9223372036854775806 := by omega
        clear ca' cb' la lb
        have HE := Lib.hid he
        clear he
        by_cases hfg : f k = g k
        · have HE2 := Lib.hid (show ∀ j, j < k + 1 → f j = g j from fun j hj => by
            rcases Nat.lt_or_ge j k with h | h
            · exact HE.out j h
            · obtain rfl : j = k := by omega
              exact hfg)
          have t : ((f k : Int) != (g k : Int)) = false := by simp [hfg]
          clear hfg
          go_wp2
          go_quiet (fail)
          go_wp2
          go_roundg (gk - 1)
          case rel => exact ⟨k + 1, by omega, by simp, HE2.out, nw.draws _⟩
          case measure => omega
        · have hr := HN.out k hkn hfg
          have t : ((f k : Int) != (g k : Int)) = true := by
            simp only [bne_iff_ne, ne_eq]; omega
          clear hfg
          subst hr
          go_wp2
          go_quiet (fail)
          go_wp2
          exact bodyPost_ret (by simp [results, Try.results27, go_sem]) rfl ⟨rfl, nw.draws _⟩
      · obtain rfl : k = n := by omega
        have hr := HY.out he
        subst hr
        clear he
        go_wp2
        go_ret
        exact ⟨rfl, nw⟩
  · have hr := eqR_len (f := f) (g := g) hnm
    rw [hr]
    have t : ((n : Int) != (m : Int)) = true := by
      simp only [bne_iff_ne, ne_eq]; omega
    clear hnm hr
    go_enter Try.func27, Try.ntmps27
    go_wp2
    go_ret
    exact ⟨rfl, New.refl w⟩
end Go.Proofs.Ytplaicdbcfnjbaa
/- Equality of two results (api.Told): the program's Alike and the reference's. -/
namespace Go.Proofs.Ytplaicdbcfnjbaa
open Go.RowKit
set_option linter.unusedVariables false

/-- a result: 8 cells -/
structure TD where
  e : Int
  d : DT
  n : Int
  l : Int
  t : ByteArray
  ny : Nat
  y : Nat → Nat
def tcs (a : TD) (A : Option Addr) (ca : Nat) (Y : Option Addr) (cy : Nat) : Array Value := #[.int .i64 a.e, .int .i64 a.d.k, .int .i64 a.d.n, .slice A a.d.kids.length ca, .int .i64 a.n, .int .i64 a.l, .string a.t, .slice Y a.ny cy]
structure IsT (w : World) (f : Nat) (a : TD) (A : Option Addr) (ca : Nat) (Y : Option Addr) (cy : Nat) : Prop where
  d : IsD w f a.d A ca
  y : ReadsF w .u64 Y a.ny a.y
theorem IsT.new {w w' : World} {f : Nat} {a : TD} {A : Option Addr} {ca : Nat} {Y : Option Addr} {cy : Nat} (h : IsT w f a A ca Y cy) (n : New w w') : IsT w' f a A ca Y cy := ⟨h.d.new n, h.y.new n⟩
def alikeT (f : Nat) (a b : TD) : Bool := (a.e == b.e) && (a.n == b.n) && (a.l == b.l) && (a.t.toList == b.t.toList) && sameD f a.d b.d && eqR a.ny b.ny a.y b.y

set_option maxRecDepth 100000 in
set_option maxHeartbeats 4000000 in
theorem alike_any (f : Nat) (a b : TD) (A : Option Addr) (ca : Nat) (Y : Option Addr) (cy : Nat) (B : Option Addr) (cb : Nat) (Z : Option Addr) (cz : Nat) (w : World) (hA : IsT w f a A ca Y cy) (hB : IsT w f b B cb Z cz) :
    Calls Try.prog 26 #[.agg (tcs a A ca Y cy), .agg (tcs b B cb Z cz)] w fun e w' => e = .returned (.bool (alikeT f a b)) ∧ New w w' := by
  have HD := Lib.hid (fun w' (m : New w w') => dsame_any f a.d b.d A ca B cb w' (hA.d.new m) (hB.d.new m))
  have HY := Lib.hid (fun w' (m : New w w') => eq_any a.ny b.ny a.y b.y Y cy Z cz w' (hA.y.new m) (hB.y.new m))
  have hr : alikeT f a b = ((a.e == b.e) && (a.n == b.n) && (a.l == b.l) && (a.t.toList == b.t.toList) && sameD f a.d b.d && eqR a.ny b.ny a.y b.y) := rfl
  clear hA hB
  unfold tcs
  unfold dagg at HD
  obtain ⟨ae, ad, an, al, at', any, ay⟩ := a
  obtain ⟨be, bd, bn, bl, bt, bny, bY⟩ := b
  simp only [] at hr HD HY ⊢
  generalize alikeT f _ _ = R at *
  generalize sameD f ad bd = SD at *
  generalize eqR any bny ay bY = SY at *
  generalize ad.k = ak at *
  generalize ad.n = adn at *
  generalize ad.kids.length = La at *
  generalize bd.k = bk at *
  generalize bd.n = bdn at *
  generalize bd.kids.length = Lb at *
  clear ay bY
  have HR := Lib.hid hr
  clear hr
  have S0 := Lib.hid (fun w' (m : New ((w.alloc (.cells #[.int .i64 ae, .int .i64 ak, .int .i64 adn, .slice A La ca, .int .i64 an, .int .i64 al, .string at', .slice Y any cy] 34)).alloc (.cells #[.int .i64 be, .int .i64 bk, .int .i64 bdn, .slice B Lb cb, .int .i64 bn, .int .i64 bl, .string bt, .slice Z bny cz] 34)) w') => (⟨(((Box.made w 34 #[.int .i64 ae, .int .i64 ak, .int .i64 adn, .slice A La ca, .int .i64 an, .int .i64 al, .string at', .slice Y any cy]).alloc _).new m), ((Box.made' (w.alloc (.cells _ 34)) 34 #[.int .i64 be, .int .i64 bk, .int .i64 bdn, .slice B Lb cb, .int .i64 bn, .int .i64 bl, .string bt, .slice Z bny cz] (by simp)).new m)⟩ : Box w' w.heap.size 34 _ ∧ Box w' (w.heap.size + 1) 34 _))
  have HW := Lib.hid (show New w ((w.alloc (.cells #[.int .i64 ae, .int .i64 ak, .int .i64 adn, .slice A La ca, .int .i64 an, .int .i64 al, .string at', .slice Y any cy] 34)).alloc (.cells #[.int .i64 be, .int .i64 bk, .int .i64 bdn, .slice B Lb cb, .int .i64 bn, .int .i64 bl, .string bt, .slice Z bny cz] 34)) from ((New.refl w).alloc _).alloc _)
  by_cases t1 : (ae == be) = true
  rotate_left
  · have u1 : (ae == be) = false := by simpa using t1
    clear t1
    have hR : R = false := by rw [HR.out]; simp only [u1, Bool.and_false, Bool.false_and]
    subst hR
    go_enter Try.func26, Try.ntmps26
    go_wp2
    go_ret
    exact ⟨rfl, HW.out⟩
  by_cases t2 : (an == bn) = true
  rotate_left
  · have u2 : (an == bn) = false := by simpa using t2
    clear t2
    have hR : R = false := by rw [HR.out]; simp only [u2, t1, Bool.and_false, Bool.false_and]
    subst hR
    go_enter Try.func26, Try.ntmps26
    go_wp2
    go_ret
    exact ⟨rfl, HW.out⟩
  by_cases t3 : (al == bl) = true
  rotate_left
  · have u3 : (al == bl) = false := by simpa using t3
    clear t3
    have hR : R = false := by rw [HR.out]; simp only [u3, t1, t2, Bool.and_false, Bool.false_and]
    subst hR
    go_enter Try.func26, Try.ntmps26
    go_wp2
    go_ret
    exact ⟨rfl, HW.out⟩
  by_cases t4 : (at'.toList == bt.toList) = true
  rotate_left
  · have u4 : (at'.toList == bt.toList) = false := by simpa using t4
    clear t4
    have hR : R = false := by rw [HR.out]; simp only [u4, t1, t2, t3, Bool.and_false, Bool.false_and]
    subst hR
    go_enter Try.func26, Try.ntmps26
    go_wp2
    go_ret
    exact ⟨rfl, HW.out⟩
  have hR : R = (SD && SY) := by rw [HR.out]; simp only [t1, t2, t3, t4, Bool.true_and]
  have HR2 := Lib.hid hR
  clear hR
  cases SD
  · have hR : R = false := by rw [HR2.out]; rfl
    subst hR
    go_enter Try.func26, Try.ntmps26
    go_wp2_with (go_at_call 40; refine (HD.out _ HW.out).mono ?_; rintro e w9 ⟨rfl, n9⟩; have q := S0.out _ n9; have p1 := q.1.cell 7; have p2 := q.2.cell 7; simp only [List.getElem?_toArray, List.getElem?_cons_zero, List.getElem?_cons_succ] at p1 p2; clear q)
    go_ret
    exact ⟨rfl, HW.out.trans n9⟩
  · have hR : R = SY := by rw [HR2.out]; rfl
    subst hR
    go_enter Try.func26, Try.ntmps26
    go_wp2_with (first | (go_at_call 40; refine (HD.out _ HW.out).mono ?_; rintro e w9 ⟨rfl, n9⟩; have q := S0.out _ n9; have p1 := q.1.cell 7; have p2 := q.2.cell 7; simp only [List.getElem?_toArray, List.getElem?_cons_zero, List.getElem?_cons_succ] at p1 p2; clear q) | (go_at_call 25; refine (HY.out _ (HW.out.trans n9)).mono ?_; rintro e w8 ⟨rfl, n8⟩))
    go_ret
    exact ⟨rfl, (HW.out.trans n9).trans n8⟩

set_option maxRecDepth 100000 in
set_option maxHeartbeats 4000000 in
theorem ralike_any (f : Nat) (a b : TD) (A : Option Addr) (ca : Nat) (Y : Option Addr) (cy : Nat) (B : Option Addr) (cb : Nat) (Z : Option Addr) (cz : Nat) (w : World) (hA : IsT w f a A ca Y cy) (hB : IsT w f b B cb Z cz) :
    Calls Try.prog 28 #[.agg (tcs a A ca Y cy), .agg (tcs b B cb Z cz)] w fun e w' => e = .returned (.bool (alikeT f a b)) ∧ New w w' := by
  have HD := Lib.hid (fun w' (m : New w w') => rsame_any f a.d b.d A ca B cb w' (hA.d.new m) (hB.d.new m))
  have HY := Lib.hid (fun w' (m : New w w') => req_any a.ny b.ny a.y b.y Y cy Z cz w' (hA.y.new m) (hB.y.new m))
  have hr : alikeT f a b = ((a.e == b.e) && (a.n == b.n) && (a.l == b.l) && (a.t.toList == b.t.toList) && sameD f a.d b.d && eqR a.ny b.ny a.y b.y) := rfl
  clear hA hB
  unfold tcs
  unfold dagg at HD
  obtain ⟨ae, ad, an, al, at', any, ay⟩ := a
  obtain ⟨be, bd, bn, bl, bt, bny, bY⟩ := b
  simp only [] at hr HD HY ⊢
  generalize alikeT f _ _ = R at *
  generalize sameD f ad bd = SD at *
  generalize eqR any bny ay bY = SY at *
  generalize ad.k = ak at *
  generalize ad.n = adn at *
  generalize ad.kids.length = La at *
  generalize bd.k = bk at *
  generalize bd.n = bdn at *
  generalize bd.kids.length = Lb at *
  clear ay bY
  have HR := Lib.hid hr
  clear hr
  have S0 := Lib.hid (fun w' (m : New ((w.alloc (.cells #[.int .i64 ae, .int .i64 ak, .int .i64 adn, .slice A La ca, .int .i64 an, .int .i64 al, .string at', .slice Y any cy] 34)).alloc (.cells #[.int .i64 be, .int .i64 bk, .int .i64 bdn, .slice B Lb cb, .int .i64 bn, .int .i64 bl, .string bt, .slice Z bny cz] 34)) w') => (⟨(((Box.made w 34 #[.int .i64 ae, .int .i64 ak, .int .i64 adn, .slice A La ca, .int .i64 an, .int .i64 al, .string at', .slice Y any cy]).alloc _).new m), ((Box.made' (w.alloc (.cells _ 34)) 34 #[.int .i64 be, .int .i64 bk, .int .i64 bdn, .slice B Lb cb, .int .i64 bn, .int .i64 bl, .string bt, .slice Z bny cz] (by simp)).new m)⟩ : Box w' w.heap.size 34 _ ∧ Box w' (w.heap.size + 1) 34 _))
  have HW := Lib.hid (show New w ((w.alloc (.cells #[.int .i64 ae, .int .i64 ak, .int .i64 adn, .slice A La ca, .int .i64 an, .int .i64 al, .string at', .slice Y any cy] 34)).alloc (.cells #[.int .i64 be, .int .i64 bk, .int .i64 bdn, .slice B Lb cb, .int .i64 bn, .int .i64 bl, .string bt, .slice Z bny cz] 34)) from ((New.refl w).alloc _).alloc _)
  by_cases t1 : (ae == be) = true
  rotate_left
  · have u1 : (ae == be) = false := by simpa using t1
    clear t1
    have hR : R = false := by rw [HR.out]; simp only [u1, Bool.and_false, Bool.false_and]
    subst hR
    go_enter Try.func28, Try.ntmps28
    go_wp2
    go_ret
    exact ⟨rfl, HW.out⟩
  by_cases t2 : (an == bn) = true
  rotate_left
  · have u2 : (an == bn) = false := by simpa using t2
    clear t2
    have hR : R = false := by rw [HR.out]; simp only [u2, t1, Bool.and_false, Bool.false_and]
    subst hR
    go_enter Try.func28, Try.ntmps28
    go_wp2
    go_ret
    exact ⟨rfl, HW.out⟩
  by_cases t3 : (al == bl) = true
  rotate_left
  · have u3 : (al == bl) = false := by simpa using t3
    clear t3
    have hR : R = false := by rw [HR.out]; simp only [u3, t1, t2, Bool.and_false, Bool.false_and]
    subst hR
    go_enter Try.func28, Try.ntmps28
    go_wp2
    go_ret
    exact ⟨rfl, HW.out⟩
  by_cases t4 : (at'.toList == bt.toList) = true
  rotate_left
  · have u4 : (at'.toList == bt.toList) = false := by simpa using t4
    clear t4
    have hR : R = false := by rw [HR.out]; simp only [u4, t1, t2, t3, Bool.and_false, Bool.false_and]
    subst hR
    go_enter Try.func28, Try.ntmps28
    go_wp2
    go_ret
    exact ⟨rfl, HW.out⟩
  have hR : R = (SD && SY) := by rw [HR.out]; simp only [t1, t2, t3, t4, Bool.true_and]
  have HR2 := Lib.hid hR
  clear hR
  cases SD
  · have hR : R = false := by rw [HR2.out]; rfl
    subst hR
    go_enter Try.func28, Try.ntmps28
    go_wp2_with (go_at_call 41; refine (HD.out _ HW.out).mono ?_; rintro e w9 ⟨rfl, n9⟩; have q := S0.out _ n9; have p1 := q.1.cell 7; have p2 := q.2.cell 7; simp only [List.getElem?_toArray, List.getElem?_cons_zero, List.getElem?_cons_succ] at p1 p2; clear q)
    go_ret
    exact ⟨rfl, HW.out.trans n9⟩
  · have hR : R = SY := by rw [HR2.out]; rfl
    subst hR
    go_enter Try.func28, Try.ntmps28
    go_wp2_with (first | (go_at_call 41; refine (HD.out _ HW.out).mono ?_; rintro e w9 ⟨rfl, n9⟩; have q := S0.out _ n9; have p1 := q.1.cell 7; have p2 := q.2.cell 7; simp only [List.getElem?_toArray, List.getElem?_cons_zero, List.getElem?_cons_succ] at p1 p2; clear q) | (go_at_call 27; refine (HY.out _ (HW.out.trans n9)).mono ?_; rintro e w8 ⟨rfl, n8⟩))
    go_ret
    exact ⟨rfl, (HW.out.trans n9).trans n8⟩
end Go.Proofs.Ytplaicdbcfnjbaa
/- Contracts on calls (api.Op, rows of 19 cells that are not looked into but for two): ended, lasted, and the small laws on such rows. -/
namespace Go.Proofs.Ytplaicdbcfnjbaa
open Go.RowKit
set_option linter.unusedVariables false

theorem size36 : (Try.prog.info? 36).map (·.size) = some 19 := by kernel_rfl
/-- a call's row: 19 cells -/
def IsOp (o : Array Value) : Prop := o.size = 19 ∧ o.all (·.oneCell') = true
theorem lda_new (w : World) (c : Array Value) (hc : IsOp c) : (Instr.loadAt 36 (.pointer (some ⟨w.heap.size, 0, none⟩))).run Try.prog (w.alloc (.cells c 36)) = .ok (.agg c) (w.alloc (.cells c 36)) := by
  simp only [Instr.loadAt, Instr.sureAddr, Sem.run_bind, Sem.run_pure, Result.andThen]
  exact run_loadVar_row _ _ 36 36 c (0, 0) _ (heap_alloc_last w _) Try.underlying36 rfl (by rw [size36, hc.1])
theorem sta_new (w : World) (c c' : Array Value) (h : c.size = 19) (hc : IsOp c') : (Instr.storeAt 36 (.pointer (some ⟨w.heap.size, 0, none⟩)) (.agg c')).run Try.prog (w.alloc (.cells c 36)) = .ok () (w.alloc (.cells c' 36)) :=
  run_storeAt_new w 36 c c' (by rw [size36, hc.1]) (by rw [h, hc.1]) hc.2
/-- a call's row within a block -/
def OpAt (w : World) (p : Addr) (o : Array Value) : Prop := IsOp o ∧ p.block < w.heap.size ∧ ∀ j v, o[j]? = some v → w.cell? (p.add j) = some v
theorem OpAt.new {w w' : World} {p : Addr} {o : Array Value} (h : OpAt w p o) (n : New w w') : OpAt w' p o := by
  refine ⟨h.1, Nat.lt_of_lt_of_le h.2.1 n.lt, fun j v hv => ?_⟩
  rw [n.cell]
  · exact h.2.2 j v hv
  · have e : (p.add j).block = p.block := by unfold Addr.add; split <;> rfl
    rw [e]; exact h.2.1
theorem lda_at (w : World) (p : Addr) (o : Array Value) (h : OpAt w p o) : (Instr.loadAt 36 (.pointer (some p))).run Try.prog w = .ok (.agg o) w := by
  have hl := run_loadCells_list (P := Try.prog) w p o.toList (fun j v hv => h.2.2 j v (by simpa using hv))
  rw [Array.length_toList, h.1.1] at hl
  have hagg : (isAgg 36).run Try.prog w = .ok true w := by
    unfold isAgg
    rw [Sem.run_bind, run_underlying Try.underlying36 w]
    rfl
  have hq := size36
  cases hi : Try.prog.info? 36 with
  | none => simp [hi] at hq
  | some i =>
    have hs : i.size = 19 := by simpa [hi] using hq
    simp [Instr.loadAt, Instr.sureAddr, loadVar, Sem.run_bind, hagg, sizeOf, typeInfo, hi, hs, hl]

theorem OpAt.made (w : World) (c : Array Value) (h : IsOp c) : OpAt (w.alloc (.cells c 36)) ⟨w.heap.size, 0, none⟩ c := by
  refine ⟨h, by simp, fun j v hv => ?_⟩
  rw [Addr.add_mid, Nat.zero_add]
  exact ((Box.made w 36 c).cell j).trans hv
/-- a call's row is loaded -/
theorem wpl_load {ops : Array Oper} {rest : List Oper} {o : Oper} {a : Act} {w : World} {Q : Exit → Act → World → Prop} {x : Operand} {p : Addr} {c : Array Value}
    (ho : o.op = .load 36 x) (hx : a.eval x = .pointer (some p)) (h : OpAt w p c) (hw : Region.wanted o (yielded ops a.tmps) = true) (hk : wpList Try.prog ops Q rest (a.put o.dst (.agg c)) w) : wpList Try.prog ops Q (o :: rest) a w :=
  wpList_step fun K hK => by
    rw [if_pos hw]
    unfold Oper.wp execOp
    simp only [ho, hx, Sem.run_bind, Sem.run_pure, Result.andThen_ok, lda_at w p c h]
    exact hK _ _ hk
/-- a call's row is laid into a block that was made just before -/
theorem wpl_store {ops : Array Oper} {rest : List Oper} {o : Oper} {a : Act} {w : World} {Q : Exit → Act → World → Prop} {x y : Operand} {c c' : Array Value}
    (ho : o.op = .store 36 x y) (hx : a.eval x = .pointer (some ⟨w.heap.size, 0, none⟩)) (hy : a.eval y = .agg c') (h : c.size = 19) (h' : IsOp c') (hg : o.guard = none)
    (hk : wpList Try.prog ops Q rest (a.put o.dst undef) (w.alloc (.cells c' 36))) : wpList Try.prog ops Q (o :: rest) a (w.alloc (.cells c 36)) :=
  wpList_plain hg fun K hK => by
    unfold Oper.wp execOp
    simp only [ho, hx, hy, Sem.run_bind, Sem.run_pure, Result.andThen_ok, sta_new w c c' h h']
    exact hK _ _ hk

end Go.Proofs.Ytplaicdbcfnjbaa
