/- Equality of two results (api.Told): the program's Alike and the reference's. -/
import Derived.Test.YtplaicdbcfnjbaaSame
import Derived.Test.YtplaicdbcfnjbaaEq
import Derived.Test.YtplaicdbcfnjbaaReq
namespace Go.Proofs.Ytplaicdbcfnjbaa
open Go.RowKit
set_option linter.unusedVariables false

/-- a result: 8 cells -/
structure TD where
  e : Int
  d : DT
  n : Int
  l : Int
  t : ByteArray
  ny : Nat
  y : Nat → Nat
def tcs (a : TD) (A : Option Addr) (ca : Nat) (Y : Option Addr) (cy : Nat) : Array Value := #[.int .i64 a.e, .int .i64 a.d.k, .int .i64 a.d.n, .slice A a.d.kids.length ca, .int .i64 a.n, .int .i64 a.l, .string a.t, .slice Y a.ny cy]
structure IsT (w : World) (f : Nat) (a : TD) (A : Option Addr) (ca : Nat) (Y : Option Addr) (cy : Nat) : Prop where
  d : IsD w f a.d A ca
  y : ReadsF w .u64 Y a.ny a.y
theorem IsT.new {w w' : World} {f : Nat} {a : TD} {A : Option Addr} {ca : Nat} {Y : Option Addr} {cy : Nat} (h : IsT w f a A ca Y cy) (n : New w w') : IsT w' f a A ca Y cy := ⟨h.d.new n, h.y.new n⟩
def alikeT (f : Nat) (a b : TD) : Bool := (a.e == b.e) && (a.n == b.n) && (a.l == b.l) && (a.t.toList == b.t.toList) && sameD f a.d b.d && eqR a.ny b.ny a.y b.y

set_option maxRecDepth 100000 in
set_option maxHeartbeats 4000000 in
theorem alike_any (f : Nat) (a b : TD) (A : Option Addr) (ca : Nat) (Y : Option Addr) (cy : Nat) (B : Option Addr) (cb : Nat) (Z : Option Addr) (cz : Nat) (w : World) (hA : IsT w f a A ca Y cy) (hB : IsT w f b B cb Z cz) :
    Calls Try.prog 26 #[.agg (tcs a A ca Y cy), .agg (tcs b B cb Z cz)] w fun e w' => e = .returned (.bool (alikeT f a b)) ∧ New w w' := by
  have HD := Lib.hid (fun w' (m : New w w') => dsame_any f a.d b.d A ca B cb w' (hA.d.new m) (hB.d.new m))
  have HY := Lib.hid (fun w' (m : New w w') => eq_any a.ny b.ny a.y b.y Y cy Z cz w' (hA.y.new m) (hB.y.new m))
  have hr : alikeT f a b = ((a.e == b.e) && (a.n == b.n) && (a.l == b.l) && (a.t.toList == b.t.toList) && sameD f a.d b.d && eqR a.ny b.ny a.y b.y) := rfl
  clear hA hB
  unfold tcs
  unfold dagg at HD
  obtain ⟨ae, ad, an, al, at', any, ay⟩ := a
  obtain ⟨be, bd, bn, bl, bt, bny, bY⟩ := b
  simp only [] at hr HD HY ⊢
  generalize alikeT f _ _ = R at *
  generalize sameD f ad bd = SD at *
  generalize eqR any bny ay bY = SY at *
  generalize ad.k = ak at *
  generalize ad.n = adn at *
  generalize ad.kids.length = La at *
  generalize bd.k = bk at *
  generalize bd.n = bdn at *
  generalize bd.kids.length = Lb at *
  clear ay bY
  have HR := Lib.hid hr
  clear hr
  have S0 := Lib.hid (fun w' (m : New ((w.alloc (.cells #[.int .i64 ae, .int .i64 ak, .int .i64 adn, .slice A La ca, .int .i64 an, .int .i64 al, .string at', .slice Y any cy] 34)).alloc (.cells #[.int .i64 be, .int .i64 bk, .int .i64 bdn, .slice B Lb cb, .int .i64 bn, .int .i64 bl, .string bt, .slice Z bny cz] 34)) w') => (⟨(((Box.made w 34 #[.int .i64 ae, .int .i64 ak, .int .i64 adn, .slice A La ca, .int .i64 an, .int .i64 al, .string at', .slice Y any cy]).alloc _).new m), ((Box.made' (w.alloc (.cells _ 34)) 34 #[.int .i64 be, .int .i64 bk, .int .i64 bdn, .slice B Lb cb, .int .i64 bn, .int .i64 bl, .string bt, .slice Z bny cz] (by simp)).new m)⟩ : Box w' w.heap.size 34 _ ∧ Box w' (w.heap.size + 1) 34 _))
  have HW := Lib.hid (show New w ((w.alloc (.cells #[.int .i64 ae, .int .i64 ak, .int .i64 adn, .slice A La ca, .int .i64 an, .int .i64 al, .string at', .slice Y any cy] 34)).alloc (.cells #[.int .i64 be, .int .i64 bk, .int .i64 bdn, .slice B Lb cb, .int .i64 bn, .int .i64 bl, .string bt, .slice Z bny cz] 34)) from ((New.refl w).alloc _).alloc _)
  by_cases t1 : (ae == be) = true
  rotate_left
  · have u1 : (ae == be) = false := by simpa using t1
    clear t1
    have hR : R = false := by rw [HR.out]; simp only [u1, Bool.and_false, Bool.false_and]
    subst hR
    go_enter Try.func26, Try.ntmps26
    go_wp2
    go_ret
    exact ⟨rfl, HW.out⟩
  by_cases t2 : (an == bn) = true
  rotate_left
  · have u2 : (an == bn) = false := by simpa using t2
    clear t2
    have hR : R = false := by rw [HR.out]; simp only [u2, t1, Bool.and_false, Bool.false_and]
    subst hR
    go_enter Try.func26, Try.ntmps26
    go_wp2
    go_ret
    exact ⟨rfl, HW.out⟩
  by_cases t3 : (al == bl) = true
  rotate_left
  · have u3 : (al == bl) = false := by simpa using t3
    clear t3
    have hR : R = false := by rw [HR.out]; simp only [u3, t1, t2, Bool.and_false, Bool.false_and]
    subst hR
    go_enter Try.func26, Try.ntmps26
    go_wp2
    go_ret
    exact ⟨rfl, HW.out⟩
  by_cases t4 : (at'.toList == bt.toList) = true
  rotate_left
  · have u4 : (at'.toList == bt.toList) = false := by simpa using t4
    clear t4
    have hR : R = false := by rw [HR.out]; simp only [u4, t1, t2, t3, Bool.and_false, Bool.false_and]
    subst hR
    go_enter Try.func26, Try.ntmps26
    go_wp2
    go_ret
    exact ⟨rfl, HW.out⟩
  have hR : R = (SD && SY) := by rw [HR.out]; simp only [t1, t2, t3, t4, Bool.true_and]
  have HR2 := Lib.hid hR
  clear hR
  cases SD
  · have hR : R = false := by rw [HR2.out]; rfl
    subst hR
    go_enter Try.func26, Try.ntmps26
    go_wp2_with (go_at_call 40; refine (HD.out _ HW.out).mono ?_; rintro e w9 ⟨rfl, n9⟩; have q := S0.out _ n9; have p1 := q.1.cell 7; have p2 := q.2.cell 7; simp only [List.getElem?_toArray, List.getElem?_cons_zero, List.getElem?_cons_succ] at p1 p2; clear q)
    go_ret
    exact ⟨rfl, HW.out.trans n9⟩
  · have hR : R = SY := by rw [HR2.out]; rfl
    subst hR
    go_enter Try.func26, Try.ntmps26
    go_wp2_with (first | (go_at_call 40; refine (HD.out _ HW.out).mono ?_; rintro e w9 ⟨rfl, n9⟩; have q := S0.out _ n9; have p1 := q.1.cell 7; have p2 := q.2.cell 7; simp only [List.getElem?_toArray, List.getElem?_cons_zero, List.getElem?_cons_succ] at p1 p2; clear q) | (go_at_call 25; refine (HY.out _ (HW.out.trans n9)).mono ?_; rintro e w8 ⟨rfl, n8⟩))
    go_ret
    exact ⟨rfl, (HW.out.trans n9).trans n8⟩

set_option maxRecDepth 100000 in
set_option maxHeartbeats 4000000 in
theorem ralike_any (f : Nat) (a b : TD) (A : Option Addr) (ca : Nat) (Y : Option Addr) (cy : Nat) (B : Option Addr) (cb : Nat) (Z : Option Addr) (cz : Nat) (w : World) (hA : IsT w f a A ca Y cy) (hB : IsT w f b B cb Z cz) :
    Calls Try.prog 28 #[.agg (tcs a A ca Y cy), .agg (tcs b B cb Z cz)] w fun e w' => e = .returned (.bool (alikeT f a b)) ∧ New w w' := by
  have HD := Lib.hid (fun w' (m : New w w') => rsame_any f a.d b.d A ca B cb w' (hA.d.new m) (hB.d.new m))
  have HY := Lib.hid (fun w' (m : New w w') => req_any a.ny b.ny a.y b.y Y cy Z cz w' (hA.y.new m) (hB.y.new m))
  have hr : alikeT f a b = ((a.e == b.e) && (a.n == b.n) && (a.l == b.l) && (a.t.toList == b.t.toList) && sameD f a.d b.d && eqR a.ny b.ny a.y b.y) := rfl
  clear hA hB
  unfold tcs
  unfold dagg at HD
  obtain ⟨ae, ad, an, al, at', any, ay⟩ := a
  obtain ⟨be, bd, bn, bl, bt, bny, bY⟩ := b
  simp only [] at hr HD HY ⊢
  generalize alikeT f _ _ = R at *
  generalize sameD f ad bd = SD at *
  generalize eqR any bny ay bY = SY at *
  generalize ad.k = ak at *
  generalize ad.n = adn at *
  generalize ad.kids.length = La at *
  generalize bd.k = bk at *
  generalize bd.n = bdn at *
  generalize bd.kids.length = Lb at *
  clear ay bY
  have HR := Lib.hid hr
  clear hr
  have S0 := Lib.hid (fun w' (m : New ((w.alloc (.cells #[.int .i64 ae, .int .i64 ak, .int .i64 adn, .slice A La ca, .int .i64 an, .int .i64 al, .string at', .slice Y any cy] 34)).alloc (.cells #[.int .i64 be, .int .i64 bk, .int .i64 bdn, .slice B Lb cb, .int .i64 bn, .int .i64 bl, .string bt, .slice Z bny cz] 34)) w') => (⟨(((Box.made w 34 #[.int .i64 ae, .int .i64 ak, .int .i64 adn, .slice A La ca, .int .i64 an, .int .i64 al, .string at', .slice Y any cy]).alloc _).new m), ((Box.made' (w.alloc (.cells _ 34)) 34 #[.int .i64 be, .int .i64 bk, .int .i64 bdn, .slice B Lb cb, .int .i64 bn, .int .i64 bl, .string bt, .slice Z bny cz] (by simp)).new m)⟩ : Box w' w.heap.size 34 _ ∧ Box w' (w.heap.size + 1) 34 _))
  have HW := Lib.hid (show New w ((w.alloc (.cells #[.int .i64 ae, .int .i64 ak, .int .i64 adn, .slice A La ca, .int .i64 an, .int .i64 al, .string at', .slice Y any cy] 34)).alloc (.cells #[.int .i64 be, .int .i64 bk, .int .i64 bdn, .slice B Lb cb, .int .i64 bn, .int .i64 bl, .string bt, .slice Z bny cz] 34)) from ((New.refl w).alloc _).alloc _)
  by_cases t1 : (ae == be) = true
  rotate_left
  · have u1 : (ae == be) = false := by simpa using t1
    clear t1
    have hR : R = false := by rw [HR.out]; simp only [u1, Bool.and_false, Bool.false_and]
    subst hR
    go_enter Try.func28, Try.ntmps28
    go_wp2
    go_ret
    exact ⟨rfl, HW.out⟩
  by_cases t2 : (an == bn) = true
  rotate_left
  · have u2 : (an == bn) = false := by simpa using t2
    clear t2
    have hR : R = false := by rw [HR.out]; simp only [u2, t1, Bool.and_false, Bool.false_and]
    subst hR
    go_enter Try.func28, Try.ntmps28
    go_wp2
    go_ret
    exact ⟨rfl, HW.out⟩
  by_cases t3 : (al == bl) = true
  rotate_left
  · have u3 : (al == bl) = false := by simpa using t3
    clear t3
    have hR : R = false := by rw [HR.out]; simp only [u3, t1, t2, Bool.and_false, Bool.false_and]
    subst hR
    go_enter Try.func28, Try.ntmps28
    go_wp2
    go_ret
    exact ⟨rfl, HW.out⟩
  by_cases t4 : (at'.toList == bt.toList) = true
  rotate_left
  · have u4 : (at'.toList == bt.toList) = false := by simpa using t4
    clear t4
    have hR : R = false := by rw [HR.out]; simp only [u4, t1, t2, t3, Bool.and_false, Bool.false_and]
    subst hR
    go_enter Try.func28, Try.ntmps28
    go_wp2
    go_ret
    exact ⟨rfl, HW.out⟩
  have hR : R = (SD && SY) := by rw [HR.out]; simp only [t1, t2, t3, t4, Bool.true_and]
  have HR2 := Lib.hid hR
  clear hR
  cases SD
  · have hR : R = false := by rw [HR2.out]; rfl
    subst hR
    go_enter Try.func28, Try.ntmps28
    go_wp2_with (go_at_call 41; refine (HD.out _ HW.out).mono ?_; rintro e w9 ⟨rfl, n9⟩; have q := S0.out _ n9; have p1 := q.1.cell 7; have p2 := q.2.cell 7; simp only [List.getElem?_toArray, List.getElem?_cons_zero, List.getElem?_cons_succ] at p1 p2; clear q)
    go_ret
    exact ⟨rfl, HW.out.trans n9⟩
  · have hR : R = SY := by rw [HR2.out]; rfl
    subst hR
    go_enter Try.func28, Try.ntmps28
    go_wp2_with (first | (go_at_call 41; refine (HD.out _ HW.out).mono ?_; rintro e w9 ⟨rfl, n9⟩; have q := S0.out _ n9; have p1 := q.1.cell 7; have p2 := q.2.cell 7; simp only [List.getElem?_toArray, List.getElem?_cons_zero, List.getElem?_cons_succ] at p1 p2; clear q) | (go_at_call 27; refine (HY.out _ (HW.out.trans n9)).mono ?_; rintro e w8 ⟨rfl, n8⟩))
    go_ret
    exact ⟨rfl, (HW.out.trans n9).trans n8⟩
end Go.Proofs.Ytplaicdbcfnjbaa
