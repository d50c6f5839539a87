/- Same of two descriptors, and equality of two rows of numbers: the program's and the reference's. -/
import Derived.Test.YtplaicdbcfnjbaaDcmp
import Derived.Test.YtplaicdbcfnjbaaRow
namespace Go.Proofs.Ytplaicdbcfnjbaa
open Go.RowKit
set_option linter.unusedVariables false

def sameD (f : Nat) (a b : DT) : Bool := decide (cmpD f a b = 0)
set_option maxRecDepth 100000 in
set_option maxHeartbeats 1000000 in
theorem rsame_any (f : Nat) (a b : DT) (A : Option Addr) (ca : Nat) (B : Option Addr) (cb : Nat) (w : World) (hA : IsD w f a A ca) (hB : IsD w f b B cb) : Calls Try.prog 41 #[dagg a A ca, dagg b B cb] w fun e w' => e = .returned (.bool (sameD f a b)) ∧ New w w' := by
  have HR := Lib.hid (fun w' (m : New w w') => refcmp_any f a b A ca B cb w' (hA.new m) (hB.new m))
  have hs : sameD f a b = decide (cmpD f a b = 0) := rfl
  have hs' : sameD f a b = (cmpD f a b == 0) := by rw [hs]; by_cases h : cmpD f a b = 0 <;> simp [h]
  clear hA hB hs
  unfold dagg at *
  generalize cmpD f a b = C at *
  generalize sameD f a b = S at *
  generalize a.kids.length = La at *
  generalize b.kids.length = Lb at *
  have HS := Lib.hid hs'
  clear hs'
  go_enter Try.func41, Try.ntmps41
  go_wp2_with (go_at_call 52; refine (HR.out _ (((New.refl w).alloc _).alloc _)).mono ?_; rintro e w9 ⟨rfl, n9⟩)
  go_ret
  exact ⟨by rw [HS.out]; rfl, (((New.refl w).alloc _).alloc _).trans n9⟩
set_option maxRecDepth 100000 in
set_option maxHeartbeats 1000000 in
theorem dsame_any (f : Nat) (a b : DT) (A : Option Addr) (ca : Nat) (B : Option Addr) (cb : Nat) (w : World) (hA : IsD w f a A ca) (hB : IsD w f b B cb) : Calls Try.prog 40 #[dagg a A ca, dagg b B cb] w fun e w' => e = .returned (.bool (sameD f a b)) ∧ New w w' := by
  have HR := Lib.hid (fun w' (m : New w w') => dcmp_any f a b A ca B cb w' (hA.new m) (hB.new m))
  have hs : sameD f a b = decide (cmpD f a b = 0) := rfl
  have hs' : sameD f a b = (cmpD f a b == 0) := by rw [hs]; by_cases h : cmpD f a b = 0 <;> simp [h]
  clear hA hB hs
  unfold dagg at *
  generalize cmpD f a b = C at *
  generalize sameD f a b = S at *
  generalize a.kids.length = La at *
  generalize b.kids.length = Lb at *
  have HS := Lib.hid hs'
  clear hs'
  go_enter Try.func40, Try.ntmps40
  go_wp2_with (go_at_call 51; refine (HR.out _ (((New.refl w).alloc _).alloc _)).mono ?_; rintro e w9 ⟨rfl, n9⟩)
  go_ret
  exact ⟨by rw [HS.out]; rfl, (((New.refl w).alloc _).alloc _).trans n9⟩
end Go.Proofs.Ytplaicdbcfnjbaa
