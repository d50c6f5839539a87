/- The page's example. -/
import Derived.Test.YtplaicdbcfnjbaaMst
import Derived.Test.YtplaicdbcfnjbaaBld
import Derived.Test.YtplaicdbcfnjbaaAhd
namespace Go.Proofs.Ytplaicdbcfnjbaa
open Go.RowKit
set_option linter.unusedVariables false

def T0 : TD := ⟨0, .mk 0 0 [], 0, 0, ByteArray.empty, 0, fun _ => 0⟩
def O0 (r s e : Int) : OD := ⟨r, 0, 0, 0, 0, ByteArray.empty, 0, 0, 0, fun _ => 0, none, 0, T0, none, 0, none, 0, s, e⟩
def row0 (r s e : Int) : Array Value := #[.int .i64 r, .int .i64 0, .int .i64 0, .int .i64 0, .int .i64 0, .string ByteArray.empty, .int .i64 0, .int .i64 0, .slice none 0 0, .int .i64 0, .int .i64 0, .int .i64 0, .slice none 0 0, .int .i64 0, .int .i64 0, .string ByteArray.empty, .slice none 0 0, .int .i64 s, .int .i64 e]
theorem row0_ocs (r s e : Int) : row0 r s e = ocs (O0 r s e) := rfl
theorem D0 (w : World) : IsD w 1 (.mk 0 0 []) none 0 := ⟨by constructor <;> decide, by constructor <;> decide, Nat.le_refl _, by decide, fun h => absurd h (by decide)⟩
theorem R0 (w : World) : ReadsF w .u64 none 0 (fun _ => 0) := ⟨by decide, fun h => absurd h (by decide)⟩
theorem isO0 (r s e : Int) (w : World) : IsO w 1 (O0 r s e) := ⟨⟨D0 w, R0 w⟩, R0 w⟩
def two0 (i : Nat) : OD := if i = 0 then O0 0 1 4 else O0 1 2 3
theorem most0 : mostU two0 2 2 = 2 := by decide
theorem same0 : sameO 1 1 1 (fun _ => O0 0 1 4) (fun _ => O0 0 1 4) = true := by
  refine sameO_yes fun i _ => ?_
  simp [oneO, eq2, eqR, alikeT, sameD, O0, T0, cmpD, or3, cmpI, DT.k, DT.n, DT.kids, cmpK]
attribute [local irreducible] Go.wpList
set_option maxRecDepth 100000 in
set_option maxHeartbeats 4000000 in
theorem live_any (w : World) : Calls Try.prog 7 #[] w fun x w' => x = .returned (.bool true) ∧ New w w' := by
  have IA := Lib.hid (ocs_op (O0 0 1 4))
  have IB := Lib.hid (ocs_op (O0 1 2 3))
  have RA := Lib.hid (row0_ocs 0 1 4)
  have RB := Lib.hid (row0_ocs 1 2 3)
  have A1 := Lib.hid (fun w => ahead_any (ocs (O0 0 1 4)) (ocs (O0 1 2 3)) 4 2 w rfl rfl)
  have A2 := Lib.hid (fun w => ahead_any (ocs (O0 1 2 3)) #[.int .i64 0, .int .i64 0, .int .i64 0, .int .i64 0, .int .i64 0, .string ⟨#[]⟩, .int .i64 0, .int .i64 0, .slice none 0 0, .int .i64 0, .int .i64 0, .int .i64 0, .slice none 0 0, .int .i64 0, .int .i64 0, .string ⟨#[]⟩, .slice none 0 0, .int .i64 5, .int .i64 0] 3 5 w rfl rfl)
  have HI := Lib.hid (fun i => (show IsOp (ocs (two0 i)) from ocs_op _))
  have HI1 := Lib.hid (fun (i : Nat) => ocs_op (O0 0 1 4))
  have RT := Lib.hid (fun (w : World) (A : Option Addr) (h : ∃ ad, A = some ad ∧ ∀ i, i < 2 → OpAt w (ad.add (i * 19)) (ocs (two0 i))) => (⟨by decide, fun i _ => by unfold two0; split <;> exact isO0 _ _ _ w, fun _ => h⟩ : RowO w 1 A 2 two0))
  have RO := Lib.hid (fun (w : World) (A : Option Addr) (h : ∃ ad, A = some ad ∧ ∀ i, i < 1 → OpAt w (ad.add (i * 19)) (ocs (O0 0 1 4))) => (⟨by decide, fun i _ => isO0 _ _ _ w, fun _ => h⟩ : RowO w 1 A 1 (fun _ => O0 0 1 4)))
  have MO := Lib.hid (fun (w : World) (A : Option Addr) (cap : Nat) (h : RowO w 1 A 2 two0) => (most_any 1 2 two0 A cap w h).mono (R' := fun x w' => x = .returned (.int .i64 2) ∧ New w w') fun e w' ⟨h1, h2⟩ => ⟨by rw [h1, most0]; rfl, h2⟩)
  have SA := Lib.hid (fun (w : World) (A B : Option Addr) (ca cb : Nat) (h : RowO w 1 A 1 (fun _ => O0 0 1 4)) (h' : RowO w 1 B 1 (fun _ => O0 0 1 4)) => (hsame_any 1 1 1 _ _ A ca B cb w h h').mono (R' := fun x w' => x = .returned (.bool true) ∧ New w w') fun e w' ⟨h1, h2⟩ => ⟨by rw [h1, same0], h2⟩)
  have a1 : aheadB 4 2 = false := by decide
  have a2 : aheadB 3 5 = true := by decide
  rw [a1] at A1
  rw [a2] at A2
  clear a1 a2
  generalize hra : ocs (O0 0 1 4) = ra at *
  generalize hrb : ocs (O0 1 2 3) = rb at *
  have HT0 := Lib.hid (show ocs (two0 0) = ra from hra)
  have HT1 := Lib.hid (show ocs (two0 1) = rb from hrb)
  clear hra hrb
  have tk0 : True := trivial
  have tk1 : True := trivial
  have tk2 : True := trivial
  have tk3 : True := trivial
  have tk4 : True := trivial
  have tk5 : True := trivial
  have tk6 : True := trivial
  have tk7 : True := trivial
  have tk8 : True := trivial
  have tk9 : True := trivial
  have tk10 : True := trivial
  have tk11 : True := trivial
  have tk12 : True := trivial
  have tk13 : True := trivial
  have tk14 : True := trivial
  have tk15 : True := trivial
  have tk16 : True := trivial
  have tk17 : True := trivial
  go_enter Try.func7, Try.ntmps7
  go_wp2_with (first
    | (have tk_ := tk0; refine wpl_al36 rfl rfl (fun w1 n1 b1 => ?_); clear tk0 tk_)
    | (have tk_ := tk1; refine wpl_al36 rfl rfl (fun w2 n2 b2 => ?_); clear tk1 tk_)
    | (have tk_ := tk2; refine wpl_st36 rfl rfl rfl (by first | exact congrArg Value.agg RA.out | (show Value.agg (row0 0 1 4) = _; rw [RA.out])) (b1.new n2) rfl IA.out (fun w3 k3 c1 r3 => ?_); clear tk2 tk_)
    | (have tk_ := tk3; refine wpl_st36 rfl rfl rfl (by first | exact congrArg Value.agg RB.out | (show Value.agg (row0 1 2 3) = _; rw [RB.out])) (k3 _ _ _ (Nat.ne_of_gt b1.lt) b2) rfl IB.out (fun w4 k4 c2 r4 => ?_); have ca := Lib.hid (OpAt.of_box (k4 _ _ _ (Nat.ne_of_lt b1.lt) c1) IA.out); have cb := Lib.hid (OpAt.of_box c2 IB.out); have m4 := Lib.hid (r4 _ (Nat.le_of_lt b1.lt) (r3 w (Nat.le_refl _) (n1.trans n2))); clear k3 c1 r3 k4 c2 r4 b2; clear tk3 tk_)
    | (have tk_ := tk4; refine wpl_load rfl rfl ca.out rfl ?_; clear tk4 tk_)
    | (have tk_ := tk5; refine wpl_load rfl rfl cb.out rfl ?_; clear tk5 tk_)
    | (have tk_ := tk6; refine wpl_rows (c := fun i => ocs (two0 i)) rfl rfl (by rw [Array.toList_map]; show [(0, Value.agg ra), (1, Value.agg rb)] = [(0, .agg (ocs (two0 0))), (1, .agg (ocs (two0 1)))]; rw [HT0.out, HT1.out]) (by decide) (by decide) HI.out (fun w5 n5 d5 => ?_); have m5 := Lib.hid (m4.out.trans n5); have R5 := Lib.hid (RT.out w5 _ ⟨_, rfl, d5⟩); have e5 := Lib.hid n5; clear d5 n5; clear tk6 tk_)
    | (have tk_ := tk7; go_at_call 18; refine (MO.out _ _ _ R5.out).mono ?_; rintro e w6 ⟨rfl, n6⟩; have m6 := Lib.hid (m5.out.trans n6); have ca6 := Lib.hid (ca.out.new (e5.out.trans n6)); have cb6 := Lib.hid (cb.out.new (e5.out.trans n6)); clear n6 m5 R5 e5 ca cb; clear tk7 tk_)
    | (have tk_ := tk8; refine wpl_load rfl rfl ca6.out rfl ?_; clear tk8 tk_)
    | (have tk_ := tk9; refine wpl_load rfl rfl cb6.out rfl ?_; clear tk9 tk_)
    | (have tk_ := tk10; go_at_call 8; refine (A1.out _).mono ?_; rintro e w7 ⟨rfl, n7⟩; have m7 := Lib.hid (m6.out.trans n7); have ca7 := Lib.hid (ca6.out.new n7); have cb7 := Lib.hid (cb6.out.new n7); clear n7 m6 ca6 cb6; clear tk10 tk_)
    | (have tk_ := tk11; refine wpl_load rfl rfl cb7.out rfl ?_; clear tk11 tk_)
    | (have tk_ := tk12; go_at_call 8; refine (A2.out _).mono ?_; rintro e w8 ⟨rfl, n8⟩; have m8 := Lib.hid (m7.out.trans n8); have ca8 := Lib.hid (ca7.out.new n8); clear n8 m7 ca7 cb7; clear tk12 tk_)
    | (have tk_ := tk13; refine wpl_load rfl rfl ca8.out rfl ?_; clear tk13 tk_)
    | (have tk_ := tk14; refine wpl_rows (c := fun _ => ra) rfl rfl (by rw [Array.toList_map]; rfl) (by decide) (by decide) HI1.out (fun w9 n9 d9 => ?_); have m9 := Lib.hid (m8.out.trans n9); have R9 := Lib.hid (RO.out w9 _ ⟨_, rfl, d9⟩); have ca9 := Lib.hid (ca8.out.new n9); clear d9 n9 m8 ca8; clear tk14 tk_)
    | (have tk_ := tk15; refine wpl_load rfl rfl ca9.out rfl ?_; clear tk15 tk_)
    | (have tk_ := tk16; refine wpl_rows (c := fun _ => ra) rfl rfl (by rw [Array.toList_map]; rfl) (by decide) (by decide) HI1.out (fun w10 n10 d10 => ?_); have m10 := Lib.hid (m9.out.trans n10); have R10 := Lib.hid (RO.out w10 _ ⟨_, rfl, d10⟩); have R9' := Lib.hid (RowO.new R9.out n10); clear d10 n10 m9 R9; clear tk16 tk_)
    | (have tk_ := tk17; go_at_call 10; refine (SA.out _ _ _ _ _ R9'.out R10.out).mono ?_; rintro e w11 ⟨rfl, n11⟩; have m11 := Lib.hid (m10.out.trans n11); clear n11; clear tk17 tk_))
  exact bodyPost_ret (by simp [results, Try.results7, go_sem]) rfl ⟨rfl, m11.out⟩
end Go.Proofs.Ytplaicdbcfnjbaa
