/- The library contracts that this dump's calls need, laid at this dump by the kit's program. -/
import Derived.Shelf.Spec.BitsCarry
import Derived.Shelf.Small.Bits
import Derived.Shelf.Small.Wraps
import Derived.Shelf.Strconv.Itoa0
import Derived.Shelf.Sort.Plain
import Derived.Ground.Names2Prog
import Derived.Shelf.Slices.SearchI
import Derived.Shelf.Slices.In.SortNone
import Derived.Ground.SlgnProg
import Derived.Shelf.SlicesE.Clone
import Derived.Test.YtplaicdbcfnjbaaProg
import Derived.Test.YtplaicdbcfnjbaaV07
import Derived.Shelf.SlSortCmp.PdqK
import Derived.Test.YtplaicdbcfnjbaaV13
import Derived.Test.YtplaicdbcfnjbaaV17
set_option linter.unusedSimpArgs false
set_option linter.unusedVariables false
namespace Go.Proofs
open Go.Shelf
def Try.lays128_ren : Go.Shelf.Ren := ⟨fun | 128 => 71 | n => n, fun | 51 => 95 | 3 => 3 | 4 => 4 | 46 => 81 | 5 => 5 | 9 => 9 | n => n, fun | n => n⟩
theorem Try.lays128 : Go.Proofs.Lays.n128 Try.prog Try.lays128_ren := {
  mixed := by kernel_rfl
  f128 := Try.func71.trans (congrArg some (by kernel_rfl))
  t3 := Try.underlying3
  a3 := Try.isAgg3
  z3 := Try.sizeOf3
  v3 := Try.zeroValue3
  t4 := Try.underlying4
  a4 := Try.isAgg4
  z4 := Try.sizeOf4
  v4 := Try.zeroValue4
  t5 := Try.underlying5
  a5 := Try.isAgg5
  z5 := Try.sizeOf5
  v5 := Try.zeroValue5
  t9 := Try.underlying9
  a9 := Try.isAgg9
  z9 := Try.sizeOf9
  v9 := Try.zeroValue9
  t46 := Try.underlying81
  a46 := Try.isAgg81
  z46 := Try.sizeOf81
  v46 := Try.zeroValue81
  t51 := Try.underlying95
  a51 := Try.isAgg95
  z51 := Try.sizeOf95
  v51 := Try.zeroValue95 }
theorem Try.bits_Len32 (x : Int) (w : World) (h0 : 0 ≤ x) (h1 : x ≤ 4294967295) :
    Calls Try.prog 71 #[.int .u32 x] w fun e w' => e = .returned (.int .i64 (Lib.bitLen x.toNat)) ∧ w' = w := Any.bits_Len32 Try.lays128 x w h0 h1
def Try.lays125_ren : Go.Shelf.Ren := ⟨fun | 125 => 57 | 128 => 71 | 129 => 72 | n => n, fun | 46 => 81 | 3 => 3 | 51 => 95 | 53 => 53 | 4 => 4 | 5 => 5 | 9 => 9 | n => n, fun | n => n⟩
theorem Try.lays125 : Go.Proofs.Lays.n125 Try.prog Try.lays125_ren := {
  mixed := by kernel_rfl
  f125 := Try.func57.trans (congrArg some (by kernel_rfl))
  f128 := Try.func71.trans (congrArg some (by kernel_rfl))
  f129 := Try.func72.trans (congrArg some (by kernel_rfl))
  t3 := Try.underlying3
  a3 := Try.isAgg3
  z3 := Try.sizeOf3
  v3 := Try.zeroValue3
  t4 := Try.underlying4
  a4 := Try.isAgg4
  z4 := Try.sizeOf4
  v4 := Try.zeroValue4
  t5 := Try.underlying5
  a5 := Try.isAgg5
  z5 := Try.sizeOf5
  v5 := Try.zeroValue5
  t9 := Try.underlying9
  a9 := Try.isAgg9
  z9 := Try.sizeOf9
  v9 := Try.zeroValue9
  t46 := Try.underlying81
  a46 := Try.isAgg81
  z46 := Try.sizeOf81
  v46 := Try.zeroValue81
  t51 := Try.underlying95
  a51 := Try.isAgg95
  z51 := Try.sizeOf95
  v51 := Try.zeroValue95
  t53 := Try.underlying53
  a53 := Try.isAgg53
  z53 := Try.sizeOf53
  v53 := Try.zeroValue53 }
theorem Try.bits_Len (x : Int) (w : World) (h0 : 0 ≤ x) (h1 : x ≤ 18446744073709551615) :
    Calls Try.prog 57 #[.int .u64 x] w fun e w' => e = .returned (.int .i64 (Lib.bitLen x.toNat)) ∧ w' = w := Any.bits_Len Try.lays125 x w h0 h1
def Try.lays215_ren : Go.Shelf.Ren := ⟨fun | 215 => 50 | n => n, fun | 3 => 3 | 4 => 4 | n => n, fun | n => n⟩
theorem Try.lays215 : Go.Proofs.Lays.n215 Try.prog Try.lays215_ren := {
  mixed := by kernel_rfl
  f215 := Try.func50.trans (congrArg some (by kernel_rfl))
  t3 := Try.underlying3
  a3 := Try.isAgg3
  z3 := Try.sizeOf3
  v3 := Try.zeroValue3
  t4 := Try.underlying4
  a4 := Try.isAgg4
  z4 := Try.sizeOf4
  v4 := Try.zeroValue4 }
open Go.RowKit in
theorem Try.cmp_isNaN_int (x : Int) (w : World) :
    Calls Try.prog 50 #[.int .i64 x] w fun e w' => e = .returned (.bool false) ∧ w' = w := Any.cmp_isNaN_int Try.lays215 x w
def Try.lays122_ren : Go.Shelf.Ren := ⟨fun | 122 => 37 | 215 => 50 | n => n, fun | 3 => 3 | 4 => 4 | n => n, fun | n => n⟩
theorem Try.lays122 : Go.Proofs.Lays.n122 Try.prog Try.lays122_ren := {
  mixed := by kernel_rfl
  f122 := Try.func37.trans (congrArg some (by kernel_rfl))
  f215 := Try.func50.trans (congrArg some (by kernel_rfl))
  t3 := Try.underlying3
  a3 := Try.isAgg3
  z3 := Try.sizeOf3
  v3 := Try.zeroValue3
  t4 := Try.underlying4
  a4 := Try.isAgg4
  z4 := Try.sizeOf4
  v4 := Try.zeroValue4 }
open Go.RowKit in
theorem Try.cmp_Compare_int (x y : Int) (w : World) :
    Calls Try.prog 37 #[.int .i64 x, .int .i64 y] w fun e w' => e = .returned (.int .i64 (Lib.compareInt x y)) ∧ w' = w := Any.cmp_Compare_int Try.lays122 x y w
def Try.lays129_ren : Go.Shelf.Ren := ⟨fun | 129 => 72 | n => n, fun | 53 => 53 | 3 => 3 | 4 => 4 | 46 => 81 | 5 => 5 | 9 => 9 | n => n, fun | n => n⟩
theorem Try.lays129 : Go.Proofs.Lays.n129 Try.prog Try.lays129_ren := {
  mixed := by kernel_rfl
  f129 := Try.func72.trans (congrArg some (by kernel_rfl))
  t3 := Try.underlying3
  a3 := Try.isAgg3
  z3 := Try.sizeOf3
  v3 := Try.zeroValue3
  t4 := Try.underlying4
  a4 := Try.isAgg4
  z4 := Try.sizeOf4
  v4 := Try.zeroValue4
  t5 := Try.underlying5
  a5 := Try.isAgg5
  z5 := Try.sizeOf5
  v5 := Try.zeroValue5
  t9 := Try.underlying9
  a9 := Try.isAgg9
  z9 := Try.sizeOf9
  v9 := Try.zeroValue9
  t46 := Try.underlying81
  a46 := Try.isAgg81
  z46 := Try.sizeOf81
  v46 := Try.zeroValue81
  t53 := Try.underlying53
  a53 := Try.isAgg53
  z53 := Try.sizeOf53
  v53 := Try.zeroValue53 }
theorem Try.bits_Len64 (x : Int) (w : World) (h0 : 0 ≤ x) (h1 : x ≤ 18446744073709551615) :
    Calls Try.prog 72 #[.int .u64 x] w fun e w' => e = .returned (.int .i64 (Lib.bitLen x.toNat)) ∧ w' = w := Any.bits_Len64 Try.lays129 x w h0 h1
def Try.lays189_ren : Go.Shelf.Ren := ⟨fun | 189 => 54 | 125 => 57 | 257 => 63 | 128 => 71 | 129 => 72 | 294 => 74 | 295 => 75 | 296 => 76 | 297 => 77 | 298 => 78 | 299 => 79 | 216 => 80 | 300 => 81 | 301 => 82 | 328 => 89 | 329 => 84 | 330 => 85 | 331 => 90 | 332 => 91 | 215 => 50 | 343 => 93 | n => n, fun | 28 => 55 | 3 => 3 | 46 => 81 | 0 => 0 | 51 => 95 | 53 => 53 | 4 => 4 | 183 => 88 | 182 => 87 | 131 => 92 | 5 => 5 | 9 => 9 | 218 => 103 | 222 => 107 | 228 => 111 | 229 => 112 | n => n, fun | n => n⟩
theorem Try.lays189 : Go.Proofs.Lays.n189 Try.prog Try.lays189_ren := {
  mixed := by kernel_rfl
  f125 := Try.func57.trans (congrArg some (by kernel_rfl))
  f128 := Try.func71.trans (congrArg some (by kernel_rfl))
  f129 := Try.func72.trans (congrArg some (by kernel_rfl))
  f189 := Try.func54.trans (congrArg some (by kernel_rfl))
  f215 := Try.func50.trans (congrArg some (by kernel_rfl))
  f216 := Try.func80.trans (congrArg some (by kernel_rfl))
  f257 := Try.func63.trans (congrArg some (by kernel_rfl))
  f294 := Try.func74.trans (congrArg some (by kernel_rfl))
  f295 := Try.func75.trans (congrArg some (by kernel_rfl))
  f296 := Try.func76.trans (congrArg some (by kernel_rfl))
  f297 := Try.func77.trans (congrArg some (by kernel_rfl))
  f298 := Try.func78.trans (congrArg some (by kernel_rfl))
  f299 := Try.func79.trans (congrArg some (by kernel_rfl))
  f300 := Try.func81.trans (congrArg some (by kernel_rfl))
  f301 := Try.func82.trans (congrArg some (by kernel_rfl))
  f328 := Try.func89.trans (congrArg some (by kernel_rfl))
  f329 := Try.func84.trans (congrArg some (by kernel_rfl))
  f330 := Try.func85.trans (congrArg some (by kernel_rfl))
  f331 := Try.func90.trans (congrArg some (by kernel_rfl))
  f332 := Try.func91.trans (congrArg some (by kernel_rfl))
  f343 := Try.func93.trans (congrArg some (by kernel_rfl))
  t0 := Try.underlying0
  a0 := Try.isAgg0
  z0 := Try.sizeOf0
  v0 := Try.zeroValue0
  t3 := Try.underlying3
  a3 := Try.isAgg3
  z3 := Try.sizeOf3
  v3 := Try.zeroValue3
  t4 := Try.underlying4
  a4 := Try.isAgg4
  z4 := Try.sizeOf4
  v4 := Try.zeroValue4
  t5 := Try.underlying5
  a5 := Try.isAgg5
  z5 := Try.sizeOf5
  v5 := Try.zeroValue5
  t9 := Try.underlying9
  a9 := Try.isAgg9
  z9 := Try.sizeOf9
  v9 := Try.zeroValue9
  t28 := Try.underlying55
  a28 := Try.isAgg55
  z28 := Try.sizeOf55
  v28 := Try.zeroValue55
  t46 := Try.underlying81
  a46 := Try.isAgg81
  z46 := Try.sizeOf81
  v46 := Try.zeroValue81
  t51 := Try.underlying95
  a51 := Try.isAgg95
  z51 := Try.sizeOf95
  v51 := Try.zeroValue95
  t53 := Try.underlying53
  a53 := Try.isAgg53
  z53 := Try.sizeOf53
  v53 := Try.zeroValue53
  t131 := Try.underlying92
  a131 := Try.isAgg92
  z131 := Try.sizeOf92
  v131 := Try.zeroValue92
  t182 := Try.underlying87
  a182 := Try.isAgg87
  z182 := Try.sizeOf87
  v182 := Try.zeroValue87
  t183 := Try.underlying88
  a183 := Try.isAgg88
  z183 := Try.sizeOf88
  v183 := Try.zeroValue88
  t218 := Try.underlying103
  a218 := Try.isAgg103
  z218 := Try.sizeOf103
  v218 := Try.zeroValue103
  t222 := Try.underlying107
  a222 := Try.isAgg107
  z222 := Try.sizeOf107
  v222 := Try.zeroValue107
  t228 := Try.underlying111
  a228 := Try.isAgg111
  z228 := Try.sizeOf111
  v228 := Try.zeroValue111
  t229 := Try.underlying112
  a229 := Try.isAgg112
  z229 := Try.sizeOf112
  v229 := Try.zeroValue112 }
open Go.Sort Go.RowKit in
theorem Try.slices_Sort_int (blk off cap : Nat) (zs : List Int) (w : World) (hH : Holds (Value.int .i64) w blk off zs.toArray) (hblk : blk < w.heap.size) (hsz : zs.length < 4611686018427387904) :
    Calls Try.prog 54 #[.slice (some ⟨blk, off, none⟩) zs.length cap] w fun e w' =>
      e = .returned (.tuple #[]) ∧ ∃ n os, w' = grow (putRow (Value.int .i64) (Sort.ahead w n) blk off (zs.mergeSort fun x y => decide (x ≤ y)).toArray) os := Any.slices_Sort_int Try.lays189 blk off cap zs w hH hblk hsz
def Try.laysNm237_ren : Go.Shelf.Ren := ⟨fun | 37 => 50 | n => n, fun | 3 => 3 | 4 => 4 | n => n, fun | n => n⟩
theorem Try.laysNm237 : Go.Proofs.Lays2.n37 Try.prog Try.laysNm237_ren := {
  mixed := by kernel_rfl
  f37 := Try.func50.trans (congrArg some (by kernel_rfl))
  t3 := Try.underlying3
  a3 := Try.isAgg3
  z3 := Try.sizeOf3
  v3 := Try.zeroValue3
  t4 := Try.underlying4
  a4 := Try.isAgg4
  z4 := Try.sizeOf4
  v4 := Try.zeroValue4 }
open Go.RowKit Go.Lib in
theorem Try.cmp_isNaN_int2 (x : Int) (w : World) :
    Calls Try.prog 50 #[.int .i64 x] w fun e w' => e = .returned (.bool false) ∧ w' = w := Any.cmp_isNaN_int2 Try.laysNm237 x w
def Try.laysNm231_ren : Go.Shelf.Ren := ⟨fun | 31 => 80 | 37 => 50 | n => n, fun | 3 => 3 | 4 => 4 | n => n, fun | n => n⟩
theorem Try.laysNm231 : Go.Proofs.Lays2.n31 Try.prog Try.laysNm231_ren := {
  mixed := by kernel_rfl
  f31 := Try.func80.trans (congrArg some (by kernel_rfl))
  f37 := Try.func50.trans (congrArg some (by kernel_rfl))
  t3 := Try.underlying3
  a3 := Try.isAgg3
  z3 := Try.sizeOf3
  v3 := Try.zeroValue3
  t4 := Try.underlying4
  a4 := Try.isAgg4
  z4 := Try.sizeOf4
  v4 := Try.zeroValue4 }
open Go.RowKit Go.Lib in
theorem Try.cmp_Less_int2 (x y : Int) (w : World) :
    Calls Try.prog 80 #[.int .i64 x, .int .i64 y] w fun e w' => e = .returned (.bool (decide (x < y))) ∧ w' = w := Any.cmp_Less_int2 Try.laysNm231 x y w
open Go.RowKit Go.Sort in
theorem Try.slices_Sort_int_none (p : Option Addr) (cap : Nat) (w : World) :
    Calls Try.prog 54 #[.slice p 0 cap] w fun e w' => e = .returned (.tuple #[]) ∧ w' = w := Any.slices_Sort_int_none Try.lays189 p cap w
def Try.laysSlE041_f47_ren : Go.Shelf.Ren := ⟨fun | 41 => 47 | n => n, fun | 22 => 26 | 23 => 53 | 4 => 4 | n => n, fun | n => n⟩
theorem Try.laysSlE041_f47 : Go.Proofs.SlLaysE0.n41 Try.prog Try.laysSlE041_f47_ren := {
  mixed := by kernel_rfl
  f41 := ⟨Try.f47.name, by decide, Try.func47.trans (congrArg some (by kernel_rfl))⟩
  t4 := Try.underlying4
  a4 := Try.isAgg4
  z4 := Try.sizeOf4
  v4 := Try.zeroValue4
  t22 := Try.underlying26
  a22 := Try.isAgg26
  z22 := Try.sizeOf26
  v22 := Try.zeroValue26 }
open Go.RowKit Go.Lib in
theorem Try.slices_Clone (i0 : TypeInfo) (z : Value) (size bytes : Nat) (hi : Try.prog.info? 53 = some i0) (hz0 : i0.zero = some z) (hz1 : i0.size = size) (hz2 : i0.bytes = bytes) (hzs : z.cells.size = size) (hsz : 0 < size) (z23 : ∀ w, (Go.sizeOf 53).run Try.prog w = .ok size w) (b off n c : Nat) (news : List Value) (w : World) (hl : news.length = n * size) (hn : n ≤ maxLen) (hbig : n * bytes ≤ 140737488355328) (hc : ∀ j u, news[j]? = some u → w.cell? ⟨b, off + j, none⟩ = some u) (h1 : ∀ u ∈ news, u.oneCell' = true) :
    Calls Try.prog 47 #[.slice (some ⟨b, off, none⟩) n c] w fun e w' => ∃ v', e = .returned v' ∧ w'.ownsRow w.heap.size 53 size v' n news ∧ v' ≠ .slice none 0 0 ∧ Below w.heap.size w w' := AnyE.slices_Clone Try.laysSlE041_f47 i0 z size bytes hi hz0 hz1 hz2 hzs hsz z23 b off n c news w hl hn hbig hc h1
open Go.RowKit Go.Lib in
theorem Try.slices_Clone_nil (n c : Nat) (w : World) :
    Calls Try.prog 47 #[.slice none n c] w fun e w' => e = .returned (.slice none 0 0) ∧ w' = w := AnyE.slices_Clone_nil Try.laysSlE041_f47 n c w
end Go.Proofs
/- The closures that compare two calls: by their beginnings, by their numbers. -/
namespace Go.Proofs.Ytplaicdbcfnjbaa
open Go.Shelf Go.RowKit Go.Lib Go.Sort
set_option linter.unusedVariables false

set_option maxRecDepth 100000 in
set_option maxHeartbeats 1000000 in
theorem cmp_from (ra rb : Array Value) (x y : Int) (w : World) (h1 : ra[17]? = some (.int .i64 x)) (h2 : rb[17]? = some (.int .i64 y)) :
    Calls Try.prog 36 #[.agg ra, .agg rb] w fun e w' => e = .returned (.int .i64 (Lib.compareInt x y)) ∧ ∃ q os', w' = grow (w.drewN q) os' := by
  have q := opat_boxes w ra rb _ (New.refl _)
  have p1 := (q.1.cell 17).trans h1
  have p2 := (q.2.cell 17).trans h2
  have hcon := fun W' => Try.cmp_Compare_int x y W'
  generalize Lib.compareInt x y = r at hcon ⊢
  have HW := Lib.hid (show ∃ q os', (w.alloc (.cells ra 36)).alloc (.cells rb 36) = grow (w.drewN q) os' from ⟨0, _, by rw [alloc_eq_grow, alloc_eq_grow, grow_grow]; rfl⟩)
  clear q h1 h2
  go_enter Try.func36, Try.ntmps36
  go_wp2_with (go_at_call 37; refine (hcon _).mono ?_; rintro e w' ⟨rfl, rfl⟩)
  go_ret
  exact ⟨rfl, HW.out⟩

set_option maxRecDepth 100000 in
set_option maxHeartbeats 1000000 in
theorem cmp_at (ra rb : Array Value) (x y : Int) (w : World) (h1 : ra[1]? = some (.int .i64 x)) (h2 : rb[1]? = some (.int .i64 y)) :
    Calls Try.prog 46 #[.agg ra, .agg rb] w fun e w' => e = .returned (.int .i64 (Lib.compareInt x y)) ∧ ∃ q os', w' = grow (w.drewN q) os' := by
  have q := opat_boxes w ra rb _ (New.refl _)
  have p1 := (q.1.cell 1).trans h1
  have p2 := (q.2.cell 1).trans h2
  have hcon := fun W' => Try.cmp_Compare_int x y W'
  generalize Lib.compareInt x y = r at hcon ⊢
  have HW := Lib.hid (show ∃ q os', (w.alloc (.cells ra 36)).alloc (.cells rb 36) = grow (w.drewN q) os' from ⟨0, _, by rw [alloc_eq_grow, alloc_eq_grow, grow_grow]; rfl⟩)
  clear q h1 h2
  go_enter Try.func46, Try.ntmps46
  go_wp2_with (go_at_call 37; refine (hcon _).mono ?_; rintro e w' ⟨rfl, rfl⟩)
  go_ret
  exact ⟨rfl, HW.out⟩
end Go.Proofs.Ytplaicdbcfnjbaa
/- Rows of copied calls as rows of places: what the sort of such a row leaves. -/
namespace Go.Proofs.Ytplaicdbcfnjbaa
open Go.Shelf Go.RowKit Go.Lib Go.Sort
set_option linter.unusedVariables false
set_option maxRecDepth 100000
def odz : OD := ⟨0, 0, 0, 0, 0, ByteArray.empty, 0, 0, 0, fun _ => 0, none, 0, zTD, none, 0, none, 0, 0, 0⟩
/-- the i-th of a list of calls -/
def lk (l : List OD) (i : Nat) : OD := l.getD i odz
theorem lk_snoc_lt (l : List OD) (q : OD) (i : Nat) (h : i < l.length) : lk (l ++ [q]) i = lk l i := by
  unfold lk
  rw [List.getD_eq_getElem?_getD, List.getD_eq_getElem?_getD, List.getElem?_append_left h]
theorem lk_snoc_eq (l : List OD) (q : OD) : lk (l ++ [q]) l.length = q := by
  unfold lk
  rw [List.getD_eq_getElem?_getD, List.getElem?_append_right (Nat.le_refl _)]
  simp
theorem lk_mem (l : List OD) (i : Nat) (h : i < l.length) : lk l i ∈ l := by
  unfold lk
  rw [List.getD_eq_getElem?_getD, List.getElem?_eq_getElem h]
  exact List.getElem_mem h
theorem rcells_at : ∀ (l : List OD) (k j : Nat), k < l.length → j < 19 → (rcells l)[k * 19 + j]? = (ocs (lk l k))[j]?
  | [], k, j, h, _ => absurd h (by simp)
  | o :: l, 0, j, _, hj => by
    unfold rcells
    rw [List.flatMap_cons, List.getElem?_append_left (by rw [Array.length_toList, (ocs_op o).1]; omega), Nat.zero_mul, Nat.zero_add, Array.getElem?_toList]
    rfl
  | o :: l, k + 1, j, h, hj => by
    have ih := rcells_at l k j (by simpa using h) hj
    unfold rcells at ih ⊢
    rw [List.flatMap_cons, List.getElem?_append_right (by rw [Array.length_toList, (ocs_op o).1]; omega), Array.length_toList, (ocs_op o).1, show (k + 1) * 19 + j - 19 = k * 19 + j by omega, ih]
    rfl
/-- where an owned row lies -/
theorem OwnO.at {w : World} {base : Nat} {v : Value} {l : List OD} (h : OwnO w base v l) (hv : v ≠ .slice none 0 0) :
    ∃ g cap, v = .slice (some ⟨g, 0, none⟩) l.length cap ∧ base ≤ g ∧ g < w.heap.size ∧ ∀ i j, i < l.length → j < 19 → w.cell? ⟨g, i * 19 + j, none⟩ = (ocs (lk l i))[j]? ∧ w.frozen? ⟨g, i * 19 + j, none⟩ = false := by
  obtain ⟨h1, h2⟩ := h
  rcases h2 with ⟨e, _⟩ | ⟨g, cap, cur, hv, hg, hh, hc, hm, hs, ht⟩
  · exact absurd e hv
  · refine ⟨g, cap, hv, hg, ?_, fun i j hi hj => ⟨?_, ?_⟩⟩
    · apply Nat.lt_of_not_le
      intro hge
      simp [Array.getElem?_eq_none hge] at hh
    · rw [cell_of_row w g _ cur 36 (0, 0) hh, ← rcells_at l i j hi hj, ← ht, List.getElem?_take, if_pos (by omega), Array.getElem?_toList]
    · simp [World.frozen?, hh]
theorem OwnO.rowO {w : World} {base f : Nat} {v : Value} {l : List OD} (h : OwnO w base v l) (hl : l.length ≤ 7000000000000) (hx : ∀ x ∈ l, IsO w f x) : ∃ A cap, v = .slice A l.length cap ∧ RowO w f A l.length (lk l) := by
  by_cases hv : v = .slice none 0 0
  · have h0 : l.length = 0 := by
      rcases h.2 with ⟨_, e⟩ | ⟨g, cap, cur, e, _⟩
      · exact e
      · rw [hv] at e; cases e
    refine ⟨none, 0, by rw [hv, h0], hl, fun i hi => absurd hi (by omega), fun h1 => absurd h1 (by omega)⟩
  · obtain ⟨g, cap, e, hb, hg, hc⟩ := h.at hv
    refine ⟨some ⟨g, 0, none⟩, cap, e, hl, fun i hi => hx _ (lk_mem l i hi), fun _ => ⟨_, rfl, fun i hi => ⟨ocs_op _, ?_, fun j u hu => ?_⟩⟩⟩
    · rw [Addr.add_mid]; exact hg
    · have hj : j < 19 := by have := (Array.getElem?_eq_some_iff.1 hu).1; rwa [(ocs_op _).1] at this
      rw [Addr.add_mid, Addr.add_mid, Nat.zero_add, (hc i j hi hj).1]
      exact hu
/-- nothing but the row's block has changed, and new blocks -/
theorem swk_off {α : Type} [Inhabited α] {enc : α → List Value} {k blk off : Nat} {dk : Array α} {w0 W : World} (h : SWK enc k w0 blk off dk W) :
    W.os = w0.os ∧ W.tape = w0.tape ∧ W.output = w0.output ∧ w0.heap.size ≤ W.heap.size ∧ ∀ b, b ≠ blk → b < w0.heap.size → W.heap[b]? = w0.heap[b]? := by
  have hle := h.le
  obtain ⟨n, os, rfl⟩ := h
  refine ⟨rfl, rfl, rfl, hle, fun b hb hlt => ?_⟩
  unfold sortWorldK
  show ((putRowK enc k (Sort.ahead w0 n) blk off dk).heap ++ os)[b]? = _
  rw [Array.getElem?_append_left (by rw [size_putRowK]; exact hlt)]
  show ((Sort.ahead w0 n).heap.modify blk _)[b]? = _
  rw [Array.getElem?_modify, if_neg (fun e => hb e.symm)]
  rfl
theorem swk_new {α : Type} [Inhabited α] {enc : α → List Value} {k blk off : Nat} {dk : Array α} {w w0 W : World} (h : SWK enc k w0 blk off dk W) (n : New w w0) (hb : w.heap.size ≤ blk) : New w W := by
  obtain ⟨h1, h2, h3, h4, h5⟩ := swk_off h
  exact ⟨h1.trans n.os, h2.trans n.tape, h3.trans n.output, Nat.le_trans n.size h4, fun b hlt => (h5 b (by omega) (Nat.lt_of_lt_of_le hlt n.size)).trans (n.block b hlt)⟩
theorem cfS_compare (s : Nat → Int) (x y : Nat) : cfS s x y = Lib.compareInt (s x) (s y) := rfl
theorem cmp_lays {P : Nat → OD} (blk off size : Nat) (w : World) : CmpLays Try.prog 36 #[] (fun i => (ocs (P i)).toList) 19 (cfS fun i => (P i).s) blk off size w := fun m os dk _ x y => by
  have := cmp_from (ocs (P x)) (ocs (P y)) (P x).s (P y).s (sortWorldK (fun i => (ocs (P i)).toList) 19 w blk off m dk os) rfl rfl
  exact this
theorem rowK_of {w : World} {g : Nat} {l : List OD} {P : Nat → OD} (hg : g < w.heap.size) (hc : ∀ i j, i < l.length → j < 19 → w.cell? ⟨g, i * 19 + j, none⟩ = (ocs (lk l i))[j]? ∧ w.frozen? ⟨g, i * 19 + j, none⟩ = false) (hP : ∀ i, i < l.length → P i = lk l i) :
    RowK (fun i => (ocs (P i)).toList) 19 w g 0 (Array.range l.length) := by
  refine ⟨fun x => by rw [Array.length_toList, (ocs_op _).1], fun x v hv => ?_, fun t ht => ?_, hg⟩
  · exact (Array.all_eq_true_iff_forall_mem.1 (ocs_op (P x)).2) v (by simpa using hv)
  · rw [size_flatK, Array.size_range] at ht
    have h1 : t / 19 < l.length := by omega
    have h2 : t % 19 < 19 := Nat.mod_lt _ (by decide)
    have h3 := hc (t / 19) (t % 19) h1 h2
    rw [show t / 19 * 19 + t % 19 = t by omega] at h3
    rw [Nat.zero_add]
    refine ⟨?_, h3.2⟩
    rw [h3.1, get_flatK _ _ _ _ (by rw [Array.size_range]; exact ht), show (Array.range l.length)[t / 19]! = t / 19 by rw [getElem!_pos _ _ (by simpa using h1)]; simp, hP _ h1]
    have h4 : t % 19 < (ocs (lk l (t / 19))).size := by rw [(ocs_op _).1]; exact h2
    rw [Array.getElem?_eq_getElem h4, getElem!_pos _ _ (by simpa using h4)]
    simp
/-- what a sort of calls leaves -/
def SortDone (f n : Nat) (o : Nat → OD) (w : World) (e : Ending) (w' : World) : Prop :=
  ∃ (A : Option Addr) (cap : Nat) (d' : Array Nat) (p : Nat → OD), e = .returned (.slice A n cap) ∧ (∀ i, Cpy (o i) (p i)) ∧ PermIn 0 n (Array.range n) d' ∧ SortedIn (lx fun i => (o i).s) 0 n d' ∧ RowO w' f A n (fun k => p d'[k]!) ∧ New w w'
theorem perm_lt {n : Nat} {d' : Array Nat} (h : PermIn 0 n (Array.range n) d') (i : Nat) (hi : i < n) : d'[i]! < n :=
  permIn_all (Array.range n) d' 0 n (fun x => x < n) (by simp) h (fun j _ hj => by rw [getElem!_pos _ _ (by simpa using hj)]; simpa using hj) i (Nat.zero_le _) hi
/-- the copied row, sorted -/
theorem sort_row {f n : Nat} {o : Nat → OD} {w w1 : World} {v : Value} {l : List OD} (own : OwnO w1 w.heap.size v l) (hv : v ≠ .slice none 0 0) (hl : l.length = n) (hn : n ≤ 40) (cp : ∀ i, i < n → Cpy (o i) (lk l i)) (ap : Apart w1 f v l) (nw : New w w1) :
    ∃ g cap, v = .slice (some ⟨g, 0, none⟩) n cap ∧ Calls Try.prog 35 #[v, .func (.func 36) #[] #[]] w1 fun e w2 => e = .returned (.tuple #[]) ∧ SortDone f n o w (.returned v) w2 := by
  subst hl
  obtain ⟨g, cap, rfl, hb, hg, hc⟩ := own.at hv
  refine ⟨g, cap, rfl, ?_⟩
  obtain ⟨p, hp1, hp2⟩ : ∃ p : Nat → OD, (∀ i, i < l.length → p i = lk l i) ∧ ∀ i, Cpy (o i) (p i) := by
    refine ⟨fun i => if i < l.length then lk l i else o i, fun i hi => if_pos hi, fun i => ?_⟩
    by_cases h : i < l.length
    · simp only [if_pos h]; exact cp i h
    · simp only [if_neg h]; exact Cpy.refl _
  have hs : (fun i => (p i).s) = fun i => (o i).s := funext fun i => (hp2 i).e.2
  have R := rowK_of (P := p) hg hc hp1
  have key := stableFunc_any (fun i => (p i).s) (fun i => (ocs (p i)).toList) 36 #[] g 0 cap (Array.range l.length) w1 (enters_of Try.func36 (by kernel_rfl) rfl) (cmp_lays _ _ _ _) R (fun i j hij hj => by
    rw [Array.size_range] at hj
    rw [getElem!_pos _ i (by simp; omega), getElem!_pos _ j (by simpa using hj)]
    simpa using hij) (by simpa using hn)
  rw [Array.size_range] at key
  refine key.mono fun e w2 ⟨he, d', hperm, hsort, S⟩ => ⟨he, some ⟨g, 0, none⟩, cap, d', p, rfl, hp2, hperm, by rw [← hs]; exact hsort, ?_, swk_new S nw hb⟩
  have hsz : d'.size = l.length := hperm.1.trans (by simp)
  have hH := S.holds hg R.hH hperm.1
  refine ⟨by omega, fun i hi => ?_, fun _ => ⟨_, rfl, fun i hi => ⟨ocs_op _, ?_, fun j u hu => ?_⟩⟩⟩
  · have hd := perm_lt hperm i hi
    show IsO w2 f (p d'[i]!)
    rw [hp1 _ hd]
    have k := ap _ (lk_mem l _ hd)
    exact (k.keep (Q := fun _ => False) (S.le) (fun b hb' hlt => (swk_off S).2.2.2.2 b (fun e => hb' (by rw [e]; rfl)) hlt) (fun _ _ h => h.elim)).isO
  · rw [Addr.add_mid]; exact S.lt hg
  · rw [Addr.add_mid]
    exact HoldsK.cells hH R.hk (i := i) (by rw [hsz]; exact hi) j u (by rw [Array.getElem?_toList]; exact hu)
end Go.Proofs.Ytplaicdbcfnjbaa
