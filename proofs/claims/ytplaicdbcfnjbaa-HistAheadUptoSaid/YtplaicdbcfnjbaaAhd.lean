/- Ahead of two calls: the program's and the reference's. -/
import Derived.Test.YtplaicdbcfnjbaaOd
namespace Go.Proofs.Ytplaicdbcfnjbaa
open Go.RowKit
set_option linter.unusedVariables false

def aheadB (e s : Int) : Bool := (e != -1) && decide (e < s)
theorem aheadB_no {e s : Int} (h : (e != -1) = false) : aheadB e s = false := by unfold aheadB; rw [h]; rfl
theorem aheadB_yes {e s : Int} (h : (e != -1) = true) : aheadB e s = decide (e < s) := by unfold aheadB; rw [h]; rfl
/-- a call's row is boxed -/
theorem opat_boxes (w : World) (ra rb : Array Value) (w' : World) (m : New ((w.alloc (.cells ra 36)).alloc (.cells rb 36)) w') : Box w' w.heap.size 36 ra ∧ Box w' (w.heap.size + 1) 36 rb :=
  ⟨((Box.made w 36 ra).alloc _).new m, (Box.made' (w.alloc (.cells ra 36)) 36 rb (by simp)).new m⟩

set_option maxRecDepth 100000 in
set_option maxHeartbeats 1000000 in
theorem ahead_any (ra rb : Array Value) (e s : Int) (w : World) (h1 : ra[18]? = some (.int .i64 e)) (h2 : rb[17]? = some (.int .i64 s)) :
    Calls Try.prog 8 #[.agg ra, .agg rb] w fun x w' => x = .returned (.bool (aheadB e s)) ∧ New w w' := by
  have q := opat_boxes w ra rb _ (New.refl _)
  have p1 := (q.1.cell 18).trans h1
  have p2 := (q.2.cell 17).trans h2
  have HW := Lib.hid (show New w ((w.alloc (.cells ra 36)).alloc (.cells rb 36)) from ((New.refl w).alloc _).alloc _)
  clear q h1 h2
  cases t : (e != -1)
  · rw [aheadB_no t]
    go_enter Try.func8, Try.ntmps8
    go_wp2
    go_ret
    exact ⟨rfl, HW.out⟩
  · rw [aheadB_yes t]
    go_enter Try.func8, Try.ntmps8
    go_wp2
    go_ret
    exact ⟨rfl, HW.out⟩

set_option maxRecDepth 100000 in
set_option maxHeartbeats 1000000 in
theorem rahead_any (ra rb : Array Value) (e s : Int) (w : World) (h1 : ra[18]? = some (.int .i64 e)) (h2 : rb[17]? = some (.int .i64 s)) :
    Calls Try.prog 9 #[.agg ra, .agg rb] w fun x w' => x = .returned (.bool (aheadB e s)) ∧ New w w' := by
  have q := opat_boxes w ra rb _ (New.refl _)
  have p1 := (q.1.cell 18).trans h1
  have p2 := (q.2.cell 17).trans h2
  have HW := Lib.hid (show New w ((w.alloc (.cells ra 36)).alloc (.cells rb 36)) from ((New.refl w).alloc _).alloc _)
  clear q h1 h2
  cases t : (e != -1)
  · rw [aheadB_no t]
    go_enter Try.func9, Try.ntmps9
    go_wp2
    go_ret
    exact ⟨rfl, HW.out⟩
  · rw [aheadB_yes t]
    go_enter Try.func9, Try.ntmps9
    go_wp2
    go_ret
    exact ⟨rfl, HW.out⟩
end Go.Proofs.Ytplaicdbcfnjbaa
