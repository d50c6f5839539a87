/- Great: more than is asked? -/
import Derived.Test.YtplaicdbcfnjbaaV07
import Derived.Test.YtplaicdbcfnjbaaV05
set_option linter.unusedSimpArgs false
set_option linter.unusedVariables false
namespace Go.Proofs.Ytplaicdbcfnjbaa
open Go.RowKit
set_option linter.unusedVariables false

theorem opat_cell {w : World} {p : Addr} {r : Array Value} (h : OpAt w p r) (j : Nat) (v : Value) (hj : 0 < j) (hv : r[j]? = some v) : w.cell? ⟨p.block, p.off + j, none⟩ = some v := by
  have := h.2.2 j v hv
  unfold Addr.add at this
  rw [if_neg (by omega)] at this
  exact this
def gO (f : Nat) (a : OD) : Bool := decide (80 < nodes f a.td.d) || decide (50 < a.td.ny) || decide (50 < a.nx)
def greatO (f n : Nat) (o : Nat → OD) : Bool := decide (∃ i, i < n ∧ i < 60 ∧ gO f (o i) = true) || decide (40 < n)
theorem greatO_yes {f n : Nat} {o : Nat → OD} (k : Nat) (h1 : k < n) (h2 : k < 60) (h : gO f (o k) = true) : greatO f n o = true := by
  unfold greatO
  rw [decide_eq_true (⟨k, h1, h2, h⟩ : ∃ i, i < n ∧ i < 60 ∧ gO f (o i) = true)]; rfl
theorem greatO_no {f n : Nat} {o : Nat → OD} (k : Nat) (hk : k = n ∨ k = 60) (h : ∀ i, i < k → gO f (o i) = false) : greatO f n o = decide (40 < n) := by
  unfold greatO
  rw [decide_eq_false]
  · rfl
  · rintro ⟨i, h1, h2, h3⟩
    rw [h i (by omega)] at h3; cases h3
theorem dec_cast (a b : Nat) : decide ((a : Int) < (b : Int)) = decide (a < b) := by
  by_cases h : a < b
  · rw [decide_eq_true h, decide_eq_true (by omega)]
  · rw [decide_eq_false h, decide_eq_false (by omega)]
set_option maxRecDepth 100000 in
set_option maxHeartbeats 4000000 in
theorem great_any (f n : Nat) (o : Nat → OD) (A : Option Addr) (cap : Nat) (w : World) (hA : RowO w f A n o) (hn : ∀ i, i < n → i < 60 → nodes f (o i).td.d ≤ 4000000) :
    Calls Try.prog 6 #[.slice A n cap] w fun x w' => x = .returned (.bool (greatO f n o)) ∧ New w w' := by
  have h1 := hA.1
  have HA := Lib.hid hA
  have HN := Lib.hid hn
  have HY := Lib.hid (fun k (h1 : k < n) (h2 : k < 60) h => greatO_yes (f := f) (o := o) k h1 h2 h)
  have HZ := Lib.hid (fun k (hk : k = n ∨ k = 60) h => greatO_no (f := f) (n := n) (o := o) k hk h)
  clear hA hn
  generalize greatO f n o = R at *
  go_enter Try.func6, Try.ntmps6
  go_wp2_with fail
  go_loopg [3] n (fun q i wr => ∃ k : Nat, k + q = n ∧ i = .int .i64 k ∧ k ≤ 60 ∧ (∀ j, j < k → gO f (o j) = false) ∧ New w wr)
  case atStart => exact ⟨0, by omega, rfl, by omega, fun j hj => absurd hj (by omega), New.refl w⟩
  case round =>
    obtain ⟨k, hk, rfl, hk6, he, nw⟩ := hrel
    by_cases hkn : k < n
    · by_cases hks : k < 60
      · obtain ⟨ad, rfl, ca⟩ := HA.out.2.2 (by omega)
        have L := (ca k hkn).new nw
        have IO := (HA.out.2.1 k hkn).new nw
        have C := Lib.hid (much_any f (o k).td.d (o k).A (o k).ca wr IO.t.d (HN.out k hkn hks))
        have x8 : wr.cell? ⟨(ad.add (k * 19)).block, (ad.add (k * 19)).off + 2 + 6, none⟩ = some (.slice (o k).X (o k).nx (o k).cx) := opat_cell L 8 _ (by decide) rfl
        have x10 : wr.cell? ⟨(ad.add (k * 19)).block, (ad.add (k * 19)).off + 9 + 1, none⟩ = some (.int .i64 (o k).td.d.k) := opat_cell L 10 _ (by decide) rfl
        have x11 : wr.cell? ⟨(ad.add (k * 19)).block, (ad.add (k * 19)).off + 9 + 1 + 1, none⟩ = some (.int .i64 (o k).td.d.n) := opat_cell L 11 _ (by decide) rfl
        have x12 : wr.cell? ⟨(ad.add (k * 19)).block, (ad.add (k * 19)).off + 9 + 1 + 2, none⟩ = some (.slice (o k).A (o k).td.d.kids.length (o k).ca) := opat_cell L 12 _ (by decide) rfl
        have x16 : wr.cell? ⟨(ad.add (k * 19)).block, (ad.add (k * 19)).off + 9 + 7, none⟩ = some (.slice (o k).Y (o k).td.ny (o k).cy) := opat_cell L 16 _ (by decide) rfl
        have hlt := L.2.1
        have nx1 := IO.x.1
        have ny1 := IO.t.y.1
        have hg : gO f (o k) = (decide (80 < nodes f (o k).td.d) || decide (50 < (o k).td.ny) || decide (50 < (o k).nx)) := rfl
        have HG := Lib.hid hg
        have NW := Lib.hid nw
        have HE := Lib.hid he
        have HYK := Lib.hid (HY.out k hkn hks)
        have hkn' : (k : Int) < n := by omega
        have hks' : (k : Int) < 60 := by omega
        have HKK := Lib.hid (fun (h : gO f (o k) = false) j (hj : j < k + 1) => show gO f (o j) = false from by
          rcases Nat.lt_or_ge j k with h' | h'
          · exact HE.out j h'
          · obtain rfl : j = k := by omega
            exact h)
        have X8 := Lib.hid x8
        have X16 := Lib.hid x16
        unfold dagg at C
        clear L IO hg nw he ca HA HE HY HZ HN x8 x16 hkn hks
        generalize gO f (o k) = G at *
        generalize nodes f (o k).td.d = M at *
        generalize (o k).td.d.k = dk at *
        generalize (o k).td.d.n = dn at *
        generalize (o k).td.d.kids.length = dl at *
        generalize (o k).td.ny = ny at *
        generalize (o k).nx = nx at *
        generalize (o k).A = oA at *
        generalize (o k).ca = oca at *
        generalize (o k).X = oX at *
        generalize (o k).cx = ocx at *
        generalize (o k).Y = oY at *
        generalize (o k).cy = ocy at *
        by_cases t1 : 80 < M
        · have hG : G = true := by rw [HG.out, decide_eq_true t1]; rfl
          have hr := HYK.out hG
          rw [decide_eq_true t1] at C
          have C' := Lib.hid C.out
          clear C hG HG t1
          subst hr
          go_wp2_with (go_at_call 22; refine C'.out.mono ?_; rintro e w1 ⟨rfl, n1⟩)
          exact bodyPost_ret (by simp [results, Try.results6, go_sem]) rfl ⟨rfl, NW.out.trans n1⟩
        · rw [decide_eq_false t1] at C
          have C' := Lib.hid C.out
          by_cases t2 : 50 < ny
          · have hG : G = true := by rw [HG.out, decide_eq_true t2]; simp
            have hr := HYK.out hG
            have t2' : (50 : Int) < ny := by omega
            clear C hG HG t1 t2
            subst hr
            go_wp2_with (go_at_call 22; refine C'.out.mono ?_; rintro e w1 ⟨rfl, n1⟩; have y16 := (n1.cell (p := ⟨(ad.add (k * 19)).block, (ad.add (k * 19)).off + 9 + 7, none⟩) hlt).trans X16.out)
            exact bodyPost_ret (by simp [results, Try.results6, go_sem]) rfl ⟨rfl, NW.out.trans n1⟩
          · by_cases t3 : 50 < nx
            · have hG : G = true := by rw [HG.out, decide_eq_true t3]; simp
              have hr := HYK.out hG
              have t2' : ¬ (50 : Int) < ny := by omega
              have t3' : (50 : Int) < nx := by omega
              clear C hG HG t1 t2 t3
              subst hr
              go_wp2_with (go_at_call 22; refine C'.out.mono ?_; rintro e w1 ⟨rfl, n1⟩; have y16 := (n1.cell (p := ⟨(ad.add (k * 19)).block, (ad.add (k * 19)).off + 9 + 7, none⟩) hlt).trans X16.out; have y8 := (n1.cell (p := ⟨(ad.add (k * 19)).block, (ad.add (k * 19)).off + 2 + 6, none⟩) hlt).trans X8.out)
              exact bodyPost_ret (by simp [results, Try.results6, go_sem]) rfl ⟨rfl, NW.out.trans n1⟩
            · have hG : G = false := by rw [HG.out, decide_eq_false t1, decide_eq_false t2, decide_eq_false t3]; rfl
              have t2' : ¬ (50 : Int) < ny := by omega
              have t3' : ¬ (50 : Int) < nx := by omega
              have HR := Lib.hid (HKK.out hG)
              clear C hG HG t1 t2 t3 HYK
              go_wp2_with (go_at_call 22; refine C'.out.mono ?_; rintro e w1 ⟨rfl, n1⟩; have y16 := (n1.cell (p := ⟨(ad.add (k * 19)).block, (ad.add (k * 19)).off + 9 + 7, none⟩) hlt).trans X16.out; have y8 := (n1.cell (p := ⟨(ad.add (k * 19)).block, (ad.add (k * 19)).off + 2 + 6, none⟩) hlt).trans X8.out)
              go_roundg (gk - 1)
              case rel => exact ⟨k + 1, by omega, by go_num, by omega, HR.out, NW.out.trans n1⟩
              case measure => omega
      · obtain rfl : k = 60 := by omega
        have hr := HZ.out 60 (Or.inr rfl) he
        rw [← dec_cast] at hr
        have hkn' : (60 : Int) < n := by omega
        have HR := Lib.hid hr
        clear he hr
        go_wp2
        go_ret
        exact ⟨by rw [HR.out]; simp, nw⟩
    · obtain rfl : k = n := by omega
      have hr := HZ.out k (Or.inl rfl) he
      rw [← dec_cast] at hr
      have HR := Lib.hid hr
      clear he hr
      go_wp2
      go_ret
      exact ⟨by rw [HR.out]; simp, nw⟩
end Go.Proofs.Ytplaicdbcfnjbaa
/- Ahead of two calls: the program's and the reference's. -/
namespace Go.Proofs.Ytplaicdbcfnjbaa
open Go.RowKit
set_option linter.unusedVariables false

def aheadB (e s : Int) : Bool := (e != -1) && decide (e < s)
theorem aheadB_no {e s : Int} (h : (e != -1) = false) : aheadB e s = false := by unfold aheadB; rw [h]; rfl
theorem aheadB_yes {e s : Int} (h : (e != -1) = true) : aheadB e s = decide (e < s) := by unfold aheadB; rw [h]; rfl
/-- a call's row is boxed -/
theorem opat_boxes (w : World) (ra rb : Array Value) (w' : World) (m : New ((w.alloc (.cells ra 36)).alloc (.cells rb 36)) w') : Box w' w.heap.size 36 ra ∧ Box w' (w.heap.size + 1) 36 rb :=
  ⟨((Box.made w 36 ra).alloc _).new m, (Box.made' (w.alloc (.cells ra 36)) 36 rb (by simp)).new m⟩

set_option maxRecDepth 100000 in
set_option maxHeartbeats 1000000 in
theorem ahead_any (ra rb : Array Value) (e s : Int) (w : World) (h1 : ra[18]? = some (.int .i64 e)) (h2 : rb[17]? = some (.int .i64 s)) :
    Calls Try.prog 8 #[.agg ra, .agg rb] w fun x w' => x = .returned (.bool (aheadB e s)) ∧ New w w' := by
  have q := opat_boxes w ra rb _ (New.refl _)
  have p1 := (q.1.cell 18).trans h1
  have p2 := (q.2.cell 17).trans h2
  have HW := Lib.hid (show New w ((w.alloc (.cells ra 36)).alloc (.cells rb 36)) from ((New.refl w).alloc _).alloc _)
  clear q h1 h2
  cases t : (e != -1)
  · rw [aheadB_no t]
    go_enter Try.func8, Try.ntmps8
    go_wp2
    go_ret
    exact ⟨rfl, HW.out⟩
  · rw [aheadB_yes t]
    go_enter Try.func8, Try.ntmps8
    go_wp2
    go_ret
    exact ⟨rfl, HW.out⟩

set_option maxRecDepth 100000 in
set_option maxHeartbeats 1000000 in
theorem rahead_any (ra rb : Array Value) (e s : Int) (w : World) (h1 : ra[18]? = some (.int .i64 e)) (h2 : rb[17]? = some (.int .i64 s)) :
    Calls Try.prog 9 #[.agg ra, .agg rb] w fun x w' => x = .returned (.bool (aheadB e s)) ∧ New w w' := by
  have q := opat_boxes w ra rb _ (New.refl _)
  have p1 := (q.1.cell 18).trans h1
  have p2 := (q.2.cell 17).trans h2
  have HW := Lib.hid (show New w ((w.alloc (.cells ra 36)).alloc (.cells rb 36)) from ((New.refl w).alloc _).alloc _)
  clear q h1 h2
  cases t : (e != -1)
  · rw [aheadB_no t]
    go_enter Try.func9, Try.ntmps9
    go_wp2
    go_ret
    exact ⟨rfl, HW.out⟩
  · rw [aheadB_yes t]
    go_enter Try.func9, Try.ntmps9
    go_wp2
    go_ret
    exact ⟨rfl, HW.out⟩
end Go.Proofs.Ytplaicdbcfnjbaa
