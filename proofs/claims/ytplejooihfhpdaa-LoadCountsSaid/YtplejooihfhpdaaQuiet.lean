/- Quiet and Span of live's two calls; live. -/
import Derived.Test.YtplejooihfhpdaaLive
namespace Go.Proofs.Ytplejooihfhpdaa
open Go.RowKit
set_option linter.unusedVariables false

theorem info3 : (Try.prog.info? 3).map (fun i => (i.zero, i.size, i.bytes)) = some (some (.int .i64 0), 1, 8) := by kernel_rfl
/-- some slice of n elements; nothing old has changed -/
def SomeSlice (n : Nat) (w : World) (e : Ending) (w' : World) : Prop := ∃ A cap, e = .returned (.slice A n cap) ∧ New w w'

set_option maxHeartbeats 1000000 in
theorem quiet_two (g : Nat) (a b : Array Value) (w : World) (hR : Row2 w g a b) :
    Calls Try.prog 18 #[.slice (some ⟨g, 0, none⟩) 2 2] w (SomeSlice 0 w) := by
  go_enter Try.func18, Try.ntmps18
  go_wp2_with fail
  go_loopg [3, 9] 2 (fun n s i wr => ∃ k : Nat, k + n = 2 ∧ i = .int .i64 k ∧ s = .slice none 0 0 ∧ New w wr)
  case atStart => exact ⟨0, rfl, rfl, rfl, New.refl _⟩
  case round =>
    obtain ⟨k, hk, rfl, rfl, nw⟩ := hrel
    have hA := hR.2.2.1
    have hB := hR.2.2.2
    have RA := hR.new (nw.alloc (.cells a 45))
    have RB := hR.new (nw.alloc (.cells b 45))
    have LA := (hR.new nw).1
    have LB := (hR.new nw).2.1
    have OA := OpAt.made wr a hA.1
    have OB := OpAt.made wr b hB.1
    have HR := Lib.hid hR
    clear hR
    obtain rfl | rfl | rfl : k = 0 ∨ k = 1 ∨ k = 2 := by omega
    · have EA := Lib.hid (ended_yes a 4 hA.2.2 (by decide))
      have CT := Lib.hid (fun w1 (n1 : New (wr.alloc (.cells a 45)) w1) => cont_two g wr.heap.size a b w1 (RA.new n1) (Nat.lt_of_lt_of_le (by simp) n1.lt) ((n1.cell (p := ⟨wr.heap.size, 18, none⟩) (by simp)).trans (((Box.made wr 45 _).cell 18).trans hA.2.2)))
      have IA := Lib.hid hA.1
      clear hB RA RB OB LB
      clear hA
      go_wp2_with (first | (refine wpl_load rfl rfl LA rfl ?_) | (refine wpl_store rfl rfl rfl rfl IA.out rfl ?_) | (refine wpl_load rfl rfl OA rfl ?_) | (go_at_call 19; refine (EA.out _).mono ?_; rintro e w1 ⟨rfl, n1⟩) | (go_at_call 23; refine (CT.out _ n1).mono ?_; rintro e w2 ⟨rfl, n2⟩))
      go_roundg 1
      case rel => exact ⟨1, rfl, by go_num, rfl, ((nw.alloc _).trans n1).trans n2⟩
      case measure => omega
    · have EB := Lib.hid (ended_no b hB.2.2)
      have IB := Lib.hid hB.1
      clear hA RA RB OA LA
      clear hB
      go_wp2_with (first | (refine wpl_load rfl rfl LB rfl ?_) | (refine wpl_store rfl rfl rfl rfl IB.out rfl ?_) | (refine wpl_load rfl rfl OB rfl ?_) | (go_at_call 19; refine (EB.out _).mono ?_; rintro e w1 ⟨rfl, n1⟩))
      go_roundg 0
      case rel => exact ⟨2, rfl, by go_num, rfl, (nw.alloc _).trans n1⟩
      case measure => omega
    · clear hA hB RA RB OA OB LA LB
      have S0 := Lib.hid (Try.slices_Sort_int_none none 0)
      have C0 := Lib.hid (Try.slices_Compact_int_empty none 0)
      go_wp2_with (first | (go_at_call 24; refine (S0.out _).mono ?_; rintro e w1 ⟨rfl, rfl⟩) | (go_at_call 25; refine (C0.out _).mono ?_; rintro e w1 ⟨rfl, rfl⟩))
      go_ret
      exact ⟨_, _, rfl, nw⟩

set_option maxHeartbeats 2000000 in
set_option maxRecDepth 100000 in
theorem quiet_one (g : Nat) (a b : Array Value) (w : World) (hR : Row2 w g a b) :
    Calls Try.prog 18 #[.slice (some ⟨g, 0, none⟩) 1 2] w (SomeSlice 1 w) := by
  obtain ⟨i0, hi, hz0, hz1, hz2⟩ := info_parts info3
  go_enter Try.func18, Try.ntmps18
  go_wp2_with fail
  go_loopg [3, 9] 1 (fun n s i wr => ∃ k : Nat, k + n = 1 ∧ i = .int .i64 k ∧ wr.ownsRow w.heap.size 3 1 s k (List.replicate k (.int .i64 4)) ∧ (k = 0 → s = .slice none 0 0) ∧ New w wr)
  case atStart => exact ⟨0, rfl, rfl, World.ownsRow_nil _ _ _ _, fun _ => rfl, New.refl _⟩
  case round =>
    obtain ⟨k, hk, rfl, hown, hnil, nw⟩ := hrel
    have hA := hR.2.2.1
    have RA := hR.new (nw.alloc (.cells a 45))
    have LA := (hR.new nw).1
    have OA := OpAt.made wr a hA.1
    have HR := Lib.hid hR
    clear hR
    obtain rfl | rfl : k = 0 ∨ k = 1 := by omega
    · obtain rfl : u3 = .slice none 0 0 := hnil rfl
      have EA := Lib.hid (ended_yes a 4 hA.2.2 (by decide))
      have CT := Lib.hid (fun w1 (n1 : New (wr.alloc (.cells a 45)) w1) => cont_one g wr.heap.size a b w1 (RA.new n1) (Nat.lt_of_lt_of_le (by simp) n1.lt) ((n1.cell (p := ⟨wr.heap.size, 18, none⟩) (by simp)).trans (((Box.made wr 45 _).cell 18).trans hA.2.2)))
      have C18 := Lib.hid (fun w1 (n1 : New (wr.alloc (.cells a 45)) w1) => (n1.cell (p := ⟨wr.heap.size, 18, none⟩) (by simp)).trans (((Box.made wr 45 _).cell 18).trans hA.2.2))
      have IA := Lib.hid hA.1
      have HO := Lib.hid hown
      clear RA hown hnil
      clear hA
      go_wp2_with (first | (refine wpl_load rfl rfl LA rfl ?_) | (refine wpl_store rfl rfl rfl rfl IA.out rfl ?_) | (refine wpl_load rfl rfl OA rfl ?_) | (go_at_call 19; refine (EA.out _).mono ?_; rintro e w1 ⟨rfl, n1⟩) | (go_at_call 23; refine (CT.out _ n1).mono ?_; rintro e w2 ⟨rfl, n2⟩; have c18 := C18.out _ (n1.trans n2)) | (at_builtin; refine wpList_append_own _ rfl _ _ 61 rfl w.heap.size 3 i0 (.int .i64 0) 1 8 Try.underlying61 hi hz0 hz1 hz2 rfl (by decide) _ _ _ rfl (World.ownsRow_nil _ _ _ _) ⟨w2.heap.size, 0, none⟩ 1 1 [.int .i64 4] rfl rfl (news1 _ _ _) (ones1 _ _) (by decide) (by decide) ?c5 ?_))
      case c5 => have := (((nw.alloc _).trans n1).trans n2).lt; simp; omega
      intro v' w3 hown3 hgrow _
      have N3 := grown_own (((nw.alloc _).trans n1).trans n2) (e := 3) (size := 1) (World.ownsRow_nil _ _ _ _) hgrow
      clear hgrow n1 n2 c18
      go_wp2_with fail
      go_roundg 0
      case rel => exact ⟨1, rfl, by go_num, by simpa using hown3, fun h => absurd h (by decide), N3⟩
      case measure => omega
    · clear hA RA OA LA hnil
      rcases hown.2 with ⟨_, h0⟩ | ⟨gb, cap, cur, rfl, hbase, hb, h1, h2, h3, h4⟩
      · cases h0
      have hgb : gb < wr.heap.size := (Array.getElem?_eq_some_iff.1 hb).1
      have hH := holds_of_blockI (ss := [4]) hb (by simpa using h4)
      have S1 : Calls Try.prog 24 #[.slice (some ⟨gb, 0, none⟩) 1 cap] wr fun e w' => e = .returned (.tuple #[]) ∧ New w w' ∧ w'.ownsRow w.heap.size 3 1 (.slice (some ⟨gb, 0, none⟩) 1 cap) 1 [.int .i64 4] := by
        have q : Calls Try.prog 24 #[.slice (some ⟨gb, 0, none⟩) 1 cap] wr _ := Try.slices_Sort_int gb 0 cap [4] wr hH hgb (by decide)
        rw [List.mergeSort_singleton] at q
        refine q.mono ?_
        rintro e w' ⟨rfl, n, os, rfl⟩
        refine ⟨rfl, nw.grown (row := some gb) (grownBy_sortedI _) (fun k hk => by cases hk; exact hbase), ?_⟩
        exact ownsRow_sortedI (ss := [4]) (ts := [4]) rfl hbase hb h1 h2 h3
      have C1 : ∀ w1, New w w1 → w1.ownsRow w.heap.size 3 1 (.slice (some ⟨gb, 0, none⟩) 1 cap) 1 [.int .i64 4] → Calls Try.prog 25 #[.slice (some ⟨gb, 0, none⟩) 1 cap] w1 fun e w' => e = .returned (.slice (some ⟨gb, 0, none⟩) 1 cap) ∧ New w w' := by
        intro w1 n1 o1
        rcases o1.2 with ⟨_, h0⟩ | ⟨gb', cap', cur', hv, hbase', hb', _, _, _, h4'⟩
        · cases h0
        cases hv
        have q : Calls Try.prog 25 #[.slice (some ⟨gb, 0, none⟩) 1 cap] w1 _ := Try.slices_Compact_int gb 0 cap [4] w1 (holds_of_blockI (ss := [4]) hb' (by simpa using h4')) (by decide) h1
        refine q.mono ?_
        rintro e w' ⟨rfl, q, rfl⟩
        refine ⟨rfl, ?_⟩
        have := n1.grown (row := some gb) (grownBy_sortedI (w := w1) (g := gb) (n := q) (os := #[]) (Lib.compact ([4] : List Int) ++ List.replicate (([4] : List Int).length - (Lib.compact ([4] : List Int)).length) (0 : Int)).toArray) (fun k hk => by cases hk; exact hbase)
        rwa [Sort.grow_empty] at this
      have HS := Lib.hid S1
      have HC := Lib.hid C1
      clear S1 C1 hH h4 h3 h2 hb hown HR hi hz0 hz1 hz2
      clear h1 hbase hgb
      go_wp2_with (first | (go_at_call 24; refine HS.out.mono ?_; rintro e w1 ⟨rfl, n1, o1⟩; have OO := Lib.hid o1; clear o1) | (go_at_call 25; refine (HC.out _ n1 OO.out).mono ?_; rintro e w2 ⟨rfl, n2⟩))
      go_ret
      exact ⟨_, _, rfl, n2⟩
end Go.Proofs.Ytplejooihfhpdaa
