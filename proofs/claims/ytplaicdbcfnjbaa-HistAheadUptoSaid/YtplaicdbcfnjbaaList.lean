/- The reference's List: as many nodes as there are; Much. -/
import Derived.Test.YtplaicdbcfnjbaaDes
import Derived.Laws.AppendOwn
import Derived.OwnWalk
namespace Go.Proofs.Ytplaicdbcfnjbaa
open Go.RowKit
set_option linter.unusedVariables false

theorem info32 : (Try.prog.info? 32).map (fun i => (i.zero, i.size, i.bytes)) = some (some (.agg #[.int .i64 0, .int .i64 0, .slice none 0 0]), 3, 40) := by kernel_rfl
theorem own_one (w : World) (cs : Array Value) (hs : cs.size = 3) {base : Nat} (hb : base ≤ w.heap.size) : (w.alloc (.cells cs 32)).ownsRow base 32 3 (.slice (some ⟨w.heap.size, 0, none⟩) 1 1) 1 cs.toList :=
  ⟨by simp [hs], .inr ⟨w.heap.size, 1, cs, rfl, hb, heap_alloc_new w _, Nat.le_refl _, by unfold maxLen; omega, by rw [hs], by rw [Nat.one_mul, ← hs, ← Array.length_toList]; exact List.take_length⟩⟩
theorem sumN_le (g : DT → Nat) (l : List DT) {i j : Nat} (h : i ≤ j) : sumN g l i ≤ sumN g l j := by
  induction h with
  | refl => exact Nat.le_refl _
  | step _ ih => exact Nat.le_trans ih (Nat.le_add_right _ _)
theorem nodes_pos {w : World} {f : Nat} {t : DT} {A : Option Addr} {cap : Nat} (h : IsD w f t A cap) : 1 ≤ nodes f t := by
  match f, h with
  | f + 1, _ => unfold nodes; omega
theorem own_pos {w : World} {base : Nat} {e : TypeId} {n : Nat} {v : Value} {xs : List Value} (h : w.ownsRow base e 3 v n xs) (hn : 0 < n) :
    ∃ g cap, v = .slice (some ⟨g, 0, none⟩) n cap ∧ g < w.heap.size ∧ n * 3 ≤ xs.length ∧ ∀ j u, (xs.take (n * 3))[j]? = some u → w.cell? ⟨g, j, none⟩ = some u := by
  have hl := h.1
  obtain ⟨A, cap, rfl, h2, h3⟩ := own_slice h
  obtain ⟨g, rfl, _, h5, h6⟩ := h3 hn
  refine ⟨g, cap, rfl, h5, by omega, fun j u hj => ?_⟩
  rw [List.getElem?_take] at hj
  split at hj
  · rename_i hlt
    rw [h6 j hlt]; exact hj
  · cases hj
theorem own_less {W : World} {b b' : Nat} {e : TypeId} {size n : Nat} {v : Value} {xs : List Value} (h : W.ownsRow b' e size v n xs) (hb : b ≤ b') : W.ownsRow b e size v n xs := by
  refine ⟨h.1, ?_⟩
  rcases h.2 with h0 | ⟨g, cap, cur, hv, hg, r⟩
  · exact .inl h0
  · exact .inr ⟨g, cap, cur, hv, Nat.le_trans hb hg, r⟩
def Listed (f : Nat) (t : DT) (w : World) (e : Ending) (w' : World) : Prop :=
  ∃ v news, e = .returned v ∧ w'.ownsRow w.heap.size 32 3 v (nodes f t) news ∧ (∀ u ∈ news, u.oneCell' = true) ∧ New w w'
set_option maxRecDepth 100000 in
set_option maxHeartbeats 2000000 in
theorem list_any : ∀ (f : Nat) (t : DT) (A : Option Addr) (cap : Nat) (w : World), IsD w f t A cap → nodes f t ≤ 4000000 → Calls Try.prog 39 #[dagg t A cap] w (Listed f t w)
  | 0, _, _, _, _, h, _ => h.elim
  | f + 1, t, A, cap, w, hD, hn => by
    obtain ⟨i0, hi, hz0, hz1, hz2⟩ := info_parts info32
    have IH := Lib.hid (list_any f)
    obtain ⟨hk1, hk2, hc1, hc2, hkids⟩ := hD
    have HKD := Lib.hid hkids
    have hnn : nodes (f + 1) t = 1 + sumN (nodes f) t.kids t.kids.length := rfl
    have HN := Lib.hid (⟨hnn, hn⟩ : _ ∧ _)
    obtain ⟨L, hL⟩ : ∃ L, L = t.kids.length := ⟨_, rfl⟩
    have HLL := Lib.hid hL
    have HSL := Lib.hid (fun i (h : i ≤ L) => (by have := sumN_le (nodes f) t.kids (show i ≤ t.kids.length by omega); omega : sumN (nodes f) t.kids i ≤ 4000000))
    have hLb : L ≤ 9223372036854775807 := by omega
    unfold dagg
    rw [← hL]
    clear hkids hk1 hk2 hc1 hn hnn hL
    go_enter Try.func39, Try.ntmps39
    go_wp2_with fail
    go_loopg [3, 4] L (fun g s i wr => ∃ (k : Nat) (xs : List Value), k + g = L ∧ i = .int .i64 k ∧ wr.ownsRow (w.heap.size + 1) 32 3 s (1 + sumN (nodes f) t.kids k) xs ∧ (∀ u ∈ xs, u.oneCell' = true) ∧ Box wr w.heap.size 32 #[.int .i64 t.k, .int .i64 t.n, .slice A L cap] ∧ New w wr)
    case atStart =>
      exact ⟨0, _, by omega, rfl, by simpa [sumN] using own_one (w.alloc (.cells #[.int .i64 t.k, .int .i64 t.n, .slice A L cap] 32)) #[.int .i64 t.k, .int .i64 t.n, .slice A L cap] rfl (base := w.heap.size + 1) (by simp), by simp [Value.oneCell'], (Box.made w 32 _).alloc _, ((New.refl _).alloc _).alloc _⟩
    case round =>
      obtain ⟨k, xs, hk, rfl, own, one, bx, nw⟩ := hrel
      have b2 := bx.cell 2
      have lw := bx.lt
      simp only [List.getElem?_toArray, List.getElem?_cons_zero, List.getElem?_cons_succ] at b2
      by_cases hlt : k < L
      · obtain ⟨ad, rfl, hkd⟩ := HKD.out (by rw [← HLL.out]; omega)
        obtain ⟨A', cap', d, hD'⟩ := hkd k (by rw [← HLL.out]; omega)
        have d' := d.new nw
        have hDn := hD'.new nw
        obtain ⟨dl, d0, d1, d2⟩ := d'
        have hs : sumN (nodes f) t.kids (k + 1) = sumN (nodes f) t.kids k + nodes f (t.kid k) := rfl
        have hsl := HSL.out (k + 1) (by omega)
        have hp := nodes_pos hD'
        have C := Lib.hid (IH.out (t.kid k) A' cap' wr hDn (by omega))
        unfold dagg at C
        have OW := Lib.hid own
        have ON := Lib.hid one
        have HH := Lib.hid (⟨hkd, d, hD', hDn, hs⟩ : _ ∧ _ ∧ _ ∧ _ ∧ _)
        have hk3 : (k : Int) < (L : Int) := by omega
        have BX := Lib.hid bx
        clear hkd d hD' hDn own one bx
        have hsm : sumN (nodes f) t.kids k + nodes f (t.kid k) ≤ 4000000 := by omega
        clear hs hsl
        generalize t.kid k = kd at *
        generalize hnn : nodes f kd = nn at *
        generalize hss : sumN (nodes f) t.kids k = ss at *
        clear hss
        go_wp2_with (first | (go_at_call 39; refine C.out.mono ?_; rintro e w2 ⟨v2, news, rfl, o2, one2, n2⟩; rw [hnn] at o2; obtain ⟨g2, cap2, rfl, hg2, l2, c2⟩ := own_pos o2 (by omega); have OC := Lib.hid (⟨c2, one2⟩ : _ ∧ _); have OW2 := Lib.hid (own_new OW.out n2); have BX2 := Lib.hid (BX.out.new n2); have lw2 := n2.lt; have NW2 := Lib.hid (nw.trans n2); clear o2 one2 c2) | (at_builtin; refine wpList_append_own _ rfl _ _ 30 rfl (w.heap.size + 1) 32 i0 _ 3 40 Try.underlying30 hi hz0 hz1 hz2 rfl (by decide) _ _ _ rfl OW2.out ⟨g2, 0, none⟩ nn cap2 (news.take (nn * 3)) rfl (by simp; omega) (fun j u hj => by rw [Addr.add_mid, Nat.zero_add]; exact OC.out.1 j u hj) (fun u hu => OC.out.2 u (List.mem_of_mem_take hu)) (by unfold maxLen; omega) (by omega) (by omega) ?_))
        intro v' w3 own3 hgr _
        have hne : some w.heap.size ≠ Value.ownBlock _ := fun e => by have := (OW2.out.lt _ e.symm).1; omega
        have BX3 := Lib.hid (BX2.out.grown hgr hne)
        have NW3 : New w w3 := NW2.out.grown hgr (fun k e => by have := (OW2.out.lt _ e).1; omega)
        have ON3 : ∀ u ∈ xs ++ news.take (nn * 3), u.oneCell' = true := fun u hu => by
          rcases List.mem_append.1 hu with h | h
          · exact ON.out u h
          · exact OC.out.2 u (List.mem_of_mem_take h)
        have OO3 := Lib.hid own3
        clear own3 hgr hne
        go_wp2_with fail
        go_roundg (gk - 1)
        case rel => exact ⟨k + 1, _, by omega, by go_num, by rw [HH.out.2.2.2.2, ← Nat.add_assoc]; exact OO3.out, ON3, BX3.out, NW3⟩
        case measure => omega
      · have hke : k = L := by omega
        subst hke
        have OW := Lib.hid own
        clear own bx
        go_wp2_with fail
        go_ret
        refine ⟨_, xs, rfl, ?_, one, nw⟩
        rw [HN.out.1, ← HLL.out]
        exact own_less OW.out (Nat.le_succ _)
set_option maxHeartbeats 1000000 in
theorem much_any (f : Nat) (t : DT) (A : Option Addr) (cap : Nat) (w : World) (hD : IsD w f t A cap) (hn : nodes f t ≤ 4000000) : Calls Try.prog 22 #[dagg t A cap] w fun e w' => e = .returned (.bool (decide (80 < nodes f t))) ∧ New w w' := by
  have C := Lib.hid (list_any f t A cap _ (hD.new ((New.refl w).alloc (.cells (dcs t A cap) 32))) hn)
  unfold dagg dcs at *
  have hh : decide ((80 : Int) < ((nodes f t : Nat) : Int)) = decide (80 < nodes f t) := by
    by_cases h : 80 < nodes f t
    · rw [decide_eq_true h, decide_eq_true (by omega)]
    · rw [decide_eq_false h, decide_eq_false (by omega)]
  rw [← hh]
  clear hh hD
  go_enter Try.func22, Try.ntmps22
  go_wp2_with (first | (go_at_call 39; refine C.out.mono ?_; rintro e w2 ⟨v2, news, rfl, o2, one2, n2⟩; obtain ⟨A2, cap2, rfl, -, -⟩ := own_slice o2; have N2 := Lib.hid n2; clear o2 one2 n2))
  go_ret
  exact ⟨rfl, ((New.refl w).alloc _).trans N2.out⟩
end Go.Proofs.Ytplaicdbcfnjbaa
