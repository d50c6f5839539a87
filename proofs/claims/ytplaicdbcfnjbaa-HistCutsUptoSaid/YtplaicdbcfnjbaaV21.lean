/- slices.Clone of a row of calls that is owned: new, of the same cells. -/
import Derived.Test.YtplaicdbcfnjbaaV13
import Derived.Test.YtplaicdbcfnjbaaV10
import Derived.Test.YtplaicdbcfnjbaaV20
import Derived.Test.YtplaicdbcfnjbaaV18
set_option linter.unusedSimpArgs false
set_option linter.unusedVariables false
namespace Go.Proofs.Ytplaicdbcfnjbaa
open Go.RowKit
set_option linter.unusedVariables false
theorem own_zero19 (w : World) : (w.alloc (.cells #[] 36)).ownsRow w.heap.size 36 19 (.slice (some ⟨w.heap.size, 0, none⟩) 0 0) 0 [] :=
  ⟨rfl, .inr ⟨w.heap.size, 0, #[], rfl, Nat.le_refl _, heap_alloc_new w _, Nat.le_refl _, Nat.zero_le _, rfl, rfl⟩⟩
theorem rcells_one (l : List OD) : ∀ u ∈ rcells l, u.oneCell' = true := by
  intro u hu
  obtain ⟨o, _, h⟩ := List.mem_flatMap.1 hu
  exact (Array.all_eq_true_iff_forall_mem.1 (ocs_op o).2) u (by simpa using h)
set_option maxRecDepth 100000
attribute [local irreducible] Go.wpList
set_option maxHeartbeats 1000000 in
theorem clone44 (v : Value) (l : List OD) (base : Nat) (w : World) (h : OwnO w base v l) (hn : l.length ≤ 4000000) : Calls Try.prog 44 #[v] w fun e w' => ∃ v', e = .returned v' ∧ OwnO w' w.heap.size v' l ∧ New w w' := by
  have q38 : ∀ (w : World) (a : Option Addr) (n c n' c' : Nat), (binOp .eql 38 (.slice a n c) (.slice none n' c')).run Try.prog w = .ok (.bool a.isNone) w := fun w a n c n' c' => Lib.run_eql_slice_nil w _ _ a n c n' c' Try.underlying38
  obtain ⟨m, hm⟩ : ∃ m, m = l.length := ⟨_, rfl⟩
  have hf : (v = .slice none 0 0 ∧ l.length = 0) ∨ ∃ g cap, v = .slice (some ⟨g, 0, none⟩) l.length cap := by
    rcases h.2 with ⟨e, e0⟩ | ⟨g, cap, cur, hv, _⟩
    · exact .inl ⟨e, e0⟩
    · exact .inr ⟨g, cap, hv⟩
  rcases hf with ⟨rfl, h0⟩ | ⟨g, cap, rfl⟩
  · have h1 : l = [] := List.eq_nil_of_length_eq_zero h0
    subst h1
    clear h
    go_enter Try.func44, Try.ntmps44
    go_wp2_with fail
    go_ret
    exact ⟨_, rfl, World.ownsRow_nil _ _ _ _, New.refl _⟩
  · obtain ⟨i0, hi, hz0, hz1, hz2⟩ := info36a
    have hcc : ∀ j u, (rcells l)[j]? = some u → w.cell? ((⟨g, 0, none⟩ : Addr).add j) = some u := h.cells rfl
    have HC := Lib.hid hcc
    have OZ := Lib.hid (own_zero19 w)
    have HL := Lib.hid hm
    rw [← hm] at hn ⊢
    clear h hcc hm
    go_enter Try.func44, Try.ntmps44
    go_wp2_with (at_builtin; refine wpList_append_own _ rfl _ _ 38 rfl w.heap.size 36 i0 _ 19 216 Try.underlying38 hi hz0 hz1 hz2 rfl (by decide) _ 0 [] rfl OZ.out ⟨g, 0, none⟩ m cap (rcells l) rfl (by rw [rcells_len, HL.out]) (fun j u hu => Lib.cell?_alloc_some _ (HC.out j u hu)) (rcells_one l) (by unfold maxLen; omega) (by omega) (by simp) ?_)
    intro v' w1 hown hgrow hnil
    have N1 := Lib.hid (((New.refl w).alloc _).grown hgrow (fun k e => by cases e; exact Nat.le_refl _))
    have O1 : Hid (OwnO w1 w.heap.size v' l) := Lib.hid (by
      have := hown
      rw [HL.out] at this
      exact this)
    clear hown hgrow hnil
    go_wp2_with fail
    go_ret
    exact ⟨_, rfl, O1.out, N1.out⟩
end Go.Proofs.Ytplaicdbcfnjbaa
/- twice, of times: does something come twice? -/
namespace Go.Proofs.Ytplaicdbcfnjbaa
open Go.RowKit Go.Maps
set_option linter.unusedVariables false
set_option maxRecDepth 100000
def RowI (w : World) (A : Option Addr) (n : Nat) (f : Nat → Int) : Prop := 0 < n → ∃ g, A = some ⟨g, 0, none⟩ ∧ g < w.heap.size ∧ ∀ k, k < n → w.cell? ⟨g, k, none⟩ = some (.int .i64 (f k))
theorem OwnI.row {w : World} {base : Nat} {v : Value} {l : List Int} (h : OwnI w base v l) : ∃ A cap, v = .slice A l.length cap ∧ RowI w A l.length (fun k => l.getD k 0) := by
  obtain ⟨h1, h2⟩ := h
  rcases h2 with ⟨e, e0⟩ | ⟨g, cap, cur, hv, hg, hh, hc, hm, hs, ht⟩
  · exact ⟨none, 0, by rw [e, e0], fun h => absurd h (by omega)⟩
  · refine ⟨some ⟨g, 0, none⟩, cap, hv, fun _ => ⟨g, rfl, ?_, fun k hk => ?_⟩⟩
    · apply Nat.lt_of_not_le
      intro hge
      simp [Array.getElem?_eq_none hge] at hh
    · rw [cell_of_row w g _ cur 3 (0, 0) hh, ← Array.getElem?_toList]
      have : (cur.toList.take (l.length * 1))[k]? = (l.map (Value.int .i64))[k]? := by rw [ht]
      rw [List.getElem?_take, if_pos (by omega)] at this
      rw [this, List.getElem?_map, List.getElem?_eq_getElem hk]
      show _ = some (Value.int .i64 (l.getD k 0))
      rw [List.getD_eq_getElem?_getD, List.getElem?_eq_getElem hk]
      rfl
theorem RowI.new {w w' : World} {A : Option Addr} {n : Nat} {f : Nat → Int} (h : RowI w A n f) (m : New w w') : RowI w' A n f := fun h0 => by
  obtain ⟨g, e, hg, hc⟩ := h h0
  exact ⟨g, e, Nat.lt_of_lt_of_le hg m.lt, fun k hk => (m.cell (p := ⟨g, k, none⟩) hg).trans (hc k hk)⟩
theorem getD_range (l : List Int) : (List.range l.length).map (fun k => l.getD k 0) = l := by
  apply List.ext_getElem
  · simp
  · intro i h1 h2
    simp [List.getD_eq_getElem?_getD, List.getElem?_eq_getElem h2]
section
variable {k : TypeId} {α : Type} [DecidableEq α] {κ : α → Value} {lam : α → Lit} {ok : α → Prop} (KK : KeyKit k κ lam ok)
include KK
theorem wpl_look {t : TypeId} (ht : Try.prog.underlying t = some (.map k 3)) {ops : Array Oper} {rest : List Oper} {o : Oper} {a : Act} {w : World} {Q : Exit → Act → World → Prop} {m x : Operand} {b n : Nat} {L : List α} {y : α} {c : Nat}
    (hop : o.op = .lookup t m x false) (hm : a.eval m = .map (some b)) (hx : a.eval x = κ y) (hM : CM k lam ok w b n L) (hy : ok y) (hc : L.count y = c) (hg : Region.wanted o (yielded ops a.tmps) = true)
    (hk : wpList Try.prog ops Q rest (a.put o.dst (.int .i64 (c : Nat))) w) : wpList Try.prog ops Q (o :: rest) a w :=
  wpList_step fun K hK => by
    subst hc
    rw [if_pos hg]
    unfold Oper.wp execOp
    simp only [hop, hm, hx, Sem.run_bind, Sem.run_pure, Result.andThen_ok, hM.look KK ht hy]
    exact hK _ _ hk
theorem wpl_more {t : TypeId} (ht : Try.prog.underlying t = some (.map k 3)) {ops : Array Oper} {rest : List Oper} {o : Oper} {a : Act} {w : World} {Q : Exit → Act → World → Prop} {m x v : Operand} {b n : Nat} {L : List α} {y : α} {c : Nat}
    (hop : o.op = .mapUpdate t m x v) (hm : a.eval m = .map (some b)) (hx : a.eval x = κ y) (hv : a.eval v = .int .i64 ((c : Nat) + 1)) (hM : CM k lam ok w b n L) (hy : ok y) (hc : L.count y = c) (hn : n < maxLen) (hl : L.length ≤ 4000000) (hg : o.guard = none)
    (hk : ∀ w', CM k lam ok w' b (n + 1) (L ++ [y]) → w.grownBy w' (some b) → wpList Try.prog ops Q rest (a.put o.dst undef) w') : wpList Try.prog ops Q (o :: rest) a w := by
  subst hc
  have hle : L.count y ≤ L.length := List.count_le_length
  obtain ⟨D, h1, h2, h3, h4⟩ := hM
  refine wpList_mapUpdate_own w hg m x v t hop k 3 KK.K ht _ b n D hm h1 hn _ _ _ hx hv (KK.key y hy) (.lit (.int .i64 ((L.count y + 1 : Nat) : Int))) [] ?_ ?_
  · rw [show ((L.count y : Nat) : Int) + 1 = ((L.count y + 1 : Nat) : Int) by omega]
    exact plainElem_int Try.underlying3 (wf_of_i64 (by unfold i64; omega))
  · intro w' o' g'
    exact hk w' (CM.step KK hy h1 h2 h3 h4 o') g'
end
attribute [local irreducible] Go.wpList
set_option maxHeartbeats 1000000 in
theorem twice31 (A : Option Addr) (cap n : Nat) (f : Nat → Int) (w : World) (hA : RowI w A n f) (hi : ∀ k, k < n → i64 (f k)) (hn : n ≤ 4000000) :
    Calls Try.prog 31 #[.slice A n cap] w fun e w' => e = .returned (.bool (!decide ((List.range n).map f).Nodup)) ∧ New w w' := by
  have HA := Lib.hid hA
  have HI := Lib.hid hi
  have hmm := @run_makeMap Try.prog
  obtain ⟨res, hres⟩ : ∃ res, res = !decide ((List.range n).map f).Nodup := ⟨_, rfl⟩
  rw [← hres]
  replace hres := Lib.hid hres
  clear hA hi
  go_enter Try.func31, Try.ntmps31
  go_wp2_with fail
  go_loopg [11] n (fun z i wr => ∃ (k : Nat) (L : List Int), k + z = n ∧ i = .int .i64 k ∧ Hid (New w wr) ∧ Hid (L = (List.range k).map f) ∧ L.length = k ∧ Hid (CM 3 (Lit.int .i64) i64 wr w.heap.size k L))
  case atStart => exact ⟨0, [], by omega, rfl, Lib.hid ((New.refl _).alloc _), Lib.hid rfl, rfl, Lib.hid (CM.made w)⟩
  case round =>
    obtain ⟨k, L, hk, rfl, NW, hL, hl, CMk⟩ := hrel
    by_cases hkn : k < n
    · obtain ⟨g, rfl, hg, hc⟩ := (HA.out.new NW.out) (by omega)
      have x0 := hc k hkn
      have hx := Lib.hid (HI.out k hkn)
      have hkn' : (k : Int) < n := by omega
      have hs : Hid (L ++ [f k] = (List.range (k + 1)).map f) := Lib.hid (by rw [List.range_succ, List.map_append, ← hL.out]; rfl)
      generalize f k = x at *
      obtain ⟨c, hcnt, hcb⟩ : ∃ c, Hid (L.count x = c) ∧ c ≤ 4000000 := ⟨_, Lib.hid rfl, by have : L.count x ≤ L.length := List.count_le_length; omega⟩
      have hlm : Hid (L.length ≤ 4000000) := Lib.hid (by omega)
      clear hc
      replace hl := Lib.hid hl
      go_wp2_with (first | (refine wpl_look kit3 Try.underlying67 (m := .tmp 15) (x := .tmp 16) (y := x) rfl rfl rfl CMk.out hx.out hcnt.out rfl ?_) | (refine wpl_more kit3 Try.underlying67 (m := .tmp 15) (x := .tmp 16) (v := .tmp 18) (y := x) rfl rfl rfl rfl CMk.out hx.out hcnt.out (by unfold maxLen; omega) hlm.out rfl ?_; intro w2 C2 g2))
      go_roundg (gk - 1)
      case rel => exact ⟨k + 1, L ++ [x], by omega, by go_num, Lib.hid (NW.out.grown g2 (fun b e => by cases e; exact Nat.le_refl _)), hs, by rw [List.length_append, hl.out]; rfl, Lib.hid C2⟩
      case measure => omega
    · have hkL : k = n := by omega
      subst hkL
      replace hl := Lib.hid hl
      go_wp2_with (first | (refine wpl_range kit3 Try.underlying67 (m := .tmp 20) rfl rfl rfl CMk.out ?_; intro w2 cnt2 R2 n2; replace R2 := Lib.hid R2; replace n2 := Lib.hid n2))
      go_frame
      go_loopg [7] cnt2 (fun z s7 wq => ∃ cnt, cnt = z ∧ Hid (CR 3 (Lit.int .i64) wq w.heap.size wr.heap.size k L cnt) ∧ Hid (New wr wq))
      case atStart => exact ⟨cnt2, rfl, R2, n2⟩
      case round =>
        rename_i wq0 _ _ _ _
        obtain ⟨cnt, hz, R3, n3⟩ := hrel
        go_wp2_with (first | (refine wpl_next kit3 (it := .tmp 21) rfl rfl rfl R3.out ?_ ?_))
        case refine_1 =>
          intro hnd
          replace hnd := Lib.hid hnd
          go_wp2
          go_ret
          exact ⟨by rw [hres.out, ← hL.out]; simp [hnd.out], NW.out.trans n3.out⟩
        case refine_2 =>
          intro key c w4 cnt4 h1 h2 hlt hg4 hen
          replace h1 := Lib.hid h1
          replace h2 := Lib.hid h2
          replace hg4 := Lib.hid hg4
          by_cases hc : 1 < c
          · go_wp2_with fail
            go_ret
            exact ⟨by rw [hres.out, ← hL.out]; simp [h1.out hc], (NW.out.trans n3.out).grown hg4.out (fun b e => by cases e; exact NW.out.lt)⟩
          · go_wp2_with fail
            go_roundg cnt4
            case rel => exact ⟨cnt4, rfl, Lib.hid (h2.out (by omega)), Lib.hid (n3.out.grown hg4.out (fun b e => by cases e; exact Nat.le_refl _))⟩
            case measure => omega
end Go.Proofs.Ytplaicdbcfnjbaa
/- slices.SortFunc of a row of calls by their numbers. -/
namespace Go.Proofs.Ytplaicdbcfnjbaa
open Go.Shelf Go.RowKit Go.Lib Go.Sort
set_option linter.unusedVariables false
set_option maxRecDepth 100000
theorem cmp_lays46 {P : Nat → OD} (blk off size : Nat) (w : World) : CmpLays Try.prog 46 #[] (fun i => (ocs (P i)).toList) 19 (cfS fun i => (P i).r1) blk off size w := fun m os dk _ x y =>
  cmp_at (ocs (P x)) (ocs (P y)) (P x).r1 (P y).r1 (sortWorldK (fun i => (ocs (P i)).toList) 19 w blk off m dk os) rfl rfl
theorem sort45 (l : List OD) (g cap : Nat) (w : World) (hg : g < w.heap.size) (hc : ∀ i j, i < l.length → j < 19 → w.cell? ⟨g, i * 19 + j, none⟩ = (ocs (lk l i))[j]? ∧ w.frozen? ⟨g, i * 19 + j, none⟩ = false) (hl : l.length ≤ 4000000) :
    Calls Try.prog 45 #[.slice (some ⟨g, 0, none⟩) l.length cap, .func (.func 46) #[] #[]] w fun e w' => e = .returned (.tuple #[]) ∧ ∃ d', PermIn 0 l.length (Array.range l.length) d' ∧ SortedIn (ls fun i => (lk l i).r1) 0 l.length d' ∧
      (∀ i, i < l.length → OpAt w' ((⟨g, 0, none⟩ : Addr).add (i * 19)) (ocs (lk l d'[i]!))) ∧ ∀ w0, New w0 w → w0.heap.size ≤ g → New w0 w' := by
  have R := rowK_of (P := lk l) hg hc (fun _ _ => rfl)
  have key := AnyQ.slices_SortFunc sortLay 19 Try.isAgg36 Try.sizeOf36 (fun i => (ocs (lk l i)).toList) R.hk R.h1 (cfS fun i => (lk l i).r1) (by rw [ltOf_cfS]; exact ls_swo _) 46 #[] g 0 cap (Array.range l.length) w (enters_of Try.func46 (by kernel_rfl) rfl) (cmp_lays46 _ _ _ _) R.hH hg (by rw [Array.size_range]; omega)
  rw [Array.size_range, ltOf_cfS] at key
  refine key.mono fun e w2 ⟨he, d', n, os, hperm, hsort, hw⟩ => ?_
  have S : SWK (fun i => (ocs (lk l i)).toList) 19 w g 0 d' w2 := ⟨n, os, hw⟩
  have hsz : d'.size = l.length := hperm.1.trans (by simp)
  have hH := S.holds hg R.hH hperm.1
  refine ⟨he, d', hperm, hsort, fun i hi => ⟨ocs_op _, ?_, fun j u hu => ?_⟩, fun w0 n0 hb => swk_new S n0 hb⟩
  · rw [Addr.add_mid]; exact S.lt hg
  · rw [Addr.add_mid]
    exact HoldsK.cells hH R.hk (i := i) (by rw [hsz]; exact hi) j u (by rw [Array.getElem?_toList]; exact hu)
end Go.Proofs.Ytplaicdbcfnjbaa
