/- HistTells: the walk. -/
import Derived.Test.YtplaicdbcfnjbaaV27
import Derived.Test.YtplaicdbcfnjbaaV29
import Derived.Below
import Derived.ChangeSame
import Derived.OpenShut
import Derived.WideKeyArgs
import Derived.ProofKit
import Derived.Test.YtplaicdbcfnjbaaRows
import Derived.Test.YtplaicdbcfnjbaaV05
import Derived.Deep.Slices
import Derived.Deep.Fields
set_option linter.unusedSimpArgs false
set_option linter.unusedVariables false
namespace Go.Proofs.Ytplaicdbcfnjbaa
open Go.RowKit Go.Sort Go.Maps
set_option linter.unusedVariables false
set_option maxRecDepth 100000
theorem pendL_congr {p q : Nat → OD} : ∀ {n : Nat}, (∀ i, i < n → Agr (p i) (q i)) → pendL p n = pendL q n
  | 0, _ => rfl
  | n + 1, h => by
    have ih := pendL_congr (p := p) (q := q) (n := n) fun i hi => h i (by omega)
    obtain ⟨a1, a2, a3, a4⟩ := h n (Nat.lt_succ_self n)
    show (if (p n).e = -1 then pendL p n ++ [((p n).r0, (p n).r1)] else pendL p n) = if (q n).e = -1 then pendL q n ++ [((q n).r0, (q n).r1)] else pendL q n
    rw [ih, a1, a2, a4]
theorem OwnR.rowP {w : World} {base : Nat} {v : Value} {l : List (Int × Int)} (h : OwnR w base v l) : ∃ A cap, v = .slice A l.length cap ∧ RowP w A l.length (fun k => l.getD k (0, 0)) := h.row
theorem neq23 (a b : Int) (w : World) : (binOp .neq 23 (.agg #[.int .i64 a, .int .i64 b]) (.agg #[.int .i64 a, .int .i64 b])).run Try.prog w = .ok (.bool false) w := by
  go_simp
theorem ld_ref {w : World} {ad : Addr} {p : OD} (h : OpAt w ad (ocs p)) : (Instr.loadAt 23 (.pointer (some ad))).run Try.prog w = .ok (.agg #[.int .i64 p.r0, .int .i64 p.r1]) w := by
  have hl := run_loadCells_list (P := Try.prog) w ad [.int .i64 p.r0, .int .i64 p.r1] (fun j v hv => h.2.2 j v (by
    match j, hv with
    | 0, hv => exact hv
    | 1, hv => exact hv))
  have hagg : (isAgg 23).run Try.prog w = .ok true w := by
    unfold isAgg
    rw [Sem.run_bind, run_underlying Try.underlying23 w]
    rfl
  have hq := size23
  cases hi : Try.prog.info? 23 with
  | none => simp [hi] at hq
  | some i =>
    have hs : i.size = 2 := by simpa [hi] using hq
    simp only [List.length_cons, List.length_nil] at hl
    simp [Instr.loadAt, Instr.sureAddr, loadVar, Sem.run_bind, hagg, sizeOf, typeInfo, hi, hs, hl]
attribute [local irreducible] Go.wpList
set_option maxHeartbeats 4000000 in
theorem tells_walk (f n : Nat) (o : Nat → OD) (A : Option Addr) (cap : Nat) (w : World) (hA : RowO w f A n o) (hd : ∀ i, i < n → nodes f (o i).td.d ≤ 4000000) (hi : ∀ i, i < n → i64 (o i).r0 ∧ i64 (o i).r1 ∧ i64 (o i).s ∧ i64 (o i).e) :
    Calls Try.prog 4 #[.slice A n cap] w fun x w' => x = .returned (.bool true) ∧ New w w' := by
  have G6 := Lib.hid (great_any f n o A cap w hA (fun i hi _ => hd i hi))
  have H7 := Lib.hid live_any
  cases hg : greatO f n o
  · obtain ⟨hn, hs⟩ := great_no hg
    rw [hg] at G6
    have hb : ∀ k, k < n → (o k).nx ≤ 4000000 ∧ (o k).td.ny ≤ 4000000 ∧ nodes f (o k).td.d ≤ 4000000 := fun k hk => by have := hs k hk; omega
    have C12 := Lib.hid (fun w' (m : New w w') => rsort_any f n o A cap w' (hA.new m) hn)
    have C13 := Lib.hid (fun w' (m : New w w') => pending_any f n o A cap w' (hA.new m) hn hb)
    have C14 := Lib.hid (fun w' (m : New w w') => check_any f n o A cap w' (hA.new m) hn hi)
    have C15 := Lib.hid (fun w' (m : New w w') => rcheck_any f n o A cap w' (hA.new m))
    have C17 := Lib.hid (fun w' (m : New w w') => sort_any f n o A cap w' (hA.new m) hn hb)
    have C18 := Lib.hid (fun w' (m : New w w') => most_any f n o A cap w' (hA.new m))
    have C19 := Lib.hid (fun w' (m : New w w') => rmost_any f n o A cap w' (hA.new m))
    have IL := Lib.hid (fun w' (m : New w w') d (h : InsOk (fun i => (o i).s) n d) => (fun x hx => by
      obtain ⟨j, hj, rfl⟩ := List.mem_map.1 hx
      exact (hA.2.1 j (List.mem_range.1 (h.1.mem_iff.1 hj))).new m : ∀ x ∈ d.map o, IsO w' f x))
    have UQ := Lib.hid (fun d' d (hp : PermIn 0 n (Array.range n) d') (hs : SortedIn (lx fun i => (o i).s) 0 n d') (h : InsOk (fun i => (o i).s) n d) k (hk : k < n) => (show o d'[k]! = lk (d.map o) k from by
      rw [lk_map o d k (by rw [h.len]; exact hk), ins_unique hp hs h k hk]))
    clear hA hi hs hd hg hb
    go_enter Try.func4, Try.ntmps4
    go_wp2_with (first
      | (go_at_call 6; refine G6.out.mono ?_; rintro x w1 ⟨rfl, n1⟩; replace n1 := Lib.hid n1; clear G6)
      | (go_at_call 12; refine (C12.out _ n1.out).mono ?_; rintro x w2 ⟨v2, d, rfl, o2, io, n2⟩; replace n2 := Lib.hid (n1.out.trans n2); replace io := Lib.hid io
         obtain ⟨A2, c2, rfl, R2⟩ := OwnO.rowO (f := f) o2 (by rw [List.length_map, io.out.len]; omega) (IL.out _ n2.out d io.out); rw [List.length_map, io.out.len] at R2; rw [List.length_map, io.out.len]; replace R2 := Lib.hid R2; clear o2 C12))
    have SU := Lib.hid (fun d' hp hs => UQ.out d' d hp hs io.out)
    clear UQ IL io
    obtain ⟨q, hq⟩ : ∃ q, lk (d.map o) = q := ⟨_, rfl⟩
    rw [hq] at R2
    have SU2 : Hid (∀ d', PermIn 0 n (Array.range n) d' → SortedIn (lx fun i => (o i).s) 0 n d' → ∀ k, k < n → o d'[k]! = q k) := Lib.hid (fun d' hp hs k hk => by rw [← hq]; exact SU.out d' hp hs k hk)
    clear SU hq
    go_loopg [5, 4] n (fun z i v wr => ∃ k : Nat, k + z = n ∧ i = .int .i64 k ∧ Hid (OwnR wr w2.heap.size v (pendL q k)) ∧ Hid (New w2 wr))
    case atStart => exact ⟨0, by omega, rfl, Lib.hid (World.ownsRow_nil _ _ _ _), Lib.hid (New.refl _)⟩
    case round =>
      obtain ⟨k, hk, rfl, OR, NX⟩ := hrel
      by_cases hkn : k < n
      · obtain ⟨ad, rfl, ca⟩ := R2.out.2.2 (by omega)
        have hkn' : (k : Int) < n := by omega
        have La := (ca k hkn).new NX.out
        have p18 := opat_cell La 18 (.int .i64 (q k).e) (by decide) rfl
        have hl := pendL_le q k
        have SS := Lib.hid (show pendL q (k + 1) = if (q k).e = -1 then pendL q k ++ [((q k).r0, (q k).r1)] else pendL q k from rfl)
        have LD := Lib.hid (ld_ref La)
        clear ca La
        generalize pendL q k = pl at *
        generalize (q k).r0 = x0 at *
        generalize (q k).r1 = x1 at *
        by_cases he : (q k).e = -1
        · rw [if_pos he] at SS
          rw [he] at p18
          clear he
          go_wp2_with (first | (refine wpl_ld (t := 23) rfl rfl LD.out rfl ?_; clear LD) | (refine wpl_putr rfl (.tmp 25) (.tmp 31) rfl _ pl w2.heap.size (x0, x1) rfl OR.out rfl (by omega) NX.out.lt ?_; intro v' w3 o3 hgr))
          go_roundg (gk - 1)
          case rel => exact ⟨k + 1, by omega, by go_num, Lib.hid (by rw [SS.out]; exact o3), Lib.hid ((NX.out.alloc _).grown hgr (fun b e => (OR.out.lt _ e).1))⟩
          case measure => omega
        · rw [if_neg he] at SS
          generalize (q k).e = ee at *
          go_wp2_with fail
          go_roundg (gk - 1)
          case rel => exact ⟨k + 1, by omega, by go_num, Lib.hid (by rw [SS.out]; exact OR.out), NX⟩
          case measure => omega
      · have hkL : k = n := by omega
        subst hkL
        obtain ⟨A4, c4, rfl, P4⟩ := OR.out.row
        have N4 := Lib.hid (n2.out.trans NX.out)
        have R4 := Lib.hid (R2.out.new NX.out)
        have LL := Lib.hid (pendL_le q k)
        replace P4 := Lib.hid P4
        clear OR NX R2 n2
        obtain ⟨R, hR⟩ : ∃ R, chkR k o = R := ⟨_, rfl⟩
        rw [hR] at C14 C15
        generalize mostU o k k = M at *
        obtain ⟨L, hL⟩ : ∃ L, (pendL q k).length = L := ⟨_, rfl⟩
        rw [hL] at P4 LL
        rw [hL]
        replace hL := Lib.hid hL
        go_wp2_with (first
          | (go_at_call 13; refine (C13.out _ N4.out).mono ?_; rintro x w5 ⟨v5, d5, rfl, hp5, hs5, o5, n5⟩
             have e5 : pendL (fun j => o d5[j]!) k = pendL q k := pendL_congr fun i hi => by rw [SU2.out d5 hp5 hs5 i hi]; exact ⟨rfl, rfl, rfl, rfl⟩
             rw [e5] at o5
             obtain ⟨A5, c5, rfl, P5⟩ := o5.row; rw [hL.out] at P5; rw [hL.out]
             replace P5 := Lib.hid P5; have NN := Lib.hid n5; clear o5 e5 hp5 hs5 n5)
          | (go_at_call 14; refine (C14.out _ (N4.out.trans NN.out)).mono ?_; rintro x w6 ⟨rfl, n6⟩; replace NN := Lib.hid (NN.out.trans n6); replace P5 := Lib.hid (P5.out.new n6); clear n6)
          | (go_at_call 15; refine (C15.out _ (N4.out.trans NN.out)).mono ?_; rintro x w7 ⟨rfl, n7⟩; replace NN := Lib.hid (NN.out.trans n7); replace P5 := Lib.hid (P5.out.new n7); clear n7)
          | (go_at_call 17; refine (C17.out _ (N4.out.trans NN.out)).mono ?_; rintro x w8 ⟨A8, c8, d8, p8, rfl, cp8, hp8, hs8, R8, n8⟩; replace NN := Lib.hid (NN.out.trans n8); replace P5 := Lib.hid (P5.out.new n8); have SM := Lib.hid (sameO_yes (f := f) (n := k) (o := fun j => p8 d8[j]!) (p := q) (fun i hi => by rw [← SU2.out d8 hp8 hs8 i hi]; exact ((cp8 _).same f).2)); replace R8 := Lib.hid R8; clear n8 cp8 hp8 hs8)
          | (go_at_call 16; refine (rsames_any f k k _ _ A8 c8 A2 c2 _ R8.out (R4.out.new NN.out)).mono ?_; rintro x w9 ⟨rfl, n9⟩; rw [SM.out]; replace NN := Lib.hid (NN.out.trans n9); replace P5 := Lib.hid (P5.out.new n9); clear n9)
          | (go_at_call 18; refine (C18.out _ (N4.out.trans NN.out)).mono ?_; rintro x w10 ⟨rfl, n10⟩; replace NN := Lib.hid (NN.out.trans n10); replace P5 := Lib.hid (P5.out.new n10); clear n10)
          | (go_at_call 19; refine (C19.out _ (N4.out.trans NN.out)).mono ?_; rintro x w11 ⟨rfl, n11⟩; replace NN := Lib.hid (NN.out.trans n11); replace P5 := Lib.hid (P5.out.new n11); clear n11))
        replace P4 := Lib.hid (P4.out.new NN.out)
        obtain ⟨fp, hfp⟩ : ∃ fp : Nat → Int × Int, (fun k_1 => (pendL q k).getD k_1 (0, 0)) = fp := ⟨_, rfl⟩
        rw [hfp] at P4 P5
        go_loopg [7] L (fun z i wr => ∃ j : Nat, j + z = L ∧ i = .int .i64 j ∧ Hid (New w11 wr))
        case atStart => exact ⟨0, by omega, rfl, Lib.hid (New.refl _)⟩
        case round =>
          obtain ⟨j, hj, rfl, NY⟩ := hrel
          by_cases hjn : j < L
          · obtain ⟨g5, rfl, hg5, hc5⟩ := P5.out (by omega)
            obtain ⟨g4, rfl, hg4, hc4⟩ := P4.out (by omega)
            have hjn' : (j : Int) < L := by omega
            have hjb : (j : Int) ≤ 40 := by have := LL.out; omega
            obtain ⟨x, hx⟩ : ∃ x, fp j = x := ⟨_, rfl⟩
            have L5 := Lib.hid (fun w' (m : New w11 w') => ld_pair (x := x) ((m.cell (p := ⟨g5, j * 2, none⟩) hg5).trans (by rw [← hx]; exact (hc5 j hjn).1)) ((m.cell (p := ⟨g5, j * 2 + 1, none⟩) hg5).trans (by rw [← hx]; exact (hc5 j hjn).2)))
            have L4 := Lib.hid (fun w' (m : New w11 w') => ld_pair (x := x) ((m.cell (p := ⟨g4, j * 2, none⟩) hg4).trans (by rw [← hx]; exact (hc4 j hjn).1)) ((m.cell (p := ⟨g4, j * 2 + 1, none⟩) hg4).trans (by rw [← hx]; exact (hc4 j hjn).2)))
            clear hc5 hc4 hx
            go_wp2_with fail
            refine wp_region_held_drew (S := fun w' => New w11 w') (by kernel_rfl) NY.out.drew (fun hH => ?_)
            clear NY
            refine wpAnyH_take (i := 0) (oi := { dst := some 67, op := Go.Op.move (Go.Operand.tmp 6), type := 44, pos := "law.go:44", after := #[], guard := none }) (v := .slice (some ⟨g5, 0, none⟩) L c5) rfl (by kernel_rfl) (by kernel_rfl) (by kernel_rfl) (fun _ _ _ h => h) (Or.inl ⟨by rfl, ?_⟩) hH ?_
            (intro w5 hS5; go_simp; try rfl)
            try simp only [Act.put, List.setIfInBounds_toArray, List.set_cons_zero, List.set_cons_succ]
            refine wpAnyH_take (i := 1) (oi := { dst := some 68, op := Go.Op.move (Go.Operand.tmp 7), type := 3, pos := "law.go:44", after := #[], guard := none }) (v := .int .i64 (j : Nat)) rfl (by kernel_rfl) (by kernel_rfl) (by kernel_rfl) (fun _ _ _ h => h) (Or.inl ⟨by rfl, ?_⟩) hH ?_
            (intro w5 hS5; go_simp; try rfl)
            try simp only [Act.put, List.setIfInBounds_toArray, List.set_cons_zero, List.set_cons_succ]
            refine wpAnyH_take (i := 2) (oi := { dst := some 69, op := Go.Op.indexAddr 44 (Go.Operand.tmp 67) (Go.Operand.tmp 68), type := 0, pos := "law.go:44", after := #[{ on := 0, ground := Go.Ground.data }, { on := 1, ground := Go.Ground.data }], guard := none }) (v := .pointer (some ⟨g5, j * 2, none⟩)) rfl (by kernel_rfl) (by kernel_rfl) (by kernel_rfl) (fun _ _ _ h => h) (Or.inl ⟨by rfl, ?_⟩) hH ?_
            (intro w5 hS5; go_simp; try rfl)
            try simp only [Act.put, List.setIfInBounds_toArray, List.set_cons_zero, List.set_cons_succ]
            refine wpAnyH_take (i := 3) (oi := { dst := some 70, op := Go.Op.load 23 (Go.Operand.tmp 69), type := 23, pos := "law.go:44", after := #[{ on := 2, ground := Go.Ground.data }], guard := none }) (v := pv x) rfl (by kernel_rfl) (by kernel_rfl) (by kernel_rfl) (fun _ _ _ h => h) (Or.inl ⟨by rfl, ?_⟩) hH ?_
            (intro w5 hS5; exact yl_ld (x := .tmp 69) rfl rfl (L5.out _ hS5))
            try simp only [Act.put, List.setIfInBounds_toArray, List.set_cons_zero, List.set_cons_succ]
            refine wpAnyH_take (i := 4) (oi := { dst := some 71, op := Go.Op.move (Go.Operand.tmp 4), type := 44, pos := "law.go:44", after := #[], guard := none }) (v := .slice (some ⟨g4, 0, none⟩) L c4) rfl (by kernel_rfl) (by kernel_rfl) (by kernel_rfl) (fun _ _ _ h => h) (Or.inl ⟨by rfl, ?_⟩) hH ?_
            (intro w5 hS5; go_simp; try rfl)
            try simp only [Act.put, List.setIfInBounds_toArray, List.set_cons_zero, List.set_cons_succ]
            refine wpAnyH_take (i := 5) (oi := { dst := some 72, op := Go.Op.move (Go.Operand.tmp 7), type := 3, pos := "law.go:44", after := #[], guard := none }) (v := .int .i64 (j : Nat)) rfl (by kernel_rfl) (by kernel_rfl) (by kernel_rfl) (fun _ _ _ h => h) (Or.inl ⟨by rfl, ?_⟩) hH ?_
            (intro w5 hS5; go_simp; try rfl)
            try simp only [Act.put, List.setIfInBounds_toArray, List.set_cons_zero, List.set_cons_succ]
            refine wpAnyH_take (i := 6) (oi := { dst := some 73, op := Go.Op.indexAddr 44 (Go.Operand.tmp 71) (Go.Operand.tmp 72), type := 0, pos := "law.go:44", after := #[{ on := 4, ground := Go.Ground.data }, { on := 5, ground := Go.Ground.data }], guard := none }) (v := .pointer (some ⟨g4, j * 2, none⟩)) rfl (by kernel_rfl) (by kernel_rfl) (by kernel_rfl) (fun _ _ _ h => h) (Or.inl ⟨by rfl, ?_⟩) hH ?_
            (intro w5 hS5; go_simp; try rfl)
            try simp only [Act.put, List.setIfInBounds_toArray, List.set_cons_zero, List.set_cons_succ]
            refine wpAnyH_take (i := 7) (oi := { dst := some 74, op := Go.Op.load 23 (Go.Operand.tmp 73), type := 23, pos := "law.go:44", after := #[{ on := 6, ground := Go.Ground.data }], guard := none }) (v := pv x) rfl (by kernel_rfl) (by kernel_rfl) (by kernel_rfl) (fun _ _ _ h => h) (Or.inl ⟨by rfl, ?_⟩) hH ?_
            (intro w5 hS5; exact yl_ld (x := .tmp 73) rfl rfl (L4.out _ hS5))
            try simp only [Act.put, List.setIfInBounds_toArray, List.set_cons_zero, List.set_cons_succ]
            refine wpAnyH_take (i := 8) (oi := { dst := some 75, op := Go.Op.binOp Go.BinOp.neq 23 (Go.Operand.tmp 70) (Go.Operand.tmp 74) 23, type := 4, pos := "law.go:44", after := #[{ on := 3, ground := Go.Ground.data }, { on := 7, ground := Go.Ground.data }], guard := none }) (v := .bool false) rfl (by kernel_rfl) (by kernel_rfl) (by kernel_rfl) (fun _ _ _ h => h) (Or.inl ⟨by rfl, ?_⟩) hH ?_
            (intro w5 hS5; unfold pv; have := neq23 x.1 x.2 w5; go_simp; try rfl)
            try simp only [Act.put, List.setIfInBounds_toArray, List.set_cons_zero, List.set_cons_succ]
            refine wpAnyH_done (by kernel_rfl) ?_ _
            have HZ := Lib.hid hH
            clear hH
            go_wp2_with fail
            go_roundg (gk - 1)
            case rel => exact ⟨j + 1, by omega, by go_num, HZ⟩
            case measure => omega
          · go_wp2_with (first | (go_at_call 7; refine (H7.out _).mono ?_; rintro x w13 ⟨rfl, n13⟩; replace n13 := Lib.hid n13))
            go_ret
            exact ⟨rfl, N4.out.trans (NN.out.trans (NY.out.trans n13.out))⟩
  · rw [hg] at G6
    clear hA hd hi
    go_enter Try.func4, Try.ntmps4
    go_wp2_with (first | (go_at_call 6; refine G6.out.mono ?_; rintro x w1 ⟨rfl, n1⟩; replace n1 := Lib.hid n1; clear G6) | (go_at_call 7; refine (H7.out _).mono ?_; rintro x w2 ⟨rfl, n2⟩; replace n2 := Lib.hid n2))
    go_ret
    exact ⟨rfl, n1.out.trans n2.out⟩
end Go.Proofs.Ytplaicdbcfnjbaa
/- The last step of every law: what has changed nothing that was there leaves the arguments' readings. No program is named here. -/
namespace Go.Proofs.Ytplaicdbcfnjbaa
open Go.RowKit Go.WideShapes Go.ChangeShapes
set_option linter.unusedVariables false
section
variable {H : Type} {enc : TypeId × Value → H} {P : Program}
theorem trodAll_stay (hl : laidOutB P = true) {W W' : World} {sp : Nat → Bool} : ∀ (ts : List TypeId) (vs : List Value) (ds : List (DataW H)) (ps : List MemPlace),
    (ts.all fun t => P.readableRec t && decide (t < P.types.size)) = true → DataW.TrodAll enc P W 0 (fun _ => true) true ts vs ds ps → (∀ p ∈ ps, W.sameAt W' p) → (∀ p ∈ ps, sp p.block = true) →
    DataW.TrodAll enc P W' 0 sp true ts vs ds ps
  | [], vs, ds, ps, _, h, _, _ => by
    obtain ⟨rfl, rfl, rfl⟩ := trodAll_nil h
    exact trodAll_mk0
  | t :: ts, vs, ds, ps, hr, h, h1, h2 => by
    obtain ⟨v, vs', d, ds', p, q, rfl, rfl, rfl, hp, hq⟩ := trodAll_cons h
    simp only [List.all_cons, Bool.and_eq_true, decide_eq_true_eq] at hr
    exact trodAll_cons_mk (WideElems.Trod_stays hl hr.1.1 hr.1.2 hp (fun x hx => h1 x (by simp [hx])) (fun x hx => h2 x (by simp [hx])))
      (trodAll_stay hl ts vs' ds' q hr.2 hq (fun x hx => h1 x (by simp [hx])) (fun x hx => h2 x (by simp [hx])))
theorem law_post {f : Func} {s : ChangeSpec} {W W' : World} {args : Array Value} {ds gs : List (DataW H)} {before : List MemPlace} {tb : TypeId}
    (hl : laidOutB P = true) (hts : (f.params.toList.all fun t => P.readableRec t && decide (t < P.types.size)) = true)
    (hr : f.resultTypes = #[tb]) (hb : P.underlying tb = some .bool) (hv : s.vars = [])
    (hW : DataW.Whole enc P f.params.toList s.vars false W args.toList ds gs before)
    (hs : s.fn H (ds ++ gs) = { results := [.lit (.bool true)], args := ds }) (bel : Below W.heap.size W W') :
    s.post enc P f false true false false W args (.bool true) W' := by
  have hW0 := hW
  obtain ⟨p, q, hA, hV, rfl, hfz, hnd⟩ := hW
  have hlt : ∀ x ∈ p ++ q, x.block < W.heap.size := fun x hx => hW0.lt x hx
  rw [hv] at hV
  obtain ⟨rfl, rfl⟩ := trodVars_none hV
  have hA' := trodAll_stay (sp := fun b => decide (b < W.heap.size)) (W' := W') hl _ _ _ _ hts hA (fun x hx => bel.same (hlt x (by simp [hx]))) (fun x hx => by simpa using hlt x (by simp [hx]))
  refine ⟨ds, [], _, [], p, [], hW0, ?_, ?_, ?_, Below.frame bel _, fun h => by cases h⟩
  · rw [hs, hr]
    exact trodAll_mk1 (shut_bool hb _)
  · rw [hs]; exact hA'
  · rw [hs, hv]; rfl
end
end Go.Proofs.Ytplaicdbcfnjbaa
/- A call that came in, opened to its cells; how many nodes its tree has at most. -/
namespace Go.Proofs.Ytplaicdbcfnjbaa
open Go.RowKit Go.ChangeShapes Go.WideShapes Go.Deep
set_option linter.unusedVariables false
theorem bulk_one {H : Type} (d : DataW H) : 1 ≤ Rows.uptoBulk d := by
  cases d with
  | lit l => cases l <;> simp [Rows.uptoBulk]
  | nil => simp [Rows.uptoBulk]
  | ptr d => simp [Rows.uptoBulk]
  | slice elems spare => simp [Rows.uptoBulk]
  | agg parts => simp [Rows.uptoBulk]
  | iface t d => simp [Rows.uptoBulk]
  | map entries => simp [Rows.uptoBulk]
  | held h => simp [Rows.uptoBulk]
theorem bulk_part {H : Type} {d : DataW H} {l : List (DataW H)} (h : d ∈ l) : Rows.uptoBulk d ≤ Rows.uptoBulkAll l := by
  induction l with
  | nil => cases h
  | cons x r ih =>
    simp only [Rows.uptoBulkAll]
    cases List.mem_cons.1 h with
    | inl e => subst e; omega
    | inr e => have := ih e; omega
theorem bulk_app {H : Type} (l r : List (DataW H)) : Rows.uptoBulkAll (l ++ r) = Rows.uptoBulkAll l + Rows.uptoBulkAll r := by
  induction l with
  | nil => simp [Rows.uptoBulkAll]
  | cons x l ih => simp only [List.cons_append, Rows.uptoBulkAll, ih]; omega
section
variable {H : Type} {enc : TypeId × Value → H} {w : World}
theorem i64_of {x : Int} (h : (Lit.int .i64 x).wf = true) : i64 x := by
  simp [Lit.wf, IntKind.min, IntKind.max, IntKind.signed, IntKind.bits] at h
  exact ⟨by omega, by omega⟩
theorem u64_of {x : Int} (h : (Lit.int .u64 x).wf = true) : ∃ n : Nat, x = n := by
  simp [Lit.wf, IntKind.min, IntKind.max, IntKind.signed, IntKind.bits] at h
  exact ⟨x.toNat, by omega⟩
theorem c3' : Try.prog.cellsOf 3 = 1 := by kernel_rfl
theorem c9' : Try.prog.cellsOf 9 = 1 := by kernel_rfl
theorem c29' : Try.prog.cellsOf 29 = 1 := by kernel_rfl
theorem c26' : Try.prog.cellsOf 26 = 1 := by kernel_rfl
theorem c30' : Try.prog.cellsOf 30 = 1 := by kernel_rfl
theorem c53' : Try.prog.cellsOf 53 = 1 := by kernel_rfl
theorem c32' : Try.prog.cellsOf 32 = 3 := by kernel_rfl
theorem c34' : Try.prog.cellsOf 34 = 8 := by kernel_rfl
theorem c23' : Try.prog.cellsOf 23 = 2 := by kernel_rfl
theorem c25' : Try.prog.cellsOf 25 = 2 := by kernel_rfl
theorem c28' : Try.prog.cellsOf 28 = 7 := by kernel_rfl
theorem c36' : Try.prog.cellsOf 36 = 19 := by kernel_rfl
theorem len3 {α : Type} : ∀ {l : List α}, l.length = 3 → ∃ a b c, l = [a, b, c]
  | [a, b, c], _ => ⟨a, b, c, rfl⟩
theorem sumN_bulk {B : Nat} {T : Nat → DT} {D : Nat → DataW H} {len : Nat} (h : ∀ i, i < len → nodes B (T i) ≤ Rows.uptoBulk (D i)) : ∀ k, k ≤ len → sumN (nodes B) ((List.range len).map T) k ≤ Rows.uptoBulkAll ((List.range k).map D)
  | 0, _ => Nat.zero_le _
  | k + 1, hk => by
    have := sumN_bulk h k (by omega)
    unfold sumN
    rw [List.range_succ, List.map_append, bulk_app]
    have e : ((List.range len).map T).getD k (.mk 0 0 []) = T k := by
      rw [List.getD_eq_getElem?_getD, List.getElem?_map, List.getElem?_range (by omega)]; rfl
    rw [e]
    have := h k (by omega)
    simp only [List.map_cons, List.map_nil, Rows.uptoBulkAll]
    omega
set_option maxRecDepth 10000 in
theorem open_desc (sp : Nat → Bool) (hsp : ∀ b, sp b = true) : ∀ (B fuel : Nat) (cs : List Value) (x : DataW H × List MemPlace), Rows.uptoBulk x.1 ≤ B → DataW.trod enc Try.prog w 0 sp true fuel 32 cs = some x →
    ∃ t A cap, cs = (dcs t A cap).toList ∧ IsD w B t A cap ∧ nodes B t ≤ Rows.uptoBulk x.1
  | 0, fuel, cs, x, hB, _ => by have := bulk_one x.1; omega
  | B + 1, fuel, cs, x, hB, h => by
    obtain ⟨xs, n, hk, hxy, hlen, hxl, hfl⟩ := DataW.trod_struct Try.underlying32 h
    rw [c32'] at hlen
    obtain ⟨v0, v1, v2, rfl⟩ := len3 hlen
    obtain ⟨x0, x1, x2, rfl⟩ := len3 (show xs.length = 3 from hxl)
    have g0 := hfl 0 _ rfl
    have g1 := hfl 1 _ rfl
    have g2 := hfl 2 _ rfl
    simp only [List.getElem?_cons_zero, List.getElem?_cons_succ, c3', c30', List.drop_zero, List.drop_succ_cons, List.take_succ_cons, List.take_zero] at g0 g1 g2
    obtain ⟨k, e0, _, w0⟩ := DataW.trod_int Try.underlying3 g0
    obtain ⟨m, e1, _, w1⟩ := DataW.trod_int Try.underlying3 g1
    cases e0
    cases e1
    subst hxy
    simp only [List.map_cons, List.map_nil, Rows.uptoBulk, Rows.uptoBulkAll] at hB ⊢
    have b0 := bulk_one x0.1
    have b1 := bulk_one x1.1
    rcases open_slice Try.underlying30 g2 with ⟨hcs, hx⟩ | ⟨a, len, cap, mm, n', D, Pl, hcs, _, hl, hm, hmm, hx, hi⟩
    · cases hcs
      refine ⟨.mk k m [], none, 0, rfl, ⟨i64_of w0, i64_of w1, Nat.le_refl _, by omega, fun h => absurd h (by simp [DT.kids])⟩, ?_⟩
      have b2 := bulk_one x2.1
      show 1 + sumN (nodes B) [] 0 ≤ _
      simp only [sumN]
      omega
    · cases hcs
      rw [hsp, if_pos rfl] at hmm
      subst hmm
      have hx1 : x2.1 = .slice ((List.range len).map D) ((List.range (mm - len)).map fun j => D (len + j)) := by rw [hx]
      rw [hx1] at hB ⊢
      simp only [Rows.uptoBulk] at hB ⊢
      have each : ∀ i, i < len → ∃ q : DT × Option Addr × Nat, D3 w (a.add (i * 3)) q.1 q.2.1 q.2.2 ∧ IsD w B q.1 q.2.1 q.2.2 ∧ nodes B q.1 ≤ Rows.uptoBulk (D i) := by
        intro i hil
        obtain ⟨cs', h1, h2⟩ := hi i (by omega)
        rw [c32'] at h1
        obtain ⟨_, hlen', hcell⟩ := World.cells?_some h1
        have hmem : Rows.uptoBulk (D i) ≤ Rows.uptoBulkAll ((List.range len).map D) := bulk_part (List.mem_map.2 ⟨i, List.mem_range.2 hil, rfl⟩)
        obtain ⟨t, A, cap', ec, hD, hn⟩ := open_desc sp hsp B n' cs' (D i, Pl i) (by show Rows.uptoBulk (D i) ≤ B; omega) h2
        subst ec
        have q0 := hcell 0 (by simp [dcs])
        have q1 := hcell 1 (by simp [dcs])
        have q2 := hcell 2 (by simp [dcs])
        have ea : ((a.add (i * 3)).add 0) = a.add (i * 3) := by unfold Addr.add; simp
        rw [ea] at q0
        have e1 : (a.add (i * 3)).add 1 = ⟨(a.add (i * 3)).block, (a.add (i * 3)).off + 1, none⟩ := by rw [Addr.add, if_neg (by decide)]
        have e2 : (a.add (i * 3)).add 2 = ⟨(a.add (i * 3)).block, (a.add (i * 3)).off + 2, none⟩ := by rw [Addr.add, if_neg (by decide)]
        rw [e1] at q1
        rw [e2] at q2
        exact ⟨(t, A, cap'), ⟨block_lt_of_cell q0, q0, q1, q2⟩, hD, hn⟩
      haveI : Inhabited (DT × Option Addr × Nat) := ⟨(.mk 0 0 [], none, 0)⟩
      obtain ⟨q, hq⟩ := choose_lt each
      have hkl : ((List.range len).map fun i => (q i).1).length = len := by simp
      refine ⟨.mk k m ((List.range len).map fun i => (q i).1), some a, mm, ?_, ⟨i64_of w0, i64_of w1, by show _ ≤ mm; simp only [DT.kids]; rw [hkl]; exact hl, by unfold maxLen at hm; exact hm, fun _ => ⟨a, rfl, fun i hi' => ?_⟩⟩, ?_⟩
      · simp [dcs, DT.k, DT.n, DT.kids]
      · have hi2 : i < len := by simpa [DT.kids] using hi'
        have ek : (DT.mk k m ((List.range len).map fun i => (q i).1)).kid i = (q i).1 := by
          simp only [DT.kid, DT.kids]
          rw [List.getD_eq_getElem?_getD, List.getElem?_map, List.getElem?_range hi2]; rfl
        rw [ek]
        exact ⟨_, _, (hq i hi2).1, (hq i hi2).2.1⟩
      · show 1 + sumN (nodes B) ((List.range len).map fun i => (q i).1) ((List.range len).map fun i => (q i).1).length ≤ _
        rw [hkl]
        have := sumN_bulk (B := B) (T := fun i => (q i).1) (D := D) (fun i hi => (hq i hi).2.2) len (Nat.le_refl _)
        omega
theorem open_nums (sp : Nat → Bool) (hsp : ∀ b, sp b = true) {fuel : Nat} {cs : List Value} {x : DataW H × List MemPlace} (h : DataW.trod enc Try.prog w 0 sp true fuel 26 cs = some x) :
    ∃ A n cap f, cs = [.slice A n cap] ∧ ReadsF w .u64 A n f := by
  rcases open_slice Try.underlying26 h with ⟨hcs, _⟩ | ⟨a, len, cap, mm, n', D, Pl, hcs, _, hl, hm, hmm, hx, hi⟩
  · exact ⟨none, 0, 0, fun _ => 0, hcs, by omega, fun h => absurd h (by omega)⟩
  · rw [hsp, if_pos rfl] at hmm
    subst hmm
    have each : ∀ i, i < len → ∃ q : Nat, w.cell? (a.add i) = some (.int .u64 q) := by
      intro i hil
      obtain ⟨cs', h1, h2⟩ := hi i (by omega)
      rw [c53'] at h1
      obtain ⟨_, hlen', hcell⟩ := World.cells?_some h1
      obtain ⟨k, e0, _, w0⟩ := DataW.trod_int Try.underlying53 h2
      subst e0
      obtain ⟨m, rfl⟩ := u64_of w0
      have q0 := hcell 0 (by simp)
      have ea : ((a.add (i * 1)).add 0) = a.add i := by unfold Addr.add; simp
      rw [ea] at q0
      exact ⟨m, q0⟩
    obtain ⟨q, hq⟩ := choose_lt each
    refine ⟨some a, len, mm, q, hcs, by unfold maxLen at hm; omega, fun h0 => ⟨a, rfl, ?_, hq⟩⟩
    have := block_lt_of_cell (hq 0 h0)
    rwa [add_blk] at this
end
end Go.Proofs.Ytplaicdbcfnjbaa
