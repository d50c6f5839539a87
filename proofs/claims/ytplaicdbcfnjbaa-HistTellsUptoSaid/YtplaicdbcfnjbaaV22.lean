/- Sort: the program's own. -/
import Derived.Test.YtplaicdbcfnjbaaV21
import Derived.Maps.Own
import Derived.Maps.OwnOps
import Derived.Maps.OwnSet
import Derived.Maps.RangeWalk
import Derived.DeepKeys4
import Derived.WideKeyEntry
import Derived.WideKeyPair
import Derived.Test.YtplaicdbcfnjbaaProg
import Derived.Test.YtplaicdbcfnjbaaV20
import Derived.Shelf.SlIterI.Sorted
import Derived.Shelf.SlIterI.Keys
import Derived.CallsIn
set_option linter.unusedSimpArgs false
set_option linter.unusedVariables false
namespace Go.Proofs.Ytplaicdbcfnjbaa
open Go.RowKit
set_option linter.unusedVariables false
theorem info36n : ∃ i0, Try.prog.info? 36 = some i0 ∧ i0.zero = some (.agg z36) ∧ i0.size = 19 ∧ i0.bytes = 216 := info_parts info36
theorem wpl_mk {ops : Array Oper} {rest : List Oper} {o : Oper} {a : Act} {w : World} {Q : Exit → Act → World → Prop} (hgd : o.guard = none) (x y : Operand) (n : Nat)
    (ho : o.op = .makeSlice 38 x y) (hx : a.eval x = .int .i64 0) (hy : a.eval y = .int .i64 n) (hn : n ≤ 40)
    (h : ∀ w', OwnO w' w.heap.size (.slice (some ⟨w.heap.size, 0, none⟩) 0 n) [] → New w w' → wpList Try.prog ops Q rest (a.put o.dst (.slice (some ⟨w.heap.size, 0, none⟩) 0 n)) w') : wpList Try.prog ops Q (o :: rest) a w := by
  obtain ⟨i0, hi, hz0, hz1, hz2⟩ := info36n
  exact wpList_make_own w hgd x y 38 ho w.heap.size 36 i0 _ 19 Try.underlying38 hi hz0 hz1 .i64 .i64 n n hx hy rfl (by rw [hz2]; omega) (by unfold maxLen; omega) (Nat.le_refl _) fun w' h1 h2 => h w' h1 ⟨h2.os, h2.tape, h2.output, h2.size, fun b hb => h2.block b hb (by simp)⟩
theorem put_ne {w : World} {base : Nat} {v : Value} {l : List OD} {q : OD} (h : OwnO w base v (l ++ [q])) : v ≠ .slice none 0 0 := by
  intro e
  rcases h.2 with ⟨_, e2⟩ | ⟨g, cap, cur, e2, _⟩
  · rw [List.length_append] at e2; simp at e2
  · rw [e] at e2; cases e2
attribute [local irreducible] Go.wpList
set_option maxRecDepth 100000 in
set_option maxHeartbeats 1000000 in
theorem sort_any (f n : Nat) (o : Nat → OD) (A : Option Addr) (cap : Nat) (w : World) (hA : RowO w f A n o) (hn : n ≤ 40) (hb : ∀ k, k < n → (o k).nx ≤ 4000000 ∧ (o k).td.ny ≤ 4000000 ∧ nodes f (o k).td.d ≤ 4000000) :
    Calls Try.prog 17 #[.slice A n cap] w (SortDone f n o w) := by
  have HA := Lib.hid hA
  have HB := Lib.hid hb
  clear hA hb
  go_enter Try.func17, Try.ntmps17
  go_wp2_with (first | (refine wpl_mk rfl (.const (.int .i64 0)) (.tmp 7) n rfl rfl rfl hn ?_; intro w0 own0 nw0; replace own0 := Lib.hid own0; replace nw0 := Lib.hid nw0))
  go_loopg [11, 3] n (fun q i v wr => ∃ (k : Nat) (xs : List OD), k + q = n ∧ i = .int .i64 k ∧ Hid (OwnO wr w.heap.size v xs) ∧ Hid (v ≠ .slice none 0 0) ∧ xs.length = k ∧ Hid (∀ i, i < k → Cpy (o i) (lk xs i)) ∧ Hid (Apart wr f v xs) ∧ Hid (New w wr))
  case atStart => exact ⟨0, [], by omega, rfl, own0, Lib.hid (by simp), rfl, Lib.hid (fun i hi => absurd hi (by omega)), Lib.hid (fun x hx => absurd hx List.not_mem_nil), nw0⟩
  case round =>
    obtain ⟨k, l, hk, rfl, OW, NE, hl, CP, AP, NW⟩ := hrel
    by_cases hkn : k < n
    · obtain ⟨ad, rfl, ca⟩ := HA.out.2.2 (by omega)
      have L1 := Lib.hid ((ca k hkn).new NW.out)
      have C1 := Lib.hid (fun w' (m : New w w') => hclone_any f (o k) w' ((HA.out.2.1 k hkn).new m) (HB.out k hkn).1 (HB.out k hkn).2.1 (HB.out k hkn).2.2)
      have hkn' : (k : Int) < n := by omega
      have I1 := Lib.hid (ocs_op (o k))
      have hle : l.length ≤ 4000000 := by omega
      have B1 := Lib.hid (Box.made wr 36 (ocs (o k)))
      have N1 := Lib.hid ((New.refl wr).alloc (.cells (ocs (o k)) 36))
      have S1 := Lib.hid (show (wr.alloc (.cells (ocs (o k)) 36)).heap.size = wr.heap.size + 1 by simp)
      have L2 := Lib.hid (opat_box B1.out I1.out)
      have HQ := Lib.hid (fun X cx A2 ca Y cy => (⟨_, _, _, _, _, _, rfl⟩ : Cpy (o k) ((o k).at X cx A2 ca Y cy)))
      generalize hr : ocs (o k) = r at *
      clear ca
      go_wp2_with (first | (refine wpl_load rfl rfl L1.out rfl ?_; clear L1) | (have tk_ := I1; refine wpl_store rfl rfl rfl rfl I1.out rfl ?_; clear I1 tk_) | (refine wpl_load (x := .tmp 5) (p := ⟨wr.heap.size, 0, none⟩) (c := r) rfl rfl ?_ rfl ?_; · exact L2.out) | (go_at_call 34; refine (C1.out _ (NW.out.trans N1.out)).mono ?_; rintro e w1 ⟨X, cx, A2, ca, Y, cy, rfl, g1, m1⟩; have G1 := Lib.hid g1.b; have M1 := Lib.hid (N1.out.trans m1); have hq := Lib.hid (HQ.out X cx A2 ca Y cy); clear g1 m1; rw [S1.out] at G1; generalize (o k).at X cx A2 ca Y cy = q at *; obtain ⟨r9, hq'⟩ : ∃ r9, ocs q = r9 := ⟨_, rfl⟩; rw [hq']; have I9 := Lib.hid (hq' ▸ ocs_op q)) | (refine wpl_rows (n := 1) (c := fun _ => r9) rfl rfl (by rw [Array.toList_map]; rfl) (by decide) (by decide) (fun _ => I9.out) ?_; intro w2 m2 hp; have P2 := hp 0 (by decide); rw [Addr.add_mid] at P2; simp only [Nat.zero_mul, Nat.add_zero] at P2; clear hp) | (refine wpl_puta rfl (.tmp 15) (.tmp 18) rfl _ l w.heap.size q _ rfl (own_new (own_new OW.out M1.out) m2) rfl (hq'.symm ▸ P2) hle (by have := (NW.out.trans M1.out).lt; have := m2.lt; omega) ?_; intro v' w3 o3 hgr hat))
      go_roundg (gk - 1)
      case rel =>
        refine ⟨k + 1, l ++ [q], by omega, by go_num, Lib.hid o3, Lib.hid (put_ne o3), by rw [List.length_append, hl]; rfl, Lib.hid (fun i hi => ?_), Lib.hid ?_, Lib.hid (((NW.out.trans M1.out).trans m2).grown hgr (fun b e => (OW.out.lt _ e).1))⟩
        · by_cases e : i = k
          · subst e; subst hl; rw [lk_snoc_eq]; exact hq.out
          · rw [lk_snoc_lt _ _ _ (by omega)]; exact CP.out i (by omega)
        · exact AP.out.put (M1.out.trans m2) (G1.out.keep m2.lt (fun b _ hb => m2.block b hb) (fun _ _ h => h)) (Nat.le_succ _) hgr OW.out hat
      case measure => omega
    · have hkL : k = n := by omega
      subst hkL
      obtain ⟨g, cap', e1, key⟩ := sort_row OW.out NE.out hl hn CP.out AP.out NW.out
      subst e1
      replace key := Lib.hid key
      clear OW NE CP AP NW own0 nw0 HA HB
      go_wp2_with (first | (go_at_call 35; refine (key.out).mono ?_; rintro e w3 ⟨rfl, K⟩; replace K := Lib.hid K))
      go_ret
      exact K.out
end Go.Proofs.Ytplaicdbcfnjbaa
/- Rows of references (two cells each) and of times that are built up; Pending: the program's own. -/
namespace Go.Proofs.Ytplaicdbcfnjbaa
open Go.RowKit Go.Sort
set_option linter.unusedVariables false
def pcells (l : List (Int × Int)) : List Value := l.flatMap fun r => [.int .i64 r.1, .int .i64 r.2]
theorem pcells_snoc (l : List (Int × Int)) (r : Int × Int) : pcells (l ++ [r]) = pcells l ++ [.int .i64 r.1, .int .i64 r.2] := by
  unfold pcells
  rw [List.flatMap_append]
  simp
def OwnR (w : World) (base : Nat) (v : Value) (l : List (Int × Int)) : Prop := w.ownsRow base 23 2 v l.length (pcells l)
def OwnI (w : World) (base : Nat) (v : Value) (l : List Int) : Prop := w.ownsRow base 3 1 v l.length (l.map (Value.int .i64))
theorem info23 : (Try.prog.info? 23).map (fun i => (i.zero, i.size, i.bytes)) = some (some (.agg #[.int .i64 0, .int .i64 0]), 2, 16) := by kernel_rfl
theorem info3 : (Try.prog.info? 3).map (fun i => (i.zero, i.size, i.bytes)) = some (some (.int .i64 0), 1, 8) := by kernel_rfl
theorem size23 : (Try.prog.info? 23).map (·.size) = some 2 := by kernel_rfl
theorem own_base {w : World} {b b' : Nat} {e : TypeId} {size n : Nat} {v : Value} {xs : List Value} (h : w.ownsRow b e size v n xs) (hb : b' ≤ b) : w.ownsRow b' e size v n xs := by
  obtain ⟨h1, h2⟩ := h
  refine ⟨h1, ?_⟩
  rcases h2 with h2 | ⟨g, cap, cur, hv, hg, r⟩
  · exact .inl h2
  · exact .inr ⟨g, cap, cur, hv, Nat.le_trans hb hg, r⟩
theorem wpl_putr {ops : Array Oper} {rest : List Oper} {o : Oper} {a : Act} {w : World} {Q : Exit → Act → World → Prop} (hgd : o.guard = none) (s x : Operand)
    (ho : o.op = .call { callee := .builtin .append, args := #[s, x], argTypes := #[44, 44] }) (v : Value) (l : List (Int × Int)) (base : Nat) (p : Int × Int)
    (hs : a.eval s = v) (hown : OwnR w base v l) (hx : a.eval x = .slice (some ⟨w.heap.size, 0, none⟩) 1 1) (hl : l.length ≤ 4000000) (hb : base ≤ w.heap.size)
    (h : ∀ v' w', OwnR w' base v' (l ++ [p]) → (w.alloc (.cells #[.int .i64 p.1, .int .i64 p.2] 23)).grownBy w' v.ownBlock → wpList Try.prog ops Q rest (a.put o.dst v') w') : wpList Try.prog ops Q (o :: rest) a (w.alloc (.cells #[.int .i64 p.1, .int .i64 p.2] 23)) := by
  obtain ⟨i0, hi, hz0, hz1, hz2⟩ := info_parts info23
  refine wpList_append_own _ hgd s x 44 ho base 23 i0 _ 2 16 Try.underlying44 hi hz0 hz1 hz2 rfl (by decide) v _ _ hs (own_new hown ((New.refl _).alloc _)) ⟨w.heap.size, 0, none⟩ 1 1 [.int .i64 p.1, .int .i64 p.2] hx rfl (news2 _ _ _ _) (fun u hu => by simp at hu; rcases hu with rfl | rfl <;> rfl) (by unfold maxLen; omega) (by omega) (by simp; omega) (fun v' w' h2 h3 _ => h v' w' ?_ h3)
  unfold OwnR
  rw [pcells_snoc, List.length_append, List.length_singleton]
  exact h2
theorem wpl_puti {ops : Array Oper} {rest : List Oper} {o : Oper} {a : Act} {w : World} {Q : Exit → Act → World → Prop} (hgd : o.guard = none) (s x : Operand)
    (ho : o.op = .call { callee := .builtin .append, args := #[s, x], argTypes := #[55, 55] }) (v : Value) (l : List Int) (base : Nat) (p : Int)
    (hs : a.eval s = v) (hown : OwnI w base v l) (hx : a.eval x = .slice (some ⟨w.heap.size, 0, none⟩) 1 1) (hl : l.length ≤ 4000000) (hb : base ≤ w.heap.size)
    (h : ∀ v' w', OwnI w' base v' (l ++ [p]) → (w.alloc (.cells #[.int .i64 p] 3)).grownBy w' v.ownBlock → wpList Try.prog ops Q rest (a.put o.dst v') w') : wpList Try.prog ops Q (o :: rest) a (w.alloc (.cells #[.int .i64 p] 3)) := by
  obtain ⟨i0, hi, hz0, hz1, hz2⟩ := info_parts info3
  refine wpList_append_own _ hgd s x 55 ho base 3 i0 _ 1 8 Try.underlying55 hi hz0 hz1 hz2 rfl (by decide) v _ _ hs (own_new hown ((New.refl _).alloc _)) ⟨w.heap.size, 0, none⟩ 1 1 [.int .i64 p] hx rfl (news1 _ _ _) (fun u hu => by simp at hu; rcases hu with rfl; rfl) (by unfold maxLen; omega) (by omega) (by simp; omega) (fun v' w' h2 h3 _ => h v' w' ?_ h3)
  unfold OwnI
  rw [List.length_append, List.length_singleton, List.map_append]
  exact h2
/-- the references of those that have not ended -/
def pendL (o : Nat → OD) : Nat → List (Int × Int)
  | 0 => []
  | k + 1 => if (o k).e = -1 then pendL o k ++ [((o k).r0, (o k).r1)] else pendL o k
theorem pendL_le (o : Nat → OD) : ∀ k, (pendL o k).length ≤ k
  | 0 => Nat.le_refl _
  | k + 1 => by
    have := pendL_le o k
    unfold pendL
    split
    · rw [List.length_append, List.length_singleton]; omega
    · omega
theorem pendL_cpy {o p : Nat → OD} (h : ∀ i, Cpy (o i) (p i)) : ∀ k, pendL p k = pendL o k
  | 0 => rfl
  | k + 1 => by
    have ih := pendL_cpy h k
    obtain ⟨X, cx, A, ca, Y, cy, e⟩ := h k
    unfold pendL
    rw [ih, e]
    rfl
def PendDone (f n : Nat) (o : Nat → OD) (w : World) (e : Ending) (w' : World) : Prop :=
  ∃ (v : Value) (d' : Array Nat), e = .returned v ∧ PermIn 0 n (Array.range n) d' ∧ SortedIn (lx fun i => (o i).s) 0 n d' ∧ OwnR w' w.heap.size v (pendL (fun k => o d'[k]!) n) ∧ New w w'
attribute [local irreducible] Go.wpList
set_option maxRecDepth 100000 in
set_option maxHeartbeats 1000000 in
theorem pending_any (f n : Nat) (o : Nat → OD) (A : Option Addr) (cap : Nat) (w : World) (hA : RowO w f A n o) (hn : n ≤ 40) (hb : ∀ k, k < n → (o k).nx ≤ 4000000 ∧ (o k).td.ny ≤ 4000000 ∧ nodes f (o k).td.d ≤ 4000000) :
    Calls Try.prog 13 #[.slice A n cap] w (PendDone f n o w) := by
  have HS := Lib.hid (sort_any f n o A cap w hA hn hb)
  clear hA hb
  go_enter Try.func13, Try.ntmps13
  go_wp2_with (first | (go_at_call 17; refine (HS.out).mono ?_; rintro e w0 ⟨B, cb, d', p, rfl, cp, hp, hsd, HB, nw0⟩; replace cp := Lib.hid cp; replace hp := Lib.hid hp; replace hsd := Lib.hid hsd; replace HB := Lib.hid HB; replace nw0 := Lib.hid nw0; clear HS))
  obtain ⟨q, hq⟩ : ∃ q : Nat → OD, q = fun k => p d'[k]! := ⟨_, rfl⟩
  rw [← hq] at HB
  replace hq := Lib.hid hq
  go_loopg [9, 3] n (fun z i v wr => ∃ (k : Nat) (l : List (Int × Int)), k + z = n ∧ i = .int .i64 k ∧ Hid (l = pendL q k) ∧ l.length ≤ k ∧ Hid (OwnR wr w0.heap.size v l) ∧ Hid (New w0 wr))
  case atStart => exact ⟨0, [], by omega, rfl, Lib.hid rfl, Nat.le_refl _, Lib.hid ⟨rfl, Or.inl ⟨rfl, rfl⟩⟩, Lib.hid (New.refl w0)⟩
  case round =>
    obtain ⟨k, l, hk, rfl, hl, hlk, OW, NW⟩ := hrel
    by_cases hkn : k < n
    · obtain ⟨ad, rfl, ca⟩ := HB.out.2.2 (by omega)
      have L1 := Lib.hid ((ca k hkn).new NW.out)
      have hkn' : (k : Int) < n := by omega
      have I1 := Lib.hid (ocs_op (q k))
      have B1 := Lib.hid (Box.made wr 36 (ocs (q k)))
      have N1 := Lib.hid ((New.refl wr).alloc (.cells (ocs (q k)) 36))
      have p18 : (wr.alloc (.cells (ocs (q k)) 36)).cell? ⟨wr.heap.size, 18, none⟩ = some (.int .i64 (q k).e) := B1.out.cell 18
      have LD := Lib.hid (lda_two (t := 23) B1.out (i := 0) (x := (q k).r0) (y := (q k).r1) rfl rfl Try.underlying23 rfl size23)
      have SS := Lib.hid (show pendL q (k + 1) = if (q k).e = -1 then pendL q k ++ [((q k).r0, (q k).r1)] else pendL q k from rfl)
      generalize ocs (q k) = r at *
      generalize hw1 : wr.alloc (.cells r 36) = wb at *
      clear ca
      by_cases he : (q k).e = -1
      · rw [if_pos he] at SS
        generalize (q k).r0 = x0 at *
        generalize (q k).r1 = x1 at *
        go_wp2_with (first | (refine wpl_load rfl rfl L1.out rfl ?_; clear L1) | (have tk_ := I1; refine wpl_store rfl rfl rfl rfl I1.out rfl ?_; rw [hw1]; clear I1 tk_) | (refine wpl_ld (t := 23) rfl rfl LD.out rfl ?_; clear LD) | (refine wpl_putr rfl (.tmp 16) (.tmp 19) rfl _ l w0.heap.size (x0, x1) rfl (own_new OW.out N1.out) rfl (by omega) (by have := (NW.out.trans N1.out).lt; omega) ?_; intro v' w3 o3 hgr))
        go_roundg (gk - 1)
        case rel => exact ⟨k + 1, l ++ [(x0, x1)], by omega, by go_num, Lib.hid (by rw [SS.out, hl.out]), by rw [List.length_append]; simp; omega, Lib.hid o3, Lib.hid (((NW.out.trans N1.out).alloc _).grown hgr (fun b e => (OW.out.lt _ e).1))⟩
        case measure => omega
      · rw [if_neg he] at SS
        go_wp2_with (first | (refine wpl_load rfl rfl L1.out rfl ?_; clear L1) | (have tk_ := I1; refine wpl_store rfl rfl rfl rfl I1.out rfl ?_; rw [hw1]; clear I1 tk_))
        go_roundg (gk - 1)
        case rel => exact ⟨k + 1, l, by omega, by go_num, Lib.hid (by rw [SS.out, hl.out]), by omega, Lib.hid (own_new OW.out N1.out), Lib.hid (NW.out.trans N1.out)⟩
        case measure => omega
    · have hkL : k = n := by omega
      subst hkL
      go_wp2
      go_ret
      refine ⟨_, d', rfl, hp.out, hsd.out, ?_, nw0.out.trans NW.out⟩
      have e1 : pendL (fun k => o d'[k]!) k = l := by
        rw [hl.out, hq.out]
        exact (pendL_cpy (fun i => cp.out _) _).symm
      rw [e1]
      exact own_base OW.out nw0.out.lt
end Go.Proofs.Ytplaicdbcfnjbaa
/- Maps that count: what a map from keys to numbers holds when each key of a list has been counted. No walk. -/
namespace Go.Proofs.Ytplaicdbcfnjbaa
open Go.RowKit Go.Maps
set_option linter.unusedVariables false
set_option maxRecDepth 100000
theorem zero3 (w : World) : (zeroValue 3).run Try.prog w = .ok (.int .i64 0) w := by kernel_rfl
theorem wf_of_i64 {x : Int} (h : i64 x) : (Lit.int .i64 x).wf = true := by
  unfold i64 at h
  simp [Lit.wf, IntKind.min, IntKind.max, IntKind.signed, IntKind.bits]
  omega
theorem own_map_new {H : Type} {w w' : World} {P : Program} {k : TypeId} {R : Value → Option (DataW H × List MemPlace)} {b n : Nat} {D : DataW H} (h : w.ownsMap P k R b n D) (hn : New w w') : w'.ownsMap P k R b n D :=
  h.kept (row := none) ⟨hn.os, hn.tape, hn.output, hn.size, fun k hk _ => hn.block k hk⟩ (by simp)
/-- how keys are told -/
structure KeyKit (k : TypeId) {α : Type} (κ : α → Value) (lam : α → Lit) (ok : α → Prop) : Prop where
  K : Keyed Try.prog k
  key : ∀ x, ok x → keyOf Try.prog k (κ x) = some (lam x)
  inj : ∀ x y, ok x → ok y → lam x = lam y → x = y
theorem kit3 : KeyKit 3 (Value.int .i64) (Lit.int .i64) i64 :=
  ⟨int_keyed Try.underlying3, fun x h => keyOf_int_mk Try.underlying3 (wf_of_i64 h), fun x y _ _ h => by injection h⟩
theorem laidOut : laidOutB Try.prog = true := by kernel_rfl
theorem row23 : (23 : TypeId) < Try.prog.types.size := of_decide_eq_true (by kernel_rfl)
theorem wide23 : (match Try.prog.underlying 23 with | some (.array _ _) | some (.struct _) => true | _ => false) = true := by rw [Try.underlying23]
theorem keyed23 : Keyed Try.prog 23 := Keyed.of_law (deep_law_laid laidOut (m := 2) (by omega) row23 (by kernel_rfl) wide23)
def pv (r : Int × Int) : Value := .agg #[.int .i64 r.1, .int .i64 r.2]
def pl (r : Int × Int) : Lit := .string (keyBytes [.int .i64 r.1, .int .i64 r.2])
def pok (r : Int × Int) : Prop := i64 r.1 ∧ i64 r.2
theorem cells23 : Try.prog.cellsOf 23 = 2 := by kernel_rfl
theorem cells3 : Try.prog.cellsOf 3 = 1 := by kernel_rfl
theorem deep23 : Try.prog.keyType 23 = true := by kernel_rfl
theorem size1 : ∃ m, Try.prog.types.size = m + 1 := ⟨Try.prog.types.size - 1, (Nat.succ_pred_eq_of_pos (Nat.lt_of_le_of_lt (Nat.zero_le _) row23)).symm⟩
theorem lits23 (m : Nat) (a b : Int) (w1 : (Lit.int .i64 a).wf = true) (w2 : (Lit.int .i64 b).wf = true) : Try.prog.keyLits (m + 1 + 1) 23 [.int .i64 a, .int .i64 b] = some [.int .i64 a, .int .i64 b] := by
  unfold Program.keyLits
  simp only [Try.underlying23]
  rw [if_pos ⟨by rw [cells23]; rfl, by simp⟩]
  simp only [List.mapM_cons, List.mapM_nil, List.drop, cells3, List.take]
  unfold Program.keyLits
  simp only [Try.underlying3]
  simp [w1, w2]
theorem key23 (r : Int × Int) (h : pok r) : keyOf Try.prog 23 (pv r) = some (pl r) := by
  obtain ⟨h1, h2⟩ := h
  have w1 := wf_of_i64 h1
  have w2 := wf_of_i64 h2
  unfold keyOf
  simp only [Try.underlying23]
  obtain ⟨m, hm⟩ := size1
  have hf : (pv r).formed Try.prog 23 = true := by
    unfold Value.formed pv
    simp only [Try.underlying23, cells23]
    rfl
  rw [if_pos (by rw [deep23, hf]; rfl), hm]
  show (Option.map _ (Try.prog.keyLits (m + 1 + 1) 23 [.int .i64 r.1, .int .i64 r.2])) = _
  rw [lits23 m _ _ w1 w2]
  rfl
theorem kit23 : KeyKit 23 pv pl pok :=
  ⟨keyed23, key23, fun x y hx hy h => by
    have h1 := key23 x hx
    have h2 := key23 y hy
    rw [h] at h1
    have := keyed23.inj h1 h2
    simp [pv] at this
    exact Prod.ext this.1 this.2⟩
section
variable {k : TypeId} {α : Type} [DecidableEq α] {κ : α → Value} {lam : α → Lit} {ok : α → Prop} (KK : KeyKit k κ lam ok)
/-- block b is a map of at most n entries that counts the keys of L -/
def CM (k : TypeId) (lam : α → Lit) (ok : α → Prop) (w : World) (b n : Nat) (L : List α) : Prop :=
  ∃ D : DataW Unit, w.ownsMap Try.prog k (plainElem Try.prog 3) b n D ∧ (∀ x, ok x → D.atKey (lam x) (.lit (.int .i64 0)) = .lit (.int .i64 (L.count x : Nat))) ∧ (∀ kl, Maps.has D kl = true ↔ ∃ x ∈ L, kl = lam x) ∧ ∀ x ∈ L, ok x
theorem CM.made (w : World) : CM k lam ok (w.alloc (.map #[] 0)) w.heap.size 0 ([] : List α) :=
  ⟨.map [], World.ownsMap_made _ _ _ _, fun e _ => rfl, fun kl => by simp [Maps.has], fun x hx => absurd hx List.not_mem_nil⟩
theorem CM.new {w w' : World} {b n : Nat} {L : List α} (h : CM k lam ok w b n L) (hn : New w w') : CM k lam ok w' b n L := by
  obtain ⟨D, h1, h2⟩ := h
  exact ⟨D, own_map_new h1 hn, h2⟩
theorem CM.lt {w : World} {b n : Nat} {L : List α} (h : CM k lam ok w b n L) : b < w.heap.size := by
  obtain ⟨D, h1, h2⟩ := h
  exact h1.lt
include KK
theorem CM.look {t : TypeId} (ht : Try.prog.underlying t = some (.map k 3)) {w : World} {b n : Nat} {L : List α} (h : CM k lam ok w b n L) {x : α} (hx : ok x) :
    (Instr.lookup t (.map (some b)) (κ x) false).run Try.prog w = .ok (.int .i64 (L.count x : Nat)) w := by
  obtain ⟨D, h1, h2, h3⟩ := h
  obtain ⟨c, hrun, hat, hw⟩ := h1.lookup_int KK.K ht Try.underlying3 (zero3 w) (KK.key x hx)
  rw [h2 x hx] at hat
  injection hat with hat
  injection hat with _ hat
  rw [hrun, hat]
theorem CM.step {w w' : World} {b n : Nat} {L : List α} {D : DataW Unit} {x : α} (hx : ok x) (h1 : w.ownsMap Try.prog k (plainElem Try.prog 3) b n D)
    (h2 : ∀ x, ok x → D.atKey (lam x) (.lit (.int .i64 0)) = .lit (.int .i64 (L.count x : Nat))) (h3 : ∀ kl, Maps.has D kl = true ↔ ∃ x ∈ L, kl = lam x) (h4 : ∀ x ∈ L, ok x)
    (h : w'.ownsMap Try.prog k (plainElem Try.prog 3) b (n + 1) (D.put (lam x) (.lit (.int .i64 ((L.count x + 1 : Nat) : Int))))) : CM k lam ok w' b (n + 1) (L ++ [x]) := by
  have td := h1.tidy KK.K
  have hl := KK.K.key (KK.key x hx)
  refine ⟨_, h, fun y hy => ?_, fun kl => ?_, fun y hy => ?_⟩
  · by_cases e : y = x
    · subst e
      rw [atKey_put_same td.isMap hl, List.count_append, List.count_cons_self, List.count_nil]
    · rw [atKey_put_other (fun e2 => e (KK.inj y x hy hx e2)), h2 y hy, List.count_append, List.count_cons_of_ne (fun e2 => e e2.symm), List.count_nil, Nat.add_zero]
  · by_cases e : kl = lam x
    · subst e
      rw [has_put_same td.isMap hl]
      simp
    · rw [has_put_other e, h3]
      constructor
      · rintro ⟨y, hy, e2⟩; exact ⟨y, List.mem_append_left _ hy, e2⟩
      · rintro ⟨y, hy, e2⟩
        rcases List.mem_append.1 hy with hy | hy
        · exact ⟨y, hy, e2⟩
        · rw [List.mem_singleton] at hy; subst hy; exact absurd e2 e
  · rcases List.mem_append.1 hy with hy | hy
    · exact h4 y hy
    · rw [List.mem_singleton] at hy; subst hy; exact hx
/-- the map is ranged over: what is left to come; what has come stood once -/
def CR (k : TypeId) (lam : α → Lit) (w : World) (b r n : Nat) (L : List α) (cnt : Nat) : Prop :=
  ∃ (D : DataW Unit) (left : Lit → Bool), w.ranges Try.prog k (plainElem Try.prog 3) b r n D left cnt ∧ (∀ x ∈ L, D.atKey (lam x) (.lit (.int .i64 0)) = .lit (.int .i64 (L.count x : Nat))) ∧ (∀ kl, left kl = true → ∃ x ∈ L, kl = lam x) ∧ ∀ x ∈ L, left (lam x) = false → L.count x ≤ 1
theorem wpl_range {t : TypeId} (ht : Try.prog.underlying t = some (.map k 3)) {ops : Array Oper} {rest : List Oper} {o : Oper} {a : Act} {w : World} {Q : Exit → Act → World → Prop} {m : Operand} {b n : Nat} {L : List α} (hg : o.guard = none) (hop : o.op = .range t m)
    (hm : a.eval m = .map (some b)) (hM : CM k lam ok w b n L)
    (hK : ∀ w' cnt, CR k lam w' b w.heap.size n L cnt → New w w' → wpList Try.prog ops Q rest (a.put o.dst (.pointer (some ⟨w.heap.size, 0, none⟩))) w') : wpList Try.prog ops Q (o :: rest) a w := by
  obtain ⟨D, h1, h2, h3, h4⟩ := hM
  exact wpList_range_own w hg m t hop k 3 KK.K ht _ b n D hm h1 fun w' r1 g1 s1 => hK w' _ ⟨D, _, r1, fun x hx => h2 x (h4 x hx), fun kl hkl => (h3 kl).1 hkl, fun x hx hf => by rw [(h3 (lam x)).2 ⟨x, hx, rfl⟩] at hf; cases hf⟩ ⟨g1.os, g1.tape, g1.output, g1.size, fun b hb => g1.block b hb (by simp)⟩
theorem wpl_next {ops : Array Oper} {rest : List Oper} {o : Oper} {a : Act} {w : World} {Q : Exit → Act → World → Prop} {it : Operand} {b r n cnt : Nat} {L : List α} (hg : o.guard = none) (hop : o.op = .next it false)
    (hit : a.eval it = .pointer (some ⟨r, 0, none⟩)) (hM : CR k lam w b r n L cnt)
    (h0 : L.Nodup → wpList Try.prog ops Q rest (a.put o.dst (.tuple #[.bool false])) w)
    (h1 : ∀ (key : Value) (c : Int) (w' : World) (cnt' : Nat), (1 < c → ¬ L.Nodup) → (c ≤ 1 → CR k lam w' b r n L cnt') → cnt' < cnt → w.grownBy w' (some r) → (Instr.entry (.pointer (some ⟨r, 0, none⟩))).run Try.prog w' = .ok (.tuple #[key, .int .i64 c]) w' →
      wpList Try.prog ops Q rest (a.put o.dst (.tuple #[.bool true, key, .int .i64 c])) w') : wpList Try.prog ops Q (o :: rest) a w := by
  obtain ⟨D, left, r1, r2, r3, r4⟩ := hM
  refine wpList_next_ranges w hg it hop k KK.K _ (fun v : Value => v) (Value.int .i64) (fun key kl _ => ⟨key, rfl⟩) (fun v y hv => by obtain ⟨c, rfl, _⟩ := plainElem_int_inv Try.underlying3 hv; exact ⟨c, rfl⟩) b r n D left cnt hit r1 (fun _ hl => h0 ?_) (fun key c kl y w' cnt' hkey hlk hv hat hrg hlt hgr hsz hen => ?_)
  · rw [List.nodup_iff_count]
    intro x
    by_cases hx : x ∈ L
    · exact r4 x hx (hl _)
    · rw [List.count_eq_zero_of_not_mem hx]; omega
  · obtain ⟨x, hx, rfl⟩ := r3 kl hlk
    obtain ⟨c', ec, ey, hwc⟩ := plainElem_int_inv Try.underlying3 hv
    cases ec
    have hc := r2 x hx
    rw [hat, ey] at hc
    injection hc with hc
    injection hc with _ hc
    refine h1 key c w' cnt' (fun h hn => ?_) (fun h => ⟨D, _, hrg, r2, fun z hz => r3 z (by simp at hz; exact hz.1), fun z hz hf => ?_⟩) hlt hgr hen
    · have := (List.nodup_iff_count.1 hn) x
      omega
    · cases hlz : left (lam z)
      · exact r4 z hz hlz
      · simp only [hlz, Bool.true_and, Bool.not_eq_false'] at hf
        have e := WideAt.sameKey_eq hf
        have := r2 z hz
        rw [e, hat, ey] at this
        injection this with this
        injection this with _ this
        omega
end
end Go.Proofs.Ytplaicdbcfnjbaa
/- The keys of the map of calls, sorted: the shelf's contracts, laid at this program. -/
namespace Go.Proofs.Ytplaicdbcfnjbaa
open Go.Shelf Go.RowKit Go.Lib Go.Sort Go.Maps
set_option linter.unusedVariables false
def keyRen : Go.Shelf.Ren := ⟨fun | 6 => 42 | 7 => 43 | 8 => 53 | 9 => 54 | 10 => 55 | 11 => 62 | n => n, fun | 3 => 38 | 23 => 68 | 24 => 55 | 26 => 3 | 27 => 70 | 28 => 71 | 33 => 76 | n => n, fun | n => n⟩
theorem keysLay : SlLaysZI.n7 Try.prog keyRen := {
  mixed := by kernel_rfl
  f7 := ⟨Try.f43.name, by decide, Try.func43.trans (congrArg some (by kernel_rfl))⟩
  f10 := ⟨Try.f55.name, by decide, Try.func55.trans (congrArg some (by kernel_rfl))⟩
  t0 := Try.underlying0
  a0 := Try.isAgg0
  z0 := Try.sizeOf0
  v0 := Try.zeroValue0
  t4 := Try.underlying4
  a4 := Try.isAgg4
  z4 := Try.sizeOf4
  v4 := Try.zeroValue4
  t23 := Try.underlying68
  a23 := Try.isAgg68
  z23 := Try.sizeOf68
  v23 := Try.zeroValue68
  t26 := Try.underlying3
  a26 := Try.isAgg3
  z26 := Try.sizeOf3
  v26 := Try.zeroValue3
  t27 := Try.underlying70
  a27 := Try.isAgg70
  z27 := Try.sizeOf70
  v27 := Try.zeroValue70
  t28 := Try.underlying71
  a28 := Try.isAgg71
  z28 := Try.sizeOf71
  v28 := Try.zeroValue71
  t33 := Try.underlying76
  a33 := Try.isAgg76
  z33 := Try.sizeOf76
  v33 := Try.zeroValue76 }
theorem sortedLay : SlLaysZI.n6 Try.prog keyRen := {
  mixed := by kernel_rfl
  f6 := ⟨Try.f42.name, by decide, Try.func42.trans (congrArg some (by kernel_rfl))⟩
  f8 := ⟨Try.f53.name, by decide, Try.func53.trans (congrArg some (by kernel_rfl))⟩
  f11 := ⟨Try.f62.name, by decide, Try.func62.trans (congrArg some (by kernel_rfl))⟩
  t0 := Try.underlying0
  a0 := Try.isAgg0
  z0 := Try.sizeOf0
  v0 := Try.zeroValue0
  t24 := Try.underlying55
  a24 := Try.isAgg55
  z24 := Try.sizeOf55
  v24 := Try.zeroValue55
  t26 := Try.underlying3
  a26 := Try.isAgg3
  z26 := Try.sizeOf3
  v26 := Try.zeroValue3
  t28 := Try.underlying71
  a28 := Try.isAgg71
  z28 := Try.sizeOf71
  v28 := Try.zeroValue71
  i26 := by kernel_rfl }
theorem sortsIn (m : Nat) : AnyZI.SortsIn Try.prog keyRen Fence.wide m :=
  ⟨fun blk off cap ss W hH hblk hsz => callsIn_wide.2 (Try.slices_Sort_int blk off cap ss W hH hblk hsz), fun p cap W => callsIn_wide.2 (Try.slices_Sort_int_none p cap W)⟩
theorem keys43 (b : Nat) (W : World) : Calls Try.prog 43 #[.map (some b)] W fun e w' => e = .returned (.func (.func 55) #[] #[.pointer (some ⟨W.heap.size, 0, none⟩)]) ∧ w' = W.alloc (.cells #[.map (some b)] 68) := by
  refine (callsIn_wide (n := 6)).1 ?_
  exact AnyZI.keys_in keysLay Fence.wide 6 trivial rfl (some b) W
theorem sorted42 {H : Type} {R : Value → Option (DataW H × List MemPlace)} (b nn : Nat) (D0 : DataW H) (w : World) (hown : w.ownsMap Try.prog 3 R b nn D0) (hmax : Maps.size D0 ≤ maxLen) (hbytes : Maps.size D0 * 8 ≤ 140737488355328) :
    Calls Try.prog 42 #[.func (.func 55) #[] #[.pointer (some ⟨w.heap.size, 0, none⟩)]] (w.alloc (.cells #[.map (some b)] 68)) fun e w' => ∃ (v : Value) (ss : List Int), e = .returned v ∧ ss.Perm (intKeys D0) ∧ OwnI w' (w.heap.size + 1) v ss ∧ New (w.alloc (.cells #[.map (some b)] 68)) w' := by
  refine (callsIn_wide (n := 6)).1 ?_
  have hbl := hown.lt
  have hseq : SeqGives Fence.wide 3 Try.prog 55 #[.pointer (some ⟨w.heap.size, 0, none⟩)] encZ (fun ss => ss.Perm (intKeys D0)) (Maps.size D0) (w.alloc (.cells #[.map (some b)] 68)) :=
    AnyZI.keys_gives (ρ := keyRen) { keysLay with } Fence.wide _ trivial rfl (by omega) w.heap.size b nn D0 _ (by simp) (by simp) (by
      obtain ⟨es, clock, hb, Ft, hs, hD⟩ := hown
      exact ⟨es, clock, (RowKit.Below.heap_alloc _ _ b hbl).trans hb, Ft, hs, hD⟩)
  have cS := AnyZI.sorted_in sortedLay Fence.wide 6 trivial trivial trivial trivial rfl (by omega) (sortsIn _) (enters_of Try.func54 (by kernel_rfl) rfl) 55 #[.pointer (some ⟨w.heap.size, 0, none⟩)] trivial (enters_of Try.func55 (by kernel_rfl) rfl) _ _ hmax hbytes _ hseq
  refine cS.mono ?_
  rintro e w' ⟨v, ss, rfl, hS, hrow, hnil, hb⟩
  refine ⟨v, ss.mergeSort (fun x y => decide (x ≤ y)), rfl, (List.mergeSort_perm _ _).trans hS, ?_, hb⟩
  have e1 : (ss.mergeSort (fun x y => decide (x ≤ y))).length = ss.length := List.length_mergeSort ss
  unfold OwnI
  rw [e1]
  have e2 : (w.alloc (.cells #[.map (some b)] 68)).heap.size = w.heap.size + 1 := by simp
  rw [e2] at hrow
  exact hrow
end Go.Proofs.Ytplaicdbcfnjbaa
