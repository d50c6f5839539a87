/- Small words of this claim on memory: a block that is known whole; what nothing but new blocks has changed. No program is named here. -/
import Derived.WalkKit
import Derived.WalkSpells
import Derived.WalkLawsBesides
import Derived.Deep.Draws
import Derived.Lib.Hide
import Derived.Test.YtplaicdbcfnjbaaProg
import Derived.BigQuiet
import Derived.Deep.QuietTactic
import Derived.Deep.LoopGhost
import Derived.Deep.RegionHeld3
import Derived.WalkMore
import Derived.Laws.AppendOwn
import Derived.OwnWalk
set_option linter.unusedSimpArgs false
set_option linter.unusedVariables false
namespace Go.Proofs.Ytplaicdbcfnjbaa
set_option linter.unusedVariables false
open Go.RowKit

/-- block g holds just the cells cs of type t, none of them frozen -/
def Box (w : World) (g : Nat) (t : TypeId) (cs : Array Value) : Prop := w.heap[g]? = some (.cells cs t (0, 0))

/-- nothing that was there has changed -/
def New (w w' : World) : Prop := Below w.heap.size w w'

section
variable {a w w' : World} {g : Nat} {t : TypeId} {cs : Array Value}
theorem Box.lt (h : Box w g t cs) : g < w.heap.size := by
  apply Nat.lt_of_not_le
  intro hge
  simp [Box, Array.getElem?_eq_none hge] at h
theorem Box.cell (h : Box w g t cs) (i : Nat) : w.cell? ⟨g, i, none⟩ = cs[i]? := cell_of_row w g i cs t (0, 0) h
theorem Box.frozen (h : Box w g t cs) (i : Nat) : w.frozen? ⟨g, i, none⟩ = false := by
  simp only [Box] at h; simp [World.frozen?, h]
theorem Box.made (w : World) (t : TypeId) (cs : Array Value) : Box (w.alloc (.cells cs t)) w.heap.size t cs := heap_alloc_new w _
theorem Box.draws (h : Box w g t cs) (n : Nat) : Box (w.drewN n) g t cs := h
theorem Box.alloc (h : Box w g t cs) (o : Obj) : Box (w.alloc o) g t cs := (Below.heap_alloc w o g h.lt).trans h
theorem Box.put (h : Box w g t cs) (i : Nat) (u : Value) : Box (w.setCell ⟨g, i, none⟩ u) g t (cs.setIfInBounds i u) := by
  simp only [Box] at h ⊢; simp [World.setCell, Array.getElem?_modify, h]
theorem Box.off (h : Box w g t cs) {p : Addr} (hp : g ≠ p.block) (u : Value) : Box (w.setCell p u) g t cs := (Below.heap_setCell w p u g hp).trans h
theorem Box.below {B : Nat} (h : Box w g t cs) (hb : Below B w w') (hg : g < B) : Box w' g t cs := (hb.block g hg).trans h
theorem Box.new (h : Box w g t cs) (hb : New w w') : Box w' g t cs := (hb.block g h.lt).trans h
theorem Box.grown {row : Option Nat} (h : Box w g t cs) (hb : w.grownBy w' row) (hg : some g ≠ row) : Box w' g t cs := (hb.block g h.lt hg).trans h

theorem New.refl (w : World) : New w w := Below.refl _ _
theorem New.trans {a b c : World} (h : New a b) (k : New b c) : New a c := Below.trans h (Below.mono k h.size)
theorem New.draws (h : New a w) (n : Nat) : New a (w.drewN n) := ⟨h.os, h.tape, h.output, h.size, h.block⟩
theorem New.drew (h : New a w) : New a w.drew := ⟨h.os, h.tape, h.output, h.size, h.block⟩
theorem New.alloc (h : New a w) (o : Obj) : New a (w.alloc o) := Below.alloc h h.size o
theorem New.setCell (h : New a w) {p : Addr} (hp : a.heap.size ≤ p.block) (u : Value) : New a (w.setCell p u) := Below.setCell h hp u
theorem New.grown (h : New a w) {row : Option Nat} (hg : w.grownBy w' row) (hr : ∀ k, row = some k → a.heap.size ≤ k) : New a w' := Below.grown h hg h.size hr
theorem New.cell (h : New w w') {p : Addr} (hp : p.block < w.heap.size) : w'.cell? p = w.cell? p := Below.cell h hp
theorem New.lt (h : New w w') : w.heap.size ≤ w'.heap.size := h.size

theorem own_ne_box {base : Nat} {e : TypeId} {size n : Nat} {v : Value} {xs : List Value} (h : w.ownsRow base e size v n xs) (hg : g < base) : v.ownBlock ≠ some g := by
  intro he
  have := (h.lt g he).1
  omega
theorem own_new {base : Nat} {e : TypeId} {size n : Nat} {v : Value} {xs : List Value} (h : w.ownsRow base e size v n xs) (hn : New w w') : w'.ownsRow base e size v n xs := by
  refine h.kept (row := none) ⟨hn.os, hn.tape, hn.output, hn.size, fun k hk _ => hn.block k hk⟩ ?_
  cases hv : v.ownBlock with
  | none => exact .inl rfl
  | some k => exact .inr (by simp)
theorem own_off {base : Nat} {e : TypeId} {size n : Nat} {v : Value} {xs : List Value} (h : w.ownsRow base e size v n xs) {p : Addr} (hp : v.ownBlock ≠ some p.block) (u : Value) : (w.setCell p u).ownsRow base e size v n xs := by
  obtain ⟨h1, h2⟩ := h
  refine ⟨h1, ?_⟩
  rcases h2 with h2 | ⟨g, cap, cur, hv, hg, hh, r⟩
  · exact .inl h2
  · refine .inr ⟨g, cap, cur, hv, hg, ?_, r⟩
    rw [Below.heap_setCell _ _ _ _ (by rintro rfl; exact hp (by rw [hv]; rfl))]
    exact hh
/-- what is owned reads as its cells -/
theorem own_slice {base : Nat} {e : TypeId} {size n : Nat} {v : Value} {xs : List Value} (h : w.ownsRow base e size v n xs) :
    ∃ ad cap, v = .slice ad n cap ∧ n ≤ cap ∧ (0 < n → ∃ g, ad = some ⟨g, 0, none⟩ ∧ base ≤ g ∧ g < w.heap.size ∧ ∀ j, j < n * size → w.cell? ⟨g, j, none⟩ = xs[j]?) := by
  have h' := h
  rcases h with ⟨h1, ⟨rfl, rfl⟩ | ⟨g, cap, cur, rfl, hg, hh, hn, r⟩⟩
  · exact ⟨none, 0, rfl, Nat.le_refl _, fun h => absurd h (by omega)⟩
  · refine ⟨_, cap, rfl, hn, fun _ => ⟨g, rfl, hg, ?_, fun j hj => h'.cellAt j hj⟩⟩
    exact (Array.getElem?_eq_some_iff.1 hh).1
theorem own_len {base : Nat} {e : TypeId} {size n : Nat} {v : Value} {xs : List Value} (h : w.ownsRow base e size v n xs) : n ≤ 9223372036854775807 := by
  rcases h.2 with ⟨_, rfl⟩ | ⟨g, cap, cur, _, _, _, hn, hc, _⟩
  · omega
  · simp only [maxLen] at hc; omega
end

theorem news1 (w : World) (x : Value) (t : TypeId) : ∀ (j : Nat) u, [x][j]? = some u → (w.alloc (.cells #[x] t)).cell? ((⟨w.heap.size, 0, none⟩ : Addr).add j) = some u := by
  intro j u hj
  match j, hj with
  | 0, hj => simp at hj; subst hj; exact (Box.made w t #[x]).cell 0
theorem news2 (w : World) (x y : Value) (t : TypeId) : ∀ (j : Nat) u, [x, y][j]? = some u → (w.alloc (.cells #[x, y] t)).cell? ((⟨w.heap.size, 0, none⟩ : Addr).add j) = some u := by
  intro j u hj
  match j, hj with
  | 0, hj => simp at hj; subst hj; exact (Box.made w t #[x, y]).cell 0
  | 1, hj => simp at hj; subst hj; exact (Box.made w t #[x, y]).cell 1
theorem ones2 (k : IntKind) (a b : Int) : ∀ u ∈ [Value.int k a, Value.int k b], u.oneCell' = true := by
  intro u hu; simp at hu; rcases hu with rfl | rfl <;> rfl
theorem ones1 (k : IntKind) (a : Int) : ∀ u ∈ [Value.int k a], u.oneCell' = true := by
  intro u hu; simp at hu; rcases hu with rfl; rfl
theorem grown_own {a w w' : World} {e : TypeId} {size n : Nat} {v : Value} {xs : List Value} (hn : New a w) (h : w.ownsRow a.heap.size e size v n xs) {o : Obj} (hg : (w.alloc o).grownBy w' v.ownBlock) : New a w' :=
  (hn.alloc o).grown hg fun k hk => (h.lt k hk).1
end Go.Proofs.Ytplaicdbcfnjbaa
/- Descriptors (api.Desc): trees of nodes of two numbers each; where one lies in memory. -/
namespace Go.Proofs.Ytplaicdbcfnjbaa
open Go.RowKit
set_option linter.unusedVariables false

def i64 (n : Int) : Prop := -9223372036854775808 ≤ n ∧ n ≤ 9223372036854775807
inductive DT where
  | mk : Int → Int → List DT → DT
def DT.k : DT → Int | .mk a _ _ => a
def DT.n : DT → Int | .mk _ b _ => b
def DT.kids : DT → List DT | .mk _ _ l => l
def DT.kid (t : DT) (i : Nat) : DT := t.kids.getD i (.mk 0 0 [])
/-- a node's three cells -/
structure D3 (w : World) (p : Addr) (t : DT) (A : Option Addr) (cap : Nat) : Prop where
  lt : p.block < w.heap.size
  c0 : w.cell? p = some (.int .i64 t.k)
  c1 : w.cell? ⟨p.block, p.off + 1, none⟩ = some (.int .i64 t.n)
  c2 : w.cell? ⟨p.block, p.off + 2, none⟩ = some (.slice A t.kids.length cap)
theorem D3.new {w w' : World} {p : Addr} {t : DT} {A : Option Addr} {cap : Nat} (h : D3 w p t A cap) (n : New w w') : D3 w' p t A cap :=
  ⟨Nat.lt_of_lt_of_le h.lt n.lt, (n.cell h.lt).trans h.c0, (n.cell (p := ⟨p.block, p.off + 1, none⟩) h.lt).trans h.c1, (n.cell (p := ⟨p.block, p.off + 2, none⟩) h.lt).trans h.c2⟩
/-- below a node whose kids are the slice at A lies the tree, f levels deep at most -/
def IsD (w : World) : Nat → DT → Option Addr → Nat → Prop
  | 0, _, _, _ => False
  | f + 1, t, A, cap => i64 t.k ∧ i64 t.n ∧ t.kids.length ≤ cap ∧ cap ≤ 9223372036854775807 ∧
    (0 < t.kids.length → ∃ ad : Addr, A = some ad ∧ ∀ i, i < t.kids.length → ∃ A' cap', D3 w (ad.add (i * 3)) (t.kid i) A' cap' ∧ IsD w f (t.kid i) A' cap')
theorem IsD.new {w w' : World} (n : New w w') : ∀ {f : Nat} {t : DT} {A : Option Addr} {cap : Nat}, IsD w f t A cap → IsD w' f t A cap
  | f + 1, t, A, cap, ⟨h1, h2, h3, h4, h5⟩ => ⟨h1, h2, h3, h4, fun h0 => by
    obtain ⟨ad, e, hk⟩ := h5 h0
    refine ⟨ad, e, fun i hi => ?_⟩
    obtain ⟨A', cap', d, r⟩ := hk i hi
    exact ⟨A', cap', d.new n, IsD.new n r⟩⟩
theorem IsD.more {w : World} : ∀ {f : Nat} {t : DT} {A : Option Addr} {cap : Nat}, IsD w f t A cap → IsD w (f + 1) t A cap
  | f + 1, t, A, cap, ⟨h1, h2, h3, h4, h5⟩ => ⟨h1, h2, h3, h4, fun h0 => by
    obtain ⟨ad, e, hk⟩ := h5 h0
    refine ⟨ad, e, fun i hi => ?_⟩
    obtain ⟨A', cap', d, r⟩ := hk i hi
    exact ⟨A', cap', d, IsD.more r⟩⟩
theorem IsD.le {w : World} {f g : Nat} {t : DT} {A : Option Addr} {cap : Nat} (h : IsD w f t A cap) (hg : f ≤ g) : IsD w g t A cap := by
  induction hg with
  | refl => exact h
  | step _ ih => exact IsD.more ih
def dagg (t : DT) (A : Option Addr) (cap : Nat) : Value := .agg #[.int .i64 t.k, .int .i64 t.n, .slice A t.kids.length cap]
def dcs (t : DT) (A : Option Addr) (cap : Nat) : Array Value := #[.int .i64 t.k, .int .i64 t.n, .slice A t.kids.length cap]
/-- how many nodes -/
def sumN (g : DT → Nat) (l : List DT) : Nat → Nat
  | 0 => 0
  | i + 1 => sumN g l i + g (l.getD i (.mk 0 0 []))
def nodes : Nat → DT → Nat
  | 0, _ => 0
  | f + 1, t => 1 + sumN (nodes f) t.kids t.kids.length
/-- the first that is not 0 -/
def or3 (a b c : Int) : Int := if a ≠ 0 then a else if b ≠ 0 then b else c
def cmpI (a b : Int) : Int := if a < b then -1 else if b < a then 1 else 0
/-- kid by kid -/
def cmpK (c : DT → DT → Int) (a b : List DT) : Nat → Int
  | 0 => 0
  | i + 1 => if cmpK c a b i ≠ 0 then cmpK c a b i else c (a.getD i (.mk 0 0 [])) (b.getD i (.mk 0 0 []))
def cmpD : Nat → DT → DT → Int
  | 0, _, _ => 0
  | f + 1, a, b => if or3 (cmpI a.k b.k) (cmpI a.n b.n) (cmpI a.kids.length b.kids.length) ≠ 0 then or3 (cmpI a.k b.k) (cmpI a.n b.n) (cmpI a.kids.length b.kids.length) else cmpK (cmpD f) a.kids b.kids a.kids.length
theorem cmpI_cases (a b : Int) : cmpI a b = -1 ∨ cmpI a b = 0 ∨ cmpI a b = 1 := by unfold cmpI; split; exact Or.inl rfl; split; exact Or.inr (Or.inr rfl); exact Or.inr (Or.inl rfl)
end Go.Proofs.Ytplaicdbcfnjbaa
/- The reference's List: as many nodes as there are; Much. -/
namespace Go.Proofs.Ytplaicdbcfnjbaa
open Go.RowKit
set_option linter.unusedVariables false

theorem info32 : (Try.prog.info? 32).map (fun i => (i.zero, i.size, i.bytes)) = some (some (.agg #[.int .i64 0, .int .i64 0, .slice none 0 0]), 3, 40) := by kernel_rfl
theorem own_one (w : World) (cs : Array Value) (hs : cs.size = 3) {base : Nat} (hb : base ≤ w.heap.size) : (w.alloc (.cells cs 32)).ownsRow base 32 3 (.slice (some ⟨w.heap.size, 0, none⟩) 1 1) 1 cs.toList :=
  ⟨by simp [hs], .inr ⟨w.heap.size, 1, cs, rfl, hb, heap_alloc_new w _, Nat.le_refl _, by unfold maxLen; omega, by rw [hs], by rw [Nat.one_mul, ← hs, ← Array.length_toList]; exact List.take_length⟩⟩
theorem sumN_le (g : DT → Nat) (l : List DT) {i j : Nat} (h : i ≤ j) : sumN g l i ≤ sumN g l j := by
  induction h with
  | refl => exact Nat.le_refl _
  | step _ ih => exact Nat.le_trans ih (Nat.le_add_right _ _)
theorem nodes_pos {w : World} {f : Nat} {t : DT} {A : Option Addr} {cap : Nat} (h : IsD w f t A cap) : 1 ≤ nodes f t := by
  match f, h with
  | f + 1, _ => unfold nodes; omega
theorem own_pos {w : World} {base : Nat} {e : TypeId} {n : Nat} {v : Value} {xs : List Value} (h : w.ownsRow base e 3 v n xs) (hn : 0 < n) :
    ∃ g cap, v = .slice (some ⟨g, 0, none⟩) n cap ∧ g < w.heap.size ∧ n * 3 ≤ xs.length ∧ ∀ j u, (xs.take (n * 3))[j]? = some u → w.cell? ⟨g, j, none⟩ = some u := by
  have hl := h.1
  obtain ⟨A, cap, rfl, h2, h3⟩ := own_slice h
  obtain ⟨g, rfl, _, h5, h6⟩ := h3 hn
  refine ⟨g, cap, rfl, h5, by omega, fun j u hj => ?_⟩
  rw [List.getElem?_take] at hj
  split at hj
  · rename_i hlt
    rw [h6 j hlt]; exact hj
  · cases hj
theorem own_less {W : World} {b b' : Nat} {e : TypeId} {size n : Nat} {v : Value} {xs : List Value} (h : W.ownsRow b' e size v n xs) (hb : b ≤ b') : W.ownsRow b e size v n xs := by
  refine ⟨h.1, ?_⟩
  rcases h.2 with h0 | ⟨g, cap, cur, hv, hg, r⟩
  · exact .inl h0
  · exact .inr ⟨g, cap, cur, hv, Nat.le_trans hb hg, r⟩
def Listed (f : Nat) (t : DT) (w : World) (e : Ending) (w' : World) : Prop :=
  ∃ v news, e = .returned v ∧ w'.ownsRow w.heap.size 32 3 v (nodes f t) news ∧ (∀ u ∈ news, u.oneCell' = true) ∧ New w w'
set_option maxRecDepth 100000 in
set_option maxHeartbeats 2000000 in
theorem list_any : ∀ (f : Nat) (t : DT) (A : Option Addr) (cap : Nat) (w : World), IsD w f t A cap → nodes f t ≤ 4000000 → Calls Try.prog 39 #[dagg t A cap] w (Listed f t w)
  | 0, _, _, _, _, h, _ => h.elim
  | f + 1, t, A, cap, w, hD, hn => by
    obtain ⟨i0, hi, hz0, hz1, hz2⟩ := info_parts info32
    have IH := Lib.hid (list_any f)
    obtain ⟨hk1, hk2, hc1, hc2, hkids⟩ := hD
    have HKD := Lib.hid hkids
    have hnn : nodes (f + 1) t = 1 + sumN (nodes f) t.kids t.kids.length := rfl
    have HN := Lib.hid (⟨hnn, hn⟩ : _ ∧ _)
    obtain ⟨L, hL⟩ : ∃ L, L = t.kids.length := ⟨_, rfl⟩
    have HLL := Lib.hid hL
    have HSL := Lib.hid (fun i (h : i ≤ L) => (by have := sumN_le (nodes f) t.kids (show i ≤ t.kids.length by omega); omega : sumN (nodes f) t.kids i ≤ 4000000))
    have hLb : L ≤ 9223372036854775807 := by omega
    unfold dagg
    rw [← hL]
    clear hkids hk1 hk2 hc1 hn hnn hL
    go_enter Try.func39, Try.ntmps39
    go_wp2_with fail
    go_loopg [3, 4] L (fun g s i wr => ∃ (k : Nat) (xs : List Value), k + g = L ∧ i = .int .i64 k ∧ wr.ownsRow (w.heap.size + 1) 32 3 s (1 + sumN (nodes f) t.kids k) xs ∧ (∀ u ∈ xs, u.oneCell' = true) ∧ Box wr w.heap.size 32 #[.int .i64 t.k, .int .i64 t.n, .slice A L cap] ∧ New w wr)
    case atStart =>
      exact ⟨0, _, by omega, rfl, by simpa [sumN] using own_one (w.alloc (.cells #[.int .i64 t.k, .int .i64 t.n, .slice A L cap] 32)) #[.int .i64 t.k, .int .i64 t.n, .slice A L cap] rfl (base := w.heap.size + 1) (by simp), by simp [Value.oneCell'], (Box.made w 32 _).alloc _, ((New.refl _).alloc _).alloc _⟩
    case round =>
      obtain ⟨k, xs, hk, rfl, own, one, bx, nw⟩ := hrel
      have b2 := bx.cell 2
      have lw := bx.lt
      simp only [List.getElem?_toArray, List.getElem?_cons_zero, List.getElem?_cons_succ] at b2
      by_cases hlt : k < L
      · obtain ⟨ad, rfl, hkd⟩ := HKD.out (by rw [← HLL.out]; omega)
        obtain ⟨A', cap', d, hD'⟩ := hkd k (by rw [← HLL.out]; omega)
        have d' := d.new nw
        have hDn := hD'.new nw
        obtain ⟨dl, d0, d1, d2⟩ := d'
        have hs : sumN (nodes f) t.kids (k + 1) = sumN (nodes f) t.kids k + nodes f (t.kid k) := rfl
        have hsl := HSL.out (k + 1) (by omega)
        have hp := nodes_pos hD'
        have C := Lib.hid (IH.out (t.kid k) A' cap' wr hDn (by omega))
        unfold dagg at C
        have OW := Lib.hid own
        have ON := Lib.hid one
        have HH := Lib.hid (⟨hkd, d, hD', hDn, hs⟩ : _ ∧ _ ∧ _ ∧ _ ∧ _)
        have hk3 : (k : Int) < (L : Int) := by omega
        have BX := Lib.hid bx
        clear hkd d hD' hDn own one bx
        have hsm : sumN (nodes f) t.kids k + nodes f (t.kid k) ≤ 4000000 := by omega
        clear hs hsl
        generalize t.kid k = kd at *
        generalize hnn : nodes f kd = nn at *
        generalize hss : sumN (nodes f) t.kids k = ss at *
        clear hss
        go_wp2_with (first | (go_at_call 39; refine C.out.mono ?_; rintro e w2 ⟨v2, news, rfl, o2, one2, n2⟩; rw [hnn] at o2; obtain ⟨g2, cap2, rfl, hg2, l2, c2⟩ := own_pos o2 (by omega); have OC := Lib.hid (⟨c2, one2⟩ : _ ∧ _); have OW2 := Lib.hid (own_new OW.out n2); have BX2 := Lib.hid (BX.out.new n2); have lw2 := n2.lt; have NW2 := Lib.hid (nw.trans n2); clear o2 one2 c2) | (at_builtin; refine wpList_append_own _ rfl _ _ 30 rfl (w.heap.size + 1) 32 i0 _ 3 40 Try.underlying30 hi hz0 hz1 hz2 rfl (by decide) _ _ _ rfl OW2.out ⟨g2, 0, none⟩ nn cap2 (news.take (nn * 3)) rfl (by simp; omega) (fun j u hj => by rw [Addr.add_mid, Nat.zero_add]; exact OC.out.1 j u hj) (fun u hu => OC.out.2 u (List.mem_of_mem_take hu)) (by unfold maxLen; omega) (by omega) (by omega) ?_))
        intro v' w3 own3 hgr _
        have hne : some w.heap.size ≠ Value.ownBlock _ := fun e => by have := (OW2.out.lt _ e.symm).1; omega
        have BX3 := Lib.hid (BX2.out.grown hgr hne)
        have NW3 : New w w3 := NW2.out.grown hgr (fun k e => by have := (OW2.out.lt _ e).1; omega)
        have ON3 : ∀ u ∈ xs ++ news.take (nn * 3), u.oneCell' = true := fun u hu => by
          rcases List.mem_append.1 hu with h | h
          · exact ON.out u h
          · exact OC.out.2 u (List.mem_of_mem_take h)
        have OO3 := Lib.hid own3
        clear own3 hgr hne
        go_wp2_with fail
        go_roundg (gk - 1)
        case rel => exact ⟨k + 1, _, by omega, by go_num, by rw [HH.out.2.2.2.2, ← Nat.add_assoc]; exact OO3.out, ON3, BX3.out, NW3⟩
        case measure => omega
      · have hke : k = L := by omega
        subst hke
        have OW := Lib.hid own
        clear own bx
        go_wp2_with fail
        go_ret
        refine ⟨_, xs, rfl, ?_, one, nw⟩
        rw [HN.out.1, ← HLL.out]
        exact own_less OW.out (Nat.le_succ _)
set_option maxHeartbeats 1000000 in
theorem much_any (f : Nat) (t : DT) (A : Option Addr) (cap : Nat) (w : World) (hD : IsD w f t A cap) (hn : nodes f t ≤ 4000000) : Calls Try.prog 22 #[dagg t A cap] w fun e w' => e = .returned (.bool (decide (80 < nodes f t))) ∧ New w w' := by
  have C := Lib.hid (list_any f t A cap _ (hD.new ((New.refl w).alloc (.cells (dcs t A cap) 32))) hn)
  unfold dagg dcs at *
  have hh : decide ((80 : Int) < ((nodes f t : Nat) : Int)) = decide (80 < nodes f t) := by
    by_cases h : 80 < nodes f t
    · rw [decide_eq_true h, decide_eq_true (by omega)]
    · rw [decide_eq_false h, decide_eq_false (by omega)]
  rw [← hh]
  clear hh hD
  go_enter Try.func22, Try.ntmps22
  go_wp2_with (first | (go_at_call 39; refine C.out.mono ?_; rintro e w2 ⟨v2, news, rfl, o2, one2, n2⟩; obtain ⟨A2, cap2, rfl, -, -⟩ := own_slice o2; have N2 := Lib.hid n2; clear o2 one2 n2))
  go_ret
  exact ⟨rfl, ((New.refl w).alloc _).trans N2.out⟩
end Go.Proofs.Ytplaicdbcfnjbaa
