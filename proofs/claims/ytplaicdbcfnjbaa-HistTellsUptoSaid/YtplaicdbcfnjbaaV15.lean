/- A copy of a call is the same call. -/
import Derived.Test.YtplaicdbcfnjbaaV12
import Derived.Test.YtplaicdbcfnjbaaV14
import Derived.Maps.AppendAt
import Derived.Shelf.SlSortCmp.Insertion
import Derived.Sort.LotA
set_option linter.unusedSimpArgs false
set_option linter.unusedVariables false
namespace Go.Proofs.Ytplaicdbcfnjbaa
open Go.RowKit
set_option linter.unusedVariables false
theorem sameD_self (f : Nat) (d : DT) : sameD f d d = true := by unfold sameD; rw [cmpD_self]; rfl
theorem eqR_self (n : Nat) (x : Nat → Nat) : eqR n n x x = true := eqR_yes fun _ _ => rfl
theorem alikeT_self (f : Nat) (a : TD) : alikeT f a a = true := by unfold alikeT; simp [sameD_self, eqR_self]
/-- p is o at other addresses -/
def Cpy (o p : OD) : Prop := ∃ X cx A ca Y cy, p = o.at X cx A ca Y cy
theorem Cpy.refl (o : OD) : Cpy o o := ⟨o.X, o.cx, o.A, o.ca, o.Y, o.cy, rfl⟩
theorem Cpy.same {o p : OD} (h : Cpy o p) (f : Nat) : oneO f o p = true ∧ oneO f p o = true := by
  obtain ⟨X, cx, A, ca, Y, cy, rfl⟩ := h
  constructor <;> simp [oneO, OD.at, eq2, eqR_self, alikeT_self]
theorem Cpy.cut {o p : OD} (h : Cpy o p) (t : Int) : Cpy (cutO t o) (cutO t p) := by
  obtain ⟨X, cx, A, ca, Y, cy, rfl⟩ := h
  have e : cutE t (o.at X cx A ca Y cy) = cutE t o := rfl
  unfold cutO
  rw [e]
  split
  · exact ⟨X, cx, none, 0, none, 0, rfl⟩
  · exact ⟨X, cx, A, ca, Y, cy, rfl⟩
end Go.Proofs.Ytplaicdbcfnjbaa
/- Calls that avoid some blocks. -/
namespace Go.Proofs.Ytplaicdbcfnjbaa
open Go.RowKit
set_option linter.unusedVariables false
/-- as IsOA; an address that nothing is read at may lie anywhere -/
structure IsOB (P : Nat → Prop) (w : World) (f : Nat) (o : OD) : Prop where
  d : IsDA P w f o.td.d o.A o.ca
  y : ReadsF w .u64 o.Y o.td.ny o.td.y
  x : ReadsF w .u64 o.X o.nx o.x
  yb : 0 < o.td.ny → ∀ ad, o.Y = some ad → ¬ P ad.block
  xb : 0 < o.nx → ∀ ad, o.X = some ad → ¬ P ad.block
theorem IsOA.b {P : Nat → Prop} {w : World} {f : Nat} {o : OD} (h : IsOA P w f o) : IsOB P w f o := ⟨h.d, h.y, h.x, fun _ => h.yb, fun _ => h.xb⟩
theorem IsOB.isO {P : Nat → Prop} {w : World} {f : Nat} {o : OD} (h : IsOB P w f o) : IsO w f o := ⟨⟨h.d.isD, h.y⟩, h.x⟩
theorem reads_keepB {P : Nat → Prop} {w w' : World} {k : IntKind} {A : Option Addr} {n : Nat} {f : Nat → Nat} (hs : w.heap.size ≤ w'.heap.size) (hk : ∀ b, ¬ P b → b < w.heap.size → w'.heap[b]? = w.heap[b]?) (hX : 0 < n → ∀ ad, A = some ad → ¬ P ad.block) (h : ReadsF w k A n f) : ReadsF w' k A n f := by
  refine ⟨h.1, fun h0 => ?_⟩
  obtain ⟨g, e2, h5, h6⟩ := h.2 h0
  refine ⟨g, e2, by omega, fun j hj => ?_⟩
  rw [← h6 j hj]
  simp only [World.cell?]
  rw [add_blk, hk _ (hX h0 g e2) h5]
theorem IsOB.keep {P Q : Nat → Prop} {w w' : World} (hs : w.heap.size ≤ w'.heap.size) (hk : ∀ b, ¬ P b → b < w.heap.size → w'.heap[b]? = w.heap[b]?) (hQ : ∀ b, b < w.heap.size → Q b → P b) {f : Nat} {o : OD} (h : IsOB P w f o) : IsOB Q w' f o := by
  refine ⟨h.d.keep hs hk hQ, reads_keepB hs hk h.yb h.y, reads_keepB hs hk h.xb h.x, fun h0 ad e hq => ?_, fun h0 ad e hq => ?_⟩
  · obtain ⟨ad', e', hl, _⟩ := h.y.2 h0
    obtain rfl : ad' = ad := by rw [e] at e'; exact (Option.some.inj e').symm
    exact h.yb h0 _ e (hQ _ hl hq)
  · obtain ⟨ad', e', hl, _⟩ := h.x.2 h0
    obtain rfl : ad' = ad := by rw [e] at e'; exact (Option.some.inj e').symm
    exact h.xb h0 _ e (hQ _ hl hq)
theorem IsOB.opened {P : Nat → Prop} {w : World} {f : Nat} {o : OD} (h : IsOB P w f o) : IsOB P w f o.open := by
  refine ⟨?_, ⟨Nat.zero_le _, fun (h : 0 < 0) => absurd h (by decide)⟩, h.x, fun (h0 : 0 < 0) => absurd h0 (by decide), h.xb⟩
  cases f with
  | zero => exact h.d.elim
  | succ f => exact ⟨(show i64 0 from ⟨by decide, by decide⟩), (show i64 0 from ⟨by decide, by decide⟩), Nat.zero_le _, Nat.zero_le _, fun (h0 : 0 < 0) => absurd h0 (by decide)⟩
theorem IsOB.cut {P : Nat → Prop} {w : World} {f : Nat} {o : OD} (h : IsOB P w f o) (t : Int) : IsOB P w f (cutO t o) := by
  unfold cutO
  split
  · exact h.opened
  · exact h
end Go.Proofs.Ytplaicdbcfnjbaa
/- Small laws on rows of copied calls: what one store into a box changes; what an append to the row keeps. -/
namespace Go.Proofs.Ytplaicdbcfnjbaa
open Go.RowKit
set_option linter.unusedVariables false
set_option maxRecDepth 100000
/-- block g alone has changed -/
structure Off (g : Nat) (w w' : World) : Prop where
  os : w'.os = w.os
  tape : w'.tape = w.tape
  output : w'.output = w.output
  size : w'.heap.size = w.heap.size
  block : ∀ b, b ≠ g → w'.heap[b]? = w.heap[b]?
theorem Off.refl (g : Nat) (w : World) : Off g w w := ⟨rfl, rfl, rfl, rfl, fun _ _ => rfl⟩
theorem Off.trans {g : Nat} {a b c : World} (h : Off g a b) (k : Off g b c) : Off g a c :=
  ⟨k.os.trans h.os, k.tape.trans h.tape, k.output.trans h.output, k.size.trans h.size, fun x hx => (k.block x hx).trans (h.block x hx)⟩
theorem Off.cell (w : World) (g i : Nat) (u : Value) : Off g w (w.setCell ⟨g, i, none⟩ u) :=
  ⟨rfl, rfl, rfl, by simp, fun b hb => Below.heap_setCell _ _ _ _ hb⟩
theorem Off.row (w : World) (g : Nat) (cs : Array Value) : Off g w (w.setRow g cs) :=
  ⟨rfl, rfl, rfl, by simp, fun b hb => setRow_other _ _ _ _ hb⟩
theorem Off.new {g : Nat} {w0 w w' : World} (h : Off g w w') (n : New w0 w) (hg : w0.heap.size ≤ g) : New w0 w' :=
  ⟨h.os.trans n.os, h.tape.trans n.tape, h.output.trans n.output, by rw [h.size]; exact n.size, fun b hb => (h.block b (by omega)).trans (n.block b hb)⟩
theorem Off.isOB {g : Nat} {w w' : World} {P : Nat → Prop} {f : Nat} {o : OD} (h : Off g w w') (k : IsOB P w f o) (hg : P g) : IsOB P w' f o :=
  k.keep (Nat.le_of_eq h.size.symm) (fun b hb _ => h.block b (fun e => hb (e ▸ hg))) (fun _ _ hq => hq)
theorem off_blank (w : World) (g : Nat) : Off g w ((((((((w.setCell ⟨g, 9, none⟩ (.int .i64 0)).setCell ⟨g, 10, none⟩ (.int .i64 0)).setCell ⟨g, 11, none⟩ (.int .i64 0)).setCell ⟨g, 12, none⟩ (.slice none 0 0)).setCell ⟨g, 13, none⟩ (.int .i64 0)).setCell ⟨g, 14, none⟩ (.int .i64 0)).setCell ⟨g, 15, none⟩ (.string ByteArray.empty)).setCell ⟨g, 16, none⟩ (.slice none 0 0)) :=
  (((((((Off.cell w g 9 (.int .i64 0)).trans (Off.cell _ g 10 (.int .i64 0))).trans (Off.cell _ g 11 (.int .i64 0))).trans (Off.cell _ g 12 (.slice none 0 0))).trans (Off.cell _ g 13 (.int .i64 0))).trans (Off.cell _ g 14 (.int .i64 0))).trans (Off.cell _ g 15 (.string ByteArray.empty))).trans (Off.cell _ g 16 (.slice none 0 0))
theorem wpl_blank2 {ops : Array Oper} {rest : List Oper} {op : Oper} {a : Act} {w : World} {Q : Exit → Act → World → Prop} {q : OD} (hgd : op.guard = none) (x y : Operand) (g : Nat) (ho : op.op = .store 34 x y)
    (hx : a.eval x = .pointer (some ⟨g, 9, none⟩)) (hy : a.eval y = .agg #[.int .i64 0, .int .i64 0, .int .i64 0, .slice none 0 0, .int .i64 0, .int .i64 0, .string ByteArray.empty, .slice none 0 0]) (hb : Box w g 36 (ocs q))
    (h : ∀ w', Box w' g 36 (ocs q.blank) → Off g w w' → wpList Try.prog ops Q rest (a.put op.dst undef) w') : wpList Try.prog ops Q (op :: rest) a w := by
  refine wpList_store_mid hgd 34 x y ho g 9 #[.int .i64 0, .int .i64 0, .int .i64 0, .slice none 0 0, .int .i64 0, .int .i64 0, .string ByteArray.empty, .slice none 0 0] hx hy (fun j hj => ⟨?_, hb.frozen _⟩) size34 (by simp [Value.oneCell']) ?_
  · rw [hb.cell, Array.getElem?_eq_getElem (by rw [(ocs_op q).1]; have : j < 8 := hj; omega)]; rfl
  · exact h ((((((((w.setCell ⟨g, 9, none⟩ (.int .i64 0)).setCell ⟨g, 10, none⟩ (.int .i64 0)).setCell ⟨g, 11, none⟩ (.int .i64 0)).setCell ⟨g, 12, none⟩ (.slice none 0 0)).setCell ⟨g, 13, none⟩ (.int .i64 0)).setCell ⟨g, 14, none⟩ (.int .i64 0)).setCell ⟨g, 15, none⟩ (.string ByteArray.empty)).setCell ⟨g, 16, none⟩ (.slice none 0 0)) (box_blank hb) (off_blank w g)
/-- a call's row is laid into a box of its own -/
theorem wpl_box {ops : Array Oper} {rest : List Oper} {o : Oper} {a : Act} {w : World} {Q : Exit → Act → World → Prop} {x y : Operand} {g : Nat} {c c' : Array Value}
    (hgd : o.guard = none) (hd : o.dst = none) (ho : o.op = .store 36 x y) (hx : a.eval x = .pointer (some ⟨g, 0, none⟩)) (hy : a.eval y = .agg c') (hb : Box w g 36 c) (hc : c.size = 19) (hc' : IsOp c')
    (h : ∀ w', Box w' g 36 c' → Off g w w' → wpList Try.prog ops Q rest a w') : wpList Try.prog ops Q (o :: rest) a w :=
  wpList_store_rowTo hgd 36 x y ho hd g c' hx hy 36 c hb (by rw [size36, hc'.1]) (by rw [hc, hc'.1]) hc'.2 (h _ (setRow_heap _ _ _ _ _ _ hb) (Off.row w g c'))
/-- an append to a row of calls; where its block then lies -/
theorem wpl_puta {ops : Array Oper} {rest : List Oper} {o : Oper} {a : Act} {w : World} {Q : Exit → Act → World → Prop} (hgd : o.guard = none) (s x : Operand)
    (ho : o.op = .call { callee := .builtin .append, args := #[s, x], argTypes := #[38, 38] }) (v : Value) (l : List OD) (base : Nat) (p : OD) (ad : Addr)
    (hs : a.eval s = v) (hown : OwnO w base v l) (hx : a.eval x = .slice (some ad) 1 1) (hp : OpAt w ad (ocs p)) (hl : l.length ≤ 4000000) (hb : base ≤ w.heap.size)
    (h : ∀ v' w', OwnO w' base v' (l ++ [p]) → w.grownBy w' v.ownBlock → (v'.ownBlock = v.ownBlock ∨ v'.ownBlock = some w.heap.size) → wpList Try.prog ops Q rest (a.put o.dst v') w') : wpList Try.prog ops Q (o :: rest) a w := by
  obtain ⟨i0, hi, hz0, hz1, hz2⟩ := info36a
  refine wpList_append_own_at _ hgd s x 38 ho base 36 i0 _ 19 216 Try.underlying38 hi hz0 hz1 hz2 rfl (by decide) v _ _ hs hown ad 1 1 (ocs p).toList hx (by rw [Array.length_toList, (ocs_op p).1]) (fun j u hu => hp.2.2 j u (by simpa using hu)) (fun u hu => (Array.all_eq_true_iff_forall_mem.1 (ocs_op p).2) u (by simpa using hu)) (by unfold maxLen; omega) (by omega) hb (fun v' w' h2 h3 _ h4 => h v' w' ?_ h3 h4)
  unfold OwnO
  rw [rcells_snoc, List.length_append, List.length_singleton]
  exact h2
/-- the block of a row that is owned -/
def inOwn (v : Value) (b : Nat) : Prop := v.ownBlock = some b
/-- rows of copied calls: none of them reaches into the row's own block -/
def Apart (w : World) (f : Nat) (v : Value) (xs : List OD) : Prop := ∀ x ∈ xs, IsOB (inOwn v) w f x
theorem Apart.put {base f N : Nat} {xs : List OD} {p : OD} {v v' : Value} {wr wX w3 : World} (hds : Apart wr f v xs) (n : New wr wX) (g : IsOB (fun b => b < N) wX f p) (hN : wr.heap.size ≤ N)
    (hg : wX.grownBy w3 v.ownBlock) (ow : OwnO wr base v xs) (hat : v'.ownBlock = v.ownBlock ∨ v'.ownBlock = some wX.heap.size) : Apart w3 f v' (xs ++ [p]) := by
  have hsz : wr.heap.size ≤ wX.heap.size := n.lt
  have hlo : ∀ b, v.ownBlock = some b → b < wr.heap.size := fun b e => (ow.lt b e).2
  intro x hx
  rcases List.mem_append.1 hx with hx | hx
  · refine (hds x hx).keep (Nat.le_trans hsz hg.size) (fun b hb hbl => ?_) (fun b hb hy => ?_)
    · rw [hg.block b (by omega) (fun e => hb e.symm)]
      exact n.block b hbl
    · rcases hat with e | e
      · show v.ownBlock = some b
        rw [← e]; exact hy
      · exfalso
        have : some b = some wX.heap.size := hy.symm.trans e
        have := Option.some.inj this
        omega
  · rw [List.mem_singleton] at hx
    subst hx
    refine g.keep hg.size (fun b hb hbl => hg.block b hbl (fun e => hb ?_)) (fun b hb hy => ?_)
    · have := hlo b e.symm
      show b < N
      omega
    · rcases hat with e | e
      · have := hlo b (by rw [← e]; exact hy)
        show b < N
        omega
      · exfalso
        have : some b = some wX.heap.size := hy.symm.trans e
        have := Option.some.inj this
        omega
/-- each is the other one's at other addresses -/
inductive CpyL : List OD → List OD → Prop
  | nil : CpyL [] []
  | cons {a b : OD} {r s : List OD} (h : Cpy a b) (k : CpyL r s) : CpyL (a :: r) (b :: s)
theorem CpyL.len {a b : List OD} (h : CpyL a b) : a.length = b.length := by
  induction h with
  | nil => rfl
  | cons _ _ ih => simp [ih]
theorem CpyL.snoc {x y : OD} (hxy : Cpy x y) {a b : List OD} (h : CpyL a b) : CpyL (a ++ [x]) (b ++ [y]) := by
  induction h with
  | nil => exact .cons hxy .nil
  | cons h _ ih => exact .cons h ih
end Go.Proofs.Ytplaicdbcfnjbaa
/- Cut: the program's own. -/
namespace Go.Proofs.Ytplaicdbcfnjbaa
open Go.RowKit
set_option linter.unusedVariables false
theorem Cpy.e {o p : OD} (h : Cpy o p) : p.e = o.e ∧ p.s = o.s := by
  obtain ⟨X, cx, A, ca, Y, cy, rfl⟩ := h
  exact ⟨rfl, rfl⟩
def CutDone (f n : Nat) (o : Nat → OD) (t : Int) (w : World) (e : Ending) (w' : World) : Prop :=
  ∃ v xs, e = .returned v ∧ OwnO w' w.heap.size v xs ∧ CpyL (cutL t o n) xs ∧ Apart w' f v xs ∧ New w w'
attribute [local irreducible] Go.wpList
set_option maxRecDepth 100000 in
set_option maxHeartbeats 1000000 in
theorem cut_any (f n : Nat) (o : Nat → OD) (A : Option Addr) (cap : Nat) (t : Int) (w : World) (hA : RowO w f A n o) (hn : n ≤ 4000000) (hb : ∀ k, k < n → (o k).nx ≤ 4000000 ∧ (o k).td.ny ≤ 4000000 ∧ nodes f (o k).td.d ≤ 4000000) :
    Calls Try.prog 20 #[.slice A n cap, .int .i64 t] w (CutDone f n o t w) := by
  have HA := Lib.hid hA
  have HB := Lib.hid hb
  clear hA hb
  go_enter Try.func20, Try.ntmps20
  go_wp2_with fail
  go_loopg [10, 5] n (fun q i v wr => ∃ (k : Nat) (xs : List OD), k + q = n ∧ i = .int .i64 k ∧ OwnO wr w.heap.size v xs ∧ CpyL (cutL t o k) xs ∧ Apart wr f v xs ∧ New w wr)
  case atStart => exact ⟨0, [], by omega, rfl, ⟨rfl, Or.inl ⟨rfl, rfl⟩⟩, .nil, (fun x hx => absurd hx List.not_mem_nil), New.refl w⟩
  case round =>
    obtain ⟨k, l, hk, rfl, own, cp, ap, nw⟩ := hrel
    by_cases hkn : k < n
    · obtain ⟨ad, rfl, ca⟩ := HA.out.2.2 (by omega)
      have L1 := Lib.hid ((ca k hkn).new nw)
      have C1 := Lib.hid (fun w' (m : New w w') => hclone_any f (o k) w' ((HA.out.2.1 k hkn).new m) (HB.out k hkn).1 (HB.out k hkn).2.1 (HB.out k hkn).2.2)
      have hkn' : (k : Int) < n := by omega
      have I1 := Lib.hid (ocs_op (o k))
      have OW := Lib.hid own
      have NW := Lib.hid nw
      have CP := Lib.hid cp
      have AP := Lib.hid ap
      have hle : l.length ≤ 4000000 := by have := cutL_le t o k; have := cp.len; omega
      have HS := Lib.hid (show cutL t o (k + 1) = if t ≤ (o k).s then cutL t o k else cutL t o k ++ [cutO t (o k)] from rfl)
      have B1 := Lib.hid (Box.made wr 36 (ocs (o k)))
      have p17 : (wr.alloc (.cells (ocs (o k)) 36)).cell? ⟨wr.heap.size, 17, none⟩ = some (.int .i64 (o k).s) := B1.out.cell 17
      have N1 := Lib.hid ((New.refl wr).alloc (.cells (ocs (o k)) 36))
      have S1 := Lib.hid (show (wr.alloc (.cells (ocs (o k)) 36)).heap.size = wr.heap.size + 1 by simp)
      have L2 := Lib.hid (opat_box B1.out I1.out)
      generalize cutL t o k = l0 at *
      generalize hr : ocs (o k) = r at *
      clear ca own nw cp ap
      by_cases hs : t ≤ (o k).s
      · rw [if_pos hs] at HS
        go_wp2_with (first | (refine wpl_load rfl rfl L1.out rfl ?_) | (refine wpl_store rfl rfl rfl rfl I1.out rfl ?_))
        go_roundg (gk - 1)
        case rel => exact ⟨k + 1, l, by omega, by go_num, own_new OW.out N1.out, HS.out.symm ▸ CP.out, fun x hx => (AP.out x hx).keep N1.out.lt (fun b _ hb => N1.out.block b hb) (fun _ _ h => h), NW.out.trans N1.out⟩
        case measure => omega
      · rw [if_neg hs] at HS
        go_upto_region 7 with (first | (refine wpl_load rfl rfl L1.out rfl ?_; clear L1) | (have tk_ := I1; refine wpl_store rfl rfl rfl rfl I1.out rfl ?_; clear I1 tk_) | (refine wpl_load (x := .tmp 7) (p := ⟨wr.heap.size, 0, none⟩) (c := r) rfl rfl ?_ rfl ?_; · exact L2.out) | (go_at_call 34; refine (C1.out _ (NW.out.trans N1.out)).mono ?_; rintro e w1 ⟨X, cx, A2, ca, Y, cy, rfl, g1, m1⟩; have G1 := Lib.hid g1.b; have M1 := Lib.hid m1; clear g1 m1) | (refine wpl_box (x := .tmp 7) (y := .tmp 19) (g := wr.heap.size) (c := r) (c' := ocs ((o k).at X cx A2 ca Y cy)) rfl rfl rfl rfl rfl (B1.out.new M1.out) (by rw [← hr]; rfl) (ocs_op _) ?_; intro w4 b4 o4; have B4 := Lib.hid b4; have G4 := Lib.hid (o4.isOB G1.out (by show _ < _; rw [S1.out]; omega)); have N4 := Lib.hid (o4.new (N1.out.trans M1.out) (Nat.le_refl _)); rw [S1.out] at G4; clear b4 o4 G1 M1 p17 L2 B1))
        have hq : Cpy (o k) ((o k).at X cx A2 ca Y cy) := ⟨_, _, _, _, _, _, rfl⟩
        generalize (o k).at X cx A2 ca Y cy = q at *
        have L4 := Lib.hid (opat_box B4.out (ocs_op q))
        have p18 : w4.cell? ⟨wr.heap.size, 18, none⟩ = some (.int .i64 q.e) := B4.out.cell 18
        have f18 := B4.out.frozen 18
        have e9 := hq.e.1
        generalize hq' : ocs q = r9 at *
        rw [e9] at p18
        by_cases he : (o k).e = -1
        · have hc : cutO t q = q := if_neg (by simp [cutE, e9, he])
          have GQ : Hid (IsOB (fun b => b < wr.heap.size + 1) w4 f (cutO t q)) := Lib.hid (by rw [hc]; exact G4.out)
          have CQ := Lib.hid (hq.cut t)
          have L9 : Hid (OpAt w4 ⟨wr.heap.size, 0, none⟩ (ocs (cutO t q))) := Lib.hid (by rw [hc, hq']; exact L4.out)
          have N9 := N4
          rw [hc, hq'] at L9
          rw [hc] at GQ CQ
          go_wp2_with (first | (refine wpl_load (x := .tmp 7) (p := ⟨wr.heap.size, 0, none⟩) (c := r9) rfl rfl ?_ rfl ?_; · exact L9.out) | (refine wpl_rows (n := 1) (c := fun _ => r9) rfl rfl (by rw [Array.toList_map]; rfl) (by decide) (by decide) (fun _ => hq' ▸ ocs_op q) ?_; intro w2 m2 hp; have P2 := hp 0 (by decide); rw [Addr.add_mid] at P2; simp only [Nat.zero_mul, Nat.add_zero] at P2; clear hp) | (refine wpl_puta rfl (.tmp 32) (.tmp 34) rfl _ l w.heap.size q _ rfl (own_new (own_new OW.out N9.out) m2) rfl (hq'.symm ▸ P2) hle (by have := (NW.out.trans N9.out).lt; have := m2.lt; omega) ?_; intro v' w3 o3 hgr hat))
          go_roundg (gk - 1)
          case rel =>
            refine ⟨k + 1, l ++ [q], by omega, by go_num, o3, ?_, ?_, ((NW.out.trans N9.out).trans m2).grown hgr (fun b e => (OW.out.lt _ e).1)⟩
            · rw [HS.out]; exact (by rw [← hc] ; exact CP.out.snoc (hq.cut t))
            · exact AP.out.put (N9.out.trans m2) (GQ.out.keep m2.lt (fun b _ hb => m2.block b hb) (fun _ _ h => h)) (Nat.le_succ _) hgr OW.out hat
          case measure => omega
        · by_cases ht : t ≤ (o k).e
          · have hc : cutO t q = q.open := if_pos (by simp [cutE, e9, he, ht])
            have GQ : Hid (IsOB (fun b => b < wr.heap.size + 1) w4 f q.open) := Lib.hid (G4.out.opened)
            have CQ : Hid (Cpy (cutO t (o k)) q.open) := Lib.hid (by have := hq.cut t; rwa [hc] at this)
            obtain ⟨r8, h8⟩ : ∃ r8, ocs q.open = r8 := ⟨_, rfl⟩
            have BE : Hid (Box (w4.setCell ⟨wr.heap.size, 18, none⟩ (.int .i64 (-1))) wr.heap.size 36 (ocs q.ended)) := Lib.hid (by rw [← end_cells, hq']; exact B4.out.put 18 _)
            have OE := Lib.hid (Off.cell w4 wr.heap.size 18 (.int .i64 (-1)))
            go_wp2_with (first | (refine wpl_blank2 (q := q.ended) rfl (.tmp 31) (.tmp 29) wr.heap.size rfl rfl rfl BE.out ?_; intro w8 b8 o8; have O8 := Lib.hid (OE.out.trans o8); have L9 : Hid (OpAt w8 ⟨wr.heap.size, 0, none⟩ r8) := Lib.hid (by have q9 := opat_box b8 (ocs_op q.open); rw [← h8]; exact q9); have N9 := Lib.hid (O8.out.new N4.out (Nat.le_refl _)); have G9 := Lib.hid (O8.out.isOB GQ.out (Nat.lt_succ_self _)); clear b8 o8 BE OE p18 f18 L4 B4 G4) | (refine wpl_load (x := .tmp 7) (p := ⟨wr.heap.size, 0, none⟩) (c := r8) rfl rfl ?_ rfl ?_; · exact L9.out) | (refine wpl_rows (n := 1) (c := fun _ => r8) rfl rfl (by rw [Array.toList_map]; rfl) (by decide) (by decide) (fun _ => h8 ▸ ocs_op q.open) ?_; intro w2 m2 hp; have P2 := hp 0 (by decide); rw [Addr.add_mid] at P2; simp only [Nat.zero_mul, Nat.add_zero] at P2; clear hp) | (refine wpl_puta rfl (.tmp 32) (.tmp 34) rfl _ l w.heap.size q.open _ rfl (own_new (own_new OW.out N9.out) m2) rfl (h8.symm ▸ P2) hle (by have := (NW.out.trans N9.out).lt; have := m2.lt; omega) ?_; intro v' w3 o3 hgr hat))
            go_roundg (gk - 1)
            case rel =>
              refine ⟨k + 1, l ++ [q.open], by omega, by go_num, o3, ?_, ?_, ((NW.out.trans N9.out).trans m2).grown hgr (fun b e => (OW.out.lt _ e).1)⟩
              · rw [HS.out]; exact CP.out.snoc CQ.out
              · exact AP.out.put (N9.out.trans m2) (G9.out.keep m2.lt (fun b _ hb => m2.block b hb) (fun _ _ h => h)) (Nat.le_succ _) hgr OW.out hat
            case measure => omega
          · have hc : cutO t q = q := if_neg (by simp [cutE, e9, ht])
            have L9 := L4
            have N9 := N4
            go_wp2_with (first | (refine wpl_load (x := .tmp 7) (p := ⟨wr.heap.size, 0, none⟩) (c := r9) rfl rfl ?_ rfl ?_; · exact L9.out) | (refine wpl_rows (n := 1) (c := fun _ => r9) rfl rfl (by rw [Array.toList_map]; rfl) (by decide) (by decide) (fun _ => hq' ▸ ocs_op q) ?_; intro w2 m2 hp; have P2 := hp 0 (by decide); rw [Addr.add_mid] at P2; simp only [Nat.zero_mul, Nat.add_zero] at P2; clear hp) | (refine wpl_puta rfl (.tmp 32) (.tmp 34) rfl _ l w.heap.size q _ rfl (own_new (own_new OW.out N9.out) m2) rfl (hq'.symm ▸ P2) hle (by have := (NW.out.trans N9.out).lt; have := m2.lt; omega) ?_; intro v' w3 o3 hgr hat))
            go_roundg (gk - 1)
            case rel =>
              refine ⟨k + 1, l ++ [q], by omega, by go_num, o3, ?_, ?_, ((NW.out.trans N9.out).trans m2).grown hgr (fun b e => (OW.out.lt _ e).1)⟩
              · rw [HS.out]; exact (by rw [← hc] ; exact CP.out.snoc (hq.cut t))
              · exact AP.out.put (N9.out.trans m2) (G4.out.keep m2.lt (fun b _ hb => m2.block b hb) (fun _ _ h => h)) (Nat.le_succ _) hgr OW.out hat
            case measure => omega
    · have hkL : k = n := by omega
      subst hkL
      go_wp2
      go_ret
      exact ⟨_, l, rfl, own, cp, ap, nw⟩
end Go.Proofs.Ytplaicdbcfnjbaa
/- The stable order on places, and what Go's stable sort does to a row of places: plain, no program in sight. -/
namespace Go.Proofs.Ytplaicdbcfnjbaa
open Go.Sort
set_option linter.unusedVariables false
section
variable (s : Nat → Int)
/-- as cmp.Compare of the keys -/
def cfS (i j : Nat) : Int := if s i < s j then -1 else if s j < s i then 1 else 0
def ls (i j : Nat) : Bool := decide (s i < s j)
/-- by the key; the earlier place first among equals -/
def lx (i j : Nat) : Bool := decide (s i < s j) || (decide (s i = s j) && decide (i < j))
theorem lt_cfS (i j : Nat) : cfS s i j < 0 ↔ s i < s j := by
  unfold cfS
  split
  · simp [*]
  · split <;> simp [*]
theorem ltOf_cfS : ltOf (cfS s) = ls s := by
  funext i j
  unfold ltOf ls
  exact decide_eq_decide.2 (lt_cfS s i j)
variable {s}
theorem lx_iff {i j : Nat} : lx s i j = true ↔ s i < s j ∨ (s i = s j ∧ i < j) := by simp [lx]
theorem lx_not {i j : Nat} : lx s i j = false ↔ s j < s i ∨ (s i = s j ∧ j ≤ i) := by
  rw [← Bool.not_eq_true, lx_iff]
  omega
theorem ls_iff {i j : Nat} : ls s i j = true ↔ s i < s j := by simp [ls]
theorem ls_not {i j : Nat} : ls s i j = false ↔ s j ≤ s i := by simp [ls]
theorem lx_swo : SWO (lx s) where
  irrefl x := by rw [lx_not]; omega
  trans x y z h k := by rw [lx_iff] at *; omega
  ntrans x y z h k := by rw [lx_not] at *; omega
theorem lx_one (x y : Nat) (h : lx s x y = false) (k : lx s y x = false) : x = y := by rw [lx_not] at *; omega
theorem lx_asym {x y : Nat} (h : lx s x y = true) : lx s y x = false := by rw [lx_not]; rw [lx_iff] at h; omega
theorem lx_late {i j : Nat} (h : i < j) : lx s j i = ls s j i := by
  rw [Bool.eq_iff_iff, lx_iff, ls_iff]
  omega
theorem insInner_late {a : Nat} : ∀ (j : Nat) (d : Array Nat), j < d.size → (∀ k, a ≤ k → k < j → d[k]! < d[j]!) →
    insInner (ls s) a j d = insInner (lx s) a j d
  | 0, d, _, _ => rfl
  | j + 1, d, hj, h => by
    unfold insInner
    by_cases ha : a < j + 1
    · have e := lx_late (s := s) (h j (by omega) (by omega))
      rw [e]
      by_cases hl : ls s d[j + 1]! d[j]! = true
      · have hc : (decide (j + 1 > a) && ls s d[j + 1]! d[j]!) = true := by simp [hl, ha]
        rw [if_pos hc, if_pos hc]
        refine insInner_late j _ (by rw [size_swp]; omega) (fun k hk hkj => ?_)
        rw [swp_right _ _ _ (by omega), swp_other _ _ _ _ (by omega) (by omega)]
        exact h k hk (by omega)
      · simp [hl]
    · have : ¬ (j + 1 > a) := ha
      simp [this]
theorem insInner_all {lt : Nat → Nat → Bool} {a : Nat} (p : Nat → Prop) : ∀ (j : Nat) (d : Array Nat), j < d.size → (∀ k, a ≤ k → k ≤ j → p d[k]!) →
    (insInner lt a j d).size = d.size ∧ (∀ k, j < k → (insInner lt a j d)[k]! = d[k]!) ∧ ∀ k, a ≤ k → k ≤ j → p (insInner lt a j d)[k]!
  | 0, d, _, h => ⟨rfl, fun _ _ => rfl, h⟩
  | j + 1, d, hj, h => by
    unfold insInner
    split
    · rename_i hc
      have ha : a < j + 1 := by simp at hc; omega
      obtain ⟨h1, h2, h3⟩ := insInner_all (lt := lt) (a := a) p j (swp d (j + 1) j) (by rw [size_swp]; omega) (fun k hk hkj => by
        by_cases e : k = j
        · subst e; rw [swp_right _ _ _ (by omega)]; exact h _ (by omega) (by omega)
        · rw [swp_other _ _ _ _ (by omega) e]; exact h _ hk (by omega))
      refine ⟨by rw [h1, size_swp], fun k hk => ?_, fun k hk hkj => ?_⟩
      · rw [h2 k (by omega), swp_other _ _ _ _ (by omega) (by omega)]
      · by_cases e : k = j + 1
        · subst e; rw [h2 _ (by omega), swp_left _ _ _ hj (by omega)]; exact h j (by omega) (by omega)
        · exact h3 k hk (by omega)
    · exact ⟨rfl, fun _ _ => rfl, h⟩
theorem insOuter_late {a b : Nat} : ∀ (n i : Nat) (d : Array Nat), b - i = n → a < i → b ≤ d.size → (∀ k l, a ≤ k → k < i → i ≤ l → l < b → d[k]! < d[l]!) → (∀ k l, i ≤ k → k < l → l < b → d[k]! < d[l]!) →
    insOuter (ls s) a b i d = insOuter (lx s) a b i d
  | 0, i, d, hn, _, _, _, _ => by rw [insOuter_stop (ls s) a b i d (by omega), insOuter_stop (lx s) a b i d (by omega)]
  | n + 1, i, d, hn, hai, hb, h1, h2 => by
    rw [insOuter_go (ls s) a b i d (by omega), insOuter_go (lx s) a b i d (by omega)]
    rw [insInner_late i d (by omega) (fun k hk hki => h1 k i hk hki (Nat.le_refl _) (by omega))]
    obtain ⟨q1, q2, q3⟩ := insInner_all (lt := lx s) (a := a) (fun x => ∀ l, i + 1 ≤ l → l < b → x < d[l]!) i d (by omega) (fun k hk hki l hl hlb => by
      by_cases e : k = i
      · subst e; exact h2 k l (Nat.le_refl _) (by omega) hlb
      · exact h1 k l hk (by omega) (by omega) hlb)
    have hib : i < b := by omega
    have hq : ∀ k l, a ≤ k → k < i + 1 → i + 1 ≤ l → l < b → (insInner (lx s) a i d)[k]! < (insInner (lx s) a i d)[l]! := fun k l hk hki hl hlb => by
      rw [q2 l (by omega)]
      exact q3 k hk (by omega) l hl hlb
    refine insOuter_late n (i + 1) _ (by omega) (by omega) (by rw [q1]; exact hb) hq (fun k l hk hkl hlb => ?_)
    rw [q2 l (by omega), q2 k (by omega)]
    exact h2 k l (by omega) hkl hlb
/-- an insertion sort of places that ascend goes by the stable order -/
theorem ins_stable (d : Array Nat) (a b : Nat) (hab : a ≤ b) (hb : b ≤ d.size) (h : ∀ i j, a ≤ i → i < j → j < b → d[i]! < d[j]!) :
    PermIn a b d (insertionSort (ltOf (cfS s)) d a b) ∧ SortedIn (lx s) a b (insertionSort (ltOf (cfS s)) d a b) := by
  rw [ltOf_cfS]
  unfold insertionSort
  rw [insOuter_late (b - (a + 1)) (a + 1) d rfl (by omega) hb (fun k l hk hki hl hlb => h k l hk (by omega) hlb) (fun k l hk hkl hlb => h k l (by omega) hkl hlb)]
  exact insertionSort_holds lx_swo d a b hab hb
/-- two runs of places, exchanged place by place -/
structure Swd (d : Array Nat) (a b n : Nat) (d' : Array Nat) : Prop where
  perm : PermIn a (b + n) d d'
  left : ∀ t, t < n → d'[a + t]! = d[b + t]!
  right : ∀ t, t < n → d'[b + t]! = d[a + t]!
  off : ∀ k, (k < a ∨ a + n ≤ k) → (k < b ∨ b + n ≤ k) → d'[k]! = d[k]!
theorem Swd.start (d : Array Nat) (a b : Nat) : Swd d a b 0 d := ⟨permIn_refl _ _ _, fun t h => absurd h (by omega), fun t h => absurd h (by omega), fun _ _ _ => rfl⟩
theorem Swd.step {d dk : Array Nat} {a b i : Nat} (h : Swd d a b i dk) (hd : a + (i + 1) ≤ b) (hb : b + (i + 1) ≤ d.size) : Swd d a b (i + 1) (swp dk (a + i) (b + i)) := by
  have hs : dk.size = d.size := h.perm.1
  refine ⟨permIn_trans _ _ _ _ _ (permIn_mono _ _ _ _ _ _ (Nat.le_refl _) (by omega) hb h.perm) (swp_permIn dk a (b + (i + 1)) (a + i) (b + i) (by omega) (by omega) (by omega) (by omega) (by rw [hs]; exact hb)), fun t ht => ?_, fun t ht => ?_, fun k h1 h2 => ?_⟩
  · by_cases e : t = i
    · subst e
      rw [swp_left _ _ _ (by omega) (by omega)]
      exact h.off _ (by omega) (by omega)
    · rw [swp_other _ _ _ _ (by omega) (by omega)]
      exact h.left t (by omega)
  · by_cases e : t = i
    · subst e
      rw [swp_right _ _ _ (by omega)]
      exact h.off _ (by omega) (by omega)
    · rw [swp_other _ _ _ _ (by omega) (by omega)]
      exact h.right t (by omega)
  · rw [swp_other _ _ _ _ (by omega) (by omega)]
    exact h.off k (by omega) (by omega)
/-- the p places from a on and the q places behind them have changed places -/
structure Rot (d : Array Nat) (a p q : Nat) (d' : Array Nat) : Prop where
  perm : PermIn a (a + p + q) d d'
  fst : ∀ t, t < q → d'[a + t]! = d[a + p + t]!
  snd : ∀ t, t < p → d'[a + q + t]! = d[a + t]!
  off : ∀ k, (k < a ∨ a + p + q ≤ k) → d'[k]! = d[k]!
theorem Rot.none {d : Array Nat} {a p q : Nat} (h : p = 0 ∨ q = 0) : Rot d a p q d := by
  rcases h with rfl | rfl
  · exact ⟨permIn_refl _ _ _, fun t _ => rfl, fun t h => absurd h (by omega), fun _ _ => rfl⟩
  · exact ⟨permIn_refl _ _ _, fun t h => absurd h (by omega), fun t _ => rfl, fun _ _ => rfl⟩
theorem Rot.last {d d' : Array Nat} {a p : Nat} (h : Swd d a (a + p) p d') : Rot d a p p d' :=
  ⟨h.perm, h.left, h.right, fun k hk => h.off k (by omega) (by omega)⟩
/-- more on the left than on the right: the right run goes to the left's head -/
theorem Rot.left {d d1 d' : Array Nat} {a p q : Nat} (hz : a + (p + q) + q ≤ d.size) (h : Swd d a (a + (p + q)) q d1) (r : Rot d1 (a + q) p q d') : Rot d a (p + q) q d' := by
  have hs : d1.size = d.size := h.perm.1
  have r1 := r.perm
  rw [show a + q + p + q = a + (p + q) + q by omega] at r1
  refine ⟨permIn_trans _ _ _ _ _ h.perm (permIn_mono _ _ _ _ _ _ (by omega) (Nat.le_refl _) (by omega) r1), fun t ht => ?_, fun t ht => ?_, fun k hk => ?_⟩
  · rw [r.off _ (by omega)]
    exact h.left t ht
  · by_cases c : t < q
    · rw [r.fst t c, show a + q + p + t = a + (p + q) + t by omega]
      exact h.right t c
    · obtain ⟨u, rfl⟩ : ∃ u, t = q + u := ⟨t - q, by omega⟩
      rw [show a + q + (q + u) = a + q + q + u by omega, r.snd u (by omega), h.off _ (by omega) (by omega)]
      congr 1; omega
  · rw [r.off k (by omega)]
    exact h.off k (by omega) (by omega)
/-- more on the right: the left run goes to the right's end -/
theorem Rot.right {d d1 d' : Array Nat} {a p q : Nat} (hz : a + p + (p + q) ≤ d.size) (h : Swd d a (a + p + q) p d1) (r : Rot d1 a p q d') : Rot d a p (p + q) d' := by
  have hs : d1.size = d.size := h.perm.1
  have h1 := h.perm
  rw [show a + p + q + p = a + p + (p + q) by omega] at h1
  refine ⟨permIn_trans _ _ _ _ _ h1 (permIn_mono _ _ _ _ _ _ (Nat.le_refl _) (by omega) (by omega) r.perm), fun t ht => ?_, fun t ht => ?_, fun k hk => ?_⟩
  · by_cases c : t < q
    · rw [r.fst t c]
      exact h.off _ (by omega) (by omega)
    · obtain ⟨u, rfl⟩ : ∃ u, t = q + u := ⟨t - q, by omega⟩
      rw [show a + (q + u) = a + q + u by omega, r.snd u (by omega), h.left u (by omega)]
      congr 1; omega
  · rw [r.off _ (by omega), show a + (p + q) + t = a + p + q + t by omega]
    exact h.right t ht
  · rw [r.off k (by omega)]
    exact h.off k (by omega) (by omega)
end
end Go.Proofs.Ytplaicdbcfnjbaa
