/- Maps that count: what a map from keys to numbers holds when each key of a list has been counted. No walk. -/
import Derived.Test.YtplaicdbcfnjbaaV19
import Derived.Maps.Own
import Derived.Maps.OwnOps
import Derived.Maps.OwnSet
import Derived.Maps.RangeWalk
import Derived.DeepKeys4
import Derived.WideKeyEntry
import Derived.WideKeyPair
import Derived.Test.YtplaicdbcfnjbaaProg
import Derived.Test.YtplaicdbcfnjbaaV18
import Derived.Shelf.SlIterI.Sorted
import Derived.Shelf.SlIterI.Keys
import Derived.CallsIn
set_option linter.unusedSimpArgs false
set_option linter.unusedVariables false
namespace Go.Proofs.Ytplaicdbcfnjbaa
open Go.RowKit Go.Maps
set_option linter.unusedVariables false
set_option maxRecDepth 100000
theorem zero3 (w : World) : (zeroValue 3).run Try.prog w = .ok (.int .i64 0) w := by kernel_rfl
theorem wf_of_i64 {x : Int} (h : i64 x) : (Lit.int .i64 x).wf = true := by
  unfold i64 at h
  simp [Lit.wf, IntKind.min, IntKind.max, IntKind.signed, IntKind.bits]
  omega
theorem own_map_new {H : Type} {w w' : World} {P : Program} {k : TypeId} {R : Value → Option (DataW H × List MemPlace)} {b n : Nat} {D : DataW H} (h : w.ownsMap P k R b n D) (hn : New w w') : w'.ownsMap P k R b n D :=
  h.kept (row := none) ⟨hn.os, hn.tape, hn.output, hn.size, fun k hk _ => hn.block k hk⟩ (by simp)
/-- how keys are told -/
structure KeyKit (k : TypeId) {α : Type} (κ : α → Value) (lam : α → Lit) (ok : α → Prop) : Prop where
  K : Keyed Try.prog k
  key : ∀ x, ok x → keyOf Try.prog k (κ x) = some (lam x)
  inj : ∀ x y, ok x → ok y → lam x = lam y → x = y
theorem kit3 : KeyKit 3 (Value.int .i64) (Lit.int .i64) i64 :=
  ⟨int_keyed Try.underlying3, fun x h => keyOf_int_mk Try.underlying3 (wf_of_i64 h), fun x y _ _ h => by injection h⟩
theorem laidOut : laidOutB Try.prog = true := by kernel_rfl
theorem row23 : (23 : TypeId) < Try.prog.types.size := of_decide_eq_true (by kernel_rfl)
theorem wide23 : (match Try.prog.underlying 23 with | some (.array _ _) | some (.struct _) => true | _ => false) = true := by rw [Try.underlying23]
theorem keyed23 : Keyed Try.prog 23 := Keyed.of_law (deep_law_laid laidOut (m := 2) (by omega) row23 (by kernel_rfl) wide23)
def pv (r : Int × Int) : Value := .agg #[.int .i64 r.1, .int .i64 r.2]
def pl (r : Int × Int) : Lit := .string (keyBytes [.int .i64 r.1, .int .i64 r.2])
def pok (r : Int × Int) : Prop := i64 r.1 ∧ i64 r.2
theorem cells23 : Try.prog.cellsOf 23 = 2 := by kernel_rfl
theorem cells3 : Try.prog.cellsOf 3 = 1 := by kernel_rfl
theorem deep23 : Try.prog.keyType 23 = true := by kernel_rfl
theorem size1 : ∃ m, Try.prog.types.size = m + 1 := ⟨Try.prog.types.size - 1, (Nat.succ_pred_eq_of_pos (Nat.lt_of_le_of_lt (Nat.zero_le _) row23)).symm⟩
theorem lits23 (m : Nat) (a b : Int) (w1 : (Lit.int .i64 a).wf = true) (w2 : (Lit.int .i64 b).wf = true) : Try.prog.keyLits (m + 1 + 1) 23 [.int .i64 a, .int .i64 b] = some [.int .i64 a, .int .i64 b] := by
  unfold Program.keyLits
  simp only [Try.underlying23]
  rw [if_pos ⟨by rw [cells23]; rfl, by simp⟩]
  simp only [List.mapM_cons, List.mapM_nil, List.drop, cells3, List.take]
  unfold Program.keyLits
  simp only [Try.underlying3]
  simp [w1, w2]
theorem key23 (r : Int × Int) (h : pok r) : keyOf Try.prog 23 (pv r) = some (pl r) := by
  obtain ⟨h1, h2⟩ := h
  have w1 := wf_of_i64 h1
  have w2 := wf_of_i64 h2
  unfold keyOf
  simp only [Try.underlying23]
  obtain ⟨m, hm⟩ := size1
  have hf : (pv r).formed Try.prog 23 = true := by
    unfold Value.formed pv
    simp only [Try.underlying23, cells23]
    rfl
  rw [if_pos (by rw [deep23, hf]; rfl), hm]
  show (Option.map _ (Try.prog.keyLits (m + 1 + 1) 23 [.int .i64 r.1, .int .i64 r.2])) = _
  rw [lits23 m _ _ w1 w2]
  rfl
theorem kit23 : KeyKit 23 pv pl pok :=
  ⟨keyed23, key23, fun x y hx hy h => by
    have h1 := key23 x hx
    have h2 := key23 y hy
    rw [h] at h1
    have := keyed23.inj h1 h2
    simp [pv] at this
    exact Prod.ext this.1 this.2⟩
section
variable {k : TypeId} {α : Type} [DecidableEq α] {κ : α → Value} {lam : α → Lit} {ok : α → Prop} (KK : KeyKit k κ lam ok)
/-- block b is a map of at most n entries that counts the keys of L -/
def CM (k : TypeId) (lam : α → Lit) (ok : α → Prop) (w : World) (b n : Nat) (L : List α) : Prop :=
  ∃ D : DataW Unit, w.ownsMap Try.prog k (plainElem Try.prog 3) b n D ∧ (∀ x, ok x → D.atKey (lam x) (.lit (.int .i64 0)) = .lit (.int .i64 (L.count x : Nat))) ∧ (∀ kl, Maps.has D kl = true ↔ ∃ x ∈ L, kl = lam x) ∧ ∀ x ∈ L, ok x
theorem CM.made (w : World) : CM k lam ok (w.alloc (.map #[] 0)) w.heap.size 0 ([] : List α) :=
  ⟨.map [], World.ownsMap_made _ _ _ _, fun e _ => rfl, fun kl => by simp [Maps.has], fun x hx => absurd hx List.not_mem_nil⟩
theorem CM.new {w w' : World} {b n : Nat} {L : List α} (h : CM k lam ok w b n L) (hn : New w w') : CM k lam ok w' b n L := by
  obtain ⟨D, h1, h2⟩ := h
  exact ⟨D, own_map_new h1 hn, h2⟩
theorem CM.lt {w : World} {b n : Nat} {L : List α} (h : CM k lam ok w b n L) : b < w.heap.size := by
  obtain ⟨D, h1, h2⟩ := h
  exact h1.lt
include KK
theorem CM.look {t : TypeId} (ht : Try.prog.underlying t = some (.map k 3)) {w : World} {b n : Nat} {L : List α} (h : CM k lam ok w b n L) {x : α} (hx : ok x) :
    (Instr.lookup t (.map (some b)) (κ x) false).run Try.prog w = .ok (.int .i64 (L.count x : Nat)) w := by
  obtain ⟨D, h1, h2, h3⟩ := h
  obtain ⟨c, hrun, hat, hw⟩ := h1.lookup_int KK.K ht Try.underlying3 (zero3 w) (KK.key x hx)
  rw [h2 x hx] at hat
  injection hat with hat
  injection hat with _ hat
  rw [hrun, hat]
theorem CM.step {w w' : World} {b n : Nat} {L : List α} {D : DataW Unit} {x : α} (hx : ok x) (h1 : w.ownsMap Try.prog k (plainElem Try.prog 3) b n D)
    (h2 : ∀ x, ok x → D.atKey (lam x) (.lit (.int .i64 0)) = .lit (.int .i64 (L.count x : Nat))) (h3 : ∀ kl, Maps.has D kl = true ↔ ∃ x ∈ L, kl = lam x) (h4 : ∀ x ∈ L, ok x)
    (h : w'.ownsMap Try.prog k (plainElem Try.prog 3) b (n + 1) (D.put (lam x) (.lit (.int .i64 ((L.count x + 1 : Nat) : Int))))) : CM k lam ok w' b (n + 1) (L ++ [x]) := by
  have td := h1.tidy KK.K
  have hl := KK.K.key (KK.key x hx)
  refine ⟨_, h, fun y hy => ?_, fun kl => ?_, fun y hy => ?_⟩
  · by_cases e : y = x
    · subst e
      rw [atKey_put_same td.isMap hl, List.count_append, List.count_cons_self, List.count_nil]
    · rw [atKey_put_other (fun e2 => e (KK.inj y x hy hx e2)), h2 y hy, List.count_append, List.count_cons_of_ne (fun e2 => e e2.symm), List.count_nil, Nat.add_zero]
  · by_cases e : kl = lam x
    · subst e
      rw [has_put_same td.isMap hl]
      simp
    · rw [has_put_other e, h3]
      constructor
      · rintro ⟨y, hy, e2⟩; exact ⟨y, List.mem_append_left _ hy, e2⟩
      · rintro ⟨y, hy, e2⟩
        rcases List.mem_append.1 hy with hy | hy
        · exact ⟨y, hy, e2⟩
        · rw [List.mem_singleton] at hy; subst hy; exact absurd e2 e
  · rcases List.mem_append.1 hy with hy | hy
    · exact h4 y hy
    · rw [List.mem_singleton] at hy; subst hy; exact hx
/-- the map is ranged over: what is left to come; what has come stood once -/
def CR (k : TypeId) (lam : α → Lit) (w : World) (b r n : Nat) (L : List α) (cnt : Nat) : Prop :=
  ∃ (D : DataW Unit) (left : Lit → Bool), w.ranges Try.prog k (plainElem Try.prog 3) b r n D left cnt ∧ (∀ x ∈ L, D.atKey (lam x) (.lit (.int .i64 0)) = .lit (.int .i64 (L.count x : Nat))) ∧ (∀ kl, left kl = true → ∃ x ∈ L, kl = lam x) ∧ ∀ x ∈ L, left (lam x) = false → L.count x ≤ 1
theorem wpl_range {t : TypeId} (ht : Try.prog.underlying t = some (.map k 3)) {ops : Array Oper} {rest : List Oper} {o : Oper} {a : Act} {w : World} {Q : Exit → Act → World → Prop} {m : Operand} {b n : Nat} {L : List α} (hg : o.guard = none) (hop : o.op = .range t m)
    (hm : a.eval m = .map (some b)) (hM : CM k lam ok w b n L)
    (hK : ∀ w' cnt, CR k lam w' b w.heap.size n L cnt → New w w' → wpList Try.prog ops Q rest (a.put o.dst (.pointer (some ⟨w.heap.size, 0, none⟩))) w') : wpList Try.prog ops Q (o :: rest) a w := by
  obtain ⟨D, h1, h2, h3, h4⟩ := hM
  exact wpList_range_own w hg m t hop k 3 KK.K ht _ b n D hm h1 fun w' r1 g1 s1 => hK w' _ ⟨D, _, r1, fun x hx => h2 x (h4 x hx), fun kl hkl => (h3 kl).1 hkl, fun x hx hf => by rw [(h3 (lam x)).2 ⟨x, hx, rfl⟩] at hf; cases hf⟩ ⟨g1.os, g1.tape, g1.output, g1.size, fun b hb => g1.block b hb (by simp)⟩
theorem wpl_next {ops : Array Oper} {rest : List Oper} {o : Oper} {a : Act} {w : World} {Q : Exit → Act → World → Prop} {it : Operand} {b r n cnt : Nat} {L : List α} (hg : o.guard = none) (hop : o.op = .next it false)
    (hit : a.eval it = .pointer (some ⟨r, 0, none⟩)) (hM : CR k lam w b r n L cnt)
    (h0 : L.Nodup → wpList Try.prog ops Q rest (a.put o.dst (.tuple #[.bool false])) w)
    (h1 : ∀ (key : Value) (c : Int) (w' : World) (cnt' : Nat), (1 < c → ¬ L.Nodup) → (c ≤ 1 → CR k lam w' b r n L cnt') → cnt' < cnt → w.grownBy w' (some r) → (Instr.entry (.pointer (some ⟨r, 0, none⟩))).run Try.prog w' = .ok (.tuple #[key, .int .i64 c]) w' →
      wpList Try.prog ops Q rest (a.put o.dst (.tuple #[.bool true, key, .int .i64 c])) w') : wpList Try.prog ops Q (o :: rest) a w := by
  obtain ⟨D, left, r1, r2, r3, r4⟩ := hM
  refine wpList_next_ranges w hg it hop k KK.K _ (fun v : Value => v) (Value.int .i64) (fun key kl _ => ⟨key, rfl⟩) (fun v y hv => by obtain ⟨c, rfl, _⟩ := plainElem_int_inv Try.underlying3 hv; exact ⟨c, rfl⟩) b r n D left cnt hit r1 (fun _ hl => h0 ?_) (fun key c kl y w' cnt' hkey hlk hv hat hrg hlt hgr hsz hen => ?_)
  · rw [List.nodup_iff_count]
    intro x
    by_cases hx : x ∈ L
    · exact r4 x hx (hl _)
    · rw [List.count_eq_zero_of_not_mem hx]; omega
  · obtain ⟨x, hx, rfl⟩ := r3 kl hlk
    obtain ⟨c', ec, ey, hwc⟩ := plainElem_int_inv Try.underlying3 hv
    cases ec
    have hc := r2 x hx
    rw [hat, ey] at hc
    injection hc with hc
    injection hc with _ hc
    refine h1 key c w' cnt' (fun h hn => ?_) (fun h => ⟨D, _, hrg, r2, fun z hz => r3 z (by simp at hz; exact hz.1), fun z hz hf => ?_⟩) hlt hgr hen
    · have := (List.nodup_iff_count.1 hn) x
      omega
    · cases hlz : left (lam z)
      · exact r4 z hz hlz
      · simp only [hlz, Bool.true_and, Bool.not_eq_false'] at hf
        have e := WideAt.sameKey_eq hf
        have := r2 z hz
        rw [e, hat, ey] at this
        injection this with this
        injection this with _ this
        omega
end
end Go.Proofs.Ytplaicdbcfnjbaa
/- The keys of the map of calls, sorted: the shelf's contracts, laid at this program. -/
namespace Go.Proofs.Ytplaicdbcfnjbaa
open Go.Shelf Go.RowKit Go.Lib Go.Sort Go.Maps
set_option linter.unusedVariables false
def keyRen : Go.Shelf.Ren := ⟨fun | 6 => 42 | 7 => 43 | 8 => 53 | 9 => 54 | 10 => 55 | 11 => 62 | n => n, fun | 3 => 38 | 23 => 68 | 24 => 55 | 26 => 3 | 27 => 70 | 28 => 71 | 33 => 76 | n => n, fun | n => n⟩
theorem keysLay : SlLaysZI.n7 Try.prog keyRen := {
  mixed := by kernel_rfl
  f7 := ⟨Try.f43.name, by decide, Try.func43.trans (congrArg some (by kernel_rfl))⟩
  f10 := ⟨Try.f55.name, by decide, Try.func55.trans (congrArg some (by kernel_rfl))⟩
  t0 := Try.underlying0
  a0 := Try.isAgg0
  z0 := Try.sizeOf0
  v0 := Try.zeroValue0
  t4 := Try.underlying4
  a4 := Try.isAgg4
  z4 := Try.sizeOf4
  v4 := Try.zeroValue4
  t23 := Try.underlying68
  a23 := Try.isAgg68
  z23 := Try.sizeOf68
  v23 := Try.zeroValue68
  t26 := Try.underlying3
  a26 := Try.isAgg3
  z26 := Try.sizeOf3
  v26 := Try.zeroValue3
  t27 := Try.underlying70
  a27 := Try.isAgg70
  z27 := Try.sizeOf70
  v27 := Try.zeroValue70
  t28 := Try.underlying71
  a28 := Try.isAgg71
  z28 := Try.sizeOf71
  v28 := Try.zeroValue71
  t33 := Try.underlying76
  a33 := Try.isAgg76
  z33 := Try.sizeOf76
  v33 := Try.zeroValue76 }
theorem sortedLay : SlLaysZI.n6 Try.prog keyRen := {
  mixed := by kernel_rfl
  f6 := ⟨Try.f42.name, by decide, Try.func42.trans (congrArg some (by kernel_rfl))⟩
  f8 := ⟨Try.f53.name, by decide, Try.func53.trans (congrArg some (by kernel_rfl))⟩
  f11 := ⟨Try.f62.name, by decide, Try.func62.trans (congrArg some (by kernel_rfl))⟩
  t0 := Try.underlying0
  a0 := Try.isAgg0
  z0 := Try.sizeOf0
  v0 := Try.zeroValue0
  t24 := Try.underlying55
  a24 := Try.isAgg55
  z24 := Try.sizeOf55
  v24 := Try.zeroValue55
  t26 := Try.underlying3
  a26 := Try.isAgg3
  z26 := Try.sizeOf3
  v26 := Try.zeroValue3
  t28 := Try.underlying71
  a28 := Try.isAgg71
  z28 := Try.sizeOf71
  v28 := Try.zeroValue71
  i26 := by kernel_rfl }
theorem sortsIn (m : Nat) : AnyZI.SortsIn Try.prog keyRen Fence.wide m :=
  ⟨fun blk off cap ss W hH hblk hsz => callsIn_wide.2 (Try.slices_Sort_int blk off cap ss W hH hblk hsz), fun p cap W => callsIn_wide.2 (Try.slices_Sort_int_none p cap W)⟩
theorem keys43 (b : Nat) (W : World) : Calls Try.prog 43 #[.map (some b)] W fun e w' => e = .returned (.func (.func 55) #[] #[.pointer (some ⟨W.heap.size, 0, none⟩)]) ∧ w' = W.alloc (.cells #[.map (some b)] 68) := by
  refine (callsIn_wide (n := 6)).1 ?_
  exact AnyZI.keys_in keysLay Fence.wide 6 trivial rfl (some b) W
theorem sorted42 {H : Type} {R : Value → Option (DataW H × List MemPlace)} (b nn : Nat) (D0 : DataW H) (w : World) (hown : w.ownsMap Try.prog 3 R b nn D0) (hmax : Maps.size D0 ≤ maxLen) (hbytes : Maps.size D0 * 8 ≤ 140737488355328) :
    Calls Try.prog 42 #[.func (.func 55) #[] #[.pointer (some ⟨w.heap.size, 0, none⟩)]] (w.alloc (.cells #[.map (some b)] 68)) fun e w' => ∃ (v : Value) (ss : List Int), e = .returned v ∧ ss.Perm (intKeys D0) ∧ OwnI w' (w.heap.size + 1) v ss ∧ New (w.alloc (.cells #[.map (some b)] 68)) w' := by
  refine (callsIn_wide (n := 6)).1 ?_
  have hbl := hown.lt
  have hseq : SeqGives Fence.wide 3 Try.prog 55 #[.pointer (some ⟨w.heap.size, 0, none⟩)] encZ (fun ss => ss.Perm (intKeys D0)) (Maps.size D0) (w.alloc (.cells #[.map (some b)] 68)) :=
    AnyZI.keys_gives (ρ := keyRen) { keysLay with } Fence.wide _ trivial rfl (by omega) w.heap.size b nn D0 _ (by simp) (by simp) (by
      obtain ⟨es, clock, hb, Ft, hs, hD⟩ := hown
      exact ⟨es, clock, (RowKit.Below.heap_alloc _ _ b hbl).trans hb, Ft, hs, hD⟩)
  have cS := AnyZI.sorted_in sortedLay Fence.wide 6 trivial trivial trivial trivial rfl (by omega) (sortsIn _) (enters_of Try.func54 (by kernel_rfl) rfl) 55 #[.pointer (some ⟨w.heap.size, 0, none⟩)] trivial (enters_of Try.func55 (by kernel_rfl) rfl) _ _ hmax hbytes _ hseq
  refine cS.mono ?_
  rintro e w' ⟨v, ss, rfl, hS, hrow, hnil, hb⟩
  refine ⟨v, ss.mergeSort (fun x y => decide (x ≤ y)), rfl, (List.mergeSort_perm _ _).trans hS, ?_, hb⟩
  have e1 : (ss.mergeSort (fun x y => decide (x ≤ y))).length = ss.length := List.length_mergeSort ss
  unfold OwnI
  rw [e1]
  have e2 : (w.alloc (.cells #[.map (some b)] 68)).heap.size = w.heap.size + 1 := by simp
  rw [e2] at hrow
  exact hrow
end Go.Proofs.Ytplaicdbcfnjbaa
/- A map from clients to rows of calls that the call makes: its laws. No walk. -/
namespace Go.Proofs.Ytplaicdbcfnjbaa
open Go.RowKit Go.Maps
set_option linter.unusedVariables false
set_option maxRecDepth 100000
/-- the head of an owned row: none, or its block, how many, room -/
abbrev Sv := Option (Nat × Nat × Nat)
def svV : Sv → Value
  | none => .slice none 0 0
  | some (g, n, c) => .slice (some ⟨g, 0, none⟩) n c
def svE : Sv → DataW Unit
  | none => .agg []
  | some (g, n, c) => .agg [.lit (.int .i64 (g : Nat)), .lit (.int .i64 (n : Nat)), .lit (.int .i64 (c : Nat))]
def svElem (v : Value) : Option (DataW Unit × List MemPlace) :=
  match v with
  | .slice none 0 0 => some (svE none, [])
  | .slice (some ⟨g, 0, none⟩) n c => some (svE (some (g, n, c)), [])
  | _ => none
theorem svElem_mk (s : Sv) : svElem (svV s) = some (svE s, []) := by
  match s with
  | none => rfl
  | some (g, n, c) => rfl
theorem svE_inj {s t : Sv} (h : svE s = svE t) : s = t := by
  match s, t, h with
  | none, none, _ => rfl
  | none, some (g, n, c), h => simp [svE] at h
  | some (g, n, c), none, h => simp [svE] at h
  | some (g, n, c), some (g', n', c'), h =>
    simp [svE] at h
    obtain ⟨h1, h2, h3⟩ := h
    rw [show g = g' by omega, show n = n' by omega, show c = c' by omega]
theorem svElem_inv {v : Value} {s : Sv} {ps : List MemPlace} (h : svElem v = some (svE s, ps)) : v = svV s := by
  unfold svElem at h
  split at h
  · simp only [Option.some.injEq, Prod.mk.injEq] at h
    rw [← svE_inj h.1]
    rfl
  · simp only [Option.some.injEq, Prod.mk.injEq] at h
    rw [← svE_inj h.1]
    rfl
  · cases h
theorem zero38 (w : World) : (zeroValue 38).run Try.prog w = .ok (svV none) w := by kernel_rfl
theorem OwnO.sv {w : World} {base : Nat} {v : Value} {l : List OD} (h : OwnO w base v l) : ∃ s, v = svV s ∧ (l ≠ [] → s ≠ none) := by
  rcases h.2 with ⟨e, e0⟩ | ⟨g, cap, cur, hv, _⟩
  · exact ⟨none, e, fun hn => absurd (List.eq_nil_of_length_eq_zero e0) hn⟩
  · exact ⟨some (g, l.length, cap), hv, fun _ e => by cases e⟩
theorem lit_ne3 {x e : Int} (h : x ≠ e) : (Lit.int .i64 x) ≠ .int .i64 e := fun e2 => h (by injection e2)
/-- block b is a map of at most n entries: at each client the head of a row -/
def MO (w : World) (b n : Nat) (h : Int → Sv) : Prop :=
  ∃ D : DataW Unit, w.ownsMap Try.prog 3 svElem b n D ∧ (∀ e : Int, D.atKey (.int .i64 e) (svE none) = svE (h e)) ∧ (∀ e : Int, Maps.has D (.int .i64 e) = (h e).isSome) ∧ Maps.size D ≤ n ∧ ∀ e, h e ≠ none → i64 e
theorem MO.made (w : World) : MO (w.alloc (.map #[] 0)) w.heap.size 0 (fun _ => none) :=
  ⟨.map [], World.ownsMap_made _ _ _ _, fun e => rfl, fun e => rfl, Nat.le_refl _, fun e h => absurd rfl h⟩
theorem MO.new {w w' : World} {b n : Nat} {h : Int → Sv} (k : MO w b n h) (hn : New w w') : MO w' b n h := by
  obtain ⟨D, h1, h2⟩ := k
  exact ⟨D, own_map_new h1 hn, h2⟩
theorem MO.grown {w w' : World} {b n : Nat} {row : Option Nat} {h : Int → Sv} (k : MO w b n h) (hg : w.grownBy w' row) (hr : row ≠ some b) : MO w' b n h := by
  obtain ⟨D, h1, h2⟩ := k
  exact ⟨D, h1.kept hg (fun e => hr e.symm), h2⟩
theorem MO.lt {w : World} {b n : Nat} {h : Int → Sv} (k : MO w b n h) : b < w.heap.size := by
  obtain ⟨D, h1, h2⟩ := k
  exact h1.lt
theorem MO.look {w : World} {b n : Nat} {h : Int → Sv} (k : MO w b n h) {e : Int} (he : i64 e) : (Instr.lookup 68 (.map (some b)) (.int .i64 e) false).run Try.prog w = .ok (svV (h e)) w := by
  obtain ⟨D, h1, h2, h3, h4, h5⟩ := k
  obtain ⟨v, ps, hrun, hv⟩ := h1.lookup kit3.K Try.underlying68 (zero38 w) (svElem_mk none) (kit3.key e he)
  rw [h2] at hv
  rw [hrun, svElem_inv hv]
theorem MO.put {w : World} {b n : Nat} {h : Int → Sv} (k : MO w b n h) {e : Int} (he : i64 e) (hn : n < maxLen) {s : Sv} (hs : s ≠ none) :
    ∃ w', (Instr.mapUpdate 68 (.map (some b)) (.int .i64 e) (svV s)).run Try.prog w = .ok () w' ∧ MO w' b (n + 1) (fun x => if x = e then s else h x) ∧ w.grownBy w' (some b) := by
  obtain ⟨D, h1, h2, h3, h4, h5⟩ := k
  obtain ⟨w', hrun, hown, hg⟩ := h1.update kit3.K Try.underlying68 hn (kit3.key e he) (svElem_mk s)
  have td := h1.tidy kit3.K
  refine ⟨w', hrun, ⟨_, hown, fun x => ?_, fun x => ?_, ?_, fun x hx => ?_⟩, hg⟩
  · by_cases hx : x = e
    · subst hx; dsimp only; rw [if_pos rfl, atKey_put_same td.isMap (show WideAt.IsKeyLit (Lit.int .i64 x) from trivial)]
    · dsimp only; rw [if_neg hx, atKey_put_other (lit_ne3 hx), h2]
  · by_cases hx : x = e
    · subst hx
      rw [has_put_same td.isMap (show WideAt.IsKeyLit (Lit.int .i64 x) from trivial)]
      cases s with
      | none => exact absurd rfl hs
      | some s => simp
    · rw [has_put_other (lit_ne3 hx), h3]; simp [hx]
  · rw [size_put td]
    split <;> omega
  · by_cases e2 : x = e
    · subst e2; exact he
    · dsimp only at hx; rw [if_neg e2] at hx; exact h5 x hx
theorem MO.key {w : World} {b n : Nat} {h : Int → Sv} (k : MO w b n h) {e : Int} (he : h e ≠ none) : i64 e := by
  obtain ⟨D, h1, h2, h3, h4, h5⟩ := k
  exact h5 e he
/-- the rows: each client has its own calls; no two share a block -/
structure MRows (w : World) (base : Nat) (h : Int → Sv) (c : Int → List OD) : Prop where
  own : ∀ e, OwnO w base (svV (h e)) (c e)
  full : ∀ e, h e ≠ none → c e ≠ []
  apart : ∀ e e' g, (svV (h e)).ownBlock = some g → (svV (h e')).ownBlock = some g → e = e'
theorem MRows.new {w w' : World} {base : Nat} {h : Int → Sv} {c : Int → List OD} (H : MRows w base h c) (n : New w w') : MRows w' base h c := ⟨fun e => own_new (H.own e) n, H.full, H.apart⟩
theorem MRows.zero (w : World) (base : Nat) : MRows w base (fun _ => none) (fun _ => []) := ⟨fun _ => World.ownsRow_nil _ _ _ _, fun e h => absurd rfl h, fun e e' g h => by cases h⟩
theorem MRows.step {w2 w3 w4 : World} {base b : Nat} {who : Int} {h : Int → Sv} {c c' : Int → List OD} {s' : Sv} {p : OD} (H : MRows w2 base h c) (hb : b < base) (g3 : w2.grownBy w3 (svV (h who)).ownBlock)
    (o3 : OwnO w3 base (svV s') (c who ++ [p])) (hat : (svV s').ownBlock = (svV (h who)).ownBlock ∨ (svV s').ownBlock = some w2.heap.size) (g4 : w3.grownBy w4 (some b))
    (hc : ∀ e, c' e = if e = who then c e ++ [p] else c e) : MRows w4 base (fun e => if e = who then s' else h e) c' := by
  have far : ∀ {w : World} {v : Value} {l : List OD}, OwnO w base v l → w.grownBy w4 (some b) → OwnO w4 base v l := fun o g => o.kept g (by
    cases hv : Value.ownBlock _ with
    | none => exact .inl rfl
    | some k => exact .inr (fun e => by injection e with e; have := (o.lt k hv).1; omega))
  have old : ∀ e g, (svV (h e)).ownBlock = some g → g < w2.heap.size := fun e g hg => ((H.own e).lt g hg).2
  refine ⟨fun e => ?_, fun e he => ?_, fun e e' g he he' => ?_⟩
  · rw [hc]
    by_cases hw : e = who
    · subst hw; simp only [if_pos]; exact far o3 g4
    · simp only [if_neg hw]
      refine far ((H.own e).kept g3 ?_) g4
      cases hv : Value.ownBlock _ with
      | none => exact .inl rfl
      | some k => exact .inr (fun e2 => hw (H.apart e who k hv e2.symm))
  · rw [hc]
    by_cases hw : e = who
    · rw [if_pos hw]; simp
    · rw [if_neg hw]; rw [if_neg hw] at he; exact H.full e he
  · by_cases hw : e = who <;> by_cases hw' : e' = who
    · rw [hw, hw']
    · simp only [if_pos hw] at he
      simp only [if_neg hw'] at he'
      rcases hat with e2 | e2
      · rw [e2] at he
        rw [hw]; exact H.apart who e' g he he'
      · rw [e2] at he
        injection he with he
        have := old e' g he'
        omega
    · simp only [if_neg hw] at he
      simp only [if_pos hw'] at he'
      rcases hat with e2 | e2
      · rw [e2] at he'
        rw [hw']; exact H.apart e who g he he'
      · rw [e2] at he'
        injection he' with he'
        have := old e g he
        omega
    · simp only [if_neg hw] at he
      simp only [if_neg hw'] at he'
      exact H.apart e e' g he he'
theorem clL_step (o : Nat → OD) (k : Nat) (e : Int) : clL o e (k + 1) = if e = (o k).r0 then clL o e k ++ [o k] else clL o e k := by
  show (if (o k).r0 = e then _ else _) = _
  by_cases h : e = (o k).r0
  · rw [if_pos h, if_pos h.symm]
  · rw [if_neg h, if_neg (fun e2 => h e2.symm)]
theorem mem_intKeys {H : Type} {R : Value → Option (DataW H × List MemPlace)} {w : World} {b n : Nat} {D : DataW H} (hown : w.ownsMap Try.prog 3 R b n D) (x : Int) : x ∈ intKeys D ↔ Maps.has D (.int .i64 x) = true := by
  obtain ⟨es, rfl, hko⟩ := hown.keysOf
  rw [has_eq, List.any_eq_true]
  show x ∈ (es.map fun p : Lit × DataW H => Go.intOf p.1) ↔ _
  rw [List.mem_map]
  have hk : ∀ p ∈ es, ∃ x, p.1 = .int .i64 x := fun p hp => by
    obtain ⟨v, hv⟩ := hko p hp
    obtain ⟨x, _, hx, _⟩ := Maps.keyOf_i64 Try.underlying3 hv
    exact ⟨x, hx⟩
  constructor
  · rintro ⟨p, hp', rfl⟩
    obtain ⟨a, ha⟩ := hk p hp'
    exact ⟨p, hp', by rw [ha]; simp [Lit.sameKey, Go.intOf]⟩
  · rintro ⟨p, hp', hs⟩
    obtain ⟨a, ha⟩ := hk p hp'
    rw [ha] at hs
    exact ⟨p, hp', by rw [ha]; simpa [Lit.sameKey, Go.intOf] using hs⟩
/-- the keys of the map, sorted: who is there -/
theorem MO.sorted {w : World} {b n : Nat} {h : Int → Sv} (k : MO w b n h) (hn : n ≤ 4000000) :
    Calls Try.prog 42 #[.func (.func 55) #[] #[.pointer (some ⟨w.heap.size, 0, none⟩)]] (w.alloc (.cells #[.map (some b)] 68)) fun e w' => ∃ (v : Value) (ss : List Int), e = .returned v ∧ (∀ x, x ∈ ss ↔ (h x).isSome = true) ∧ ss.length ≤ n ∧ OwnI w' (w.heap.size + 1) v ss ∧ New (w.alloc (.cells #[.map (some b)] 68)) w' := by
  obtain ⟨D, h1, h2, h3, h4, h5⟩ := k
  refine (sorted42 b n D w h1 (by unfold maxLen; omega) (by omega)).mono ?_
  rintro e w' ⟨v, ss, rfl, hp, ho, hN⟩
  refine ⟨v, ss, rfl, fun x => ?_, ?_, ho, hN⟩
  · rw [hp.mem_iff, mem_intKeys h1, h3]
  · rw [hp.length_eq]
    obtain ⟨es, hD, hko⟩ := h1.keysOf
    subst hD
    exact Nat.le_trans (Nat.le_of_eq (by simp [intKeys, Maps.size])) h4
theorem wpl_lookO {ops : Array Oper} {rest : List Oper} {o : Oper} {a : Act} {w : World} {Q : Exit → Act → World → Prop} {m x : Operand} {b n : Nat} {h : Int → Sv} {e : Int}
    (hg : o.guard = none) (hop : o.op = .lookup 68 m x false) (hm : a.eval m = .map (some b)) (hx : a.eval x = .int .i64 e) (hM : MO w b n h) (he : i64 e) (hk : wpList Try.prog ops Q rest (a.put o.dst (svV (h e))) w) : wpList Try.prog ops Q (o :: rest) a w :=
  wpList_plain hg fun K hK => by
    unfold Oper.wp execOp
    simp only [hop, hm, hx, Sem.run_bind, Sem.run_pure, Result.andThen_ok, hM.look he]
    exact hK _ _ hk
theorem wp_lookO {o : Oper} {a : Act} {w : World} {K : Act → World → Prop} {Q : Exit → Act → World → Prop} {m x : Operand} {b n : Nat} {h : Int → Sv} {e : Int}
    (hop : o.op = .lookup 68 m x false) (hm : a.eval m = .map (some b)) (hx : a.eval x = .int .i64 e) (hM : MO w b n h) (he : i64 e) (hk : K (a.put o.dst (svV (h e))) w) : o.wp Try.prog a w K Q := by
  unfold Oper.wp execOp
  simp only [hop, hm, hx, Sem.run_bind, Sem.run_pure, Result.andThen_ok, hM.look he]
  exact hk
theorem wp_putO {o : Oper} {a : Act} {w : World} {K : Act → World → Prop} {Q : Exit → Act → World → Prop} {m x y : Operand} {b n : Nat} {h : Int → Sv} {e : Int} {s : Sv}
    (hop : o.op = .mapUpdate 68 m x y) (hm : a.eval m = .map (some b)) (hx : a.eval x = .int .i64 e) (hy : a.eval y = svV s) (hM : MO w b n h) (he : i64 e) (hn : n < maxLen) (hs : s ≠ none)
    (hk : ∀ w', MO w' b (n + 1) (fun x => if x = e then s else h x) → w.grownBy w' (some b) → K (a.put o.dst undef) w') : o.wp Try.prog a w K Q := by
  obtain ⟨w', hrun, h1, h2⟩ := hM.put he hn hs
  unfold Oper.wp execOp
  simp only [hop, hm, hx, hy, Sem.run_bind, Sem.run_pure, Result.andThen_ok, hrun]
  exact hk w' h1 h2
/-- an append to a row of calls, in a drawn region -/
theorem wp_puta {o : Oper} {a : Act} {w : World} {K : Act → World → Prop} {Q : Exit → Act → World → Prop} (s x : Operand)
    (ho : o.op = .call { callee := .builtin .append, args := #[s, x], argTypes := #[38, 38] }) (v : Value) (l : List OD) (base : Nat) (p : OD) (ad : Addr)
    (hs : a.eval s = v) (hown : OwnO w base v l) (hx : a.eval x = .slice (some ad) 1 1) (hp : OpAt w ad (ocs p)) (hl : l.length ≤ 4000000) (hb : base ≤ w.heap.size)
    (h : ∀ v' w', OwnO w' base v' (l ++ [p]) → w.grownBy w' v.ownBlock → (v'.ownBlock = v.ownBlock ∨ v'.ownBlock = some w.heap.size) → K (a.put o.dst v') w') : o.wp Try.prog a w K Q := by
  obtain ⟨i0, hi, hz0, hz1, hz2⟩ := info36a
  obtain ⟨v', w', hr, h2, h3, h4, h5⟩ := run_append_own_at (P := Try.prog) w base 38 o.type 36 i0 _ 19 216 Try.underlying38 hi hz0 hz1 hz2 rfl (by decide) v _ _ hown ad 1 1 (ocs p).toList (by rw [Array.length_toList, (ocs_op p).1]) (fun j u hu => hp.2.2 j u (by simpa using hu)) (fun u hu => (Array.all_eq_true_iff_forall_mem.1 (ocs_op p).2) u (by simpa using hu)) (by unfold maxLen; omega) (by omega) hb
  unfold Oper.wp execOp
  simp only [ho, resolve, invoke, builtin, Sem.run_bind, Sem.run_pure, Result.andThen_ok, List.map_toArray, List.map_cons, List.map_nil, hs, hx, hr]
  refine h v' w' ?_ h3 h5
  unfold OwnO
  rw [rcells_snoc, List.length_append, List.length_singleton]
  exact h2
end Go.Proofs.Ytplaicdbcfnjbaa
