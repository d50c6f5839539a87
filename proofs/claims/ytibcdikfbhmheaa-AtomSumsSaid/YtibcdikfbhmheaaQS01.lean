/- The arguments of a law, opened: numbers by their places. -/
import Derived.Test.YtibcdikfbhmheaaB17
import Derived.Test.YtibcdikfbhmheaaB16
import Derived.Conc.AtomicLaws2
import Derived.Test.YtibcdikfbhmheaaB20
set_option linter.unusedSimpArgs false
set_option linter.unusedVariables false
namespace Go.Proofs.Ytibcdikfbhmheaa
open Go Go.Conc Go.Proofs
theorem pks_nums {V : World} {own : Nat → Prop} {pv : Value} {ps : List Int} (h : Pks V own pv ps) : ∃ (la : Option Addr) (n lc : Nat) (d : Nat → Int), pv = .slice la n lc ∧ (0 < n → ∃ g o, la = some ⟨g, o, none⟩ ∧ g < V.heap.size ∧ ∀ j, j < n → V.cell? ⟨g, o + j, none⟩ = some (.int .i64 (d j))) := by
  obtain ⟨b, c, e, k⟩ := h.v
  refine ⟨b, ps.length, c, fun j => ps.getD j 0, e, fun h0 => ?_⟩
  obtain ⟨g, o, e1, h1, _, h3⟩ := k h0
  exact ⟨g, o, e1, h1, fun j hj => by rw [h3 j hj]; simp [List.getD_eq_getElem?_getD, List.getElem?_eq_getElem hj]⟩
end Go.Proofs.Ytibcdikfbhmheaa
/- Atomic touches of memory that is nobody's but the threads'. -/
namespace Go.Proofs.Ytibcdikfbhmheaa
open Go Go.Conc Go.Proofs
open Go.ConcN (sumTo upd sumTo_upd upd_ne upd_same)
set_option linter.unusedVariables false
section
variable {P : Program} {main : Bool} {Z : Cuts} {Stop : Goroutine → World → Prop} {V : World} {g g' : Goroutine}
theorem will_atr (hr : g.status = .running) {ad : Addr} {v : Value} (hc : V.cell? ad = some v) (hs : ∀ w, w.cell? ad = some v → stepG P main g w = .go g' w #[⟨.cell ad, false, true⟩]) (h : Will P main Z Stop g' V) : Will P main Z Stop g V := by
  refine .step hr (fun w hV hf => ?_) fun w g2 w2 es hV hf hst => ?_
  · subst hV
    obtain ⟨h1, h2, _, _, h6⟩ := cell_of_norm (W := pz Z w) (w := w) rfl hc
    exact ⟨g', w, _, hs w h1, Hidden.refl w, hf, fun e he => by
      obtain rfl := Array.mem_singleton.1 he
      exact ⟨h2, fun k lo hi hz => ⟨h6 k lo hi hz, fun x => by cases x⟩⟩⟩
  · subst hV
    obtain ⟨h1, _⟩ := cell_of_norm (W := pz Z w) (w := w) rfl hc
    rw [hs w h1] at hst
    injection hst with e1 e2 e3
    subst e1 e2
    exact h
theorem will_atw (hr : g.status = .running) {ad : Addr} {v : Value} {k : IntKind} {y : Int} (hc : V.cell? ad = some v) (hz : V.frozen? ad = false) (hs : ∀ w, w.cell? ad = some v → w.frozen? ad = false → stepG P main g w = .go g' (w.setCell ad (.int k y)) #[⟨.cell ad, false, true⟩, ⟨.cell ad, true, true⟩])
    (h : Will P main Z Stop g' (V.setCell ad (.int k y))) : Will P main Z Stop g V := by
  have key : ∀ w, pz Z w = V → Fit P Z w → stepG P main g w = .go g' (w.setCell ad (.int k y)) #[⟨.cell ad, false, true⟩, ⟨.cell ad, true, true⟩] ∧ Hidden Z w (w.setCell ad (.int k y)) ∧ Fit P Z (w.setCell ad (.int k y)) ∧ (∀ e ∈ (#[⟨.cell ad, false, true⟩, ⟨.cell ad, true, true⟩] : Array Event), EvZ Z (w.setCell ad (.int k y)).heap.size e) ∧ pz Z (w.setCell ad (.int k y)) = V.setCell ad (.int k y) := fun w hV hf => by
    subst hV
    obtain ⟨h1, h2, h3, ⟨c, e, f, h4, h5⟩, h6⟩ := cell_of_norm (W := pz Z w) (w := w) rfl hc
    obtain ⟨h7, h8⟩ := frozen_of_norm (W := pz Z w) (w := w) rfl hf h4 hz
    have hsim := sim_store (P := P) (Z := Z) (a := ad) (v := .int k y) (m := .atomic) (pz Z w) w #[] rfl hf
    have hrun : (store ad (.int k y) .atomic).run P (pz Z w) = .ok () ((pz Z w).setCell ad (.int k y)) := by
      simp [store, Sem.run, hc, hz]
    rw [hrun] at hsim
    obtain ⟨_, _, _, hgo⟩ := hsim
    obtain ⟨w', es', e', o⟩ := hgo (fun j hj => absurd hj (by show ¬ (pz Z w).drawn + j < (pz Z w).drawn; omega))
    have hrunT : (store ad (.int k y) .atomic).runT P w #[] = (.ok () (w.setCell ad (.int k y)), #[⟨.cell ad, true, true⟩]) := by
      simp [store, Sem.runT, h1, h7, -Sem.runT_eq]
    rw [hrunT] at e'
    obtain ⟨e1, e2⟩ := Prod.mk.inj e'
    injection e1 with _ e1
    subst e1
    refine ⟨hs w h1 h7, o.hid, o.fit, fun ev he => ?_, o.rl.symm⟩
    have hsz : (w.setCell ad (.int k y)).heap.size = w.heap.size := size_setCell _ _ _
    simp only [List.mem_toArray, List.mem_cons, List.not_mem_nil, or_false] at he
    rcases he with rfl | rfl
    · exact ⟨by rw [hsz]; exact h2, fun k lo hi hz => ⟨h6 k lo hi hz, fun x => by cases x⟩⟩
    · exact ⟨by rw [hsz]; exact h2, fun k lo hi hz => ⟨h6 k lo hi hz, fun _ => h8 k lo hi hz⟩⟩
  refine .step hr (fun w hV hf => ?_) fun w g2 w2 es hV hf hst => ?_
  · obtain ⟨a1, a2, a3, a4, _⟩ := key w hV hf
    exact ⟨g', _, _, a1, a2, a3, a4⟩
  · obtain ⟨a1, _, _, _, a5⟩ := key w hV hf
    rw [a1] at hst
    injection hst with e1 e2 e3
    subst e1 e2
    rw [a5]
    exact h
end
section
variable {main : Bool} {Z : Cuts} {Stop : Goroutine → World → Prop} {V : World} {b : Frame} {a : Act} {ops : Array Oper} {i : Nat} {rest : List Nat} {k : List Item} {cs : List Frame} {o : Oper} {ats : Array TypeId}
theorem at_load (ho : ops[i]? = some o) (hw : Region.wanted o (yielded ops a.tmps) = true) (hk : b.kind ≠ .early) {x : Operand} (hop : o.op = .call { callee := .value (.func 119), args := #[x], argTypes := ats }) {ad : Addr} {v : Int} (hx : a.eval x = .pointer (some ad)) (hc : V.cell? ad = some (.int .i64 v))
    (h : Will Try.prog main Z Stop (G (b.at (a.put o.dst (.int .i64 v)) (.inRegion ops rest :: k)) cs) V) : Will Try.prog main Z Stop (G (b.at a (.inRegion ops (i :: rest) :: k)) cs) V :=
  will_atr rfl hc (fun w hcw => stepG_load_atomic ho hw hk hop Try.func119 (by kernel_rfl) (by kernel_rfl) (by kernel_rfl) .i64 (by kernel_rfl) hx hcw) h
theorem at_add (ho : ops[i]? = some o) (hw : Region.wanted o (yielded ops a.tmps) = true) (hk : b.kind ≠ .early) {x y : Operand} (hop : o.op = .call { callee := .value (.func 120), args := #[x, y], argTypes := ats }) {ad : Addr} {v d : Int} (hx : a.eval x = .pointer (some ad)) (hy : a.eval y = .int .i64 d) (hc : V.cell? ad = some (.int .i64 v)) (hz : V.frozen? ad = false)
    (h : Will Try.prog main Z Stop (G (b.at (a.put o.dst (.int .i64 (IntKind.i64.wrap (v + d)))) (.inRegion ops rest :: k)) cs) (V.setCell ad (.int .i64 (IntKind.i64.wrap (v + d))))) : Will Try.prog main Z Stop (G (b.at a (.inRegion ops (i :: rest) :: k)) cs) V :=
  will_atw rfl hc hz (fun w hcw hzw => stepG_add_atomic ho hw hk hop Try.func120 (by kernel_rfl) (by kernel_rfl) (by kernel_rfl) .i64 (by kernel_rfl) hx hy hcw hzw) h
theorem at_cas (ho : ops[i]? = some o) (hw : Region.wanted o (yielded ops a.tmps) = true) (hk : b.kind ≠ .early) {x y z : Operand} (hop : o.op = .call { callee := .value (.func 125), args := #[x, y, z], argTypes := ats }) {ad : Addr} {v n : Int} (hx : a.eval x = .pointer (some ad)) (hy : a.eval y = .int .i64 v) (hzz : a.eval z = .int .i64 n) (hc : V.cell? ad = some (.int .i64 v)) (hz : V.frozen? ad = false)
    (h : Will Try.prog main Z Stop (G (b.at (a.put o.dst (.bool true)) (.inRegion ops rest :: k)) cs) (V.setCell ad (.int .i64 n))) : Will Try.prog main Z Stop (G (b.at a (.inRegion ops (i :: rest) :: k)) cs) V :=
  will_atw rfl hc hz (fun w hcw hzw => stepG_cas_hit ho hw hk hop Try.func125 (by kernel_rfl) (by kernel_rfl) (by kernel_rfl) .i64 (by kernel_rfl) hx hy hzz hcw hzw) h
end
end Go.Proofs.Ytibcdikfbhmheaa
/- duty's own functions: threads that add a number. -/
namespace Go.Proofs.Ytibcdikfbhmheaa
open Go Go.Conc Go.Proofs
open Go.ConcN (sumTo upd sumTo_upd upd_ne upd_same)
set_option linter.unusedVariables false
theorem array16 (T : Array Value) (h : T.size = 16) : ∃ v0 v1 v2 v3 v4 v5 v6 v7 v8 v9 v10 v11 v12 v13 v14 v15 : Value, T = #[v0, v1, v2, v3, v4, v5, v6, v7, v8, v9, v10, v11, v12, v13, v14, v15] := by
  obtain ⟨l⟩ := T
  simp only [List.size_toArray] at h
  rcases l with _ | ⟨v0, l⟩
  · simp at h
  rcases l with _ | ⟨v1, l⟩
  · simp at h
  rcases l with _ | ⟨v2, l⟩
  · simp at h
  rcases l with _ | ⟨v3, l⟩
  · simp at h
  rcases l with _ | ⟨v4, l⟩
  · simp at h
  rcases l with _ | ⟨v5, l⟩
  · simp at h
  rcases l with _ | ⟨v6, l⟩
  · simp at h
  rcases l with _ | ⟨v7, l⟩
  · simp at h
  rcases l with _ | ⟨v8, l⟩
  · simp at h
  rcases l with _ | ⟨v9, l⟩
  · simp at h
  rcases l with _ | ⟨v10, l⟩
  · simp at h
  rcases l with _ | ⟨v11, l⟩
  · simp at h
  rcases l with _ | ⟨v12, l⟩
  · simp at h
  rcases l with _ | ⟨v13, l⟩
  · simp at h
  rcases l with _ | ⟨v14, l⟩
  · simp at h
  rcases l with _ | ⟨v15, l⟩
  · simp at h
  rcases l with _ | ⟨x, l⟩
  · exact ⟨v0, v1, v2, v3, v4, v5, v6, v7, v8, v9, v10, v11, v12, v13, v14, v15, rfl⟩
  · simp at h
theorem array11 (T : Array Value) (h : T.size = 11) : ∃ v0 v1 v2 v3 v4 v5 v6 v7 v8 v9 v10 : Value, T = #[v0, v1, v2, v3, v4, v5, v6, v7, v8, v9, v10] := by
  obtain ⟨l⟩ := T
  simp only [List.size_toArray] at h
  rcases l with _ | ⟨v0, l⟩
  · simp at h
  rcases l with _ | ⟨v1, l⟩
  · simp at h
  rcases l with _ | ⟨v2, l⟩
  · simp at h
  rcases l with _ | ⟨v3, l⟩
  · simp at h
  rcases l with _ | ⟨v4, l⟩
  · simp at h
  rcases l with _ | ⟨v5, l⟩
  · simp at h
  rcases l with _ | ⟨v6, l⟩
  · simp at h
  rcases l with _ | ⟨v7, l⟩
  · simp at h
  rcases l with _ | ⟨v8, l⟩
  · simp at h
  rcases l with _ | ⟨v9, l⟩
  · simp at h
  rcases l with _ | ⟨v10, l⟩
  · simp at h
  rcases l with _ | ⟨x, l⟩
  · exact ⟨v0, v1, v2, v3, v4, v5, v6, v7, v8, v9, v10, rfl⟩
  · simp at h
structure Ad where
  n : Nat
  d : Nat → Int
  ab : Nat
  lbx : Nat
  ibx : Nat → Nat
  la : Option Addr
  ln : Nat
  lc : Nat
  Vr : World
structure AS where
  st : Nat → Nat
  v : Int
structure AInv (D : Ad) (s : AS) (own : Nat → Prop) (V : World) : Prop where
  sz : D.Vr.heap.size ≤ V.heap.size
  num : V.heap[D.ab]? = some (.cells #[.int .i64 s.v] 64 (0, 0))
  old : ∀ b, b < D.Vr.heap.size → own b ∧ (b ≠ D.ab → V.heap[b]? = D.Vr.heap[b]?)
structure AdOk (D : Ad) : Prop where
  ab : D.ab < D.Vr.heap.size
  le : D.n ≤ D.ln
  lb : D.lbx < D.Vr.heap.size ∧ D.lbx ≠ D.ab ∧ D.Vr.heap[D.lbx]? = some (.cells #[.slice D.la D.ln D.lc] 23 (0, 0))
  ib : ∀ i, i < D.n → D.ibx i < D.Vr.heap.size ∧ D.ibx i ≠ D.ab ∧ D.Vr.heap[D.ibx i]? = some (.cells #[.int .i64 (i : Int)] 3 (0, 0))
  row : ∀ i, i < D.n → ∃ g o, D.la = some ⟨g, o, none⟩ ∧ g < D.Vr.heap.size ∧ g ≠ D.ab ∧ D.Vr.cell? ⟨g, o + i, none⟩ = some (.int .i64 (D.d i))
def AS.step (D : Ad) (s : AS) (i : Nat) : AS := if s.st i = 0 then { s with st := upd s.st i 1 } else { st := upd s.st i 2, v := IntKind.i64.wrap (s.v + D.d i) }
noncomputable def B34 : Code := Try.f34.body.getD .skip
noncomputable def A3 : Code := nvb (nvb B34)
noncomputable def ops34 : Array Oper := rops (nva A3)
noncomputable def A4 : Code := nvb A3
noncomputable def ops33 : Array Oper := rops (Try.f33.body.getD .skip)
noncomputable def Uad (D : Ad) (C : Cw) : Usr := { S := AS, inv := AInv D, st := fun s i => stv (s.st i), loc := fun s i cs => ∃ T T', T.size = 16 ∧ T[0]? = some (bp D.ab) ∧ T[2]? = some (.int .i64 (D.d i)) ∧ T'.size = 11 ∧ cs = [(base 34).at ⟨T, []⟩ [.inRegion ops34 [1], .code A4], (base 33).at ⟨T', []⟩ [.inRegion ops33 [5]]], turn := AS.step D, fid := fun _ => 33, first := fun _ => #[], caps := fun i => #[bp D.ab, bp D.lbx, bp (D.ibx i)] }
section
variable {D : Ad} {C : Cw} {E : Env} {i : Nat} {own : Nat → Prop} {V : World} {σ : AS} {a₁ : Act} {ops₁ : Array Oper} {i₁ : Nat} {rest₁ : List Nat} {k₁ : List Item}
set_option maxRecDepth 100000 in
set_option maxHeartbeats 4000000 in
theorem uad_start (O : AdOk D) (hi : i < C.n) (hnC : C.n = D.n) (hs : σ.st i = 0) (hn : norm V = V) (H : CwAt C false (upd (fun j => stv (σ.st j)) i 1) V) (A : AInv D σ own V) (hown : ∀ b, own b → b < V.heap.size) :
    Will Try.prog false E.Z (TEnd C (Uad D C) σ i own V ((baseD 141).at a₁ (.inRegion ops₁ (i₁ :: rest₁) :: k₁))) (G (Frame.enter Try.prog 33 #[C.tp i, bp D.ab, bp D.lbx, bp (D.ibx i)] .normal) [(baseD 141).at a₁ (.inRegion ops₁ (i₁ :: rest₁) :: k₁), rootF]) V := by
  have hiD : i < D.n := by omega
  obtain ⟨l1, l2, l3⟩ := O.lb
  obtain ⟨j1, j2, j3⟩ := O.ib i hiD
  obtain ⟨g, o, hla, g1, g2, g3⟩ := O.row i hiD
  have e1 : ∀ τ, (re V τ 0).cell? ⟨D.lbx, 0, none⟩ = some (.slice (some ⟨g, o, none⟩) D.ln D.lc) := fun τ => by rw [← hla]; exact cell_of (((A.old _ l1).2 l2).trans l3) (by simp)
  have e2 : ∀ τ, (re V τ 0).cell? ⟨D.ibx i, 0, none⟩ = some (.int .i64 (i : Int)) := fun τ => cell_of (((A.old _ j1).2 j2).trans j3) (by simp)
  have e3 : ∀ τ, (re V τ 0).cell? ⟨g, o + i, none⟩ = some (.int .i64 (D.d i)) := fun τ => cell_same g3 ((A.old _ g1).2 g2)
  have hle := O.le
  have q2 : ¬ ((i : Int) < 0) := by omega
  have q3 : ¬ ((D.ln : Int) ≤ (i : Int)) := by omega
  have hil : i < D.ln := by omega
  simp only [bp]
  rw [enter_at (P := Try.prog) _ Try.func33 rfl]
  simp only [Try.f33, Cw.tp]
  walk_nrm
  obtain ⟨K, eK⟩ : ∃ K : Goroutine → Prop, K = fun g => Will Try.prog false E.Z (TEnd C (Uad D C) σ i own V ((baseD 141).at a₁ (.inRegion ops₁ (i₁ :: rest₁) :: k₁))) g V := ⟨_, rfl⟩
  have hK : Mu Try.prog (fun _ => True) K := by rw [eK]; exact mu_will
  have hV : MuV Try.prog Lone V K := by rw [eK]; exact muv_will hn
  have key : ∀ g, K g → (fun g => Will Try.prog false E.Z (TEnd C (Uad D C) σ i own V ((baseD 141).at a₁ (.inRegion ops₁ (i₁ :: rest₁) :: k₁))) g V) g := fun g h => by rw [eK] at h; exact h
  have yek : ∀ g, (fun g => Will Try.prog false E.Z (TEnd C (Uad D C) σ i own V ((baseD 141).at a₁ (.inRegion ops₁ (i₁ :: rest₁) :: k₁))) g V) g → K g := fun g h => by rw [eK]; exact h
  refine key _ ?_
  repeat (
    first
      | with_reducible refine mu_seq hK ?_
      | with_reducible refine mu_skip hK ?_
      | (with_reducible refine mu_region_end hK ?_; try subst hkk)
      | with_reducible refine mu_block hK ?_
      | with_reducible refine mu_inBlock hK ?_
      | with_reducible refine mu_ret hK ?_
      | with_reducible refine mu_end hK ?_
      | refine mu_exit hK rfl ?_
      | (with_reducible refine mu_regionH hK (fun kk hkk => ?_); simp only [List.size_toArray, List.length_cons, List.length_nil, Nat.reduceAdd, Nat.zero_add, List.range, List.range.loop])
      | (with_reducible refine mu_cond hK false ?_ ?_; (· first | (walk_nrm; done) | (simp [Act.eval]; done)); simp only [if_true, if_false, Bool.false_eq_true, ↓reduceIte])
      | (with_reducible refine mu_cond hK true ?_ ?_; (· first | (walk_nrm; done) | (simp [Act.eval]; done)); simp only [if_true, if_false, Bool.false_eq_true, ↓reduceIte])
      | (refine mu_unwanted hK rfl rfl ?_; walk_nrm)
      | (refine muv_val hV rfl (by first | exact .inl rfl | exact .inr rfl) rfl (by kernel_rfl) (fun J hJ => ?_); go_simp; with_reducible refine hJ _ ?_; clear hJ J; walk_nrm))
  try subst hkk
  refine mu_call hK rfl rfl (by decide) rfl Try.func34 (by kernel_rfl) rfl ?_
  have hnt34 : Try.f34.ntmps = 16 := rfl
  rw [hnt34]
  clear hnt34
  walk_nrm
  repeat (
    first
      | with_reducible refine mu_seq hK ?_
      | with_reducible refine mu_skip hK ?_
      | (with_reducible refine mu_region_end hK ?_; try subst hkk)
      | with_reducible refine mu_block hK ?_
      | with_reducible refine mu_inBlock hK ?_
      | with_reducible refine mu_ret hK ?_
      | with_reducible refine mu_end hK ?_
      | refine mu_exit hK rfl ?_
      | (with_reducible refine mu_regionH hK (fun kk hkk => ?_); simp only [List.size_toArray, List.length_cons, List.length_nil, Nat.reduceAdd, Nat.zero_add, List.range, List.range.loop])
      | (with_reducible refine mu_cond hK false ?_ ?_; (· first | (walk_nrm; done) | (simp [Act.eval]; done)); simp only [if_true, if_false, Bool.false_eq_true, ↓reduceIte])
      | (with_reducible refine mu_cond hK true ?_ ?_; (· first | (walk_nrm; done) | (simp [Act.eval]; done)); simp only [if_true, if_false, Bool.false_eq_true, ↓reduceIte])
      | (refine mu_unwanted hK rfl rfl ?_; walk_nrm)
      | (refine muv_val hV rfl (by first | exact .inl rfl | exact .inr rfl) rfl (by kernel_rfl) (fun J hJ => ?_); go_simp; with_reducible refine hJ _ ?_; clear hJ J; walk_nrm))
  refine mu_call hK rfl rfl (by decide) rfl Try.func24 (by kernel_rfl) rfl ?_
  rw [← enter_at (P := Try.prog) _ Try.func24 rfl]
  walk_nrm
  refine yek _ ?_
  clear hK hV key yek eK K
  refine Will.stop ⟨hn, Nat.le_refl _, fun _ _ _ _ => rfl, ⟨own, ⟨A.sz, ?_, A.old⟩, fun b hb => ⟨.inl hb, hown b hb⟩⟩, ?_, .inl ⟨?_, ⟨_, [_], rfl, ?_⟩⟩⟩
  · show V.heap[D.ab]? = some (.cells #[.int .i64 (AS.step D σ i).v] 64 (0, 0))
    unfold AS.step
    rw [if_pos hs]
    exact A.num
  · show CwAt C false (upd (fun j => stv ((AS.step D σ i).st j)) i 1) V
    have e : upd (fun j => stv ((AS.step D σ i).st j)) i 1 = upd (fun j => stv (σ.st j)) i 1 := by
      funext j
      unfold AS.step
      rw [if_pos hs]
      by_cases e : j = i
      · subst e; rw [upd_same, upd_same]
      · rw [upd_ne _ _ e, upd_ne _ _ e]
        show stv (upd σ.st i 1 j) = _
        rw [upd_ne _ _ e]
    rw [e]
    exact H
  · show stv ((AS.step D σ i).st i) = 1
    unfold AS.step
    rw [if_pos hs]
    show stv (upd σ.st i 1 i) = 1
    rw [upd_same]
    rfl
  · try subst hkk
    refine ⟨_, _, ?_, ?_, ?_, ?_, rfl⟩
    · simp
    · rfl
    · rfl
    · simp
set_option maxRecDepth 100000 in
set_option maxHeartbeats 4000000 in
theorem uad_resume (O : AdOk D) (hi : i < C.n) (hnC : C.n = D.n) (hs : σ.st i ≠ 0) {T T' : Array Value} (h16 : T.size = 16) (t0 : T[0]? = some (bp D.ab)) (t2 : T[2]? = some (.int .i64 (D.d i))) (h11 : T'.size = 11) (hst : σ.st i = 1) (hn : norm V = V) (H : CwAt C false (fun j => stv (σ.st j)) V) (A : AInv D σ own V) (hown : ∀ b, own b → b < V.heap.size ∧ b ≠ C.cb ∧ ∀ j, j < C.n → b ≠ C.tb j) :
    Will Try.prog false E.Z (TEnd C (Uad D C) σ i own V ((baseD 141).at a₁ (.inRegion ops₁ (i₁ :: rest₁) :: k₁))) (G ((base 34).at (Act.put ⟨T, []⟩ ((ops34[1]?).bind (·.dst)) (.tuple #[])) [.inRegion ops34 [], .code A4]) [(base 33).at ⟨T', []⟩ [.inRegion ops33 [5]], (baseD 141).at a₁ (.inRegion ops₁ (i₁ :: rest₁) :: k₁), rootF]) V := by
  have c1 : V.cell? ⟨D.ab, 0, none⟩ = some (.int .i64 σ.v) := cell_of A.num (by simp)
  have c2 : V.frozen? ⟨D.ab, 0, none⟩ = false := by simp [World.frozen?, A.num]
  have hab := (A.old D.ab O.ab).1
  obtain ⟨hab1, hab2, hab3⟩ := hown _ hab
  obtain ⟨v0, v1, v2, v3, v4, v5, v6, v7, v8, v9, v10, v11, v12, v13, v14, v15, rfl⟩ := array16 T h16
  obtain ⟨u0, u1, u2, u3, u4, u5, u6, u7, u8, u9, u10, rfl⟩ := array11 T' h11
  simp only [List.getElem?_toArray, List.getElem?_cons_zero, List.getElem?_cons_succ, Option.some.injEq, bp] at t0 t2
  subst t0 t2
  refine (fun (h : ∀ X Y R, X = ops34 → Y = A4 → R = ops33 → Will Try.prog false E.Z (TEnd C (Uad D C) σ i own V ((baseD 141).at a₁ (.inRegion ops₁ (i₁ :: rest₁) :: k₁))) (G ((base 34).at (Act.put ⟨_, []⟩ ((X[1]?).bind (·.dst)) (.tuple #[])) [.inRegion X [], .code Y]) [(base 33).at ⟨_, []⟩ [.inRegion R [5]], (baseD 141).at a₁ (.inRegion ops₁ (i₁ :: rest₁) :: k₁), rootF]) V) => h ops34 A4 ops33 rfl rfl rfl) ?_
  intro X Y R hX hY hR
  simp only [ops34, ops33, rops, A4, A3, B34, nva, nvb, Try.f34, Try.f33, Option.getD_some] at hX hY hR
  subst hX hY hR
  walk_nrm
  obtain ⟨K, eK⟩ : ∃ K : Goroutine → Prop, K = fun g => Will Try.prog false E.Z (TEnd C (Uad D C) σ i own V ((baseD 141).at a₁ (.inRegion ops₁ (i₁ :: rest₁) :: k₁))) g V := ⟨_, rfl⟩
  have hK : Mu Try.prog (fun _ => True) K := by rw [eK]; exact mu_will
  have hV : MuV Try.prog Lone V K := by rw [eK]; exact muv_will hn
  have key : ∀ g, K g → (fun g => Will Try.prog false E.Z (TEnd C (Uad D C) σ i own V ((baseD 141).at a₁ (.inRegion ops₁ (i₁ :: rest₁) :: k₁))) g V) g := fun g h => by rw [eK] at h; exact h
  have yek : ∀ g, (fun g => Will Try.prog false E.Z (TEnd C (Uad D C) σ i own V ((baseD 141).at a₁ (.inRegion ops₁ (i₁ :: rest₁) :: k₁))) g V) g → K g := fun g h => by rw [eK]; exact h
  refine key _ ?_
  repeat (
    first
      | with_reducible refine mu_seq hK ?_
      | with_reducible refine mu_skip hK ?_
      | (with_reducible refine mu_region_end hK ?_; try subst hkk)
      | with_reducible refine mu_block hK ?_
      | with_reducible refine mu_inBlock hK ?_
      | with_reducible refine mu_ret hK ?_
      | with_reducible refine mu_end hK ?_
      | refine mu_exit hK rfl ?_
      | (with_reducible refine mu_regionH hK (fun kk hkk => ?_); simp only [List.size_toArray, List.length_cons, List.length_nil, Nat.reduceAdd, Nat.zero_add, List.range, List.range.loop])
      | (with_reducible refine mu_cond hK false ?_ ?_; (· first | (walk_nrm; done) | (simp [Act.eval]; done)); simp only [if_true, if_false, Bool.false_eq_true, ↓reduceIte])
      | (with_reducible refine mu_cond hK true ?_ ?_; (· first | (walk_nrm; done) | (simp [Act.eval]; done)); simp only [if_true, if_false, Bool.false_eq_true, ↓reduceIte])
      | (refine mu_unwanted hK rfl rfl ?_; walk_nrm)
      | (refine muv_val hV rfl (by first | exact .inl rfl | exact .inr rfl) rfl (by kernel_rfl) (fun J hJ => ?_); go_simp; with_reducible refine hJ _ ?_; clear hJ J; walk_nrm))
  refine mu_call hK rfl rfl (by decide) rfl Try.func83 (by kernel_rfl) rfl ?_
  have hnt83 : Try.f83.ntmps = 10 := rfl
  rw [hnt83]
  clear hnt83
  walk_nrm
  repeat (
    first
      | with_reducible refine mu_seq hK ?_
      | with_reducible refine mu_skip hK ?_
      | (with_reducible refine mu_region_end hK ?_; try subst hkk)
      | with_reducible refine mu_block hK ?_
      | with_reducible refine mu_inBlock hK ?_
      | with_reducible refine mu_ret hK ?_
      | with_reducible refine mu_end hK ?_
      | refine mu_exit hK rfl ?_
      | (with_reducible refine mu_regionH hK (fun kk hkk => ?_); simp only [List.size_toArray, List.length_cons, List.length_nil, Nat.reduceAdd, Nat.zero_add, List.range, List.range.loop])
      | (with_reducible refine mu_cond hK false ?_ ?_; (· first | (walk_nrm; done) | (simp [Act.eval]; done)); simp only [if_true, if_false, Bool.false_eq_true, ↓reduceIte])
      | (with_reducible refine mu_cond hK true ?_ ?_; (· first | (walk_nrm; done) | (simp [Act.eval]; done)); simp only [if_true, if_false, Bool.false_eq_true, ↓reduceIte])
      | (refine mu_unwanted hK rfl rfl ?_; walk_nrm)
      | (refine muv_val hV rfl (by first | exact .inl rfl | exact .inr rfl) rfl (by kernel_rfl) (fun J hJ => ?_); go_simp; with_reducible refine hJ _ ?_; clear hJ J; walk_nrm))
  refine yek _ ?_
  clear hK hV key yek eK K
  refine at_add (ad := ⟨D.ab, 0, none⟩) rfl rfl (base_ne _) rfl rfl rfl c1 c2 ?_
  walk_nrm
  have hn2 : norm (V.setCell ⟨D.ab, 0, none⟩ (.int .i64 (IntKind.i64.wrap (σ.v + D.d i)))) = (V.setCell ⟨D.ab, 0, none⟩ (.int .i64 (IntKind.i64.wrap (σ.v + D.d i)))) := norm_set hn _ _
  have hget : ∀ b, b ≠ D.ab → (V.setCell ⟨D.ab, 0, none⟩ (.int .i64 (IntKind.i64.wrap (σ.v + D.d i)))).heap[b]? = V.heap[b]? := fun b hb => by rw [setCell_heap, if_neg hb]
  have hnum : (V.setCell ⟨D.ab, 0, none⟩ (.int .i64 (IntKind.i64.wrap (σ.v + D.d i)))).heap[D.ab]? = some (.cells #[.int .i64 (IntKind.i64.wrap (σ.v + D.d i))] 64 (0, 0)) := by
    rw [setCell_heap, if_pos rfl, A.num]
    simp
  have hsz : (V.setCell ⟨D.ab, 0, none⟩ (.int .i64 (IntKind.i64.wrap (σ.v + D.d i)))).heap.size = V.heap.size := size_setCell _ _ _
  generalize (V.setCell ⟨D.ab, 0, none⟩ (.int .i64 (IntKind.i64.wrap (σ.v + D.d i)))) = V2 at *
  obtain ⟨K, eK⟩ : ∃ K : Goroutine → Prop, K = fun g => Will Try.prog false E.Z (TEnd C (Uad D C) σ i own V ((baseD 141).at a₁ (.inRegion ops₁ (i₁ :: rest₁) :: k₁))) g V2 := ⟨_, rfl⟩
  have hK : Mu Try.prog (fun _ => True) K := by rw [eK]; exact mu_will
  have hV : MuV Try.prog Lone V2 K := by rw [eK]; exact muv_will hn2
  have key : ∀ g, K g → (fun g => Will Try.prog false E.Z (TEnd C (Uad D C) σ i own V ((baseD 141).at a₁ (.inRegion ops₁ (i₁ :: rest₁) :: k₁))) g V2) g := fun g h => by rw [eK] at h; exact h
  have yek : ∀ g, (fun g => Will Try.prog false E.Z (TEnd C (Uad D C) σ i own V ((baseD 141).at a₁ (.inRegion ops₁ (i₁ :: rest₁) :: k₁))) g V2) g → K g := fun g h => by rw [eK]; exact h
  refine key _ ?_
  repeat (
    first
      | with_reducible refine mu_seq hK ?_
      | with_reducible refine mu_skip hK ?_
      | (with_reducible refine mu_region_end hK ?_; try subst hkk)
      | with_reducible refine mu_block hK ?_
      | with_reducible refine mu_inBlock hK ?_
      | with_reducible refine mu_ret hK ?_
      | with_reducible refine mu_end hK ?_
      | refine mu_exit hK rfl ?_
      | (with_reducible refine mu_regionH hK (fun kk hkk => ?_); simp only [List.size_toArray, List.length_cons, List.length_nil, Nat.reduceAdd, Nat.zero_add, List.range, List.range.loop])
      | (with_reducible refine mu_cond hK false ?_ ?_; (· first | (walk_nrm; done) | (simp [Act.eval]; done)); simp only [if_true, if_false, Bool.false_eq_true, ↓reduceIte])
      | (with_reducible refine mu_cond hK true ?_ ?_; (· first | (walk_nrm; done) | (simp [Act.eval]; done)); simp only [if_true, if_false, Bool.false_eq_true, ↓reduceIte])
      | (refine mu_unwanted hK rfl rfl ?_; walk_nrm)
      | (refine muv_val hV rfl (by first | exact .inl rfl | exact .inr rfl) rfl (by kernel_rfl) (fun J hJ => ?_); go_simp; with_reducible refine hJ _ ?_; clear hJ J; walk_nrm))
  refine mu_leave1 hK rfl rfl Try.func83 rfl ?_
  walk_nrm
  repeat (
    first
      | with_reducible refine mu_seq hK ?_
      | with_reducible refine mu_skip hK ?_
      | (with_reducible refine mu_region_end hK ?_; try subst hkk)
      | with_reducible refine mu_block hK ?_
      | with_reducible refine mu_inBlock hK ?_
      | with_reducible refine mu_ret hK ?_
      | with_reducible refine mu_end hK ?_
      | refine mu_exit hK rfl ?_
      | (with_reducible refine mu_regionH hK (fun kk hkk => ?_); simp only [List.size_toArray, List.length_cons, List.length_nil, Nat.reduceAdd, Nat.zero_add, List.range, List.range.loop])
      | (with_reducible refine mu_cond hK false ?_ ?_; (· first | (walk_nrm; done) | (simp [Act.eval]; done)); simp only [if_true, if_false, Bool.false_eq_true, ↓reduceIte])
      | (with_reducible refine mu_cond hK true ?_ ?_; (· first | (walk_nrm; done) | (simp [Act.eval]; done)); simp only [if_true, if_false, Bool.false_eq_true, ↓reduceIte])
      | (refine mu_unwanted hK rfl rfl ?_; walk_nrm)
      | (refine muv_val hV rfl (by first | exact .inl rfl | exact .inr rfl) rfl (by kernel_rfl) (fun J hJ => ?_); go_simp; with_reducible refine hJ _ ?_; clear hJ J; walk_nrm))
  refine mu_leave1 hK rfl rfl Try.func34 rfl ?_
  walk_nrm
  repeat (
    first
      | with_reducible refine mu_seq hK ?_
      | with_reducible refine mu_skip hK ?_
      | (with_reducible refine mu_region_end hK ?_; try subst hkk)
      | with_reducible refine mu_block hK ?_
      | with_reducible refine mu_inBlock hK ?_
      | with_reducible refine mu_ret hK ?_
      | with_reducible refine mu_end hK ?_
      | refine mu_exit hK rfl ?_
      | (with_reducible refine mu_regionH hK (fun kk hkk => ?_); simp only [List.size_toArray, List.length_cons, List.length_nil, Nat.reduceAdd, Nat.zero_add, List.range, List.range.loop])
      | (with_reducible refine mu_cond hK false ?_ ?_; (· first | (walk_nrm; done) | (simp [Act.eval]; done)); simp only [if_true, if_false, Bool.false_eq_true, ↓reduceIte])
      | (with_reducible refine mu_cond hK true ?_ ?_; (· first | (walk_nrm; done) | (simp [Act.eval]; done)); simp only [if_true, if_false, Bool.false_eq_true, ↓reduceIte])
      | (refine mu_unwanted hK rfl rfl ?_; walk_nrm)
      | (refine muv_val hV rfl (by first | exact .inl rfl | exact .inr rfl) rfl (by kernel_rfl) (fun J hJ => ?_); go_simp; with_reducible refine hJ _ ?_; clear hJ J; walk_nrm))
  refine mu_leave0 hK rfl rfl Try.func33 rfl ?_
  refine yek _ ?_
  clear hK hV key yek eK K
  have hstep : AS.step D σ i = { st := upd σ.st i 2, v := IntKind.i64.wrap (σ.v + D.d i) } := if_neg hs
  refine Will.stop ⟨hn2, by rw [hsz]; exact Nat.le_refl _, fun b hb ho ht => hget b (fun e => ho (by rw [e]; exact hab)), ⟨own, ?_, fun b hb => ⟨.inl hb, by rw [hsz]; exact (hown b hb).1⟩⟩, ?_, .inr (.inr ⟨?_, .inl ⟨_, a₁, ops₁, i₁, rest₁, k₁, rfl, rfl⟩⟩)⟩
  · show AInv D (AS.step D σ i) own V2
    rw [hstep]
    exact ⟨by rw [hsz]; exact A.sz, hnum, fun b hb => ⟨(A.old b hb).1, fun hne => by rw [hget b hne]; exact (A.old b hb).2 hne⟩⟩
  · show CwAt C false (upd (fun j => stv ((AS.step D σ i).st j)) i 1) V2
    have e : upd (fun j => stv ((AS.step D σ i).st j)) i 1 = fun j => stv (σ.st j) := by
      funext j
      rw [hstep]
      by_cases e : j = i
      · subst e; rw [upd_same, hst]; rfl
      · rw [upd_ne _ _ e]
        show stv (upd σ.st i 2 j) = _
        rw [upd_ne _ _ e]
    rw [e]
    exact H.keep (hget _ (fun e => hab2 e.symm)) fun j hj => hget _ (fun e => hab3 j hj e.symm)
  · show stv ((AS.step D σ i).st i) = 3
    rw [hstep]
    show stv (upd σ.st i 2 i) = 3
    rw [upd_same]
    rfl
theorem uad_ok (O : AdOk D) (hnC : C.n = D.n) (hf : ∀ i, i < C.n → C.f i = .func (.func 33) #[] #[bp D.ab, bp D.lbx, bp (D.ibx i)]) : UOk E C (Uad D C) := by
  have hother : ∀ (σ : AS) (i j : Nat), j ≠ i → (AS.step D σ i).st j = σ.st j := fun σ i j hj => by
    unfold AS.step
    split
    · exact upd_ne _ _ hj
    · exact upd_ne _ _ hj
  refine ⟨fun σ own V V' A hk hsz => ?_, fun σ i cs h => ?_, fun σ i j cs _ _ hj h => h, fun σ i j _ _ _ hji => .inl (congrArg stv (hother σ i j hji)), fun σ i _ => stv_four _, fun σ i hi h => ⟨hf i hi, _, _, Try.func33, by kernel_rfl, rfl⟩, fun σ i own V Rf bx hi hs hRf hn H A hown _ _ => ?_, fun σ i own V Rf bx b a ops i₀ rest k cs hi hs hl hRf hn H A hown _ _ => ?_⟩
  · exact ⟨Nat.le_trans A.sz hsz, by rw [hk _ (A.old _ O.ab).1]; exact A.num, fun b hb => ⟨(A.old b hb).1, fun hne => by rw [hk b (A.old b hb).1]; exact (A.old b hb).2 hne⟩⟩
  · obtain ⟨T, T', _, _, _, _, rfl⟩ := h
    intro f hf
    rcases List.mem_cons.1 hf with rfl | hf
    · exact uf_at rfl rfl rfl ⟨_, Try.func34⟩
    · obtain rfl : f = _ := by simpa using hf
      exact uf_at rfl rfl rfl ⟨_, Try.func33⟩
  · obtain ⟨a₁, ops₁, i₁, rest₁, k₁, eRf, -⟩ := hRf
    subst eRf
    exact uad_start O hi hnC (stv_zero hs) hn H A (fun b hb => (hown b hb).1)
  · obtain ⟨a₁, ops₁, i₁, rest₁, k₁, eRf, -⟩ := hRf
    subst eRf
    obtain ⟨T, T', h16, t0, t2, h11, e⟩ := hl
    obtain ⟨e1, rfl⟩ := List.cons.inj e
    obtain ⟨rfl, e2, e3⟩ := at_inj e1
    obtain ⟨rfl, e4, rfl⟩ := item_inj e2
    obtain ⟨rfl, rfl⟩ := List.cons.inj e4
    rw [e3]
    have h1 := stv_one hs
    exact uad_resume O hi hnC (by omega) h16 t0 t2 h11 h1 hn H A hown
end
end Go.Proofs.Ytibcdikfbhmheaa
/- duty's own functions: the page's example of layer 29. -/
namespace Go.Proofs.Ytibcdikfbhmheaa
open Go Go.Conc Go.Proofs
open Go.ConcN (sumTo upd sumTo_upd upd_ne upd_same)
set_option linter.unusedVariables false
theorem kp_set {V V1 : World} (h : Kp V V1) {b k : Nat} {v : Value} (hb : V.heap.size ≤ b) : Kp V (V1.setCell ⟨b, k, none⟩ v) := ⟨by rw [size_setCell]; exact h.size, fun x hx => by rw [setCell_heap, if_neg (show ¬ x = b by omega)]; exact h.keep x hx⟩
section
variable {V : World} {Z : Cuts} {Post : Value → World → Prop} {b₀ : Frame} {a₀ : Act} {ops₀ : Array Oper} {i₀ : Nat} {rest₀ : List Nat} {k₀ : List Item} {cs0 : List Frame}
set_option maxRecDepth 100000 in
set_option maxHeartbeats 4000000 in
theorem live28_go (hn : norm V = V)
    (K0 : ∀ V', norm V' = V' → Kp V V' → To0 Try.prog Post Z V' (G (b₀.at (a₀.put ((ops₀[i₀]?).bind (·.dst)) (.bool true)) (.inRegion ops₀ rest₀ :: k₀)) cs0)) :
    To0 Try.prog Post Z V (G (Frame.enter Try.prog 28 #[] .normal) (b₀.at a₀ (.inRegion ops₀ (i₀ :: rest₀) :: k₀) :: cs0)) := by
  rw [enter_at (P := Try.prog) _ Try.func28 rfl]
  simp only [Try.f28]
  walk_nrm
  obtain ⟨K, eK⟩ : ∃ K : Goroutine → Prop, K = fun g => To0 Try.prog Post Z V g := ⟨_, rfl⟩
  have hK : Mu Try.prog (fun _ => True) K := by rw [eK]; exact mu_to0
  have hV : MuV Try.prog Lone V K := by rw [eK]; exact muv_to0 hn
  have key : ∀ g, K g → (fun g => To0 Try.prog Post Z V g) g := fun g h => by rw [eK] at h; exact h
  have yek : ∀ g, (fun g => To0 Try.prog Post Z V g) g → K g := fun g h => by rw [eK]; exact h
  refine key _ ?_
  repeat (
    first
      | with_reducible refine mu_seq hK ?_
      | with_reducible refine mu_skip hK ?_
      | (with_reducible refine mu_region_end hK ?_; try subst hkk)
      | with_reducible refine mu_block hK ?_
      | with_reducible refine mu_inBlock hK ?_
      | with_reducible refine mu_ret hK ?_
      | with_reducible refine mu_end hK ?_
      | refine mu_exit hK rfl ?_
      | (with_reducible refine mu_regionH hK (fun kk hkk => ?_); simp only [List.size_toArray, List.length_cons, List.length_nil, Nat.reduceAdd, Nat.zero_add, List.range, List.range.loop])
      | (with_reducible refine mu_cond hK false ?_ ?_; (· first | (walk_nrm; done) | (simp [Act.eval]; done)); simp only [if_true, if_false, Bool.false_eq_true, ↓reduceIte])
      | (with_reducible refine mu_cond hK true ?_ ?_; (· first | (walk_nrm; done) | (simp [Act.eval]; done)); simp only [if_true, if_false, Bool.false_eq_true, ↓reduceIte])
      | (refine mu_unwanted hK rfl rfl ?_; walk_nrm)
      | (refine muv_val hV rfl (by first | exact .inl rfl | exact .inr rfl) rfl (by kernel_rfl) (fun J hJ => ?_); go_simp; with_reducible refine hJ _ ?_; clear hJ J; walk_nrm))
  refine yek _ ?_
  clear hK hV key yek eK K
  have hn1 : norm (V.alloc (.cells #[.int .i64 0] 64)) = (V.alloc (.cells #[.int .i64 0] 64)) := norm_al hn _
  refine mua_put (L := Lone) (v := .pointer (some ⟨V.heap.size, 0, none⟩)) (mua_to0 hn1) (K := fun g => To0 Try.prog Post Z V g) (K' := fun g => To0 Try.prog Post Z (V.alloc (.cells #[.int .i64 0] 64)) g) rfl (.inl rfl) rfl (by kernel_rfl) (fun τ => ?_) ?_
  · go_simp
    first | exact ⟨by first | rfl | assumption | (simp only [re]; omega), rfl⟩ | rfl | (simp; done)
  have sV1 : (V.alloc (.cells #[.int .i64 0] 64)).heap.size = V.heap.size + 1 := al_size _ _
  have kV1 : Kp V (V.alloc (.cells #[.int .i64 0] 64)) := kp_alloc _ _
  have rV1 : (V.alloc (.cells #[.int .i64 0] 64)).heap[V.heap.size]? = some (.cells #[.int .i64 0] 64) := by rw [al_get, if_pos rfl]
  generalize (V.alloc (.cells #[.int .i64 0] 64)) = V1 at *
  walk_nrm
  obtain ⟨R, eR⟩ : ∃ R, R = V.heap.size := ⟨_, rfl⟩
  rw [← eR] at rV1 ⊢
  have eR1 : V.heap.size ≤ R := by omega
  clear eR
  have cV1 : V1.cell? ⟨R, 0, none⟩ = some (.int .i64 0) := cell_of rV1 (by simp)
  have zV1 : V1.frozen? ⟨R, 0, none⟩ = false := by simp [World.frozen?, rV1]
  obtain ⟨K, eK⟩ : ∃ K : Goroutine → Prop, K = fun g => To0 Try.prog Post Z V1 g := ⟨_, rfl⟩
  have hK : Mu Try.prog (fun _ => True) K := by rw [eK]; exact mu_to0
  have hV : MuV Try.prog Lone V1 K := by rw [eK]; exact muv_to0 hn1
  have key : ∀ g, K g → (fun g => To0 Try.prog Post Z V1 g) g := fun g h => by rw [eK] at h; exact h
  have yek : ∀ g, (fun g => To0 Try.prog Post Z V1 g) g → K g := fun g h => by rw [eK]; exact h
  refine key _ ?_
  repeat (
    first
      | with_reducible refine mu_seq hK ?_
      | with_reducible refine mu_skip hK ?_
      | (with_reducible refine mu_region_end hK ?_; try subst hkk)
      | with_reducible refine mu_block hK ?_
      | with_reducible refine mu_inBlock hK ?_
      | with_reducible refine mu_ret hK ?_
      | with_reducible refine mu_end hK ?_
      | refine mu_exit hK rfl ?_
      | (with_reducible refine mu_regionH hK (fun kk hkk => ?_); simp only [List.size_toArray, List.length_cons, List.length_nil, Nat.reduceAdd, Nat.zero_add, List.range, List.range.loop])
      | (with_reducible refine mu_cond hK false ?_ ?_; (· first | (walk_nrm; done) | (simp [Act.eval]; done)); simp only [if_true, if_false, Bool.false_eq_true, ↓reduceIte])
      | (with_reducible refine mu_cond hK true ?_ ?_; (· first | (walk_nrm; done) | (simp [Act.eval]; done)); simp only [if_true, if_false, Bool.false_eq_true, ↓reduceIte])
      | (refine mu_unwanted hK rfl rfl ?_; walk_nrm)
      | (refine muv_val hV rfl (by first | exact .inl rfl | exact .inr rfl) rfl (by kernel_rfl) (fun J hJ => ?_); go_simp; with_reducible refine hJ _ ?_; clear hJ J; walk_nrm))
  refine mu_call hK rfl rfl (by decide) rfl Try.func34 (by kernel_rfl) rfl ?_
  have hnt34 : Try.f34.ntmps = 16 := rfl
  rw [hnt34]
  clear hnt34
  walk_nrm
  repeat (
    first
      | with_reducible refine mu_seq hK ?_
      | with_reducible refine mu_skip hK ?_
      | (with_reducible refine mu_region_end hK ?_; try subst hkk)
      | with_reducible refine mu_block hK ?_
      | with_reducible refine mu_inBlock hK ?_
      | with_reducible refine mu_ret hK ?_
      | with_reducible refine mu_end hK ?_
      | refine mu_exit hK rfl ?_
      | (with_reducible refine mu_regionH hK (fun kk hkk => ?_); simp only [List.size_toArray, List.length_cons, List.length_nil, Nat.reduceAdd, Nat.zero_add, List.range, List.range.loop])
      | (with_reducible refine mu_cond hK false ?_ ?_; (· first | (walk_nrm; done) | (simp [Act.eval]; done)); simp only [if_true, if_false, Bool.false_eq_true, ↓reduceIte])
      | (with_reducible refine mu_cond hK true ?_ ?_; (· first | (walk_nrm; done) | (simp [Act.eval]; done)); simp only [if_true, if_false, Bool.false_eq_true, ↓reduceIte])
      | (refine mu_unwanted hK rfl rfl ?_; walk_nrm)
      | (refine muv_val hV rfl (by first | exact .inl rfl | exact .inr rfl) rfl (by kernel_rfl) (fun J hJ => ?_); go_simp; with_reducible refine hJ _ ?_; clear hJ J; walk_nrm))
  refine mu_call hK rfl rfl (by decide) rfl Try.func24 (by kernel_rfl) rfl ?_
  have hnt24 : Try.f24.ntmps = 6 := rfl
  rw [hnt24]
  clear hnt24
  walk_nrm
  repeat (
    first
      | with_reducible refine mu_seq hK ?_
      | with_reducible refine mu_skip hK ?_
      | (with_reducible refine mu_region_end hK ?_; try subst hkk)
      | with_reducible refine mu_block hK ?_
      | with_reducible refine mu_inBlock hK ?_
      | with_reducible refine mu_ret hK ?_
      | with_reducible refine mu_end hK ?_
      | refine mu_exit hK rfl ?_
      | (with_reducible refine mu_regionH hK (fun kk hkk => ?_); simp only [List.size_toArray, List.length_cons, List.length_nil, Nat.reduceAdd, Nat.zero_add, List.range, List.range.loop])
      | (with_reducible refine mu_cond hK false ?_ ?_; (· first | (walk_nrm; done) | (simp [Act.eval]; done)); simp only [if_true, if_false, Bool.false_eq_true, ↓reduceIte])
      | (with_reducible refine mu_cond hK true ?_ ?_; (· first | (walk_nrm; done) | (simp [Act.eval]; done)); simp only [if_true, if_false, Bool.false_eq_true, ↓reduceIte])
      | (refine mu_unwanted hK rfl rfl ?_; walk_nrm)
      | (refine muv_val hV rfl (by first | exact .inl rfl | exact .inr rfl) rfl (by kernel_rfl) (fun J hJ => ?_); go_simp; with_reducible refine hJ _ ?_; clear hJ J; walk_nrm))
  refine mu_leave0 hK rfl rfl Try.func24 rfl ?_
  walk_nrm
  repeat (
    first
      | with_reducible refine mu_seq hK ?_
      | with_reducible refine mu_skip hK ?_
      | (with_reducible refine mu_region_end hK ?_; try subst hkk)
      | with_reducible refine mu_block hK ?_
      | with_reducible refine mu_inBlock hK ?_
      | with_reducible refine mu_ret hK ?_
      | with_reducible refine mu_end hK ?_
      | refine mu_exit hK rfl ?_
      | (with_reducible refine mu_regionH hK (fun kk hkk => ?_); simp only [List.size_toArray, List.length_cons, List.length_nil, Nat.reduceAdd, Nat.zero_add, List.range, List.range.loop])
      | (with_reducible refine mu_cond hK false ?_ ?_; (· first | (walk_nrm; done) | (simp [Act.eval]; done)); simp only [if_true, if_false, Bool.false_eq_true, ↓reduceIte])
      | (with_reducible refine mu_cond hK true ?_ ?_; (· first | (walk_nrm; done) | (simp [Act.eval]; done)); simp only [if_true, if_false, Bool.false_eq_true, ↓reduceIte])
      | (refine mu_unwanted hK rfl rfl ?_; walk_nrm)
      | (refine muv_val hV rfl (by first | exact .inl rfl | exact .inr rfl) rfl (by kernel_rfl) (fun J hJ => ?_); go_simp; with_reducible refine hJ _ ?_; clear hJ J; walk_nrm))
  refine mu_call hK rfl rfl (by decide) rfl Try.func83 (by kernel_rfl) rfl ?_
  have hnt83 : Try.f83.ntmps = 10 := rfl
  rw [hnt83]
  clear hnt83
  walk_nrm
  repeat (
    first
      | with_reducible refine mu_seq hK ?_
      | with_reducible refine mu_skip hK ?_
      | (with_reducible refine mu_region_end hK ?_; try subst hkk)
      | with_reducible refine mu_block hK ?_
      | with_reducible refine mu_inBlock hK ?_
      | with_reducible refine mu_ret hK ?_
      | with_reducible refine mu_end hK ?_
      | refine mu_exit hK rfl ?_
      | (with_reducible refine mu_regionH hK (fun kk hkk => ?_); simp only [List.size_toArray, List.length_cons, List.length_nil, Nat.reduceAdd, Nat.zero_add, List.range, List.range.loop])
      | (with_reducible refine mu_cond hK false ?_ ?_; (· first | (walk_nrm; done) | (simp [Act.eval]; done)); simp only [if_true, if_false, Bool.false_eq_true, ↓reduceIte])
      | (with_reducible refine mu_cond hK true ?_ ?_; (· first | (walk_nrm; done) | (simp [Act.eval]; done)); simp only [if_true, if_false, Bool.false_eq_true, ↓reduceIte])
      | (refine mu_unwanted hK rfl rfl ?_; walk_nrm)
      | (refine muv_val hV rfl (by first | exact .inl rfl | exact .inr rfl) rfl (by kernel_rfl) (fun J hJ => ?_); go_simp; with_reducible refine hJ _ ?_; clear hJ J; walk_nrm))
  refine yek _ ?_
  clear hK hV key yek eK K
  refine To0.walk (at_add (main := true) (ad := ⟨R, 0, none⟩) (v := 0) (d := 5) rfl rfl (base_ne _) rfl rfl rfl cV1 zV1 (Will.stop ?_))
  rw [show IntKind.i64.wrap (0 + 5) = 5 by decide]
  have hn2 : norm (V1.setCell ⟨R, 0, none⟩ (.int .i64 5)) = (V1.setCell ⟨R, 0, none⟩ (.int .i64 5)) := norm_set hn1 _ _
  have kV2 : Kp V (V1.setCell ⟨R, 0, none⟩ (.int .i64 5)) := kp_set kV1 (by omega)
  have rV2 : (V1.setCell ⟨R, 0, none⟩ (.int .i64 5)).heap[R]? = some (.cells #[.int .i64 5] 64 (0, 0)) := by rw [setCell_heap, if_pos rfl, rV1]; simp
  generalize (V1.setCell ⟨R, 0, none⟩ (.int .i64 5)) = V2 at *
  have cV2 : V2.cell? ⟨R, 0, none⟩ = some (.int .i64 5) := cell_of rV2 (by simp)
  have zV2 : V2.frozen? ⟨R, 0, none⟩ = false := by simp [World.frozen?, rV2]
  walk_nrm
  obtain ⟨K, eK⟩ : ∃ K : Goroutine → Prop, K = fun g => To0 Try.prog Post Z V2 g := ⟨_, rfl⟩
  have hK : Mu Try.prog (fun _ => True) K := by rw [eK]; exact mu_to0
  have hV : MuV Try.prog Lone V2 K := by rw [eK]; exact muv_to0 hn2
  have key : ∀ g, K g → (fun g => To0 Try.prog Post Z V2 g) g := fun g h => by rw [eK] at h; exact h
  have yek : ∀ g, (fun g => To0 Try.prog Post Z V2 g) g → K g := fun g h => by rw [eK]; exact h
  refine key _ ?_
  repeat (
    first
      | with_reducible refine mu_seq hK ?_
      | with_reducible refine mu_skip hK ?_
      | (with_reducible refine mu_region_end hK ?_; try subst hkk)
      | with_reducible refine mu_block hK ?_
      | with_reducible refine mu_inBlock hK ?_
      | with_reducible refine mu_ret hK ?_
      | with_reducible refine mu_end hK ?_
      | refine mu_exit hK rfl ?_
      | (with_reducible refine mu_regionH hK (fun kk hkk => ?_); simp only [List.size_toArray, List.length_cons, List.length_nil, Nat.reduceAdd, Nat.zero_add, List.range, List.range.loop])
      | (with_reducible refine mu_cond hK false ?_ ?_; (· first | (walk_nrm; done) | (simp [Act.eval]; done)); simp only [if_true, if_false, Bool.false_eq_true, ↓reduceIte])
      | (with_reducible refine mu_cond hK true ?_ ?_; (· first | (walk_nrm; done) | (simp [Act.eval]; done)); simp only [if_true, if_false, Bool.false_eq_true, ↓reduceIte])
      | (refine mu_unwanted hK rfl rfl ?_; walk_nrm)
      | (refine muv_val hV rfl (by first | exact .inl rfl | exact .inr rfl) rfl (by kernel_rfl) (fun J hJ => ?_); go_simp; with_reducible refine hJ _ ?_; clear hJ J; walk_nrm))
  refine mu_leave1 hK rfl rfl Try.func83 rfl ?_
  walk_nrm
  repeat (
    first
      | with_reducible refine mu_seq hK ?_
      | with_reducible refine mu_skip hK ?_
      | (with_reducible refine mu_region_end hK ?_; try subst hkk)
      | with_reducible refine mu_block hK ?_
      | with_reducible refine mu_inBlock hK ?_
      | with_reducible refine mu_ret hK ?_
      | with_reducible refine mu_end hK ?_
      | refine mu_exit hK rfl ?_
      | (with_reducible refine mu_regionH hK (fun kk hkk => ?_); simp only [List.size_toArray, List.length_cons, List.length_nil, Nat.reduceAdd, Nat.zero_add, List.range, List.range.loop])
      | (with_reducible refine mu_cond hK false ?_ ?_; (· first | (walk_nrm; done) | (simp [Act.eval]; done)); simp only [if_true, if_false, Bool.false_eq_true, ↓reduceIte])
      | (with_reducible refine mu_cond hK true ?_ ?_; (· first | (walk_nrm; done) | (simp [Act.eval]; done)); simp only [if_true, if_false, Bool.false_eq_true, ↓reduceIte])
      | (refine mu_unwanted hK rfl rfl ?_; walk_nrm)
      | (refine muv_val hV rfl (by first | exact .inl rfl | exact .inr rfl) rfl (by kernel_rfl) (fun J hJ => ?_); go_simp; with_reducible refine hJ _ ?_; clear hJ J; walk_nrm))
  refine mu_leave1 hK rfl rfl Try.func34 rfl ?_
  walk_nrm
  repeat (
    first
      | with_reducible refine mu_seq hK ?_
      | with_reducible refine mu_skip hK ?_
      | (with_reducible refine mu_region_end hK ?_; try subst hkk)
      | with_reducible refine mu_block hK ?_
      | with_reducible refine mu_inBlock hK ?_
      | with_reducible refine mu_ret hK ?_
      | with_reducible refine mu_end hK ?_
      | refine mu_exit hK rfl ?_
      | (with_reducible refine mu_regionH hK (fun kk hkk => ?_); simp only [List.size_toArray, List.length_cons, List.length_nil, Nat.reduceAdd, Nat.zero_add, List.range, List.range.loop])
      | (with_reducible refine mu_cond hK false ?_ ?_; (· first | (walk_nrm; done) | (simp [Act.eval]; done)); simp only [if_true, if_false, Bool.false_eq_true, ↓reduceIte])
      | (with_reducible refine mu_cond hK true ?_ ?_; (· first | (walk_nrm; done) | (simp [Act.eval]; done)); simp only [if_true, if_false, Bool.false_eq_true, ↓reduceIte])
      | (refine mu_unwanted hK rfl rfl ?_; walk_nrm)
      | (refine muv_val hV rfl (by first | exact .inl rfl | exact .inr rfl) rfl (by kernel_rfl) (fun J hJ => ?_); go_simp; with_reducible refine hJ _ ?_; clear hJ J; walk_nrm))
  refine mu_call hK rfl rfl (by decide) rfl Try.func40 (by kernel_rfl) rfl ?_
  have hnt40 : Try.f40.ntmps = 19 := rfl
  rw [hnt40]
  clear hnt40
  walk_nrm
  repeat (
    first
      | with_reducible refine mu_seq hK ?_
      | with_reducible refine mu_skip hK ?_
      | (with_reducible refine mu_region_end hK ?_; try subst hkk)
      | with_reducible refine mu_block hK ?_
      | with_reducible refine mu_inBlock hK ?_
      | with_reducible refine mu_ret hK ?_
      | with_reducible refine mu_end hK ?_
      | refine mu_exit hK rfl ?_
      | (with_reducible refine mu_regionH hK (fun kk hkk => ?_); simp only [List.size_toArray, List.length_cons, List.length_nil, Nat.reduceAdd, Nat.zero_add, List.range, List.range.loop])
      | (with_reducible refine mu_cond hK false ?_ ?_; (· first | (walk_nrm; done) | (simp [Act.eval]; done)); simp only [if_true, if_false, Bool.false_eq_true, ↓reduceIte])
      | (with_reducible refine mu_cond hK true ?_ ?_; (· first | (walk_nrm; done) | (simp [Act.eval]; done)); simp only [if_true, if_false, Bool.false_eq_true, ↓reduceIte])
      | (refine mu_unwanted hK rfl rfl ?_; walk_nrm)
      | (refine muv_val hV rfl (by first | exact .inl rfl | exact .inr rfl) rfl (by kernel_rfl) (fun J hJ => ?_); go_simp; with_reducible refine hJ _ ?_; clear hJ J; walk_nrm))
  refine mu_call hK rfl rfl (by decide) rfl Try.func24 (by kernel_rfl) rfl ?_
  have hnt24 : Try.f24.ntmps = 6 := rfl
  rw [hnt24]
  clear hnt24
  walk_nrm
  repeat (
    first
      | with_reducible refine mu_seq hK ?_
      | with_reducible refine mu_skip hK ?_
      | (with_reducible refine mu_region_end hK ?_; try subst hkk)
      | with_reducible refine mu_block hK ?_
      | with_reducible refine mu_inBlock hK ?_
      | with_reducible refine mu_ret hK ?_
      | with_reducible refine mu_end hK ?_
      | refine mu_exit hK rfl ?_
      | (with_reducible refine mu_regionH hK (fun kk hkk => ?_); simp only [List.size_toArray, List.length_cons, List.length_nil, Nat.reduceAdd, Nat.zero_add, List.range, List.range.loop])
      | (with_reducible refine mu_cond hK false ?_ ?_; (· first | (walk_nrm; done) | (simp [Act.eval]; done)); simp only [if_true, if_false, Bool.false_eq_true, ↓reduceIte])
      | (with_reducible refine mu_cond hK true ?_ ?_; (· first | (walk_nrm; done) | (simp [Act.eval]; done)); simp only [if_true, if_false, Bool.false_eq_true, ↓reduceIte])
      | (refine mu_unwanted hK rfl rfl ?_; walk_nrm)
      | (refine muv_val hV rfl (by first | exact .inl rfl | exact .inr rfl) rfl (by kernel_rfl) (fun J hJ => ?_); go_simp; with_reducible refine hJ _ ?_; clear hJ J; walk_nrm))
  refine mu_leave0 hK rfl rfl Try.func24 rfl ?_
  walk_nrm
  repeat (
    first
      | with_reducible refine mu_seq hK ?_
      | with_reducible refine mu_skip hK ?_
      | (with_reducible refine mu_region_end hK ?_; try subst hkk)
      | with_reducible refine mu_block hK ?_
      | with_reducible refine mu_inBlock hK ?_
      | with_reducible refine mu_ret hK ?_
      | with_reducible refine mu_end hK ?_
      | refine mu_exit hK rfl ?_
      | (with_reducible refine mu_regionH hK (fun kk hkk => ?_); simp only [List.size_toArray, List.length_cons, List.length_nil, Nat.reduceAdd, Nat.zero_add, List.range, List.range.loop])
      | (with_reducible refine mu_cond hK false ?_ ?_; (· first | (walk_nrm; done) | (simp [Act.eval]; done)); simp only [if_true, if_false, Bool.false_eq_true, ↓reduceIte])
      | (with_reducible refine mu_cond hK true ?_ ?_; (· first | (walk_nrm; done) | (simp [Act.eval]; done)); simp only [if_true, if_false, Bool.false_eq_true, ↓reduceIte])
      | (refine mu_unwanted hK rfl rfl ?_; walk_nrm)
      | (refine muv_val hV rfl (by first | exact .inl rfl | exact .inr rfl) rfl (by kernel_rfl) (fun J hJ => ?_); go_simp; with_reducible refine hJ _ ?_; clear hJ J; walk_nrm))
  refine mu_call hK rfl rfl (by decide) rfl Try.func88 (by kernel_rfl) rfl ?_
  have hnt88 : Try.f88.ntmps = 13 := rfl
  rw [hnt88]
  clear hnt88
  walk_nrm
  repeat (
    first
      | with_reducible refine mu_seq hK ?_
      | with_reducible refine mu_skip hK ?_
      | (with_reducible refine mu_region_end hK ?_; try subst hkk)
      | with_reducible refine mu_block hK ?_
      | with_reducible refine mu_inBlock hK ?_
      | with_reducible refine mu_ret hK ?_
      | with_reducible refine mu_end hK ?_
      | refine mu_exit hK rfl ?_
      | (with_reducible refine mu_regionH hK (fun kk hkk => ?_); simp only [List.size_toArray, List.length_cons, List.length_nil, Nat.reduceAdd, Nat.zero_add, List.range, List.range.loop])
      | (with_reducible refine mu_cond hK false ?_ ?_; (· first | (walk_nrm; done) | (simp [Act.eval]; done)); simp only [if_true, if_false, Bool.false_eq_true, ↓reduceIte])
      | (with_reducible refine mu_cond hK true ?_ ?_; (· first | (walk_nrm; done) | (simp [Act.eval]; done)); simp only [if_true, if_false, Bool.false_eq_true, ↓reduceIte])
      | (refine mu_unwanted hK rfl rfl ?_; walk_nrm)
      | (refine muv_val hV rfl (by first | exact .inl rfl | exact .inr rfl) rfl (by kernel_rfl) (fun J hJ => ?_); go_simp; with_reducible refine hJ _ ?_; clear hJ J; walk_nrm))
  refine yek _ ?_
  clear hK hV key yek eK K
  refine To0.walk (at_cas (main := true) (ad := ⟨R, 0, none⟩) (v := 5) (n := 7) rfl rfl (base_ne _) rfl rfl rfl rfl cV2 zV2 (Will.stop ?_))
  have hn3 : norm (V2.setCell ⟨R, 0, none⟩ (.int .i64 7)) = (V2.setCell ⟨R, 0, none⟩ (.int .i64 7)) := norm_set hn2 _ _
  have kV3 : Kp V (V2.setCell ⟨R, 0, none⟩ (.int .i64 7)) := kp_set kV2 (by omega)
  have rV3 : (V2.setCell ⟨R, 0, none⟩ (.int .i64 7)).heap[R]? = some (.cells #[.int .i64 7] 64 (0, 0)) := by rw [setCell_heap, if_pos rfl, rV2]; simp
  generalize (V2.setCell ⟨R, 0, none⟩ (.int .i64 7)) = V3 at *
  have cV3 : V3.cell? ⟨R, 0, none⟩ = some (.int .i64 7) := cell_of rV3 (by simp)
  have zV3 : V3.frozen? ⟨R, 0, none⟩ = false := by simp [World.frozen?, rV3]
  walk_nrm
  obtain ⟨K, eK⟩ : ∃ K : Goroutine → Prop, K = fun g => To0 Try.prog Post Z V3 g := ⟨_, rfl⟩
  have hK : Mu Try.prog (fun _ => True) K := by rw [eK]; exact mu_to0
  have hV : MuV Try.prog Lone V3 K := by rw [eK]; exact muv_to0 hn3
  have key : ∀ g, K g → (fun g => To0 Try.prog Post Z V3 g) g := fun g h => by rw [eK] at h; exact h
  have yek : ∀ g, (fun g => To0 Try.prog Post Z V3 g) g → K g := fun g h => by rw [eK]; exact h
  refine key _ ?_
  repeat (
    first
      | with_reducible refine mu_seq hK ?_
      | with_reducible refine mu_skip hK ?_
      | (with_reducible refine mu_region_end hK ?_; try subst hkk)
      | with_reducible refine mu_block hK ?_
      | with_reducible refine mu_inBlock hK ?_
      | with_reducible refine mu_ret hK ?_
      | with_reducible refine mu_end hK ?_
      | refine mu_exit hK rfl ?_
      | (with_reducible refine mu_regionH hK (fun kk hkk => ?_); simp only [List.size_toArray, List.length_cons, List.length_nil, Nat.reduceAdd, Nat.zero_add, List.range, List.range.loop])
      | (with_reducible refine mu_cond hK false ?_ ?_; (· first | (walk_nrm; done) | (simp [Act.eval]; done)); simp only [if_true, if_false, Bool.false_eq_true, ↓reduceIte])
      | (with_reducible refine mu_cond hK true ?_ ?_; (· first | (walk_nrm; done) | (simp [Act.eval]; done)); simp only [if_true, if_false, Bool.false_eq_true, ↓reduceIte])
      | (refine mu_unwanted hK rfl rfl ?_; walk_nrm)
      | (refine muv_val hV rfl (by first | exact .inl rfl | exact .inr rfl) rfl (by kernel_rfl) (fun J hJ => ?_); go_simp; with_reducible refine hJ _ ?_; clear hJ J; walk_nrm))
  refine mu_leave1 hK rfl rfl Try.func88 rfl ?_
  walk_nrm
  repeat (
    first
      | with_reducible refine mu_seq hK ?_
      | with_reducible refine mu_skip hK ?_
      | (with_reducible refine mu_region_end hK ?_; try subst hkk)
      | with_reducible refine mu_block hK ?_
      | with_reducible refine mu_inBlock hK ?_
      | with_reducible refine mu_ret hK ?_
      | with_reducible refine mu_end hK ?_
      | refine mu_exit hK rfl ?_
      | (with_reducible refine mu_regionH hK (fun kk hkk => ?_); simp only [List.size_toArray, List.length_cons, List.length_nil, Nat.reduceAdd, Nat.zero_add, List.range, List.range.loop])
      | (with_reducible refine mu_cond hK false ?_ ?_; (· first | (walk_nrm; done) | (simp [Act.eval]; done)); simp only [if_true, if_false, Bool.false_eq_true, ↓reduceIte])
      | (with_reducible refine mu_cond hK true ?_ ?_; (· first | (walk_nrm; done) | (simp [Act.eval]; done)); simp only [if_true, if_false, Bool.false_eq_true, ↓reduceIte])
      | (refine mu_unwanted hK rfl rfl ?_; walk_nrm)
      | (refine muv_val hV rfl (by first | exact .inl rfl | exact .inr rfl) rfl (by kernel_rfl) (fun J hJ => ?_); go_simp; with_reducible refine hJ _ ?_; clear hJ J; walk_nrm))
  refine mu_leave1 hK rfl rfl Try.func40 rfl ?_
  walk_nrm
  repeat (
    first
      | with_reducible refine mu_seq hK ?_
      | with_reducible refine mu_skip hK ?_
      | (with_reducible refine mu_region_end hK ?_; try subst hkk)
      | with_reducible refine mu_block hK ?_
      | with_reducible refine mu_inBlock hK ?_
      | with_reducible refine mu_ret hK ?_
      | with_reducible refine mu_end hK ?_
      | refine mu_exit hK rfl ?_
      | (with_reducible refine mu_regionH hK (fun kk hkk => ?_); simp only [List.size_toArray, List.length_cons, List.length_nil, Nat.reduceAdd, Nat.zero_add, List.range, List.range.loop])
      | (with_reducible refine mu_cond hK false ?_ ?_; (· first | (walk_nrm; done) | (simp [Act.eval]; done)); simp only [if_true, if_false, Bool.false_eq_true, ↓reduceIte])
      | (with_reducible refine mu_cond hK true ?_ ?_; (· first | (walk_nrm; done) | (simp [Act.eval]; done)); simp only [if_true, if_false, Bool.false_eq_true, ↓reduceIte])
      | (refine mu_unwanted hK rfl rfl ?_; walk_nrm)
      | (refine muv_val hV rfl (by first | exact .inl rfl | exact .inr rfl) rfl (by kernel_rfl) (fun J hJ => ?_); go_simp; with_reducible refine hJ _ ?_; clear hJ J; walk_nrm))
  refine mu_call hK rfl rfl (by decide) rfl Try.func41 (by kernel_rfl) rfl ?_
  have hnt41 : Try.f41.ntmps = 13 := rfl
  rw [hnt41]
  clear hnt41
  walk_nrm
  repeat (
    first
      | with_reducible refine mu_seq hK ?_
      | with_reducible refine mu_skip hK ?_
      | (with_reducible refine mu_region_end hK ?_; try subst hkk)
      | with_reducible refine mu_block hK ?_
      | with_reducible refine mu_inBlock hK ?_
      | with_reducible refine mu_ret hK ?_
      | with_reducible refine mu_end hK ?_
      | refine mu_exit hK rfl ?_
      | (with_reducible refine mu_regionH hK (fun kk hkk => ?_); simp only [List.size_toArray, List.length_cons, List.length_nil, Nat.reduceAdd, Nat.zero_add, List.range, List.range.loop])
      | (with_reducible refine mu_cond hK false ?_ ?_; (· first | (walk_nrm; done) | (simp [Act.eval]; done)); simp only [if_true, if_false, Bool.false_eq_true, ↓reduceIte])
      | (with_reducible refine mu_cond hK true ?_ ?_; (· first | (walk_nrm; done) | (simp [Act.eval]; done)); simp only [if_true, if_false, Bool.false_eq_true, ↓reduceIte])
      | (refine mu_unwanted hK rfl rfl ?_; walk_nrm)
      | (refine muv_val hV rfl (by first | exact .inl rfl | exact .inr rfl) rfl (by kernel_rfl) (fun J hJ => ?_); go_simp; with_reducible refine hJ _ ?_; clear hJ J; walk_nrm))
  refine mu_call hK rfl rfl (by decide) rfl Try.func24 (by kernel_rfl) rfl ?_
  have hnt24 : Try.f24.ntmps = 6 := rfl
  rw [hnt24]
  clear hnt24
  walk_nrm
  repeat (
    first
      | with_reducible refine mu_seq hK ?_
      | with_reducible refine mu_skip hK ?_
      | (with_reducible refine mu_region_end hK ?_; try subst hkk)
      | with_reducible refine mu_block hK ?_
      | with_reducible refine mu_inBlock hK ?_
      | with_reducible refine mu_ret hK ?_
      | with_reducible refine mu_end hK ?_
      | refine mu_exit hK rfl ?_
      | (with_reducible refine mu_regionH hK (fun kk hkk => ?_); simp only [List.size_toArray, List.length_cons, List.length_nil, Nat.reduceAdd, Nat.zero_add, List.range, List.range.loop])
      | (with_reducible refine mu_cond hK false ?_ ?_; (· first | (walk_nrm; done) | (simp [Act.eval]; done)); simp only [if_true, if_false, Bool.false_eq_true, ↓reduceIte])
      | (with_reducible refine mu_cond hK true ?_ ?_; (· first | (walk_nrm; done) | (simp [Act.eval]; done)); simp only [if_true, if_false, Bool.false_eq_true, ↓reduceIte])
      | (refine mu_unwanted hK rfl rfl ?_; walk_nrm)
      | (refine muv_val hV rfl (by first | exact .inl rfl | exact .inr rfl) rfl (by kernel_rfl) (fun J hJ => ?_); go_simp; with_reducible refine hJ _ ?_; clear hJ J; walk_nrm))
  refine mu_leave0 hK rfl rfl Try.func24 rfl ?_
  walk_nrm
  repeat (
    first
      | with_reducible refine mu_seq hK ?_
      | with_reducible refine mu_skip hK ?_
      | (with_reducible refine mu_region_end hK ?_; try subst hkk)
      | with_reducible refine mu_block hK ?_
      | with_reducible refine mu_inBlock hK ?_
      | with_reducible refine mu_ret hK ?_
      | with_reducible refine mu_end hK ?_
      | refine mu_exit hK rfl ?_
      | (with_reducible refine mu_regionH hK (fun kk hkk => ?_); simp only [List.size_toArray, List.length_cons, List.length_nil, Nat.reduceAdd, Nat.zero_add, List.range, List.range.loop])
      | (with_reducible refine mu_cond hK false ?_ ?_; (· first | (walk_nrm; done) | (simp [Act.eval]; done)); simp only [if_true, if_false, Bool.false_eq_true, ↓reduceIte])
      | (with_reducible refine mu_cond hK true ?_ ?_; (· first | (walk_nrm; done) | (simp [Act.eval]; done)); simp only [if_true, if_false, Bool.false_eq_true, ↓reduceIte])
      | (refine mu_unwanted hK rfl rfl ?_; walk_nrm)
      | (refine muv_val hV rfl (by first | exact .inl rfl | exact .inr rfl) rfl (by kernel_rfl) (fun J hJ => ?_); go_simp; with_reducible refine hJ _ ?_; clear hJ J; walk_nrm))
  refine mu_call hK rfl rfl (by decide) rfl Try.func82 (by kernel_rfl) rfl ?_
  have hnt82 : Try.f82.ntmps = 7 := rfl
  rw [hnt82]
  clear hnt82
  walk_nrm
  repeat (
    first
      | with_reducible refine mu_seq hK ?_
      | with_reducible refine mu_skip hK ?_
      | (with_reducible refine mu_region_end hK ?_; try subst hkk)
      | with_reducible refine mu_block hK ?_
      | with_reducible refine mu_inBlock hK ?_
      | with_reducible refine mu_ret hK ?_
      | with_reducible refine mu_end hK ?_
      | refine mu_exit hK rfl ?_
      | (with_reducible refine mu_regionH hK (fun kk hkk => ?_); simp only [List.size_toArray, List.length_cons, List.length_nil, Nat.reduceAdd, Nat.zero_add, List.range, List.range.loop])
      | (with_reducible refine mu_cond hK false ?_ ?_; (· first | (walk_nrm; done) | (simp [Act.eval]; done)); simp only [if_true, if_false, Bool.false_eq_true, ↓reduceIte])
      | (with_reducible refine mu_cond hK true ?_ ?_; (· first | (walk_nrm; done) | (simp [Act.eval]; done)); simp only [if_true, if_false, Bool.false_eq_true, ↓reduceIte])
      | (refine mu_unwanted hK rfl rfl ?_; walk_nrm)
      | (refine muv_val hV rfl (by first | exact .inl rfl | exact .inr rfl) rfl (by kernel_rfl) (fun J hJ => ?_); go_simp; with_reducible refine hJ _ ?_; clear hJ J; walk_nrm))
  refine yek _ ?_
  clear hK hV key yek eK K
  refine To0.walk (at_load (main := true) (ad := ⟨R, 0, none⟩) (v := 7) rfl rfl (base_ne _) rfl rfl cV3 (Will.stop ?_))
  walk_nrm
  obtain ⟨K, eK⟩ : ∃ K : Goroutine → Prop, K = fun g => To0 Try.prog Post Z V3 g := ⟨_, rfl⟩
  have hK : Mu Try.prog (fun _ => True) K := by rw [eK]; exact mu_to0
  have hV : MuV Try.prog Lone V3 K := by rw [eK]; exact muv_to0 hn3
  have key : ∀ g, K g → (fun g => To0 Try.prog Post Z V3 g) g := fun g h => by rw [eK] at h; exact h
  have yek : ∀ g, (fun g => To0 Try.prog Post Z V3 g) g → K g := fun g h => by rw [eK]; exact h
  refine key _ ?_
  repeat (
    first
      | with_reducible refine mu_seq hK ?_
      | with_reducible refine mu_skip hK ?_
      | (with_reducible refine mu_region_end hK ?_; try subst hkk)
      | with_reducible refine mu_block hK ?_
      | with_reducible refine mu_inBlock hK ?_
      | with_reducible refine mu_ret hK ?_
      | with_reducible refine mu_end hK ?_
      | refine mu_exit hK rfl ?_
      | (with_reducible refine mu_regionH hK (fun kk hkk => ?_); simp only [List.size_toArray, List.length_cons, List.length_nil, Nat.reduceAdd, Nat.zero_add, List.range, List.range.loop])
      | (with_reducible refine mu_cond hK false ?_ ?_; (· first | (walk_nrm; done) | (simp [Act.eval]; done)); simp only [if_true, if_false, Bool.false_eq_true, ↓reduceIte])
      | (with_reducible refine mu_cond hK true ?_ ?_; (· first | (walk_nrm; done) | (simp [Act.eval]; done)); simp only [if_true, if_false, Bool.false_eq_true, ↓reduceIte])
      | (refine mu_unwanted hK rfl rfl ?_; walk_nrm)
      | (refine muv_val hV rfl (by first | exact .inl rfl | exact .inr rfl) rfl (by kernel_rfl) (fun J hJ => ?_); go_simp; with_reducible refine hJ _ ?_; clear hJ J; walk_nrm))
  refine mu_leave1 hK rfl rfl Try.func82 rfl ?_
  walk_nrm
  repeat (
    first
      | with_reducible refine mu_seq hK ?_
      | with_reducible refine mu_skip hK ?_
      | (with_reducible refine mu_region_end hK ?_; try subst hkk)
      | with_reducible refine mu_block hK ?_
      | with_reducible refine mu_inBlock hK ?_
      | with_reducible refine mu_ret hK ?_
      | with_reducible refine mu_end hK ?_
      | refine mu_exit hK rfl ?_
      | (with_reducible refine mu_regionH hK (fun kk hkk => ?_); simp only [List.size_toArray, List.length_cons, List.length_nil, Nat.reduceAdd, Nat.zero_add, List.range, List.range.loop])
      | (with_reducible refine mu_cond hK false ?_ ?_; (· first | (walk_nrm; done) | (simp [Act.eval]; done)); simp only [if_true, if_false, Bool.false_eq_true, ↓reduceIte])
      | (with_reducible refine mu_cond hK true ?_ ?_; (· first | (walk_nrm; done) | (simp [Act.eval]; done)); simp only [if_true, if_false, Bool.false_eq_true, ↓reduceIte])
      | (refine mu_unwanted hK rfl rfl ?_; walk_nrm)
      | (refine muv_val hV rfl (by first | exact .inl rfl | exact .inr rfl) rfl (by kernel_rfl) (fun J hJ => ?_); go_simp; with_reducible refine hJ _ ?_; clear hJ J; walk_nrm))
  refine mu_leave1 hK rfl rfl Try.func41 rfl ?_
  walk_nrm
  repeat (
    first
      | with_reducible refine mu_seq hK ?_
      | with_reducible refine mu_skip hK ?_
      | (with_reducible refine mu_region_end hK ?_; try subst hkk)
      | with_reducible refine mu_block hK ?_
      | with_reducible refine mu_inBlock hK ?_
      | with_reducible refine mu_ret hK ?_
      | with_reducible refine mu_end hK ?_
      | refine mu_exit hK rfl ?_
      | (with_reducible refine mu_regionH hK (fun kk hkk => ?_); simp only [List.size_toArray, List.length_cons, List.length_nil, Nat.reduceAdd, Nat.zero_add, List.range, List.range.loop])
      | (with_reducible refine mu_cond hK false ?_ ?_; (· first | (walk_nrm; done) | (simp [Act.eval]; done)); simp only [if_true, if_false, Bool.false_eq_true, ↓reduceIte])
      | (with_reducible refine mu_cond hK true ?_ ?_; (· first | (walk_nrm; done) | (simp [Act.eval]; done)); simp only [if_true, if_false, Bool.false_eq_true, ↓reduceIte])
      | (refine mu_unwanted hK rfl rfl ?_; walk_nrm)
      | (refine muv_val hV rfl (by first | exact .inl rfl | exact .inr rfl) rfl (by kernel_rfl) (fun J hJ => ?_); go_simp; with_reducible refine hJ _ ?_; clear hJ J; walk_nrm))
  refine mu_call hK rfl rfl (by decide) rfl Try.func32 (by kernel_rfl) rfl ?_
  have hnt32 : Try.f32.ntmps = 9 := rfl
  rw [hnt32]
  clear hnt32
  walk_nrm
  repeat (
    first
      | with_reducible refine mu_seq hK ?_
      | with_reducible refine mu_skip hK ?_
      | (with_reducible refine mu_region_end hK ?_; try subst hkk)
      | with_reducible refine mu_block hK ?_
      | with_reducible refine mu_inBlock hK ?_
      | with_reducible refine mu_ret hK ?_
      | with_reducible refine mu_end hK ?_
      | refine mu_exit hK rfl ?_
      | (with_reducible refine mu_regionH hK (fun kk hkk => ?_); simp only [List.size_toArray, List.length_cons, List.length_nil, Nat.reduceAdd, Nat.zero_add, List.range, List.range.loop])
      | (with_reducible refine mu_cond hK false ?_ ?_; (· first | (walk_nrm; done) | (simp [Act.eval]; done)); simp only [if_true, if_false, Bool.false_eq_true, ↓reduceIte])
      | (with_reducible refine mu_cond hK true ?_ ?_; (· first | (walk_nrm; done) | (simp [Act.eval]; done)); simp only [if_true, if_false, Bool.false_eq_true, ↓reduceIte])
      | (refine mu_unwanted hK rfl rfl ?_; walk_nrm)
      | (refine muv_val hV rfl (by first | exact .inl rfl | exact .inr rfl) rfl (by kernel_rfl) (fun J hJ => ?_); go_simp; with_reducible refine hJ _ ?_; clear hJ J; walk_nrm))
  refine mu_call hK rfl rfl (by decide) rfl Try.func82 (by kernel_rfl) rfl ?_
  have hnt82 : Try.f82.ntmps = 7 := rfl
  rw [hnt82]
  clear hnt82
  walk_nrm
  repeat (
    first
      | with_reducible refine mu_seq hK ?_
      | with_reducible refine mu_skip hK ?_
      | (with_reducible refine mu_region_end hK ?_; try subst hkk)
      | with_reducible refine mu_block hK ?_
      | with_reducible refine mu_inBlock hK ?_
      | with_reducible refine mu_ret hK ?_
      | with_reducible refine mu_end hK ?_
      | refine mu_exit hK rfl ?_
      | (with_reducible refine mu_regionH hK (fun kk hkk => ?_); simp only [List.size_toArray, List.length_cons, List.length_nil, Nat.reduceAdd, Nat.zero_add, List.range, List.range.loop])
      | (with_reducible refine mu_cond hK false ?_ ?_; (· first | (walk_nrm; done) | (simp [Act.eval]; done)); simp only [if_true, if_false, Bool.false_eq_true, ↓reduceIte])
      | (with_reducible refine mu_cond hK true ?_ ?_; (· first | (walk_nrm; done) | (simp [Act.eval]; done)); simp only [if_true, if_false, Bool.false_eq_true, ↓reduceIte])
      | (refine mu_unwanted hK rfl rfl ?_; walk_nrm)
      | (refine muv_val hV rfl (by first | exact .inl rfl | exact .inr rfl) rfl (by kernel_rfl) (fun J hJ => ?_); go_simp; with_reducible refine hJ _ ?_; clear hJ J; walk_nrm))
  refine yek _ ?_
  clear hK hV key yek eK K
  refine To0.walk (at_load (main := true) (ad := ⟨R, 0, none⟩) (v := 7) rfl rfl (base_ne _) rfl rfl cV3 (Will.stop ?_))
  walk_nrm
  obtain ⟨K, eK⟩ : ∃ K : Goroutine → Prop, K = fun g => To0 Try.prog Post Z V3 g := ⟨_, rfl⟩
  have hK : Mu Try.prog (fun _ => True) K := by rw [eK]; exact mu_to0
  have hV : MuV Try.prog Lone V3 K := by rw [eK]; exact muv_to0 hn3
  have key : ∀ g, K g → (fun g => To0 Try.prog Post Z V3 g) g := fun g h => by rw [eK] at h; exact h
  have yek : ∀ g, (fun g => To0 Try.prog Post Z V3 g) g → K g := fun g h => by rw [eK]; exact h
  refine key _ ?_
  repeat (
    first
      | with_reducible refine mu_seq hK ?_
      | with_reducible refine mu_skip hK ?_
      | (with_reducible refine mu_region_end hK ?_; try subst hkk)
      | with_reducible refine mu_block hK ?_
      | with_reducible refine mu_inBlock hK ?_
      | with_reducible refine mu_ret hK ?_
      | with_reducible refine mu_end hK ?_
      | refine mu_exit hK rfl ?_
      | (with_reducible refine mu_regionH hK (fun kk hkk => ?_); simp only [List.size_toArray, List.length_cons, List.length_nil, Nat.reduceAdd, Nat.zero_add, List.range, List.range.loop])
      | (with_reducible refine mu_cond hK false ?_ ?_; (· first | (walk_nrm; done) | (simp [Act.eval]; done)); simp only [if_true, if_false, Bool.false_eq_true, ↓reduceIte])
      | (with_reducible refine mu_cond hK true ?_ ?_; (· first | (walk_nrm; done) | (simp [Act.eval]; done)); simp only [if_true, if_false, Bool.false_eq_true, ↓reduceIte])
      | (refine mu_unwanted hK rfl rfl ?_; walk_nrm)
      | (refine muv_val hV rfl (by first | exact .inl rfl | exact .inr rfl) rfl (by kernel_rfl) (fun J hJ => ?_); go_simp; with_reducible refine hJ _ ?_; clear hJ J; walk_nrm))
  refine mu_leave1 hK rfl rfl Try.func82 rfl ?_
  walk_nrm
  repeat (
    first
      | with_reducible refine mu_seq hK ?_
      | with_reducible refine mu_skip hK ?_
      | (with_reducible refine mu_region_end hK ?_; try subst hkk)
      | with_reducible refine mu_block hK ?_
      | with_reducible refine mu_inBlock hK ?_
      | with_reducible refine mu_ret hK ?_
      | with_reducible refine mu_end hK ?_
      | refine mu_exit hK rfl ?_
      | (with_reducible refine mu_regionH hK (fun kk hkk => ?_); simp only [List.size_toArray, List.length_cons, List.length_nil, Nat.reduceAdd, Nat.zero_add, List.range, List.range.loop])
      | (with_reducible refine mu_cond hK false ?_ ?_; (· first | (walk_nrm; done) | (simp [Act.eval]; done)); simp only [if_true, if_false, Bool.false_eq_true, ↓reduceIte])
      | (with_reducible refine mu_cond hK true ?_ ?_; (· first | (walk_nrm; done) | (simp [Act.eval]; done)); simp only [if_true, if_false, Bool.false_eq_true, ↓reduceIte])
      | (refine mu_unwanted hK rfl rfl ?_; walk_nrm)
      | (refine muv_val hV rfl (by first | exact .inl rfl | exact .inr rfl) rfl (by kernel_rfl) (fun J hJ => ?_); go_simp; with_reducible refine hJ _ ?_; clear hJ J; walk_nrm))
  refine mu_leave1 hK rfl rfl Try.func32 rfl ?_
  walk_nrm
  repeat (
    first
      | with_reducible refine mu_seq hK ?_
      | with_reducible refine mu_skip hK ?_
      | (with_reducible refine mu_region_end hK ?_; try subst hkk)
      | with_reducible refine mu_block hK ?_
      | with_reducible refine mu_inBlock hK ?_
      | with_reducible refine mu_ret hK ?_
      | with_reducible refine mu_end hK ?_
      | refine mu_exit hK rfl ?_
      | (with_reducible refine mu_regionH hK (fun kk hkk => ?_); simp only [List.size_toArray, List.length_cons, List.length_nil, Nat.reduceAdd, Nat.zero_add, List.range, List.range.loop])
      | (with_reducible refine mu_cond hK false ?_ ?_; (· first | (walk_nrm; done) | (simp [Act.eval]; done)); simp only [if_true, if_false, Bool.false_eq_true, ↓reduceIte])
      | (with_reducible refine mu_cond hK true ?_ ?_; (· first | (walk_nrm; done) | (simp [Act.eval]; done)); simp only [if_true, if_false, Bool.false_eq_true, ↓reduceIte])
      | (refine mu_unwanted hK rfl rfl ?_; walk_nrm)
      | (refine muv_val hV rfl (by first | exact .inl rfl | exact .inr rfl) rfl (by kernel_rfl) (fun J hJ => ?_); go_simp; with_reducible refine hJ _ ?_; clear hJ J; walk_nrm))
  refine mu_leave1 hK rfl rfl Try.func28 rfl ?_
  walk_nrm
  refine yek _ ?_
  clear hK hV key yek eK K
  exact K0 V3 hn3 kV3
end
end Go.Proofs.Ytibcdikfbhmheaa
/- Threads that add a number: the plain law. -/
namespace Go.Proofs.Ytibcdikfbhmheaa
open Go Go.Conc Go.Proofs
open Go.ConcN (sumTo upd sumTo_upd upd_ne upd_same)
set_option linter.unusedVariables false
def isum : Nat → (Nat → Int) → Int
  | 0, _ => 0
  | k + 1, f => isum k f + f k
theorem isum_congr {f g : Nat → Int} : ∀ n, (∀ i, i < n → f i = g i) → isum n f = isum n g := by
  intro n
  induction n with
  | zero => intro _; rfl
  | succ n ih => intro h; show isum n f + f n = isum n g + g n; rw [ih fun i hi => h i (by omega), h n (by omega)]
theorem isum_one {f g : Nat → Int} {i : Nat} : ∀ n, i < n → (∀ j, j ≠ i → f j = g j) → isum n f = isum n g - g i + f i := by
  intro n
  induction n with
  | zero => intro h; omega
  | succ n ih =>
    intro hi h
    show isum n f + f n = isum n g + g n - g i + f i
    by_cases e : i = n
    · rw [e]
      rw [isum_congr n fun j hj => h j (by omega)]
      omega
    · rw [ih (by omega) h, h n (fun x => e x.symm)]
      omega
theorem isum_zero {f : Nat → Int} : ∀ n, (∀ i, i < n → f i = 0) → isum n f = 0 := by
  intro n
  induction n with
  | zero => intro _; rfl
  | succ n ih => intro h; show isum n f + f n = 0; rw [ih fun i hi => h i (by omega), h n (by omega)]; rfl
theorem wrap_add (a b : Int) : IntKind.i64.wrap (IntKind.i64.wrap a + b) = IntKind.i64.wrap (a + b) := by
  simp only [IntKind.wrap_i64]
  omega
def sumw (d : Nat → Int) : Nat → Int
  | 0 => 0
  | k + 1 => IntKind.i64.wrap (sumw d k + d k)
theorem sumw_eq (d : Nat → Int) : ∀ k, sumw d k = IntKind.i64.wrap (isum k d) := by
  intro k
  induction k with
  | zero => show (0 : Int) = IntKind.i64.wrap 0; decide
  | succ k ih => show IntKind.i64.wrap (sumw d k + d k) = IntKind.i64.wrap (isum k d + d k); rw [ih, wrap_add]
def astp (D : Ad) (x : AS × List Nat) (i : Nat) : AS × List Nat := if stv (x.1.st i) = 0 ∨ stv (x.1.st i) = 1 then (AS.step D x.1 i, x.2 ++ [i]) else x
def apk (D : Ad) (x : AS × List Nat) (p : Int) : AS × List Nat := if D.n = 0 then x else astp D x (pidx D.n p)
def arnd (D : Ad) (x : AS × List Nat) : AS × List Nat := (List.range D.n).foldl (astp D) x
def arnds (D : Ad) : Nat → AS × List Nat → AS × List Nat
  | 0, x => x
  | m + 1, x => if (arnd D x).2.length = x.2.length then arnd D x else arnds D m (arnd D x)
theorem arnd_eq (D : Ad) (C : Cw) (x : AS × List Nat) : rnd (Uad D C) D.n x = arnd D x := foldl_eq (fun x b => rfl) _ _
theorem arnds_eq (D : Ad) (C : Cw) (R : Nat) : ∀ x : AS × List Nat, rnds (Uad D C) D.n R x = arnds D R x := by
  induction R with
  | zero => intro x; rfl
  | succ R ih =>
    intro x
    have e := arnd_eq D C x
    show (if (rnd (Uad D C) D.n x).2.length = x.2.length then rnd (Uad D C) D.n x else rnds (Uad D C) D.n R (rnd (Uad D C) D.n x)) = if (arnd D x).2.length = x.2.length then arnd D x else arnds D R (arnd D x)
    rw [e]
    by_cases h : (arnd D x).2.length = x.2.length
    · exact (if_pos h).trans (if_pos h).symm
    · exact (if_neg h).trans ((ih _).trans (if_neg h).symm)
theorem arun_eq (D : Ad) (C : Cw) (R : Nat) (x : AS × List Nat) (ps : List Int) : rnds (Uad D C) D.n R (ps.foldl (pk (Uad D C) D.n) x) = arnds D R (ps.foldl (apk D) x) := by
  have h : ps.foldl (pk (Uad D C) D.n) x = ps.foldl (apk D) x := foldl_eq (fun x b => rfl) _ _
  exact (congrArg (rnds (Uad D C) D.n R) h).trans (arnds_eq D C R _)
structure Gd (D : Ad) (r : Nat → Nat) (x : AS × List Nat) : Prop where
  st : ∀ i, i < D.n → min (r i) 2 ≤ x.1.st i ∧ x.1.st i ≤ 2
  v : x.1.v = IntKind.i64.wrap (isum D.n fun i => if x.1.st i = 2 then D.d i else 0)
section
variable {D : Ad}
theorem stv_run {n : Nat} (h : n ≤ 2) : (stv n = 0 ∨ stv n = 1) ↔ n < 2 := by
  rcases n with _ | _ | _ | n
  · simp [stv]
  · simp [stv]
  · simp [stv]
  · omega
theorem gd_step {r : Nat → Nat} {x : AS × List Nat} {k : Nat} (hk : k < D.n) (G : Gd D r x) : Gd D (upd r k (r k + 1)) (astp D x k) := by
  have hk2 := G.st k hk
  unfold astp
  by_cases hc : stv (x.1.st k) = 0 ∨ stv (x.1.st k) = 1
  · rw [if_pos hc]
    have hlt : x.1.st k < 2 := (stv_run hk2.2).1 hc
    show Gd D _ (AS.step D x.1 k, x.2 ++ [k])
    by_cases h0 : x.1.st k = 0
    · have e : AS.step D x.1 k = { x.1 with st := upd x.1.st k 1 } := if_pos h0
      rw [e]
      refine ⟨fun i hi => ?_, ?_⟩
      · show min (upd r k (r k + 1) i) 2 ≤ upd x.1.st k 1 i ∧ upd x.1.st k 1 i ≤ 2
        by_cases e : i = k
        · subst e; rw [upd_same, upd_same]; omega
        · rw [upd_ne _ _ e, upd_ne _ _ e]; exact G.st i hi
      · show x.1.v = _
        rw [G.v]
        congr 1
        refine isum_congr _ fun i hi => ?_
        show (if x.1.st i = 2 then D.d i else 0) = if upd x.1.st k 1 i = 2 then D.d i else 0
        by_cases e : i = k
        · subst e; rw [upd_same, h0]; rfl
        · rw [upd_ne _ _ e]
    · have h1 : x.1.st k = 1 := by omega
      have e : AS.step D x.1 k = { st := upd x.1.st k 2, v := IntKind.i64.wrap (x.1.v + D.d k) } := if_neg h0
      rw [e]
      refine ⟨fun i hi => ?_, ?_⟩
      · show min (upd r k (r k + 1) i) 2 ≤ upd x.1.st k 2 i ∧ upd x.1.st k 2 i ≤ 2
        by_cases e : i = k
        · subst e; rw [upd_same, upd_same]; omega
        · rw [upd_ne _ _ e, upd_ne _ _ e]; exact G.st i hi
      · show IntKind.i64.wrap (x.1.v + D.d k) = IntKind.i64.wrap (isum D.n fun i => if upd x.1.st k 2 i = 2 then D.d i else 0)
        rw [G.v, wrap_add]
        congr 1
        have := isum_one (f := fun i => if upd x.1.st k 2 i = 2 then D.d i else 0) (g := fun i => if x.1.st i = 2 then D.d i else 0) (i := k) D.n hk (fun j hj => by
          show (if upd x.1.st k 2 j = 2 then D.d j else 0) = _
          rw [upd_ne _ _ hj])
        rw [this]
        show _ = _ - (if x.1.st k = 2 then D.d k else 0) + (if upd x.1.st k 2 k = 2 then D.d k else 0)
        rw [upd_same, h1, if_pos rfl, if_neg (by decide)]
        omega
  · rw [if_neg hc]
    have hge : ¬ x.1.st k < 2 := fun h => hc ((stv_run hk2.2).2 h)
    refine ⟨fun i hi => ?_, G.v⟩
    by_cases e : i = k
    · subst e; rw [upd_same]; omega
    · rw [upd_ne _ _ e]; exact G.st i hi
theorem gd_mono {r r' : Nat → Nat} {x : AS × List Nat} (G : Gd D r x) (h : ∀ i, i < D.n → min (r' i) 2 ≤ min (r i) 2) : Gd D r' x := ⟨fun i hi => ⟨Nat.le_trans (h i hi) (G.st i hi).1, (G.st i hi).2⟩, G.v⟩
theorem pidx_lt' {n : Nat} (h : 0 < n) (p : Int) : pidx n p < n := by
  unfold pidx
  have h1 : -(n : Int) < p.tmod n := by
    have := Int.lt_tmod_of_pos p (show (0 : Int) < n by omega)
    omega
  have h2 : 0 ≤ p.tmod n + n := by omega
  rw [Int.tmod_eq_emod_of_nonneg h2]
  have h3 := Int.emod_lt_of_pos (p.tmod n + n) (show (0 : Int) < n by omega)
  have h4 := Int.emod_nonneg (p.tmod n + n) (show (n : Int) ≠ 0 by omega)
  omega
theorem gd_picks (ps : List Int) : ∀ x : AS × List Nat, Gd D (fun _ => 0) x → Gd D (fun _ => 0) (ps.foldl (apk D) x) := by
  induction ps with
  | nil => intro x G; exact G
  | cons p ps ih =>
    intro x G
    rw [List.foldl_cons]
    refine ih _ ?_
    unfold apk
    by_cases h0 : D.n = 0
    · rw [if_pos h0]; exact G
    · rw [if_neg h0]
      exact gd_mono (gd_step (pidx_lt' (by omega) p) G) fun i hi => by omega
theorem gd_fold (r : Nat) : ∀ (m : Nat) (x : AS × List Nat), m ≤ D.n → Gd D (fun _ => r) x → Gd D (fun i => if i < m then r + 1 else r) ((List.range m).foldl (astp D) x) := by
  intro m
  induction m with
  | zero => intro x _ G; exact gd_mono G fun i hi => by rw [if_neg (by omega)]; exact Nat.le_refl _
  | succ m ih =>
    intro x hm G
    rw [List.range_succ, List.foldl_append]
    have G1 := gd_step (k := m) (by omega) (ih x (by omega) G)
    refine gd_mono G1 fun i hi => ?_
    by_cases e : i = m
    · subst e
      rw [upd_same, if_neg (show ¬ i < i by omega), if_pos (by omega)]
      exact Nat.le_refl _
    · rw [upd_ne _ _ e]
      by_cases h : i < m
      · rw [if_pos h, if_pos (by omega)]; exact Nat.le_refl _
      · rw [if_neg h, if_neg (by omega)]; exact Nat.le_refl _
theorem gd_rnd {r : Nat} {x : AS × List Nat} (G : Gd D (fun _ => r) x) : Gd D (fun _ => r + 1) (arnd D x) :=
  gd_mono (gd_fold r D.n x (Nat.le_refl _) G) fun i hi => by rw [if_pos hi]; exact Nat.le_refl _
theorem stp_len' (x : AS × List Nat) (i : Nat) : x.2.length ≤ (astp D x i).2.length := by
  unfold astp
  split
  · simp
  · exact Nat.le_refl _
theorem fold_len' : ∀ (l : List Nat) (x : AS × List Nat), x.2.length ≤ (l.foldl (astp D) x).2.length := by
  intro l
  induction l with
  | nil => intro x; exact Nat.le_refl _
  | cons k l ih => intro x; rw [List.foldl_cons]; exact Nat.le_trans (stp_len' x k) (ih _)
theorem fold_still : ∀ (l : List Nat) (x : AS × List Nat), (l.foldl (astp D) x).2.length = x.2.length → ∀ k ∈ l, ¬ (stv (x.1.st k) = 0 ∨ stv (x.1.st k) = 1) := by
  intro l
  induction l with
  | nil => intro x _ k hk; cases hk
  | cons a l ih =>
    intro x h k hk
    rw [List.foldl_cons] at h
    have h1 := fold_len' (D := D) l (astp D x a)
    have ha : ¬ (stv (x.1.st a) = 0 ∨ stv (x.1.st a) = 1) := fun hc => by
      have e : astp D x a = (AS.step D x.1 a, x.2 ++ [a]) := if_pos hc
      rw [e] at h1 h
      simp only [List.length_append, List.length_cons, List.length_nil] at h1
      omega
    have e : astp D x a = x := if_neg ha
    rw [e] at h
    rcases List.mem_cons.1 hk with rfl | hk
    · exact ha
    · exact ih x h k hk
theorem gd_rnds : ∀ (m r : Nat) (x : AS × List Nat), Gd D (fun _ => r) x → 2 ≤ r + m → Gd D (fun _ => 2) (arnds D m x) := by
  intro m
  induction m with
  | zero => intro r x G h; exact gd_mono G fun i hi => by omega
  | succ m ih =>
    intro r x G h
    have G1 := gd_rnd G
    show Gd D _ (if (arnd D x).2.length = x.2.length then arnd D x else arnds D m (arnd D x))
    by_cases hl : (arnd D x).2.length = x.2.length
    · have e : (if (arnd D x).2.length = x.2.length then arnd D x else arnds D m (arnd D x)) = arnd D x := if_pos hl
      rw [e]
      have hs : ∀ k, k < D.n → x.1.st k = 2 := fun k hk => by
        have h1 := fold_still (D := D) (List.range D.n) x hl k (List.mem_range.2 hk)
        have h2 := (G.st k hk).2
        have h3 : ¬ x.1.st k < 2 := fun h => h1 ((stv_run h2).2 h)
        omega
      have G2 : Gd D (fun _ => 2) x := ⟨fun i hi => by rw [hs i hi]; omega, G.v⟩
      exact gd_mono (gd_rnd G2) fun i hi => by omega
    · have e : (if (arnd D x).2.length = x.2.length then arnd D x else arnds D m (arnd D x)) = arnds D m (arnd D x) := if_neg hl
      rw [e]
      exact ih (r + 1) _ G1 (by omega)
theorem sums_law (ps : List Int) : (arnds D 3 (ps.foldl (apk D) ((⟨fun _ => 0, 0⟩ : AS), ([] : List Nat)))).1.v = sumw D.d D.n := by
  have G0 : Gd D (fun _ => 0) ((⟨fun _ => 0, 0⟩ : AS), ([] : List Nat)) := ⟨fun i hi => ⟨by show min 0 2 ≤ 0; omega, Nat.zero_le _⟩, by
    show (0 : Int) = IntKind.i64.wrap (isum D.n fun i => if (0 : Nat) = 2 then D.d i else 0)
    rw [isum_zero D.n fun i hi => if_neg (by decide)]
    decide⟩
  have G := gd_rnds 3 0 _ (gd_picks ps _ G0) (by omega)
  rw [G.v, sumw_eq]
  congr 1
  refine isum_congr _ fun i hi => ?_
  have := G.st i hi
  rw [if_pos (by omega)]
end
end Go.Proofs.Ytibcdikfbhmheaa
