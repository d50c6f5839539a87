/- desc.Clone: a copy of a tree, all of it new. -/
import Derived.Test.YtplaicdbcfnjbaaV10
import Derived.Test.YtplaicdbcfnjbaaV02
import Derived.Maps.AppendAt
import Derived.Deep.RegionHeld
import Derived.Laws.Tables
import Derived.Great.BuildSlice
import Derived.WalkMore
import Derived.Test.YtplaicdbcfnjbaaV05
set_option linter.unusedSimpArgs false
set_option linter.unusedVariables false
namespace Go.Proofs.Ytplaicdbcfnjbaa
open Go.RowKit
set_option linter.unusedVariables false
theorem yl_ld' {o : Oper} {f : Operand → Value} {w : World} {t : TypeId} {x : Operand} {p : Addr} {v : Value} (ho : o.op = .load t x) (hx : f x = .pointer (some p)) (h : (Instr.loadAt t (.pointer (some p))).run Try.prog w = .ok v w) : (execOp f o).run Try.prog w = .ok (.value v) w := by
  unfold execOp
  simp only [ho, hx, Sem.run_bind, Sem.run_pure, Result.andThen_ok, h]
theorem wp_append_at {o : Oper} {a : Act} {w : World} {K : Act → World → Prop} {Q : Exit → Act → World → Prop} (s x : Operand) (t : TypeId)
    (ho : o.op = .call { callee := .builtin .append, args := #[s, x], argTypes := #[t, t] })
    (base : Nat) (e : TypeId) (i : TypeInfo) (z : Value) (size bytes : Nat) (ht : Try.prog.underlying t = some (.slice e)) (hi : Try.prog.info? e = some i) (hz : i.zero = some z)
    (hsize : i.size = size) (hby : i.bytes = bytes) (hzs : z.cells.size = size) (hsz : 0 < size)
    (v : Value) (n : Nat) (xs : List Value) (hs : a.eval s = v) (hown : w.ownsRow base e size v n xs)
    (ad : Addr) (m c : Nat) (news : List Value) (hx : a.eval x = .slice (some ad) m c) (hl : news.length = m * size) (hnews : ∀ j u, news[j]? = some u → w.cell? (ad.add j) = some u) (h1 : ∀ u ∈ news, u.oneCell' = true)
    (h63 : n + m ≤ maxLen) (hbytes : (n + m) * bytes ≤ 140737488355328) (hbase : base ≤ w.heap.size)
    (h : ∀ v' w', w'.ownsRow base e size v' (n + m) (xs ++ news) → w.grownBy w' v.ownBlock → (v'.ownBlock = v.ownBlock ∨ v'.ownBlock = some w.heap.size) → K (a.put o.dst v') w') : o.wp Try.prog a w K Q := by
  obtain ⟨v', w', hr, h2, h3, h4, h5⟩ := run_append_own_at (P := Try.prog) w base t o.type e i z size bytes ht hi hz hsize hby hzs hsz v n xs hown ad m c news hl hnews h1 h63 hbytes hbase
  unfold Oper.wp execOp
  simp only [ho, resolve, invoke, builtin, Sem.run_bind, Sem.run_pure, Result.andThen_ok, List.map_toArray, List.map_cons, List.map_nil, hs, hx, hr]
  exact h v' w' h2 h3 h5
theorem step_cl {w0 f k cap2 : Nat} {t : DT} {As : Nat → Option Addr} {cs : Nat → Nat} {A2 : Option Addr} {v v' : Value} {wr wX w3 : World}
    (hds : ∀ j, j < k → IsDA (fun b => v.ownBlock = some b ∨ b < w0 + 3) wr f (t.kid j) (As j) (cs j)) (n : New wr wX) (g : IsDA (fun b => b < wr.heap.size) wX f (t.kid k) A2 cap2)
    (hg : wX.grownBy w3 v.ownBlock) (oo : w3.ownsRow (w0 + 3) 32 3 v' (k + 1) (cl t As cs k ++ [.int .i64 (t.kid k).k, .int .i64 (t.kid k).n, .slice A2 (t.kid k).kids.length cap2])) (ow : wr.ownsRow (w0 + 3) 32 3 v k (cl t As cs k))
    (hat : v'.ownBlock = v.ownBlock ∨ v'.ownBlock = some wX.heap.size) (hw : w0 + 3 ≤ wr.heap.size)
    (bx : Box w3 (w0 + 1 + 1) 32 #[.int .i64 t.k, .int .i64 t.n, v]) (bz : Box w3 (w0 + 1) 32 #[.int .i64 0, .int .i64 0, .slice none 0 0]) :
    (w3.setCell ⟨w0 + 1 + 1, 2, none⟩ v').ownsRow (w0 + 3) 32 3 v' (k + 1) (cl t (fun j => if j = k then A2 else As j) (fun j => if j = k then cap2 else cs j) (k + 1)) ∧
    Box (w3.setCell ⟨w0 + 1 + 1, 2, none⟩ v') (w0 + 1 + 1) 32 #[.int .i64 t.k, .int .i64 t.n, v'] ∧ Box (w3.setCell ⟨w0 + 1 + 1, 2, none⟩ v') (w0 + 1) 32 #[.int .i64 0, .int .i64 0, .slice none 0 0] ∧
    ∀ j, j < k + 1 → IsDA (fun b => v'.ownBlock = some b ∨ b < w0 + 3) (w3.setCell ⟨w0 + 1 + 1, 2, none⟩ v') f (t.kid j) ((fun j => if j = k then A2 else As j) j) ((fun j => if j = k then cap2 else cs j) j) := by
  have hsz : wr.heap.size ≤ wX.heap.size := n.lt
  have hsz3 := hg.size
  have hlo : ∀ b, v.ownBlock = some b → b < wr.heap.size := fun b e => (ow.lt b e).2
  have hlo' : ∀ b, v'.ownBlock = some b → w0 + 3 ≤ b := fun b e => (oo.lt b e).1
  have hblk : ∀ b, b ≠ w0 + 1 + 1 → (w3.setCell ⟨w0 + 1 + 1, 2, none⟩ v').heap[b]? = w3.heap[b]? := fun b hb => Below.heap_setCell _ _ _ _ hb
  have hss : (w3.setCell ⟨w0 + 1 + 1, 2, none⟩ v').heap.size = w3.heap.size := by simp
  refine ⟨?_, ?_, bz.off (by simp) _, fun j hj => ?_⟩
  · rw [cl_snoc]
    have e1 : cl t (fun j => if j = k then A2 else As j) (fun j => if j = k then cap2 else cs j) k = cl t As cs k := cl_congr fun j hj => ⟨if_neg (by omega), if_neg (by omega)⟩
    rw [e1]
    simp only [if_true]
    refine own_off oo (fun e => ?_) _
    have h9 : w0 + 3 ≤ w0 + 1 + 1 := hlo' _ e
    omega
  · have := bx.put 2 v'
    simpa using this
  · by_cases hjk : j = k
    · subst hjk
      simp only [if_true]
      refine IsDA.keep (w := wX) (by rw [hss]; exact hsz3) (fun b hb hbl => ?_) (fun b hb hy => ?_) g
      · rw [hblk b (by omega)]
        exact hg.block b hbl (fun e => hb (hlo b e.symm))
      · rcases hy with hy | hy
        · rcases hat with h | h
          · rw [h] at hy; exact hlo b hy
          · rw [h] at hy; cases hy; omega
        · show b < wr.heap.size; omega
    · simp only [if_neg hjk]
      refine IsDA.keep (w := wr) (by rw [hss]; omega) (fun b hb hbl => ?_) (fun b hb hy => ?_) (hds j (by omega))
      · rw [hblk b (fun e => hb (.inr (by omega)))]
        rw [hg.block b (by omega) (fun e => hb (.inl e.symm))]
        exact n.block b hbl
      · rcases hy with hy | hy
        · rcases hat with h | h
          · exact .inl (h ▸ hy)
          · rw [h] at hy; cases hy; omega
        · exact .inr hy
theorem own_cap {w : World} {base : Nat} {e : TypeId} {size n cap : Nat} {A : Option Addr} {xs : List Value} (h : w.ownsRow base e size (.slice A n cap) n xs) : cap ≤ 9223372036854775807 := by
  rcases h.2 with ⟨h1, _⟩ | ⟨g, cap', cur, h1, _, _, _, hc, _⟩
  · cases h1; omega
  · cases h1; simp only [maxLen] at hc; omega
theorem ret_cl {w0 f k cap : Nat} {t : DT} {As : Nat → Option Addr} {cs : Nat → Nat} {A : Option Addr} {w wr w' : World} (hkl : k = t.kids.length) (hi : i64 t.k ∧ i64 t.n) (hk : k ≤ cap) (hc : cap ≤ 9223372036854775807)
    (h9 : 0 < k → ∃ g, A = some ⟨g, 0, none⟩ ∧ w0 + 3 ≤ g ∧ g < wr.heap.size ∧ ∀ j, j < k * 3 → wr.cell? ⟨g, j, none⟩ = (cl t As cs k)[j]?)
    (hds : ∀ j, j < k → IsDA (fun b => Value.ownBlock (.slice A k cap) = some b ∨ b < w0 + 3) wr f (t.kid j) (As j) (cs j))
    (hs : w'.heap.size = wr.heap.size) (hb : ∀ b, b ≠ w0 + 1 → w'.heap[b]? = wr.heap[b]?) :
    IsDA (fun b => b < w0) w' (f + 1) t A cap := by
  subst hkl
  refine ⟨hi.1, hi.2, hk, hc, fun h0 => ?_⟩
  obtain ⟨g, rfl, hg, hgs, hcell⟩ := h9 h0
  refine ⟨_, rfl, (by show ¬ g < w0; omega), fun i hi => ⟨As i, cs i, ?_, ?_⟩⟩
  · have e : (⟨g, 0, none⟩ : Addr).add (i * 3) = ⟨g, i * 3, none⟩ := by unfold Addr.add; split <;> simp_all
    rw [e]
    have hcc : ∀ r, r < 3 → w'.cell? ⟨g, i * 3 + r, none⟩ = (dcs (t.kid i) (As i) (cs i)).toList[r]? := fun r hr => by
      have e1 : w'.cell? ⟨g, i * 3 + r, none⟩ = wr.cell? ⟨g, i * 3 + r, none⟩ := by simp only [World.cell?]; rw [hb g (by omega)]
      rw [e1, hcell _ (by omega)]
      exact cl_at t As cs _ i r hi hr
    exact ⟨by rw [hs]; exact hgs, (hcc 0 (by omega)).trans rfl, (hcc 1 (by omega)).trans rfl, (hcc 2 (by omega)).trans rfl⟩
  · exact IsDA.keep (by omega) (fun b h _ => hb b (fun e => h (.inr (by omega)))) (fun b _ (h : b < w0) => .inr (by omega)) (hds i hi)
def Cloned (f : Nat) (t : DT) (w : World) (e : Ending) (w' : World) : Prop := ∃ A cap, e = .returned (dagg t A cap) ∧ IsDA (fun b => b < w.heap.size) w' f t A cap ∧ New w w'
attribute [local irreducible] Go.wpList
set_option maxRecDepth 100000 in
set_option maxHeartbeats 4000000 in
theorem clone_any : ∀ (f : Nat) (t : DT) (A : Option Addr) (cap : Nat) (w : World), IsD w f t A cap → nodes f t ≤ 4000000 → Calls Try.prog 48 #[dagg t A cap] w (Cloned f t w)
  | 0, _, _, _, _, h, _ => h.elim
  | f + 1, t, A, cap, w, hD, hn => by
    obtain ⟨i0, hi, hz0, hz1, hz2⟩ := info_parts info32
    have IH := Lib.hid (clone_any f)
    have hkl := kids_le hD
    obtain ⟨hk1, hk2, hc1, hc2, hkids⟩ := hD
    have HKD := Lib.hid hkids
    have HSL := Lib.hid (fun i (h : i < t.kids.length) => (by have := sumN_le (nodes f) t.kids (show i + 1 ≤ t.kids.length by omega); have e : sumN (nodes f) t.kids (i + 1) = sumN (nodes f) t.kids i + nodes f (t.kid i) := rfl; have e2 : nodes (f + 1) t = 1 + sumN (nodes f) t.kids t.kids.length := rfl; omega : nodes f (t.kid i) ≤ 4000000))
    have HI := Lib.hid (⟨hk1, hk2⟩ : _ ∧ _)
    obtain ⟨L, hL⟩ : ∃ L, L = t.kids.length := ⟨_, rfl⟩
    have HLL := Lib.hid hL
    have hLb : L ≤ 4000000 := by omega
    unfold dagg
    rw [← hL]
    clear hkids hk1 hk2 hc1 hc2 hn hL hkl
    go_enter Try.func48, Try.ntmps48
    go_wp2_with fail
    go_loopg [14] L (fun g i wr => ∃ (k : Nat) (v : Value) (As : Nat → Option Addr) (cs : Nat → Nat), k + g = L ∧ i = .int .i64 k ∧ wr.ownsRow (w.heap.size + 3) 32 3 v k (cl t As cs k) ∧ Box wr (w.heap.size + 1 + 1) 32 #[.int .i64 t.k, .int .i64 t.n, v] ∧ Box wr (w.heap.size + 1) 32 #[.int .i64 0, .int .i64 0, .slice none 0 0] ∧
      (∀ j, j < k → IsDA (fun b => v.ownBlock = some b ∨ b < w.heap.size + 3) wr f (t.kid j) (As j) (cs j)) ∧ New w wr)
    case atStart =>
      refine ⟨0, .slice none 0 0, fun _ => none, fun _ => 0, by omega, rfl, ⟨rfl, Or.inl ⟨rfl, rfl⟩⟩, ?_, ?_, fun j hj => absurd hj (by omega), ((New.refl _).alloc _).alloc _ |>.alloc _⟩
      · first | exact Box.made' _ 32 _ (by simp) | (simpa using Box.made' ((w.alloc (.cells #[.int .i64 t.k, .int .i64 t.n, .slice A L cap] 32)).alloc (.cells #[.int .i64 0, .int .i64 0, .slice none 0 0] 32)) 32 #[.int .i64 t.k, .int .i64 t.n, .slice none 0 0] (by simp))
      · exact (Box.made' (w.alloc _) 32 _ (by simp)).alloc _
    case round =>
      obtain ⟨k, v, As, cs, hk, rfl, own, bx, bz, hds, nw⟩ := hrel
      by_cases hlt : k < L
      · obtain ⟨ad, rfl, hkd⟩ := HKD.out (by rw [← HLL.out]; omega)
        obtain ⟨A', cap', d, hD'⟩ := hkd k (by rw [← HLL.out]; omega)
        have d' := d.new nw
        obtain ⟨dl, d0, d1, d2⟩ := d'
        have hnk := HSL.out k (by rw [← HLL.out]; omega)
        have hk3 : (k : Int) < L := by omega
        have C := Lib.hid (fun w' (m : New w w') => IH.out (t.kid k) A' cap' w' (hD'.new m) hnk)
        unfold dagg at C
        have OW := Lib.hid own
        have BX := Lib.hid bx
        have BZ := Lib.hid bz
        have HDS := Lib.hid hds
        have lw := bx.lt
        have NW := Lib.hid nw
        have RB := Lib.hid (Box.made wr 32 #[.int .i64 (t.kid k).k, .int .i64 (t.kid k).n, .slice A' (t.kid k).kids.length cap'])
        clear hkd d hD' own bx bz hds hnk nw
        go_wp2_with fail
        refine wp_region_held_drew (S := (fun w' => New w w' ∧ Box w' wr.heap.size 32 #[.int .i64 (t.kid k).k, .int .i64 (t.kid k).n, .slice A' (t.kid k).kids.length cap'])) (by kernel_rfl) ⟨(NW.out.alloc _).drew, RB.out⟩ (fun hH => ?_)
        have n0 := Lib.hid (New.drew ((New.refl wr).alloc (.cells #[.int .i64 (t.kid k).k, .int .i64 (t.kid k).n, .slice A' (t.kid k).kids.length cap'] 32)))
        refine wpAnyH_take (i := 0) (oi := { dst := some 18, op := Go.Op.fieldAddr 32 (Go.Operand.tmp 3) 2, type := 0, pos := "desc.go:64", after := #[], guard := none }) (v := .pointer (some ⟨w.heap.size + 1 + 1, 2, none⟩)) rfl (by kernel_rfl) (by kernel_rfl) (by kernel_rfl) (fun _ _ _ h => h) (Or.inl ⟨by rfl, ?_⟩) hH ?_
        (intro w5 hS5; go_simp; try rfl)
        try simp only [Act.put, List.setIfInBounds_toArray, List.set_cons_zero, List.set_cons_succ]
        refine wpAnyH_take (i := 2) (oi := { dst := some 20, op := Go.Op.load 32 (Go.Operand.tmp 5), type := 32, pos := "desc.go:64", after := #[], guard := none }) (v := .agg #[.int .i64 (t.kid k).k, .int .i64 (t.kid k).n, .slice A' (t.kid k).kids.length cap']) rfl (by kernel_rfl) (by kernel_rfl) (by kernel_rfl) (fun _ _ _ h => h) (Or.inl ⟨by rfl, ?_⟩) hH ?_
        (intro w5 hS5; have z0 := hS5.2.cell 0; have z1 := hS5.2.cell 1; have z2 := hS5.2.cell 2; go_simp; try rfl)
        try simp only [Act.put, List.setIfInBounds_toArray, List.set_cons_zero, List.set_cons_succ]
        refine wpAnyH_ready (rs := [1, 3]) (by kernel_rfl) (by simp) ?_
        refine (AllReadyH.cons (o := { dst := some 19, op := Go.Op.load 30 (Go.Operand.tmp 18), type := 30, pos := "desc.go:64", after := #[{ on := 0, ground := Go.Ground.data }], guard := none }) rfl (fun K5 hK5 => ?_) (AllReadyH.cons (o := { dst := some 21, op := Go.Op.call { callee := Go.Callee.value (Go.Operand.func 48), args := #[Go.Operand.tmp 20], argTypes := #[32] }, type := 32, pos := "desc.go:64", after := #[{ on := 2, ground := Go.Ground.data }], guard := none }) rfl (fun K5 hK5 => ?_) AllReadyH.nil))
        · have q1 := (Box.new BX.out n0.out).cell 2
          simp only [List.getElem?_toArray, List.getElem?_cons_zero, List.getElem?_cons_succ] at q1
          go_simp
          refine hK5.out _ _ hH (fun s1 => ?_)
          clear hK5 K5 q1
          try simp only [Act.put, List.setIfInBounds_toArray, List.set_cons_zero, List.set_cons_succ]
          refine wpAnyH_ready (rs := [3]) (by kernel_rfl) (by simp) ?_
          refine (AllReadyH.cons (o := { dst := some 21, op := Go.Op.call { callee := Go.Callee.value (Go.Operand.func 48), args := #[Go.Operand.tmp 20], argTypes := #[32] }, type := 32, pos := "desc.go:64", after := #[{ on := 2, ground := Go.Ground.data }], guard := none }) rfl (fun K5 hK5 => ?_) AllReadyH.nil)
          go_simp
          refine (C.out _ s1.1).mono ?_; rintro e v2 ⟨A2, cap2, rfl, g2, m2⟩
          have n2 := Lib.hid (New.trans n0.out m2)
          unfold dagg
          refine hK5.out _ _ ⟨New.trans s1.1 m2, Box.new s1.2 m2⟩ (fun s2 => ?_)
          clear hK5 K5
          have G2 := Lib.hid (show IsDA (fun b => b < wr.heap.size) v2 f (t.kid k) A2 cap2 from IsDA.keep (Nat.le_refl _) (fun _ _ _ => rfl) (fun b _ hb => Nat.lt_of_lt_of_le hb (New.lt n0.out)) g2)
          clear g2
          try simp only [Act.put, List.setIfInBounds_toArray, List.set_cons_zero, List.set_cons_succ]
          refine wpAnyH_ready (rs := [4]) (by kernel_rfl) (by simp) ?_
          refine (AllReadyH.cons (o := { dst := some 22, op := Go.Op.buildSlice 30 1 #[(0, Go.Operand.tmp 21)], type := 30, pos := "desc.go:64", after := #[{ on := 3, ground := Go.Ground.data }], guard := none }) rfl (fun K5 hK5 => ?_) AllReadyH.nil)
          go_simp
          refine hK5.out _ _ ⟨New.alloc s2.1 _, Box.alloc s2.2 _⟩ (fun s3 => ?_)
          clear hK5 K5
          have n3 := Lib.hid (New.alloc n2.out (.cells #[.int .i64 (t.kid k).k, .int .i64 (t.kid k).n, .slice A2 (t.kid k).kids.length cap2] 32))
          have G3 := Lib.hid (IsDA.new G2.out ((New.refl _).alloc (.cells #[.int .i64 (t.kid k).k, .int .i64 (t.kid k).n, .slice A2 (t.kid k).kids.length cap2] 32)))
          have B3 := Lib.hid (Box.made v2 32 #[.int .i64 (t.kid k).k, .int .i64 (t.kid k).n, .slice A2 (t.kid k).kids.length cap2])
          try simp only [Act.put, List.setIfInBounds_toArray, List.set_cons_zero, List.set_cons_succ]
          refine wpAnyH_ready (rs := [5]) (by kernel_rfl) (by simp) ?_
          refine (AllReadyH.cons (o := { dst := some 23, op := Go.Op.call { callee := Go.Callee.builtin Go.Builtin.append, args := #[Go.Operand.tmp 19, Go.Operand.tmp 22], argTypes := #[30, 30] }, type := 30, pos := "desc.go:64", after := #[{ on := 1, ground := Go.Ground.data }, { on := 4, ground := Go.Ground.data }, { on := 3, ground := Go.Ground.chain }], guard := none }) rfl (fun K5 hK5 => ?_) AllReadyH.nil)
          rw [if_pos (by rfl)]
          refine wp_append_at (.tmp 19) (.tmp 22) 30 rfl (w.heap.size + 3) 32 i0 _ 3 40 Try.underlying30 hi hz0 hz1 hz2 rfl (by decide) v k (cl t As cs k) rfl (own_new OW.out n3.out) ⟨v2.heap.size, 0, none⟩ 1 1 [.int .i64 (t.kid k).k, .int .i64 (t.kid k).n, .slice A2 (t.kid k).kids.length cap2] rfl rfl (fun j u hu => by rw [Addr.add_mid, Nat.zero_add]; exact (Box.cell B3.out j).trans (by simpa using hu)) (by simp [Value.oneCell']) (by unfold maxLen; omega) (by omega) (by have := New.lt n3.out; omega) (fun v' w3 own3 hgr hat => ?_)
          obtain ⟨A9, cap9, rfl, -, -⟩ := own_slice own3
          have OO := Lib.hid own3
          have HG := Lib.hid hgr
          have hb2 : ∀ b, v.ownBlock = some b → w.heap.size + 3 ≤ b := fun b e => (OW.out.lt _ e).1
          have HB2 := Lib.hid hb2
          have HAT := Lib.hid hat
          clear own3 hgr hb2 hat
          have s4 : New w w3 ∧ Box w3 wr.heap.size 32 #[.int .i64 (t.kid k).k, .int .i64 (t.kid k).n, .slice A' (t.kid k).kids.length cap'] := ⟨New.grown s3.1 HG.out (fun b e => by have := HB2.out b e; omega), Box.grown s3.2 HG.out (fun e => by have := (OW.out.lt _ e.symm).2; omega)⟩
          refine hK5.out _ _ s4 (fun _ => ?_)
          clear hK5 K5
          try simp only [Act.put, List.setIfInBounds_toArray, List.set_cons_zero, List.set_cons_succ]
          refine wpAnyH_take (i := 6) (oi := { dst := some 24, op := Go.Op.fieldAddr 32 (Go.Operand.tmp 3) 2, type := 0, pos := "desc.go:64", after := #[{ on := 0, ground := Go.Ground.phase }, { on := 1, ground := Go.Ground.phase }, { on := 2, ground := Go.Ground.phase }, { on := 3, ground := Go.Ground.phase }, { on := 4, ground := Go.Ground.phase }, { on := 5, ground := Go.Ground.phase }], guard := none }) (v := .pointer (some ⟨w.heap.size + 1 + 1, 2, none⟩)) rfl (by kernel_rfl) (by kernel_rfl) (by kernel_rfl) (fun _ _ _ h => h) (Or.inl ⟨by rfl, ?_⟩) s4 ?_
          (intro w5 hS5; go_simp; try rfl)
          try simp only [Act.put, List.setIfInBounds_toArray, List.set_cons_zero, List.set_cons_succ]
          have BX3 := Lib.hid (Box.grown (Box.new BX.out n3.out) HG.out (fun e => by have := HB2.out _ e.symm; omega))
          have BZ3 := Lib.hid (Box.grown (Box.new BZ.out n3.out) HG.out (fun e => by have := HB2.out _ e.symm; omega))
          have p0 := BX3.out.cell 2
          have p1 := BX3.out.frozen 2
          simp only [List.getElem?_toArray, List.getElem?_cons_zero, List.getElem?_cons_succ] at p0
          refine wpAnyH_ready (rs := [7]) (by kernel_rfl) (by simp) ?_
          refine AllReadyH.cons (o := { dst := none, op := Go.Op.store 30 (Go.Operand.tmp 24) (Go.Operand.tmp 23), type := 0, pos := "desc.go:64", after := #[{ on := 6, ground := Go.Ground.data }, { on := 5, ground := Go.Ground.data }, { on := 5, ground := Go.Ground.chain }, { on := 0, ground := Go.Ground.phase }, { on := 1, ground := Go.Ground.phase }, { on := 2, ground := Go.Ground.phase }, { on := 3, ground := Go.Ground.phase }, { on := 4, ground := Go.Ground.phase }, { on := 5, ground := Go.Ground.phase }], guard := none }) rfl (fun K5 hK5 => ?_) AllReadyH.nil
          go_simp
          refine hK5.out _ _ ⟨New.setCell (p := ⟨w.heap.size + 1 + 1, 2, none⟩) s4.1 (by show w.heap.size ≤ w.heap.size + 1 + 1; omega) _, Box.off (p := ⟨w.heap.size + 1 + 1, 2, none⟩) s4.2 (by show wr.heap.size ≠ w.heap.size + 1 + 1; omega) _⟩ (fun s9 => ?_)
          clear hK5 K5 p0 p1
          try simp only [Act.put, List.setIfInBounds_toArray, List.set_cons_zero, List.set_cons_succ]
          refine wpAnyH_done (by kernel_rfl) ?_ _
          have HZ := Lib.hid s9.1
          clear s9 hH
          have FF := Lib.hid (step_cl (w0 := w.heap.size) (t := t) (f := f) (As := As) (cs := cs) (k := k) (A2 := A2) (cap2 := cap2) HDS.out n3.out G3.out HG.out OO.out OW.out HAT.out (by have := New.lt NW.out; omega) BX3.out BZ3.out)
          go_wp2_with fail
          go_roundg (gk - 1)
          case rel =>
            obtain ⟨q1, q2, q3, q4⟩ := FF.out
            exact ⟨k + 1, _, _, _, by omega, by go_num, q1, q2, q3, q4, HZ.out⟩
          case measure => omega
        · go_simp
          refine (C.out _ hH.1).mono ?_; rintro e v5 ⟨A2, cap2, rfl, g5, m5⟩
          have n5 := Lib.hid (New.trans n0.out m5)
          unfold dagg
          refine hK5.out _ _ ⟨New.trans hH.1 m5, Box.new hH.2 m5⟩ (fun s5 => ?_)
          clear hK5 K5
          have G5 := Lib.hid (show IsDA (fun b => b < wr.heap.size) v5 f (t.kid k) A2 cap2 from IsDA.keep (Nat.le_refl _) (fun _ _ _ => rfl) (fun b _ hb => Nat.lt_of_lt_of_le hb (New.lt n0.out)) g5)
          clear g5
          try simp only [Act.put, List.setIfInBounds_toArray, List.set_cons_zero, List.set_cons_succ]
          refine wpAnyH_ready (rs := [1, 4]) (by kernel_rfl) (by simp) ?_
          refine (AllReadyH.cons (o := { dst := some 19, op := Go.Op.load 30 (Go.Operand.tmp 18), type := 30, pos := "desc.go:64", after := #[{ on := 0, ground := Go.Ground.data }], guard := none }) rfl (fun K5 hK5 => ?_) (AllReadyH.cons (o := { dst := some 22, op := Go.Op.buildSlice 30 1 #[(0, Go.Operand.tmp 21)], type := 30, pos := "desc.go:64", after := #[{ on := 3, ground := Go.Ground.data }], guard := none }) rfl (fun K5 hK5 => ?_) AllReadyH.nil))
          · have q6 := (Box.new BX.out n5.out).cell 2
            simp only [List.getElem?_toArray, List.getElem?_cons_zero, List.getElem?_cons_succ] at q6
            go_simp
            refine hK5.out _ _ s5 (fun s6 => ?_)
            clear hK5 K5 q6
            try simp only [Act.put, List.setIfInBounds_toArray, List.set_cons_zero, List.set_cons_succ]
            refine wpAnyH_ready (rs := [4]) (by kernel_rfl) (by simp) ?_
            refine (AllReadyH.cons (o := { dst := some 22, op := Go.Op.buildSlice 30 1 #[(0, Go.Operand.tmp 21)], type := 30, pos := "desc.go:64", after := #[{ on := 3, ground := Go.Ground.data }], guard := none }) rfl (fun K5 hK5 => ?_) AllReadyH.nil)
            go_simp
            refine hK5.out _ _ ⟨New.alloc s6.1 _, Box.alloc s6.2 _⟩ (fun s7 => ?_)
            clear hK5 K5
            have n7 := Lib.hid (New.alloc n5.out (.cells #[.int .i64 (t.kid k).k, .int .i64 (t.kid k).n, .slice A2 (t.kid k).kids.length cap2] 32))
            have G7 := Lib.hid (IsDA.new G5.out ((New.refl _).alloc (.cells #[.int .i64 (t.kid k).k, .int .i64 (t.kid k).n, .slice A2 (t.kid k).kids.length cap2] 32)))
            have B7 := Lib.hid (Box.made v5 32 #[.int .i64 (t.kid k).k, .int .i64 (t.kid k).n, .slice A2 (t.kid k).kids.length cap2])
            try simp only [Act.put, List.setIfInBounds_toArray, List.set_cons_zero, List.set_cons_succ]
            refine wpAnyH_ready (rs := [5]) (by kernel_rfl) (by simp) ?_
            refine (AllReadyH.cons (o := { dst := some 23, op := Go.Op.call { callee := Go.Callee.builtin Go.Builtin.append, args := #[Go.Operand.tmp 19, Go.Operand.tmp 22], argTypes := #[30, 30] }, type := 30, pos := "desc.go:64", after := #[{ on := 1, ground := Go.Ground.data }, { on := 4, ground := Go.Ground.data }, { on := 3, ground := Go.Ground.chain }], guard := none }) rfl (fun K5 hK5 => ?_) AllReadyH.nil)
            rw [if_pos (by rfl)]
            refine wp_append_at (.tmp 19) (.tmp 22) 30 rfl (w.heap.size + 3) 32 i0 _ 3 40 Try.underlying30 hi hz0 hz1 hz2 rfl (by decide) v k (cl t As cs k) rfl (own_new OW.out n7.out) ⟨v5.heap.size, 0, none⟩ 1 1 [.int .i64 (t.kid k).k, .int .i64 (t.kid k).n, .slice A2 (t.kid k).kids.length cap2] rfl rfl (fun j u hu => by rw [Addr.add_mid, Nat.zero_add]; exact (Box.cell B7.out j).trans (by simpa using hu)) (by simp [Value.oneCell']) (by unfold maxLen; omega) (by omega) (by have := New.lt n7.out; omega) (fun v' w3 own3 hgr hat => ?_)
            obtain ⟨A9, cap9, rfl, -, -⟩ := own_slice own3
            have OO := Lib.hid own3
            have HG := Lib.hid hgr
            have hb2 : ∀ b, v.ownBlock = some b → w.heap.size + 3 ≤ b := fun b e => (OW.out.lt _ e).1
            have HB2 := Lib.hid hb2
            have HAT := Lib.hid hat
            clear own3 hgr hb2 hat
            have s8 : New w w3 ∧ Box w3 wr.heap.size 32 #[.int .i64 (t.kid k).k, .int .i64 (t.kid k).n, .slice A' (t.kid k).kids.length cap'] := ⟨New.grown s7.1 HG.out (fun b e => by have := HB2.out b e; omega), Box.grown s7.2 HG.out (fun e => by have := (OW.out.lt _ e.symm).2; omega)⟩
            refine hK5.out _ _ s8 (fun _ => ?_)
            clear hK5 K5
            try simp only [Act.put, List.setIfInBounds_toArray, List.set_cons_zero, List.set_cons_succ]
            refine wpAnyH_take (i := 6) (oi := { dst := some 24, op := Go.Op.fieldAddr 32 (Go.Operand.tmp 3) 2, type := 0, pos := "desc.go:64", after := #[{ on := 0, ground := Go.Ground.phase }, { on := 1, ground := Go.Ground.phase }, { on := 2, ground := Go.Ground.phase }, { on := 3, ground := Go.Ground.phase }, { on := 4, ground := Go.Ground.phase }, { on := 5, ground := Go.Ground.phase }], guard := none }) (v := .pointer (some ⟨w.heap.size + 1 + 1, 2, none⟩)) rfl (by kernel_rfl) (by kernel_rfl) (by kernel_rfl) (fun _ _ _ h => h) (Or.inl ⟨by rfl, ?_⟩) s8 ?_
            (intro w5 hS5; go_simp; try rfl)
            try simp only [Act.put, List.setIfInBounds_toArray, List.set_cons_zero, List.set_cons_succ]
            have BX3 := Lib.hid (Box.grown (Box.new BX.out n7.out) HG.out (fun e => by have := HB2.out _ e.symm; omega))
            have BZ3 := Lib.hid (Box.grown (Box.new BZ.out n7.out) HG.out (fun e => by have := HB2.out _ e.symm; omega))
            have p0 := BX3.out.cell 2
            have p1 := BX3.out.frozen 2
            simp only [List.getElem?_toArray, List.getElem?_cons_zero, List.getElem?_cons_succ] at p0
            refine wpAnyH_ready (rs := [7]) (by kernel_rfl) (by simp) ?_
            refine AllReadyH.cons (o := { dst := none, op := Go.Op.store 30 (Go.Operand.tmp 24) (Go.Operand.tmp 23), type := 0, pos := "desc.go:64", after := #[{ on := 6, ground := Go.Ground.data }, { on := 5, ground := Go.Ground.data }, { on := 5, ground := Go.Ground.chain }, { on := 0, ground := Go.Ground.phase }, { on := 1, ground := Go.Ground.phase }, { on := 2, ground := Go.Ground.phase }, { on := 3, ground := Go.Ground.phase }, { on := 4, ground := Go.Ground.phase }, { on := 5, ground := Go.Ground.phase }], guard := none }) rfl (fun K5 hK5 => ?_) AllReadyH.nil
            go_simp
            refine hK5.out _ _ ⟨New.setCell (p := ⟨w.heap.size + 1 + 1, 2, none⟩) s8.1 (by show w.heap.size ≤ w.heap.size + 1 + 1; omega) _, Box.off (p := ⟨w.heap.size + 1 + 1, 2, none⟩) s8.2 (by show wr.heap.size ≠ w.heap.size + 1 + 1; omega) _⟩ (fun s9 => ?_)
            clear hK5 K5 p0 p1
            try simp only [Act.put, List.setIfInBounds_toArray, List.set_cons_zero, List.set_cons_succ]
            refine wpAnyH_done (by kernel_rfl) ?_ _
            have HZ := Lib.hid s9.1
            clear s9 hH
            have FF := Lib.hid (step_cl (w0 := w.heap.size) (t := t) (f := f) (As := As) (cs := cs) (k := k) (A2 := A2) (cap2 := cap2) HDS.out n7.out G7.out HG.out OO.out OW.out HAT.out (by have := New.lt NW.out; omega) BX3.out BZ3.out)
            go_wp2_with fail
            go_roundg (gk - 1)
            case rel =>
              obtain ⟨q1, q2, q3, q4⟩ := FF.out
              exact ⟨k + 1, _, _, _, by omega, by go_num, q1, q2, q3, q4, HZ.out⟩
            case measure => omega
          · go_simp
            refine hK5.out _ _ ⟨New.alloc s5.1 _, Box.alloc s5.2 _⟩ (fun s9 => ?_)
            clear hK5 K5
            have n9 := Lib.hid (New.alloc n5.out (.cells #[.int .i64 (t.kid k).k, .int .i64 (t.kid k).n, .slice A2 (t.kid k).kids.length cap2] 32))
            have G9 := Lib.hid (IsDA.new G5.out ((New.refl _).alloc (.cells #[.int .i64 (t.kid k).k, .int .i64 (t.kid k).n, .slice A2 (t.kid k).kids.length cap2] 32)))
            have B9 := Lib.hid (Box.made v5 32 #[.int .i64 (t.kid k).k, .int .i64 (t.kid k).n, .slice A2 (t.kid k).kids.length cap2])
            try simp only [Act.put, List.setIfInBounds_toArray, List.set_cons_zero, List.set_cons_succ]
            refine wpAnyH_ready (rs := [1]) (by kernel_rfl) (by simp) ?_
            refine (AllReadyH.cons (o := { dst := some 19, op := Go.Op.load 30 (Go.Operand.tmp 18), type := 30, pos := "desc.go:64", after := #[{ on := 0, ground := Go.Ground.data }], guard := none }) rfl (fun K5 hK5 => ?_) AllReadyH.nil)
            have q10 := (Box.new BX.out n9.out).cell 2
            simp only [List.getElem?_toArray, List.getElem?_cons_zero, List.getElem?_cons_succ] at q10
            go_simp
            refine hK5.out _ _ s9 (fun s10 => ?_)
            clear hK5 K5 q10
            try simp only [Act.put, List.setIfInBounds_toArray, List.set_cons_zero, List.set_cons_succ]
            refine wpAnyH_ready (rs := [5]) (by kernel_rfl) (by simp) ?_
            refine (AllReadyH.cons (o := { dst := some 23, op := Go.Op.call { callee := Go.Callee.builtin Go.Builtin.append, args := #[Go.Operand.tmp 19, Go.Operand.tmp 22], argTypes := #[30, 30] }, type := 30, pos := "desc.go:64", after := #[{ on := 1, ground := Go.Ground.data }, { on := 4, ground := Go.Ground.data }, { on := 3, ground := Go.Ground.chain }], guard := none }) rfl (fun K5 hK5 => ?_) AllReadyH.nil)
            rw [if_pos (by rfl)]
            refine wp_append_at (.tmp 19) (.tmp 22) 30 rfl (w.heap.size + 3) 32 i0 _ 3 40 Try.underlying30 hi hz0 hz1 hz2 rfl (by decide) v k (cl t As cs k) rfl (own_new OW.out n9.out) ⟨v5.heap.size, 0, none⟩ 1 1 [.int .i64 (t.kid k).k, .int .i64 (t.kid k).n, .slice A2 (t.kid k).kids.length cap2] rfl rfl (fun j u hu => by rw [Addr.add_mid, Nat.zero_add]; exact (Box.cell B9.out j).trans (by simpa using hu)) (by simp [Value.oneCell']) (by unfold maxLen; omega) (by omega) (by have := New.lt n9.out; omega) (fun v' w3 own3 hgr hat => ?_)
            obtain ⟨A9, cap9, rfl, -, -⟩ := own_slice own3
            have OO := Lib.hid own3
            have HG := Lib.hid hgr
            have hb2 : ∀ b, v.ownBlock = some b → w.heap.size + 3 ≤ b := fun b e => (OW.out.lt _ e).1
            have HB2 := Lib.hid hb2
            have HAT := Lib.hid hat
            clear own3 hgr hb2 hat
            have s11 : New w w3 ∧ Box w3 wr.heap.size 32 #[.int .i64 (t.kid k).k, .int .i64 (t.kid k).n, .slice A' (t.kid k).kids.length cap'] := ⟨New.grown s10.1 HG.out (fun b e => by have := HB2.out b e; omega), Box.grown s10.2 HG.out (fun e => by have := (OW.out.lt _ e.symm).2; omega)⟩
            refine hK5.out _ _ s11 (fun _ => ?_)
            clear hK5 K5
            try simp only [Act.put, List.setIfInBounds_toArray, List.set_cons_zero, List.set_cons_succ]
            refine wpAnyH_take (i := 6) (oi := { dst := some 24, op := Go.Op.fieldAddr 32 (Go.Operand.tmp 3) 2, type := 0, pos := "desc.go:64", after := #[{ on := 0, ground := Go.Ground.phase }, { on := 1, ground := Go.Ground.phase }, { on := 2, ground := Go.Ground.phase }, { on := 3, ground := Go.Ground.phase }, { on := 4, ground := Go.Ground.phase }, { on := 5, ground := Go.Ground.phase }], guard := none }) (v := .pointer (some ⟨w.heap.size + 1 + 1, 2, none⟩)) rfl (by kernel_rfl) (by kernel_rfl) (by kernel_rfl) (fun _ _ _ h => h) (Or.inl ⟨by rfl, ?_⟩) s11 ?_
            (intro w5 hS5; go_simp; try rfl)
            try simp only [Act.put, List.setIfInBounds_toArray, List.set_cons_zero, List.set_cons_succ]
            have BX3 := Lib.hid (Box.grown (Box.new BX.out n9.out) HG.out (fun e => by have := HB2.out _ e.symm; omega))
            have BZ3 := Lib.hid (Box.grown (Box.new BZ.out n9.out) HG.out (fun e => by have := HB2.out _ e.symm; omega))
            have p0 := BX3.out.cell 2
            have p1 := BX3.out.frozen 2
            simp only [List.getElem?_toArray, List.getElem?_cons_zero, List.getElem?_cons_succ] at p0
            refine wpAnyH_ready (rs := [7]) (by kernel_rfl) (by simp) ?_
            refine AllReadyH.cons (o := { dst := none, op := Go.Op.store 30 (Go.Operand.tmp 24) (Go.Operand.tmp 23), type := 0, pos := "desc.go:64", after := #[{ on := 6, ground := Go.Ground.data }, { on := 5, ground := Go.Ground.data }, { on := 5, ground := Go.Ground.chain }, { on := 0, ground := Go.Ground.phase }, { on := 1, ground := Go.Ground.phase }, { on := 2, ground := Go.Ground.phase }, { on := 3, ground := Go.Ground.phase }, { on := 4, ground := Go.Ground.phase }, { on := 5, ground := Go.Ground.phase }], guard := none }) rfl (fun K5 hK5 => ?_) AllReadyH.nil
            go_simp
            refine hK5.out _ _ ⟨New.setCell (p := ⟨w.heap.size + 1 + 1, 2, none⟩) s11.1 (by show w.heap.size ≤ w.heap.size + 1 + 1; omega) _, Box.off (p := ⟨w.heap.size + 1 + 1, 2, none⟩) s11.2 (by show wr.heap.size ≠ w.heap.size + 1 + 1; omega) _⟩ (fun s9 => ?_)
            clear hK5 K5 p0 p1
            try simp only [Act.put, List.setIfInBounds_toArray, List.set_cons_zero, List.set_cons_succ]
            refine wpAnyH_done (by kernel_rfl) ?_ _
            have HZ := Lib.hid s9.1
            clear s9 hH
            have FF := Lib.hid (step_cl (w0 := w.heap.size) (t := t) (f := f) (As := As) (cs := cs) (k := k) (A2 := A2) (cap2 := cap2) HDS.out n9.out G9.out HG.out OO.out OW.out HAT.out (by have := New.lt NW.out; omega) BX3.out BZ3.out)
            go_wp2_with fail
            go_roundg (gk - 1)
            case rel =>
              obtain ⟨q1, q2, q3, q4⟩ := FF.out
              exact ⟨k + 1, _, _, _, by omega, by go_num, q1, q2, q3, q4, HZ.out⟩
            case measure => omega
      · have hkL : k = L := by omega
        subst hkL
        have hk3 : ¬ ((k : Int) < k) := by omega
        obtain ⟨A9, cap9, rfl, hn9, h9⟩ := own_slice own
        have OL := Lib.hid (own_cap own)
        have H9 := Lib.hid h9
        have HDS := Lib.hid hds
        have BX := Lib.hid bx
        have BZ := Lib.hid bz
        have NW := Lib.hid nw
        have p0 := bx.cell 0
        have p1 := bx.cell 1
        have p2 := bx.cell 2
        have r0 := bz.cell 0
        have r1 := bz.cell 1
        have r2 := bz.cell 2
        have f0 := bz.frozen 0
        have f1 := bz.frozen 1
        have f2 := bz.frozen 2
        have lw := bz.lt
        simp only [List.getElem?_toArray, List.getElem?_cons_zero, List.getElem?_cons_succ] at p0 p1 p2 r0 r1 r2
        clear own h9 hds bx bz nw
        go_wp2_with fail
        have BB := ((BZ.out.put 0 (.int .i64 t.k)).put 1 (.int .i64 t.n)).put 2 (.slice A9 k cap9)
        have s0 := BB.cell 0
        have s1 := BB.cell 1
        have s2 := BB.cell 2
        have f9 := BB.frozen 0
        simp at s0 s1 s2
        have HH := Lib.hid (ret_cl (w := w) (w' := ((wr.setCell ⟨w.heap.size + 1, 0, none⟩ (.int .i64 t.k)).setCell ⟨w.heap.size + 1, 1, none⟩ (.int .i64 t.n)).setCell ⟨w.heap.size + 1, 2, none⟩ (.slice A9 k cap9)) HLL.out HI.out hn9 OL.out H9.out HDS.out (by simp) (fun b hb => by rw [Below.heap_setCell _ _ _ _ hb, Below.heap_setCell _ _ _ _ hb, Below.heap_setCell _ _ _ _ hb]))
        refine bodyPost_ret (v := dagg t A9 cap9) (by unfold dagg; rw [← HLL.out]; simp [results, Try.results48, go_sem, s0, s1, s2]) rfl ⟨A9, cap9, rfl, HH.out, ?_⟩
        exact New.setCell (p := ⟨w.heap.size + 1, 2, none⟩) (New.setCell (p := ⟨w.heap.size + 1, 1, none⟩) (New.setCell (p := ⟨w.heap.size + 1, 0, none⟩) NW.out (by show w.heap.size ≤ w.heap.size + 1; omega) _) (by show w.heap.size ≤ w.heap.size + 1; omega) _) (by show w.heap.size ≤ w.heap.size + 1; omega) _
end Go.Proofs.Ytplaicdbcfnjbaa
/- slices.Clone of a row of numbers: new, and it reads as the old one. -/
namespace Go.Proofs.Ytplaicdbcfnjbaa
open Go.RowKit
set_option linter.unusedVariables false
theorem info53 : (Try.prog.info? 53).map (fun i => (i.zero, i.size, i.bytes)) = some (some (.int .u64 0), 1, 8) := by kernel_rfl
theorem firstv_mem {k : IntKind} {f : Nat → Nat} {n : Nat} : ∀ u ∈ firstv k f n, u.oneCell' = true := by
  intro u hu
  obtain ⟨j, _, rfl⟩ := List.mem_map.1 hu
  rfl
/-- an empty new row, owned -/
theorem own_zero (w : World) (e : TypeId) : (w.alloc (.cells #[] e)).ownsRow w.heap.size e 1 (.slice (some ⟨w.heap.size, 0, none⟩) 0 0) 0 [] :=
  ⟨rfl, .inr ⟨w.heap.size, 0, #[], rfl, Nat.le_refl _, heap_alloc_new w _, Nat.le_refl _, Nat.zero_le _, rfl, rfl⟩⟩
def Copied (w : World) (n : Nat) (f : Nat → Nat) (e : Ending) (w' : World) : Prop := ∃ A' cap', e = .returned (.slice A' n cap') ∧ ReadsF w' .u64 A' n f ∧ (∀ ad, A' = some ad → w.heap.size ≤ ad.block) ∧ New w w'
set_option maxRecDepth 100000
attribute [local irreducible] Go.wpList
set_option maxHeartbeats 1000000 in
theorem clone47 (n : Nat) (f : Nat → Nat) (A : Option Addr) (cap : Nat) (w : World) (h : ReadsF w .u64 A n f) (hn : n ≤ 4000000) : Calls Try.prog 47 #[.slice A n cap] w (Copied w n f) := by
  have q26 : ∀ (w : World) (a : Option Addr) (n c n' c' : Nat), (binOp .eql 26 (.slice a n c) (.slice none n' c')).run Try.prog w = .ok (.bool a.isNone) w := fun w a n c n' c' => Lib.run_eql_slice_nil w _ _ a n c n' c' Try.underlying26
  cases A with
  | none =>
    have h0 : n = 0 := Nat.eq_zero_of_not_pos (fun hp => by obtain ⟨ad, e, _⟩ := h.2 hp; cases e)
    subst h0
    have H := Lib.hid h
    clear h
    go_enter Try.func47, Try.ntmps47
    go_wp2_with fail
    go_ret
    exact ⟨none, 0, rfl, H.out, (fun ad e => by cases e), New.refl _⟩
  | some ad =>
    obtain ⟨i0, hi, hz0, hz1, hz2⟩ := info_parts info53
    have hcc : ∀ j u, (firstv .u64 f n)[j]? = some u → w.cell? (ad.add j) = some u := fun j u hu => by
      have hj : j < n := by have := (List.getElem?_eq_some_iff.1 hu).1; rwa [firstv_len] at this
      obtain ⟨ad', e, _, hc⟩ := h.2 (by omega)
      cases e
      rw [hc j hj, ← firstv_at .u64 f n j hj, hu]
    have HC := Lib.hid hcc
    have OZ := Lib.hid (own_zero w 53)
    clear h hcc
    go_enter Try.func47, Try.ntmps47
    go_wp2_with (at_builtin; refine wpList_append_own _ rfl _ _ 26 rfl w.heap.size 53 i0 _ 1 8 Try.underlying26 hi hz0 hz1 hz2 rfl (by decide) _ 0 [] rfl OZ.out ad n cap (firstv .u64 f n) rfl (by rw [firstv_len]; omega) (fun j u hu => Lib.cell?_alloc_some _ (HC.out j u hu)) firstv_mem (by unfold maxLen; omega) (by omega) (by simp) ?_)
    intro v' w1 hown hgrow hnil
    have N1 : New w w1 := ((New.refl w).alloc _).grown hgrow (fun k e => by cases e; exact Nat.le_refl _)
    have R1 := Lib.hid (readsF_own (k := .u64) (f := f) (n := n) (by simpa using hown))
    have O1 := Lib.hid hown
    clear hown hgrow hnil
    go_wp2_with fail
    go_ret
    obtain ⟨A', cap', rfl, hr⟩ := R1.out
    exact ⟨A', cap', rfl, hr, (fun a e => by subst e; exact (O1.out.lt _ rfl).1), N1⟩
end Go.Proofs.Ytplaicdbcfnjbaa
