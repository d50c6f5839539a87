/- Cmp of two descriptors: the program's and the reference's. -/
import Derived.Test.YtplaicdbcfnjbaaV01
set_option linter.unusedSimpArgs false
set_option linter.unusedVariables false
namespace Go.Proofs.Ytplaicdbcfnjbaa
open Go.RowKit
set_option linter.unusedVariables false

theorem Box.made' {g : Nat} (w : World) (t : TypeId) (cs : Array Value) (hg : g = w.heap.size) : Box (w.alloc (.cells cs t)) g t cs := by
  subst hg; exact Box.made w t cs
theorem cmpK_stop {c : DT → DT → Int} {a b : List DT} {i : Nat} (h0 : cmpK c a b i = 0) (h : c (a.getD i (.mk 0 0 [])) (b.getD i (.mk 0 0 [])) ≠ 0) : ∀ n, i < n → cmpK c a b n = c (a.getD i (.mk 0 0 [])) (b.getD i (.mk 0 0 []))
  | 0, hn => absurd hn (by omega)
  | n + 1, hn => by
    by_cases e : i = n
    · subst e
      show (if cmpK c a b i ≠ 0 then _ else _) = _
      rw [if_neg (by simpa using h0)]
    · have ih := cmpK_stop h0 h n (by omega)
      show (if cmpK c a b n ≠ 0 then cmpK c a b n else _) = _
      rw [if_pos (by rw [ih]; exact h), ih]
theorem cmpK_go {c : DT → DT → Int} {a b : List DT} {i : Nat} (h0 : cmpK c a b i = 0) (h : c (a.getD i (.mk 0 0 [])) (b.getD i (.mk 0 0 [])) = 0) : cmpK c a b (i + 1) = 0 := by
  show (if cmpK c a b i ≠ 0 then _ else _) = _
  rw [if_neg (by simpa using h0)]
  exact h
theorem cmpD_cases : ∀ f a b, cmpD f a b = -1 ∨ cmpD f a b = 0 ∨ cmpD f a b = 1
  | 0, _, _ => Or.inr (Or.inl rfl)
  | f + 1, a, b => by
    have ih := cmpD_cases f
    have hk : ∀ n, cmpK (cmpD f) a.kids b.kids n = -1 ∨ cmpK (cmpD f) a.kids b.kids n = 0 ∨ cmpK (cmpD f) a.kids b.kids n = 1 := by
      intro n
      induction n with
      | zero => exact Or.inr (Or.inl rfl)
      | succ n ih2 =>
        show (if _ then _ else _) = _ ∨ (if _ then _ else _) = _ ∨ (if _ then _ else _) = _
        split
        · exact ih2
        · exact ih _ _
    unfold cmpD
    split
    · unfold or3
      split
      · exact cmpI_cases _ _
      · split
        · exact cmpI_cases _ _
        · exact cmpI_cases _ _
    · exact hk _
/-- the three numbers of a node -/
def num (t : DT) : Nat → Int
  | 0 => t.k
  | 1 => t.n
  | _ => t.kids.length
/-- where the first of them differ: what comes of it -/
theorem cmpD_num {f : Nat} {a b : DT} {i : Nat} (hi : i < 3) (h0 : ∀ j, j < i → num a j = num b j) (h : num a i ≠ num b i) : cmpD (f + 1) a b = if num a i < num b i then -1 else 1 := by
  have key : or3 (cmpI a.k b.k) (cmpI a.n b.n) (cmpI a.kids.length b.kids.length) = if num a i < num b i then -1 else 1 := by
    match i, hi with
    | 0, _ =>
      simp only [num] at h ⊢
      unfold or3 cmpI
      by_cases h1 : a.k < b.k
      · simp [h1]
      · have : b.k < a.k := by omega
        simp [h1, this]
    | 1, _ =>
      have e0 := h0 0 (by decide)
      simp only [num] at h e0 ⊢
      unfold or3 cmpI
      by_cases h1 : a.n < b.n
      · simp [h1, e0]
      · have : b.n < a.n := by omega
        simp [h1, this, e0]
    | 2, _ =>
      have e0 := h0 0 (by decide)
      have e1 := h0 1 (by decide)
      simp only [num] at h e0 e1 ⊢
      unfold or3 cmpI
      by_cases h1 : (a.kids.length : Int) < b.kids.length
      · rw [if_pos h1, e0, e1]; simp; omega
      · have : (b.kids.length : Int) < a.kids.length := by omega
        rw [if_neg h1, e0, e1]; simp; omega
  unfold cmpD
  rw [key]
  rw [if_pos (show (if num a i < num b i then (-1 : Int) else 1) ≠ 0 by split <;> decide)]
theorem cmpD_eq {f : Nat} {a b : DT} (h0 : ∀ j, j < 3 → num a j = num b j) : cmpD (f + 1) a b = cmpK (cmpD f) a.kids b.kids a.kids.length := by
  have e0 := h0 0 (by decide)
  have e1 := h0 1 (by decide)
  have e2 := h0 2 (by decide)
  simp only [num] at e0 e1 e2
  unfold cmpD
  rw [if_neg]
  unfold or3 cmpI
  rw [e0, e1, e2]
  simp
set_option maxRecDepth 100000 in
set_option maxHeartbeats 4000000 in
theorem refcmp_any : ∀ (f : Nat) (a b : DT) (A : Option Addr) (ca : Nat) (B : Option Addr) (cb : Nat) (w : World), IsD w f a A ca → IsD w f b B cb → Calls Try.prog 52 #[dagg a A ca, dagg b B cb] w fun e w' => e = .returned (.int .i64 (cmpD f a b)) ∧ New w w'
  | 0, _, _, _, _, _, _, _, h, _ => h.elim
  | f + 1, a, b, A, ca, B, cb, w, hA, hB => by
    have IH := Lib.hid (refcmp_any f)
    have HA := Lib.hid hA
    have HB := Lib.hid hB
    have HN := Lib.hid (fun i (hi : i < 3) h0 h => cmpD_num (f := f) (a := a) (b := b) (i := i) hi h0 h)
    have HE := Lib.hid (fun h0 => cmpD_eq (f := f) (a := a) (b := b) h0)
    have n0 := Lib.hid (show num a 0 = a.k ∧ num b 0 = b.k ∧ num a 1 = a.n ∧ num b 1 = b.n ∧ num a 2 = (a.kids.length : Int) ∧ num b 2 = (b.kids.length : Int) from ⟨rfl, rfl, rfl, rfl, rfl, rfl⟩)
    obtain ⟨a1, a2, a3, a4, -⟩ := hA
    obtain ⟨b1, b2, b3, b4, -⟩ := hB
    generalize hc : cmpD (f + 1) a b = C at *
    obtain ⟨La, hLa⟩ : ∃ La, La = a.kids.length := ⟨_, rfl⟩
    obtain ⟨Lb, hLb⟩ : ∃ Lb, Lb = b.kids.length := ⟨_, rfl⟩
    unfold dagg
    rw [← hLa, ← hLb]
    have HLa := Lib.hid hLa
    have HLb := Lib.hid hLb
    have ha5 : La ≤ 9223372036854775807 := by omega
    have hb5 : Lb ≤ 9223372036854775807 := by omega
    have HBD := Lib.hid (⟨a1, a2, a3, a4, b1, b2, b3, b4, hc⟩ : _ ∧ _ ∧ _ ∧ _ ∧ _ ∧ _ ∧ _ ∧ _ ∧ _)
    clear a1 a2 a3 a4 b1 b2 b3 b4 hc hLa hLb
    go_enter Try.func52, Try.ntmps52
    go_wp2_with fail
    go_loopg [7] 3 (fun g i wr => ∃ k : Nat, k + g = 3 ∧ i = .int .i64 k ∧ (∀ j, j < k → num a j = num b j) ∧ Box wr w.heap.size 32 #[.int .i64 a.k, .int .i64 a.n, .slice A La ca] ∧ Box wr (w.heap.size + 1) 32 #[.int .i64 b.k, .int .i64 b.n, .slice B Lb cb] ∧ Box wr (w.heap.size + 1 + 1) 3 #[.int .i64 a.k, .int .i64 a.n, .int .i64 La] ∧ Box wr (w.heap.size + 1 + 1 + 1) 3 #[.int .i64 b.k, .int .i64 b.n, .int .i64 Lb] ∧ New w wr)
    case atStart =>
      exact ⟨0, by omega, rfl, fun j hj => absurd hj (by omega), (((Box.made w 32 _).alloc _).alloc _).alloc _, ((Box.made' (w.alloc (.cells _ 32)) 32 _ (by simp)).alloc _).alloc _, (Box.made' ((w.alloc (.cells _ 32)).alloc (.cells _ 32)) 3 _ (by simp)).alloc _, Box.made' (((w.alloc (.cells _ 32)).alloc (.cells _ 32)).alloc (.cells _ 3)) 3 _ (by simp), ((((New.refl _).alloc _).alloc _).alloc _).alloc _⟩
    case round =>
      obtain ⟨k, hk, rfl, he, ba, bb, bx, by', nw⟩ := hrel
      by_cases hk3 : k < 3
      · rcases (show k = 0 ∨ k = 1 ∨ k = 2 by omega) with rfl | rfl | rfl
        · have cx := bx.cell 0
          have cy := by'.cell 0
          simp only [List.getElem?_toArray, List.getElem?_cons_zero, List.getElem?_cons_succ] at cx cy
          have HR := Lib.hid (⟨ba, bb, bx, by', he⟩ : _ ∧ _ ∧ _ ∧ _ ∧ _)
          have HX := Lib.hid (fun h => HN.out 0 (by decide) he h)
          have hq : num a 0 = a.k ∧ num b 0 = b.k := ⟨rfl, rfl⟩
          rw [hq.1, hq.2] at HX
          have HQ := Lib.hid hq
          clear ba bb bx by' he hq
          by_cases h1 : a.k < b.k
          · have HY := HX.out (by omega)
            rw [if_pos h1] at HY
            have t1 : decide (a.k < b.k) = true := by simpa using h1
            have HZ := Lib.hid HY
            clear HY HX
            go_wp2
            go_quiet (fail)
            go_wp2
            have hC : C = -1 := HZ.out
            go_ret
            exact ⟨by rw [hC]; rfl, nw.draws _⟩
          · by_cases h2 : b.k < a.k
            · have HY := HX.out (by omega)
              rw [if_neg h1] at HY
              have t1 : decide (a.k < b.k) = false := by simpa using h1
              have t2 : decide (b.k < a.k) = true := by simpa using h2
              have HZ := Lib.hid HY
              clear HY HX
              go_wp2
              go_quiet (fail)
              go_wp2
              go_quiet (fail)
              go_wp2
              have hC : C = 1 := HZ.out
              go_ret
              exact ⟨by rw [hC]; rfl, (nw.draws _).draws _⟩
            · have HY : num a 0 = num b 0 := by rw [HQ.out.1, HQ.out.2]; omega
              have t1 : decide (a.k < b.k) = false := by simpa using h1
              have t2 : decide (b.k < a.k) = false := by simpa using h2
              have HZ := Lib.hid HY
              clear HY HX
              go_wp2
              go_quiet (fail)
              go_wp2
              go_quiet (fail)
              go_wp2
              go_roundg (gk - 1)
              case rel =>
                obtain ⟨h3, h4, h5, h6, h7⟩ := HR.out
                refine ⟨1, by omega, by go_num, fun j hj => ?_, h3.draws _, h4.draws _, h5.draws _, h6.draws _, nw.draws _⟩
                by_cases hj2 : j < 0
                · exact h7 j hj2
                · obtain rfl : j = 0 := by omega
                  exact HZ.out
              case measure => omega
        · have cx := bx.cell 1
          have cy := by'.cell 1
          simp only [List.getElem?_toArray, List.getElem?_cons_zero, List.getElem?_cons_succ] at cx cy
          have HR := Lib.hid (⟨ba, bb, bx, by', he⟩ : _ ∧ _ ∧ _ ∧ _ ∧ _)
          have HX := Lib.hid (fun h => HN.out 1 (by decide) he h)
          have hq : num a 1 = a.n ∧ num b 1 = b.n := ⟨rfl, rfl⟩
          rw [hq.1, hq.2] at HX
          have HQ := Lib.hid hq
          clear ba bb bx by' he hq
          by_cases h1 : a.n < b.n
          · have HY := HX.out (by omega)
            rw [if_pos h1] at HY
            have t1 : decide (a.n < b.n) = true := by simpa using h1
            have HZ := Lib.hid HY
            clear HY HX
            go_wp2
            go_quiet (fail)
            go_wp2
            have hC : C = -1 := HZ.out
            go_ret
            exact ⟨by rw [hC]; rfl, nw.draws _⟩
          · by_cases h2 : b.n < a.n
            · have HY := HX.out (by omega)
              rw [if_neg h1] at HY
              have t1 : decide (a.n < b.n) = false := by simpa using h1
              have t2 : decide (b.n < a.n) = true := by simpa using h2
              have HZ := Lib.hid HY
              clear HY HX
              go_wp2
              go_quiet (fail)
              go_wp2
              go_quiet (fail)
              go_wp2
              have hC : C = 1 := HZ.out
              go_ret
              exact ⟨by rw [hC]; rfl, (nw.draws _).draws _⟩
            · have HY : num a 1 = num b 1 := by rw [HQ.out.1, HQ.out.2]; omega
              have t1 : decide (a.n < b.n) = false := by simpa using h1
              have t2 : decide (b.n < a.n) = false := by simpa using h2
              have HZ := Lib.hid HY
              clear HY HX
              go_wp2
              go_quiet (fail)
              go_wp2
              go_quiet (fail)
              go_wp2
              go_roundg (gk - 1)
              case rel =>
                obtain ⟨h3, h4, h5, h6, h7⟩ := HR.out
                refine ⟨2, by omega, by go_num, fun j hj => ?_, h3.draws _, h4.draws _, h5.draws _, h6.draws _, nw.draws _⟩
                by_cases hj2 : j < 1
                · exact h7 j hj2
                · obtain rfl : j = 1 := by omega
                  exact HZ.out
              case measure => omega
        · have cx := bx.cell 2
          have cy := by'.cell 2
          simp only [List.getElem?_toArray, List.getElem?_cons_zero, List.getElem?_cons_succ] at cx cy
          have HR := Lib.hid (⟨ba, bb, bx, by', he⟩ : _ ∧ _ ∧ _ ∧ _ ∧ _)
          have HX := Lib.hid (fun h => HN.out 2 (by decide) he h)
          have hq : num a 2 = (La : Int) ∧ num b 2 = (Lb : Int) := ⟨by rw [HLa.out]; rfl, by rw [HLb.out]; rfl⟩
          rw [hq.1, hq.2] at HX
          have HQ := Lib.hid hq
          clear ba bb bx by' he hq
          by_cases h1 : (La : Int) < (Lb : Int)
          · have HY := HX.out (by omega)
            rw [if_pos h1] at HY
            have t1 : decide ((La : Int) < (Lb : Int)) = true := by simpa using h1
            have HZ := Lib.hid HY
            clear HY HX
            go_wp2
            go_quiet (fail)
            go_wp2
            have hC : C = -1 := HZ.out
            go_ret
            exact ⟨by rw [hC]; rfl, nw.draws _⟩
          · by_cases h2 : (Lb : Int) < (La : Int)
            · have HY := HX.out (by omega)
              rw [if_neg h1] at HY
              have t1 : decide ((La : Int) < (Lb : Int)) = false := by simpa using h1
              have t2 : decide ((Lb : Int) < (La : Int)) = true := by simpa using h2
              have HZ := Lib.hid HY
              clear HY HX
              go_wp2
              go_quiet (fail)
              go_wp2
              go_quiet (fail)
              go_wp2
              have hC : C = 1 := HZ.out
              go_ret
              exact ⟨by rw [hC]; rfl, (nw.draws _).draws _⟩
            · have HY : num a 2 = num b 2 := by rw [HQ.out.1, HQ.out.2]; omega
              have t1 : decide ((La : Int) < (Lb : Int)) = false := by simpa using h1
              have t2 : decide ((Lb : Int) < (La : Int)) = false := by simpa using h2
              have HZ := Lib.hid HY
              clear HY HX
              go_wp2
              go_quiet (fail)
              go_wp2
              go_quiet (fail)
              go_wp2
              go_roundg (gk - 1)
              case rel =>
                obtain ⟨h3, h4, h5, h6, h7⟩ := HR.out
                refine ⟨3, by omega, by go_num, fun j hj => ?_, h3.draws _, h4.draws _, h5.draws _, h6.draws _, nw.draws _⟩
                by_cases hj2 : j < 2
                · exact h7 j hj2
                · obtain rfl : j = 2 := by omega
                  exact HZ.out
              case measure => omega
      · obtain rfl : k = 3 := by omega
        have hCK := HE.out he
        have hLL : Lb = La := by
          have := he 2 (by decide)
          have n2 := n0.out.2.2.2.2
          rw [n2.1, n2.2] at this
          rw [HLa.out, HLb.out]; omega
        rw [← HLa.out] at hCK
        have HCK := Lib.hid hCK
        subst hLL
        clear bx by' he hCK
        go_wp2
        go_loopg [8] Lb (fun g i wq => ∃ k : Nat, k + g = Lb ∧ i = .int .i64 k ∧ cmpK (cmpD f) a.kids b.kids k = 0 ∧ Box wq w.heap.size 32 #[.int .i64 a.k, .int .i64 a.n, .slice A Lb ca] ∧ Box wq (w.heap.size + 1) 32 #[.int .i64 b.k, .int .i64 b.n, .slice B Lb cb] ∧ New w wq)
        case atStart => exact ⟨0, by omega, rfl, rfl, ba, bb, nw⟩
        case round =>
          clear ba bb nw hk hk3
          obtain ⟨k, hk, rfl, hz, ba, bb, nw⟩ := hrel
          have a2 := ba.cell 2
          have b2 := bb.cell 2
          have la := ba.lt
          have lb := bb.lt
          simp only [List.getElem?_toArray, List.getElem?_cons_zero, List.getElem?_cons_succ] at a2 b2
          by_cases hlt : k < Lb
          · obtain ⟨-, -, -, -, ka⟩ := HA.out
            obtain ⟨-, -, -, -, kb⟩ := HB.out
            obtain ⟨ad, rfl, ka2⟩ := ka (by rw [← HLa.out]; omega)
            obtain ⟨bd, rfl, kb2⟩ := kb (by rw [← HLb.out]; omega)
            obtain ⟨A', ca', da, ia⟩ := ka2 k (by rw [← HLa.out]; omega)
            obtain ⟨B', cb', db, ib⟩ := kb2 k (by rw [← HLb.out]; omega)
            have CC := Lib.hid (fun w' (m : New wr w') => IH.out (a.kid k) (b.kid k) A' ca' B' cb' w' (ia.new (nw.trans m)) (ib.new (nw.trans m)))
            unfold dagg at CC
            have da' := da.new nw
            have db' := db.new nw
            have KA := Lib.hid (fun w' (m : New wr w') => (⟨(m.cell (p := ⟨w.heap.size, 2, none⟩) la).trans a2, (m.cell (p := ⟨w.heap.size + 1, 2, none⟩) lb).trans b2, (m.cell da'.lt).trans da'.c0, (m.cell (p := ⟨_, _, none⟩) da'.lt).trans da'.c1, (m.cell (p := ⟨_, _, none⟩) da'.lt).trans da'.c2, (m.cell db'.lt).trans db'.c0, (m.cell (p := ⟨_, _, none⟩) db'.lt).trans db'.c1, (m.cell (p := ⟨_, _, none⟩) db'.lt).trans db'.c2⟩ : _ ∧ _ ∧ _ ∧ _ ∧ _ ∧ _ ∧ _ ∧ _))
            have HST := Lib.hid (fun h => cmpK_stop (c := cmpD f) (a := a.kids) (b := b.kids) hz h Lb hlt)
            have HGO := Lib.hid (fun h => cmpK_go (c := cmpD f) (a := a.kids) (b := b.kids) hz h)
            have hxx : cmpD f (a.kids.getD k (.mk 0 0 [])) (b.kids.getD k (.mk 0 0 [])) = cmpD f (a.kid k) (b.kid k) := rfl
            rw [hxx] at HST HGO
            have HBX := Lib.hid (⟨ba, bb, hz⟩ : _ ∧ _ ∧ _)
            clear hxx da db ia ib ka kb ka2 kb2 da' db' ba bb hz
            have hlt' : (k : Int) < (Lb : Int) := by omega
            generalize cmpD f (a.kid k) (b.kid k) = c at *
            generalize a.kid k = xa at *
            generalize b.kid k = xb at *
            go_wp2
            refine wp_region_held_drew (S := fun w' => New wr w') (by kernel_rfl) (New.refl _).drew (fun hH => ?_)
            refine wpAnyH_take (i := 0) (oi := { dst := some 55, op := Go.Op.fieldAddr 32 (Go.Operand.tmp 2) 2, type := 0, pos := "ref.go:40", after := #[], guard := none }) (v := ?_) rfl (by kernel_rfl) (by kernel_rfl) (by kernel_rfl) (fun _ _ _ h => h) (Or.inl ⟨by rfl, ?_⟩) hH ?_
            rotate_left; (intro w5 hS5; go_simp; try rfl)
            try simp only [Act.put, List.setIfInBounds_toArray, List.set_cons_zero, List.set_cons_succ]
            refine wpAnyH_take (i := 1) (oi := { dst := some 56, op := Go.Op.load 30 (Go.Operand.tmp 55), type := 30, pos := "ref.go:40", after := #[{ on := 0, ground := Go.Ground.data }], guard := none }) (v := ?_) rfl (by kernel_rfl) (by kernel_rfl) (by kernel_rfl) (fun _ _ _ h => h) (Or.inl ⟨by rfl, ?_⟩) hH ?_
            rotate_left; (intro w5 hS5; (have q := KA.out _ hS5; obtain ⟨q1, q2, q3, q4, q5, q6, q7, q8⟩ := q; go_simp; try rfl))
            try simp only [Act.put, List.setIfInBounds_toArray, List.set_cons_zero, List.set_cons_succ]
            refine wpAnyH_take (i := 2) (oi := { dst := some 57, op := Go.Op.move (Go.Operand.tmp 8), type := 3, pos := "ref.go:40", after := #[], guard := none }) (v := ?_) rfl (by kernel_rfl) (by kernel_rfl) (by kernel_rfl) (fun _ _ _ h => h) (Or.inl ⟨by rfl, ?_⟩) hH ?_
            rotate_left; (intro w5 hS5; go_simp; try rfl)
            try simp only [Act.put, List.setIfInBounds_toArray, List.set_cons_zero, List.set_cons_succ]
            refine wpAnyH_take (i := 3) (oi := { dst := some 58, op := Go.Op.indexAddr 30 (Go.Operand.tmp 56) (Go.Operand.tmp 57), type := 0, pos := "ref.go:40", after := #[{ on := 1, ground := Go.Ground.data }, { on := 2, ground := Go.Ground.data }], guard := none }) (v := ?_) rfl (by kernel_rfl) (by kernel_rfl) (by kernel_rfl) (fun _ _ _ h => h) (Or.inl ⟨by rfl, ?_⟩) hH ?_
            rotate_left; (intro w5 hS5; go_simp; try rfl)
            try simp only [Act.put, List.setIfInBounds_toArray, List.set_cons_zero, List.set_cons_succ]
            refine wpAnyH_take (i := 4) (oi := { dst := some 59, op := Go.Op.load 32 (Go.Operand.tmp 58), type := 32, pos := "ref.go:40", after := #[{ on := 3, ground := Go.Ground.data }], guard := none }) (v := ?_) rfl (by kernel_rfl) (by kernel_rfl) (by kernel_rfl) (fun _ _ _ h => h) (Or.inl ⟨by rfl, ?_⟩) hH ?_
            rotate_left; (intro w5 hS5; (have q := KA.out _ hS5; obtain ⟨q1, q2, q3, q4, q5, q6, q7, q8⟩ := q; go_simp; try rfl))
            try simp only [Act.put, List.setIfInBounds_toArray, List.set_cons_zero, List.set_cons_succ]
            refine wpAnyH_take (i := 5) (oi := { dst := some 60, op := Go.Op.fieldAddr 32 (Go.Operand.tmp 3) 2, type := 0, pos := "ref.go:40", after := #[], guard := none }) (v := ?_) rfl (by kernel_rfl) (by kernel_rfl) (by kernel_rfl) (fun _ _ _ h => h) (Or.inl ⟨by rfl, ?_⟩) hH ?_
            rotate_left; (intro w5 hS5; go_simp; try rfl)
            try simp only [Act.put, List.setIfInBounds_toArray, List.set_cons_zero, List.set_cons_succ]
            refine wpAnyH_take (i := 6) (oi := { dst := some 61, op := Go.Op.load 30 (Go.Operand.tmp 60), type := 30, pos := "ref.go:40", after := #[{ on := 5, ground := Go.Ground.data }], guard := none }) (v := ?_) rfl (by kernel_rfl) (by kernel_rfl) (by kernel_rfl) (fun _ _ _ h => h) (Or.inl ⟨by rfl, ?_⟩) hH ?_
            rotate_left; (intro w5 hS5; (have q := KA.out _ hS5; obtain ⟨q1, q2, q3, q4, q5, q6, q7, q8⟩ := q; go_simp; try rfl))
            try simp only [Act.put, List.setIfInBounds_toArray, List.set_cons_zero, List.set_cons_succ]
            refine wpAnyH_take (i := 7) (oi := { dst := some 62, op := Go.Op.move (Go.Operand.tmp 8), type := 3, pos := "ref.go:40", after := #[], guard := none }) (v := ?_) rfl (by kernel_rfl) (by kernel_rfl) (by kernel_rfl) (fun _ _ _ h => h) (Or.inl ⟨by rfl, ?_⟩) hH ?_
            rotate_left; (intro w5 hS5; go_simp; try rfl)
            try simp only [Act.put, List.setIfInBounds_toArray, List.set_cons_zero, List.set_cons_succ]
            refine wpAnyH_take (i := 8) (oi := { dst := some 63, op := Go.Op.indexAddr 30 (Go.Operand.tmp 61) (Go.Operand.tmp 62), type := 0, pos := "ref.go:40", after := #[{ on := 6, ground := Go.Ground.data }, { on := 7, ground := Go.Ground.data }], guard := none }) (v := ?_) rfl (by kernel_rfl) (by kernel_rfl) (by kernel_rfl) (fun _ _ _ h => h) (Or.inl ⟨by rfl, ?_⟩) hH ?_
            rotate_left; (intro w5 hS5; go_simp; try rfl)
            try simp only [Act.put, List.setIfInBounds_toArray, List.set_cons_zero, List.set_cons_succ]
            refine wpAnyH_take (i := 9) (oi := { dst := some 64, op := Go.Op.load 32 (Go.Operand.tmp 63), type := 32, pos := "ref.go:40", after := #[{ on := 8, ground := Go.Ground.data }], guard := none }) (v := ?_) rfl (by kernel_rfl) (by kernel_rfl) (by kernel_rfl) (fun _ _ _ h => h) (Or.inl ⟨by rfl, ?_⟩) hH ?_
            rotate_left; (intro w5 hS5; (have q := KA.out _ hS5; obtain ⟨q1, q2, q3, q4, q5, q6, q7, q8⟩ := q; go_simp; try rfl))
            try simp only [Act.put, List.setIfInBounds_toArray, List.set_cons_zero, List.set_cons_succ]
            refine wpAnyH_ready (rs := [10]) (by kernel_rfl) (by simp) ?_
            refine AllReadyH.cons (o := { dst := some 65, op := Go.Op.call { callee := Go.Callee.value (Go.Operand.func 52), args := #[Go.Operand.tmp 59, Go.Operand.tmp 64], argTypes := #[32, 32] }, type := 3, pos := "ref.go:40", after := #[{ on := 4, ground := Go.Ground.data }, { on := 9, ground := Go.Ground.data }], guard := none }) rfl (fun K5 hK5 => ?_) AllReadyH.nil
            go_simp
            refine (CC.out _ hH).mono ?_
            rintro e w5 ⟨rfl, n5⟩
            refine hK5.out _ _ (hH.trans n5) (fun hH2 => ?_)
            clear hK5 K5
            try simp only [Act.put, List.setIfInBounds_toArray, List.set_cons_zero, List.set_cons_succ]
            refine wpAnyH_take (i := 11) (oi := { dst := some 9, op := Go.Op.assign (Go.Operand.tmp 65), type := 3, pos := "ref.go:40", after := #[{ on := 10, ground := Go.Ground.data }, { on := 10, ground := Go.Ground.chain }, { on := 0, ground := Go.Ground.phase }, { on := 1, ground := Go.Ground.phase }, { on := 2, ground := Go.Ground.phase }, { on := 3, ground := Go.Ground.phase }, { on := 4, ground := Go.Ground.phase }, { on := 5, ground := Go.Ground.phase }, { on := 6, ground := Go.Ground.phase }, { on := 7, ground := Go.Ground.phase }, { on := 8, ground := Go.Ground.phase }, { on := 9, ground := Go.Ground.phase }, { on := 10, ground := Go.Ground.phase }], guard := none }) (v := ?_) rfl (by kernel_rfl) (by kernel_rfl) (by kernel_rfl) (fun _ _ _ h => h) (Or.inl ⟨by rfl, ?_⟩) hH2 ?_
            rotate_left; (intro w5 hS5; go_simp; try rfl)
            try simp only [Act.put, List.setIfInBounds_toArray, List.set_cons_zero, List.set_cons_succ]
            refine wpAnyH_done (by kernel_rfl) ?_ _
            have HNN := Lib.hid hH2
            clear hH hH2
            by_cases hc0 : c = 0
            · subst hc0
              have HG2 := Lib.hid (HGO.out rfl)
              go_wp2
              go_roundg (gk - 1)
              case rel => exact ⟨k + 1, by omega, by go_num, HG2.out, HBX.out.1.new HNN.out, HBX.out.2.1.new HNN.out, nw.trans HNN.out⟩
              case measure => omega
            · have tc : (c != 0) = true := by simpa using hc0
              have HS2 := Lib.hid (HCK.out.trans (HST.out hc0))
              clear hc0
              go_wp2
              go_ret
              exact ⟨by rw [HS2.out]; rfl, nw.trans HNN.out⟩
          · obtain rfl : k = Lb := by omega
            have HZ := Lib.hid (HCK.out.trans hz)
            clear hz ba bb
            go_wp2
            go_ret
            exact ⟨by rw [HZ.out]; rfl, nw⟩
end Go.Proofs.Ytplaicdbcfnjbaa
