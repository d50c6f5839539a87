/- The contract of the reference's Divisors. -/
import Derived.Test.YtikfeinhdfjjhaaDivw
import Derived.Maps.AppendAt
import Derived.Laws.AppendOwnNone
namespace Go.Proofs.Ytikfeinhdfjjhaa
open Go.RowKit
set_option linter.unusedVariables false

/-- one row of the call's own is appended to another one -/
theorem wpl_join {ops : Array Oper} {rest : List Oper} {o : Oper} {a : Act} {w : World} {Q : Exit → Act → World → Prop} (hg : o.guard = none) (s x : Operand)
    (ho : o.op = .call { callee := .builtin .append, args := #[s, x], argTypes := #[28, 28] }) (base b2 n m : Nat) (v vx : Value) (xs ys : List Value)
    (hs : a.eval s = v) (hx : a.eval x = vx) (hv : w.ownsRow base 3 1 v n xs) (hy : w.ownsRow b2 3 1 vx m ys)
    (h1 : ∀ u ∈ ys, u.oneCell' = true) (hn : n ≤ 16777216) (hm : m ≤ 16777216) (hbase : base ≤ w.heap.size)
    (h : ∀ v' w', w'.ownsRow base 3 1 v' (n + m) (xs ++ ys) → w.grownBy w' v.ownBlock → (v'.ownBlock = v.ownBlock ∨ v'.ownBlock = some w.heap.size) → wpList Try.prog ops Q rest (a.put o.dst v') w') :
    wpList Try.prog ops Q (o :: rest) a w := by
  obtain ⟨i0, hi, hz0, hz1, hz2⟩ := info_parts Try.info3
  rcases hy.2 with ⟨rfl, rfl⟩ | ⟨g, cap, cur, rfl, _, hb, _⟩
  · have hl : ys = [] := List.eq_nil_of_length_eq_zero (by have := hy.1; omega)
    subst hl
    exact wpList_append_own_none hg s x 28 ho base 3 i0 1 Try.underlying28 hi v n xs hs hv hx (h v w (by simpa using hv) (World.grownBy.refl w _) (.inl rfl))
  · exact wpList_append_own_at w hg s x 28 ho base 3 i0 (.int .i64 0) 1 8 Try.underlying28 hi hz0 hz1 hz2 rfl (by decide) v n xs hs hv ⟨g, 0, none⟩ m cap ys hx hy.1
      (fun j u hj => by
        have hj' : j < m := by have := (List.getElem?_eq_some_iff.1 hj).1; have := hy.1; omega
        have e : (⟨g, 0, none⟩ : Addr).add j = ⟨g, j, none⟩ := by unfold Addr.add; split <;> simp_all
        rw [e, hy.cellAt j (by omega), hj]) h1 (by unfold maxLen; omega) (by omega) hbase
      (fun v' w' p1 p2 _ p4 => h v' w' p1 p2 p4)
theorem own_one (w : World) (base : Nat) (y : Value) (hb : base ≤ w.heap.size) : (w.alloc (.cells #[y] 3)).ownsRow base 3 1 (.slice (some ⟨w.heap.size, 0, none⟩) 1 1) 1 [y] :=
  ⟨rfl, .inr ⟨w.heap.size, 1, _, rfl, hb, Box.made w 3 _, Nat.le_refl _, by decide, rfl, rfl⟩⟩
theorem nums_ones (L : List Nat) : ∀ u ∈ nums L, u.oneCell' = true := by
  intro u hu
  obtain ⟨x, _, rfl⟩ := List.mem_map.1 hu
  rfl
theorem low_len (n k : Nat) : (lowF n k).length ≤ k := by
  unfold lowF
  exact Nat.le_trans (List.length_filter_le _ _) (by rw [len_upto]; exact Nat.le_refl _)
theorem high_len (n k : Nat) : (highF n k).length ≤ k := by
  unfold highF
  rw [List.length_reverse, List.length_map]
  exact Nat.le_trans (List.length_filter_le _ _) (by rw [len_upto]; exact Nat.le_refl _)
theorem nums_app (A B : List Nat) : nums (A ++ B) = nums A ++ nums B := by simp [nums]
/-- two rows that share no block -/
def Apart (a b : Value) : Prop := ∀ g, a.ownBlock = some g → b.ownBlock ≠ some g
theorem Apart.kept {w w' : World} {base e n : Nat} {a b : Value} {xs : List Value} (h : Apart a b) (hb : w.ownsRow base e 1 b n xs) (hg : w.grownBy w' a.ownBlock) : w'.ownsRow base e 1 b n xs := by
  refine hb.kept hg ?_
  cases hv : b.ownBlock with
  | none => exact .inl rfl
  | some g => exact .inr fun e => h g e.symm hv

theorem own_cast {w : World} {base n m : Nat} {v : Value} {xs ys : List Value} (h : w.ownsRow base 3 1 v n xs) (e1 : n = m) (e2 : xs = ys) : w.ownsRow base 3 1 v m ys := by subst e1; subst e2; exact h
theorem Apart.grown {w w1 : World} {base n m : Nat} {a b a' : Value} {xs : List Value} (h : Apart a b) (hb : w.ownsRow base 3 1 b m xs) (h1 : a'.ownBlock = a.ownBlock ∨ ∃ g, a'.ownBlock = some g ∧ w.heap.size ≤ g) : Apart a' b := by
  intro g hg hh
  rcases h1 with h1 | ⟨g', h1, h2⟩
  · exact h g (by rw [← h1]; exact hg) hh
  · rw [h1] at hg
    cases hg
    have := (hb.lt g hh).2
    omega
theorem Apart.new_ {w : World} {base n : Nat} {a b : Value} {xs : List Value} (ha : w.ownsRow base 3 1 a n xs) (h1 : ∃ g, b.ownBlock = some g ∧ w.heap.size ≤ g) : Apart a b := by
  intro g hg hh
  obtain ⟨g', e, h2⟩ := h1
  rw [e] at hh
  cases hh
  have := (ha.lt g hg).2
  omega

set_option maxRecDepth 100000 in
set_option maxHeartbeats 2000000 in
theorem refdivisors_any (n K : Nat) (w : World) (h1 : 1 ≤ n) (h2 : n ≤ 16777216) (hK : ∀ x, x * x ≤ n ↔ x ≤ K) :
    Calls Try.prog 33 #[.int .i64 n] w fun e w' => ∃ v, e = .returned v ∧ w'.ownsRow w.heap.size 3 1 v (lowF n K ++ highF n K).length (nums (lowF n K ++ highF n K)) ∧ New w w' := by
  have hK9 : K ≤ 4096 := by
    apply Nat.le_of_not_lt
    intro hlt
    have a := (hK K).2 (Nat.le_refl _)
    have b := Nat.mul_le_mul hlt hlt
    omega
  have HK := Lib.hid hK
  clear hK
  go_enter Try.func33, Try.ntmps33
  go_wp2_with fail
  go_loopg [3, 4, 5] K (fun G s t d wr => ∃ (k c : Nat) (vl vh : Value), c = k + 1 ∧ d = .int .i64 (c : Int) ∧ s = vl ∧ t = vh ∧ k + G = K ∧
    wr.ownsRow w.heap.size 3 1 vl (lowF n k).length (nums (lowF n k)) ∧ wr.ownsRow w.heap.size 3 1 vh (highF n k).length (nums (highF n k)) ∧ Apart vl vh ∧ New w wr)
  case atStart => exact ⟨0, 1, _, _, rfl, rfl, rfl, rfl, by omega, World.ownsRow_nil _ _ _ _, World.ownsRow_nil _ _ _ _, fun g h => by simp [Value.ownBlock] at h, New.refl _⟩
  case round =>
    obtain ⟨k, c, vl, vh, hc, rfl, rfl, rfl, hk, ol, oh, ap, nw⟩ := hrel
    obtain ⟨sq, esq⟩ : ∃ sq : Nat, sq = c * c := ⟨_, rfl⟩
    have pr : (c : Int) * (c : Int) = (sq : Int) := by rw [esq]; simp
    have hsq : sq ≤ n ↔ k < K := by rw [esq, HK.out c]; omega
    have ll := low_len n k
    have lh := high_len n k
    have bw := nw.lt
    have bc : c ≤ 5000 := by omega
    have bc1 : 1 ≤ c := by omega
    have bsq : sq ≤ 25000000 := by rw [esq]; have := Nat.mul_le_mul bc bc; omega
    by_cases hkK : k < K
    · have t1 : sq ≤ n := hsq.2 hkK
      by_cases hm : n % c = 0
      · have hq : ((n : Int) % (c : Int) == 0) = true := by simp; omega
        have hlow : lowF n (k + 1) = lowF n k ++ [c] := by rw [hc]; exact lowF_yes (by rw [← hc]; exact hm)
        have HL := Lib.hid hlow
        have qd : (n : Int) / (c : Int) = ((n / c : Nat) : Int) := by simp
        have bq : n / c ≤ 16777216 := Nat.le_trans (Nat.div_le_self _ _) h2
        by_cases hs : sq = n
        · have hh : highF n (k + 1) = highF n k := highF_no (.inr (by rw [← hc, ← esq]; exact hs))
          have HH := Lib.hid hh
          have hs' : ((sq : Int) != (n : Int)) = false := by simp; omega
          have HO := Lib.hid (⟨ol, oh, ap, hc, hm, hsq, esq, hs⟩ : _ ∧ _ ∧ _ ∧ _ ∧ _ ∧ _ ∧ _ ∧ _)
          clear ol oh ap hm hlow hh hsq esq hs hc
          go_wp2_with (at_builtin; refine wpl_join rfl _ _ rfl w.heap.size w.heap.size (lowF n k).length 1 _ _ _ [.int .i64 c] rfl rfl (HO.out.1.alloc _) (own_one wr _ _ bw) (ones1 _ _) (by omega) (by decide) (by simp; omega) ?_)
          intro v' w1 o1 g1 b1
          have oh1 := HO.out.2.2.1.kept (HO.out.2.1.alloc (.cells #[.int .i64 c] 3)) g1
          have ap1 : Apart v' u4 := HO.out.2.2.1.grown (w1 := w1) (n := 0) HO.out.2.1 (b1.imp id fun e => ⟨_, e, by simp⟩)
          have N1 : New w w1 := (nw.alloc (.cells #[.int .i64 c] 3)).grown g1 (fun k hk => (HO.out.1.lt k hk).1)
          have ol1 := own_cast (m := (lowF n (k + 1)).length) (ys := nums (lowF n (k + 1))) o1 (by rw [HL.out]; simp) (by rw [HL.out, nums_app]; rfl)
          rw [← HH.out] at oh1
          have HQ := Lib.hid (⟨ol1, oh1, ap1⟩ : _ ∧ _ ∧ _)
          clear g1 b1 o1 ol1 oh1 ap1
          go_wp2_with fail
          go_roundg (gk - 1)
          case rel => exact ⟨k + 1, c + 1, v', u4, by rw [HO.out.2.2.2.1], by go_num, rfl, rfl, by omega, HQ.out.1, HQ.out.2.1, HQ.out.2.2, N1⟩
          case measure => omega
        · have hh : highF n (k + 1) = n / c :: highF n k := by rw [hc]; exact highF_yes (by rw [← hc]; exact hm) (by rw [← hc, ← esq]; exact hs)
          have HH := Lib.hid hh
          have hs' : ((sq : Int) != (n : Int)) = true := by simp; omega
          have HO := Lib.hid (⟨ol, oh, ap, hc, hm, hsq, esq, hs⟩ : _ ∧ _ ∧ _ ∧ _ ∧ _ ∧ _ ∧ _ ∧ _)
          clear ol oh ap hm hlow hh hsq esq hs hc
          generalize n / c = q at *
          go_wp2_with (at_builtin; refine wpl_join rfl _ _ rfl w.heap.size w.heap.size (lowF n k).length 1 _ _ _ [.int .i64 c] rfl rfl (HO.out.1.alloc _) (own_one wr _ _ bw) (ones1 _ _) (by omega) (by decide) (by simp; omega) ?_)
          intro v' w1 o1 g1 b1
          have oh1 := HO.out.2.2.1.kept (HO.out.2.1.alloc (.cells #[.int .i64 c] 3)) g1
          have ap1 : Apart v' u4 := HO.out.2.2.1.grown (w1 := w1) (n := 0) HO.out.2.1 (b1.imp id fun e => ⟨_, e, by simp⟩)
          have N1 : New w w1 := (nw.alloc (.cells #[.int .i64 c] 3)).grown g1 (fun k hk => (HO.out.1.lt k hk).1)
          have ol1 := own_cast (m := (lowF n (k + 1)).length) (ys := nums (lowF n (k + 1))) o1 (by rw [HL.out]; simp) (by rw [HL.out, nums_app]; rfl)
          have HQ := Lib.hid (⟨ol1, oh1, ap1⟩ : _ ∧ _ ∧ _)
          have bw1 := N1.lt
          clear g1 b1 o1 ol1 oh1 ap1
          go_wp2_with (at_builtin; refine wpl_join rfl _ _ rfl w.heap.size w.heap.size 1 (highF n k).length _ _ [.int .i64 q] _ rfl rfl (own_one w1 _ _ bw1) (HQ.out.2.1.alloc _) (nums_ones _) (by decide) (by omega) (by simp; omega) ?_)
          intro v'' w2 o2 g2 b2
          have ol2 : w2.ownsRow w.heap.size 3 1 v' (lowF n (k + 1)).length (nums (lowF n (k + 1))) := (HQ.out.1.alloc (.cells #[.int .i64 q] 3)).kept g2 (by
            cases hv : v'.ownBlock with
            | none => exact .inl rfl
            | some g =>
              have := (HQ.out.1.lt g hv).2
              right
              simp [Value.ownBlock]
              omega)
          have ap2 : Apart v' v'' := Apart.new_ HQ.out.1 (b2.elim (fun e => ⟨_, e, Nat.le_refl _⟩) fun e => ⟨_, e, by simp⟩)
          have N2 : New w w2 := (N1.alloc (.cells #[.int .i64 q] 3)).grown g2 (fun k hk => by cases hk; exact bw1)
          have oh2 := own_cast (m := (highF n (k + 1)).length) (ys := nums (highF n (k + 1))) o2 (by rw [HH.out]; simp; omega) (by rw [HH.out]; rfl)
          have HR := Lib.hid (⟨ol2, oh2, ap2⟩ : _ ∧ _ ∧ _)
          clear g2 b2 o2 ol2 oh2 ap2
          go_wp2_with fail
          go_roundg (gk - 1)
          case rel => exact ⟨k + 1, c + 1, v', v'', by rw [HO.out.2.2.2.1], by go_num, rfl, rfl, by omega, HR.out.1, HR.out.2.1, HR.out.2.2, N2⟩
          case measure => omega
      · have hq : ((n : Int) % (c : Int) == 0) = false := by simp; omega
        have hlow : lowF n (k + 1) = lowF n k := lowF_no (by rw [← hc]; exact hm)
        have hh : highF n (k + 1) = highF n k := highF_no (.inl (by rw [← hc]; exact hm))
        have HO := Lib.hid (⟨ol, oh, ap, hc, hm, hsq, esq, hlow, hh⟩ : _ ∧ _ ∧ _ ∧ _ ∧ _ ∧ _ ∧ _ ∧ _ ∧ _)
        clear ol oh ap hm hlow hh hsq esq hc
        go_wp2_with fail
        go_roundg (gk - 1)
        case rel => exact ⟨k + 1, c + 1, u3, u4, by rw [HO.out.2.2.2.1], by go_num, rfl, rfl, by omega, by rw [HO.out.2.2.2.2.2.2.2.1]; exact HO.out.1, by rw [HO.out.2.2.2.2.2.2.2.2]; exact HO.out.2.1, HO.out.2.2.1, nw⟩
        case measure => omega
    · have hke : k = K := by omega
      have t1 : ¬ sq ≤ n := fun h => hkK (hsq.1 h)
      have HO := Lib.hid (⟨ol, oh, ap, hc, hsq, esq, hke⟩ : _ ∧ _ ∧ _ ∧ _ ∧ _ ∧ _ ∧ _)
      clear ol oh ap hsq esq hc hke
      go_wp2_with (at_builtin; refine wpl_join rfl _ _ rfl w.heap.size w.heap.size (lowF n k).length (highF n k).length _ _ _ _ rfl rfl HO.out.1 HO.out.2.1 (nums_ones _) (by omega) (by omega) bw ?_)
      intro v' w1 o1 g1 b1
      have N1 : New w w1 := nw.grown g1 (fun k hk => (HO.out.1.lt k hk).1)
      have o2 := own_cast (m := (lowF n K ++ highF n K).length) (ys := nums (lowF n K ++ highF n K)) o1 (by rw [HO.out.2.2.2.2.2.2]; simp) (by rw [nums_app, HO.out.2.2.2.2.2.2])
      have HR := Lib.hid o2
      clear g1 b1 o1 o2
      go_wp2_with fail
      go_ret
      exact ⟨_, rfl, HR.out, N1⟩
end Go.Proofs.Ytikfeinhdfjjhaa
