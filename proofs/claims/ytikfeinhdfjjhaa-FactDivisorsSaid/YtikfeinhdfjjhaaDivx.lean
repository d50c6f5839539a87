/- The walk of fact.Divisors. -/
import Derived.Test.YtikfeinhdfjjhaaDivw
namespace Go.Proofs.Ytikfeinhdfjjhaa
open Go.RowKit
set_option linter.unusedVariables false

set_option maxHeartbeats 400000 in
theorem divisors_no (n : Int) (w : World) (h : ¬ (1 ≤ n ∧ n ≤ 16777216)) :
    Calls Try.prog 32 #[.int .i64 n] w fun e w' => e = .returned (.tuple #[.slice none 0 0, .int .i64 3]) ∧ w = w' := by
  have HF := Lib.hid (fun w => factors_no n w h)
  clear h
  go_enter Try.func32, Try.ntmps32
  go_wp2_with (go_at_call 10; refine (HF.out _).mono ?_; rintro e w1 ⟨rfl, rfl⟩)
  go_ret2
  exact ⟨rfl, rfl⟩

theorem step_sum {j g e : Nat} (h : j + g = e) (hl : j < e) : j + 1 + (g - 1) = e := by omega
theorem own_box_ne {w : World} {base b n cap g : Nat} {xs : List Value} {cs : Array Value} (h : w.ownsRow base 3 1 (.slice (some ⟨g, 0, none⟩) n cap) n xs) (hb : Box w b 31 cs) : b ≠ g := by
  rintro rfl
  rcases h.2 with ⟨h0, _⟩ | ⟨g', cap', cur, hv, _, hh, _⟩
  · cases h0
  · cases hv
    unfold Box at hb
    rw [hb] at hh
    cases hh
theorem own_lt {w : World} {base n cap g : Nat} {xs : List Value} (h : w.ownsRow base 3 1 (.slice (some ⟨g, 0, none⟩) n cap) n xs) : base ≤ g ∧ g < w.heap.size ∧ n ≤ cap := by
  rcases h.2 with ⟨h0, _⟩ | ⟨g', cap', cur, hv, h1, hh, h2, _⟩
  · cases h0
  · cases hv
    exact ⟨h1, (Array.getElem?_eq_some_iff.1 hh).1, h2⟩
theorem nums_push (M L : List Nat) (u i : Nat) (hi : i < L.length) : nums (M ++ (L.take (i + 1)).map (· * u)) = nums (M ++ (L.take i).map (· * u)) ++ [.int .i64 ((L.getD i 0 * u : Nat) : Int)] := by
  rw [List.take_succ_eq_append_getElem hi, List.map_append, ← List.append_assoc]
  simp [nums, List.getD, List.getElem?_eq_getElem hi]

set_option maxRecDepth 100000 in
set_option maxHeartbeats 4000000 in
theorem divisors_yes (n K : Nat) (w : World) (h1 : 1 ≤ n) (h2 : n ≤ 16777216) (hK : ∀ x, x * x ≤ n ↔ x ≤ K) :
    Calls Try.prog 32 #[.int .i64 n] w fun e w' => ∃ v, e = .returned (.tuple #[v, .int .i64 0]) ∧ w'.ownsRow w.heap.size 3 1 v (lowF n K ++ highF n K).length (nums (lowF n K ++ highF n K)) ∧ New w w' := by
  have HF := Lib.hid (fun w => factors_yes n w h1 h2)
  have HL := Lib.hid (lk_facts h1 h2)
  have HP := Lib.hid (facs_spec h1 h2)
  have HS := Lib.hid (fun S => dvs_sorted (S := S) h1 h2 hK)
  have HN := Lib.hid (⟨h1, h2⟩ : _ ∧ _)
  have HA := Lib.hid (lk_all (facs n))
  obtain ⟨l, el⟩ : ∃ l, l = facs n := ⟨_, rfl⟩
  rw [← el] at HF HL HP HS HA
  generalize lowF n K ++ highF n K = R at *
  clear h1 h2 hK el
  go_enter Try.func32, Try.ntmps32
  go_wp2_with (go_at_call 10; refine (HF.out _).mono ?_; rintro e w1 ⟨v, rfl, own0, n1⟩; obtain ⟨A, cap0, rfl, hcap0, hA⟩ := own_slice own0; have hl9 : l.length ≤ 9223372036854775807 := own_len own0; have HC := Lib.hid hA; clear hA own0)
  -- the primes one by one
  go_loopg [6, 24] l.length (fun G s i wr => ∃ (k g cap : Nat), i = .int .i64 k ∧ k + G = l.length ∧ s = .slice (some ⟨g, 0, none⟩) (lk l k).length cap ∧ wr.ownsRow w1.heap.size 3 1 (.slice (some ⟨g, 0, none⟩) (lk l k).length cap) (lk l k).length (nums (lk l k)) ∧ New w1 wr)
  case atStart =>
    refine ⟨0, w1.heap.size, 1, rfl, by omega, rfl, ?_, (New.refl _).alloc _⟩
    refine ⟨rfl, .inr ⟨w1.heap.size, 1, _, rfl, Nat.le_refl _, Box.made w1 3 _, Nat.le_refl _, by decide, rfl, rfl⟩⟩
  case round =>
    obtain ⟨k, g, cap, rfl, hk, rfl, own, nw⟩ := hrel
    by_cases hkl : k < l.length
    · obtain ⟨ga, rfl, hga, hgl, hc⟩ := HC.out (by omega)
      have hx : l[k]? = some l[k] := List.getElem?_eq_getElem hkl
      obtain ⟨c0, c1⟩ := pows_at l k _ hx
      have d0 := (nw.cell (p := ⟨ga, k * 2, none⟩) hgl).trans ((hc (k * 2) (by omega)).trans c0)
      have d1 := (nw.cell (p := ⟨ga, k * 2 + 1, none⟩) hgl).trans ((hc (k * 2 + 1) (by omega)).trans c1)
      have hs1 := lk_succ hx
      have HX := Lib.hid (HP.out.prime _ (List.getElem_mem hkl))
      generalize l[k] = x at *
      obtain ⟨p, e⟩ := x
      simp only at d0 d1
      have HL0 := Lib.hid (HL.out k)
      have HL1 := Lib.hid (HL.out (k + 1))
      rw [hs1] at HL1
      have HS1 := Lib.hid hs1
      have be : e ≤ 16777216 := by
        have q1 := (dvStep_le (j := e) (Nat.le_refl _) HL1.out.1 HL0.out.2.2).1
        have q2 := succ_le_pow (show 2 ≤ p from HX.out.1) e
        have := HN.out
        omega
      clear hs1 hc c0 c1 hx
      generalize lk l k = L at *
      obtain ⟨go, rfl⟩ : ∃ go : Nat, go = gk := ⟨_, rfl⟩
      obtain ⟨wo, rfl⟩ : ∃ wo : World, wo = wr := ⟨_, rfl⟩
      have HB0 := Lib.hid (⟨nw.lt, n1.lt, d0, d1⟩ : _ ∧ _ ∧ _ ∧ _)
      have OW := Lib.hid own
      clear own
      go_wp2_with fail
      clear d0 d1
      -- a prime's powers
      go_loopg [6, 9, 32] e (fun G s u i wi => ∃ (j g cap : Nat), i = .int .i64 j ∧ j + G = e ∧ u = .int .i64 ((p ^ j : Nat) : Int) ∧ s = .slice (some ⟨g, 0, none⟩) (dvStep L (p, j)).length cap ∧ wi.ownsRow w1.heap.size 3 1 (.slice (some ⟨g, 0, none⟩) (dvStep L (p, j)).length cap) (dvStep L (p, j)).length (nums (dvStep L (p, j))) ∧ Box wi wo.heap.size 31 #[.int .i64 p, .int .i64 e] ∧ New w1 wi)
      case atStart => exact ⟨0, g, cap, rfl, by omega, by simp, by rw [dvStep_zero], by rw [dvStep_zero]; exact OW.out.alloc _, Box.made wo 31 _, nw.alloc _⟩
      case round =>
        obtain ⟨j, g2, cap2, rfl, hj, rfl, rfl, own2, bx, nw2⟩ := hrel
        by_cases hje : j < e
        · have hle := dvStep_le (j := j + 1) (by omega) HL1.out.1 HL0.out.2.2
          have hroom := dvStep_room (L := L) (p := p) hje
          have hlen := HL1.out.2.1
          have hnn := HN.out
          have ePr : ((p ^ j : Nat) : Int) * (p : Int) = ((p ^ (j + 1) : Nat) : Int) := by rw [Nat.pow_succ]; simp
          have hst := dvStep_succ L p j
          have bp : p ^ (j + 1) ≤ 16777216 := by omega
          have bm : (dvStep L (p, j)).length + L.length ≤ 16777216 := by omega
          have HE := Lib.hid (fun d hd => Nat.le_trans (hle.2 d hd) hnn.2)
          have HST := Lib.hid hst
          have o3 := own_lt own2
          have k0 : wr.cell? ⟨wo.heap.size, 0, none⟩ = some (.int .i64 p) := bx.cell 0
          have cells : ∀ t, t < L.length → wr.cell? ⟨g2, t, none⟩ = some (.int .i64 (L.getD t 0 : Nat)) := by
            intro t ht
            obtain ⟨T, hT⟩ := dvStep_prefix L p j
            have h9 := own2.cellAt t (by rw [Nat.mul_one, hT, List.length_append]; omega)
            rw [h9, hT]
            simp [nums, List.getElem?_append_left, ht, List.getD, List.getElem?_eq_getElem ht]
          have lc : L.length ≤ (dvStep L (p, j)).length := by
            obtain ⟨T, hT⟩ := dvStep_prefix L p j
            rw [hT, List.length_append]; omega
          have HCC := Lib.hid cells
          clear hle hroom hlen hnn hst cells
          obtain ⟨u', eu'⟩ : ∃ u' : Nat, u' = p ^ (j + 1) := ⟨_, rfl⟩
          rw [← eu'] at ePr bp HE HST
          have EU : Hid (Value.int .i64 (u' : Int) = .int .i64 ((p ^ (j + 1) : Nat) : Int)) := by rw [eu']; exact rfl
          clear eu'
          generalize p ^ j = u at *
          generalize dvStep L (p, j) = M at *
          have lm : L.length ≤ cap2 := Nat.le_trans lc o3.2.2
          have OW2 := Lib.hid own2
          have HO3 := Lib.hid o3
          clear own2 o3
          obtain ⟨gj, rfl⟩ : ∃ gj : Nat, gj = gk := ⟨_, rfl⟩
          obtain ⟨wp, rfl⟩ : ∃ wp : World, wp = wr := ⟨_, rfl⟩
          have HLM := Lib.hid lc
          clear lc
          go_wp2_with fail
          clear k0
          -- each number so far by this power
          go_loopg [6, 42] L.length (fun G s i wi => ∃ (t g cap : Nat), i = .int .i64 t ∧ t + G = L.length ∧ s = .slice (some ⟨g, 0, none⟩) (M.length + t) cap ∧ wi.ownsRow w1.heap.size 3 1 (.slice (some ⟨g, 0, none⟩) (M.length + t) cap) (M.length + t) (nums (M ++ (L.take t).map (· * u'))) ∧
            (∀ x, x < L.length → wi.cell? ⟨g2, x, none⟩ = some (.int .i64 (L.getD x 0 : Nat))) ∧ g2 < wi.heap.size ∧ Box wi wo.heap.size 31 #[.int .i64 p, .int .i64 e] ∧ New w1 wi)
          case atStart => exact ⟨0, g2, cap2, rfl, by omega, rfl, by simpa using OW2.out, HCC.out, HO3.out.2.1, bx, nw2⟩
          case round =>
            obtain ⟨t, g3, cap3, rfl, ht, rfl, own3, hcc, hg2, bx3, nw3⟩ := hrel
            by_cases htl : t < L.length
            · have ct := hcc t htl
              have hpush := nums_push M L u' t htl
              have hin : L.getD t 0 ∈ L := by simp [List.getD, List.getElem?_eq_getElem htl]
              have bq := HE.out _ hin
              have ePq : ((L.getD t 0 : Nat) : Int) * (u' : Int) = ((L.getD t 0 * u' : Nat) : Int) := by simp
              have hbase := own_lt own3
              have hne := own_box_ne own3 bx3
              have HPU := Lib.hid hpush
              have HO := Lib.hid own3
              have HCC3 := Lib.hid hcc
              have HBS := Lib.hid (⟨hbase, hne⟩ : _ ∧ _)
              have bt : M.length + t ≤ 16777216 := by omega
              have bw : w1.heap.size ≤ wr.heap.size := by omega
              clear hpush hin hcc own3 hbase hne
              generalize L.getD t 0 * u' = m at *
              generalize L.getD t 0 = d at *
              go_wp2_with (at_builtin; refine wpl_push rfl _ _ rfl w1.heap.size g3 (M.length + t) cap3 _ (.int .i64 m) rfl rfl HO.out rfl bt bw ?_)
              intro g' cap' w' own' hgr hkeep
              have B2 : Box w' wo.heap.size 31 #[.int .i64 p, .int .i64 e] := (bx3.alloc _).grown hgr (by simpa using HBS.out.2)
              have N2 : New w1 w' := (nw3.alloc _).grown hgr (fun k hk => by cases hk; exact HBS.out.1.1)
              have C2 : ∀ x, x < L.length → w'.cell? ⟨g2, x, none⟩ = some (.int .i64 (L.getD x 0 : Nat)) := by
                intro x hx
                rw [← HCC3.out x hx]
                by_cases hgg : g2 = g3
                · subst hgg; exact (hkeep x (by have := HLM.out; omega)).trans (by rfl)
                · rw [World.cell?_of_block (hgr.block g2 (by simp; omega) (by simpa using hgg)), World.cell?_alloc_lt _ _ _ hg2]
              have hg2' : g2 < w'.heap.size := Nat.lt_of_lt_of_le hg2 (Nat.le_trans (by simp) hgr.size)
              clear hgr hkeep bx3 nw3 ct
              have HC2 := Lib.hid C2
              clear C2
              go_wp2_with fail
              go_roundg (gk - 1)
              case rel => exact ⟨t + 1, g', cap', by go_num, by omega, rfl, by rw [HPU.out, List.map_take]; exact own', HC2.out, hg2', B2, N2⟩
              case measure => omega
            · have hte : t = L.length := by omega
              subst hte
              have hfin : M ++ (L.take L.length).map (· * u') = dvStep L (p, j + 1) := by rw [List.take_length]; exact HST.out.symm
              have hfl : M.length + L.length = (dvStep L (p, j + 1)).length := by rw [HST.out]; simp
              have HFI := Lib.hid (⟨hfin, hfl⟩ : _ ∧ _)
              have HO := Lib.hid own3
              clear hfin hfl own3 hcc
              go_wp2_with fail
              go_roundg (gj - 1)
              case rel =>
                have o9 := HO.out
                rw [HFI.out.1, HFI.out.2] at o9
                exact ⟨j + 1, g3, cap3, by go_num, step_sum hj hje, EU.out, by rw [HFI.out.2], o9, bx3, nw3⟩
              case measure => omega
        · have hee : j = e := by omega
          subst hee
          have HO := Lib.hid own2
          clear own2
          go_wp2_with fail
          go_roundg (go - 1)
          case rel =>
            have o9 := HO.out
            rw [← HS1.out] at o9
            exact ⟨k + 1, g2, cap2, by go_num, by omega, by rw [HS1.out], o9, nw2⟩
          case measure => omega
    · have hke : k = l.length := by omega
      subst hke
      have hall := HA.out
      rw [hall] at own
      have hd : (dvs l).length ≤ n := by rw [← hall]; exact (HL.out l.length).2.1
      rw [hall]
      have hg := own_lt own
      have S1 := sort_nums (dvs l) R HS.out w1.heap.size g cap wr own (by have := HN.out; omega)
      have HSO := Lib.hid S1
      have HB := Lib.hid hg
      clear S1 own hg hall
      go_wp2_with (go_at_call 38; refine HSO.out.mono ?_; rintro e w2 ⟨rfl, o2, gr2⟩)
      go_ret2
      exact ⟨_, rfl, ⟨o2.1, o2.2.imp id fun ⟨a, b, c, d, e, f⟩ => ⟨a, b, c, d, Nat.le_trans n1.lt e, f⟩⟩, (n1.trans nw).grown gr2 (fun k hk => by cases hk; exact Nat.le_trans n1.lt HB.out.1)⟩
end Go.Proofs.Ytikfeinhdfjjhaa
