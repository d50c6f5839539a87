/- Two sorted runs merged by turning a middle part about: plain, no program in sight. -/
import Derived.Test.YtplaicdbcfnjbaaV15
import Derived.Test.YtplaicdbcfnjbaaProg
import Derived.Shelf.SlSortCmp.PartitionEqualK
import Derived.Deep.LoopGhost
import Derived.Lib.Hide
set_option linter.unusedSimpArgs false
set_option linter.unusedVariables false
namespace Go.Proofs.Ytplaicdbcfnjbaa
open Go.Sort
set_option linter.unusedVariables false
section
variable {s : Nat → Int}
/-- two runs, each in the stable order, all places of the left one earlier -/
structure Hv (s : Nat → Int) (a m b : Nat) (d : Array Nat) : Prop where
  l : SortedIn (lx s) a m d
  r : SortedIn (lx s) m b d
  x : ∀ i j, a ≤ i → i < m → m ≤ j → j < b → d[i]! < d[j]!
theorem le_of_sorted {a b i j : Nat} {d : Array Nat} (h : SortedIn (lx s) a b d) (hi : a ≤ i) (hij : i ≤ j) (hj : j < b) : s d[i]! ≤ s d[j]! := by
  by_cases e : i = j
  · subst e; exact Int.le_refl _
  · have := h i j hi (by omega) hj
    rw [lx_not] at this
    omega
theorem Hv.rot {a m b c p q : Nat} {d d1 : Array Nat} (h : Hv s a m b d) (hm : c + p = m) (ha : a ≤ c) (hq : m + q ≤ b) (hb : b ≤ d.size)
    (h1 : a < c → m + q < b → ls s d[m + q]! d[c - 1]! = false) (h2 : 0 < p → 0 < q → ls s d[m + q - 1]! d[c]! = true) (r : Rot d c p q d1) :
    PermIn a b d d1 ∧ Hv s a c (c + q) d1 ∧ Hv s (c + q) (m + q) b d1 ∧ ∀ x y, a ≤ x → x < c + q → c + q ≤ y → y < b → lx s d1[y]! d1[x]! = false := by
  have e1 : ∀ x, x < c → d1[x]! = d[x]! := fun x hx => r.off x (by omega)
  have e2 : ∀ x, c ≤ x → x < c + q → ∃ t, t < q ∧ x = c + t ∧ d1[x]! = d[m + t]! := fun x h1 h2 => ⟨x - c, by omega, by omega, by
    have := r.fst (x - c) (by omega)
    rwa [show c + (x - c) = x by omega, show c + p + (x - c) = m + (x - c) by omega] at this⟩
  have e3 : ∀ x, c + q ≤ x → x < m + q → ∃ t, t < p ∧ x = c + q + t ∧ d1[x]! = d[c + t]! := fun x h1 h2 => ⟨x - (c + q), by omega, by omega, by
    have := r.snd (x - (c + q)) (by omega)
    rwa [show c + q + (x - (c + q)) = x by omega] at this⟩
  have e4 : ∀ x, m + q ≤ x → d1[x]! = d[x]! := fun x hx => r.off x (by omega)
  have hp := r.perm
  rw [show c + p + q = m + q by omega] at hp
  refine ⟨permIn_mono _ _ _ _ _ _ ha hq hb hp, ⟨fun x y hx hxy hy => ?_, fun x y hx hxy hy => ?_, fun x y hx hxc hy hyq => ?_⟩, ⟨fun x y hx hxy hy => ?_, fun x y hx hxy hy => ?_, fun x y hx hxc hy hyq => ?_⟩, fun x y hx hxc hy hyb => ?_⟩
  · rw [e1 x (by omega), e1 y (by omega)]; exact h.l x y hx hxy (by omega)
  · obtain ⟨t, ht, rfl, k1⟩ := e2 x (by omega) (by omega)
    obtain ⟨u, hu, rfl, k2⟩ := e2 y (by omega) (by omega)
    rw [k1, k2]; exact h.r _ _ (by omega) (by omega) (by omega)
  · obtain ⟨u, hu, rfl, k2⟩ := e2 y (by omega) (by omega)
    rw [e1 x (by omega), k2]; exact h.x _ _ hx (by omega) (by omega) (by omega)
  · obtain ⟨t, ht, rfl, k1⟩ := e3 x (by omega) (by omega)
    obtain ⟨u, hu, rfl, k2⟩ := e3 y (by omega) (by omega)
    rw [k1, k2]; exact h.l _ _ (by omega) (by omega) (by omega)
  · rw [e4 x (by omega), e4 y (by omega)]; exact h.r _ _ (by omega) (by omega) (by omega)
  · obtain ⟨t, ht, rfl, k1⟩ := e3 x (by omega) (by omega)
    rw [k1, e4 y (by omega)]; exact h.x _ _ (by omega) (by omega) (by omega) (by omega)
  · by_cases cx : x < c
    · rw [e1 x cx]
      by_cases cy : y < m + q
      · obtain ⟨u, hu, rfl, k2⟩ := e3 y (by omega) (by omega)
        rw [k2]; exact h.l _ _ hx (by omega) (by omega)
      · rw [e4 y (by omega)]
        have g1 := h1 (by omega) (by omega)
        rw [ls_not] at g1
        have g2 := le_of_sorted h.l hx (show x ≤ c - 1 by omega) (by omega)
        have g3 := le_of_sorted h.r (show m ≤ m + q by omega) (show m + q ≤ y by omega) hyb
        have g4 := h.x x y hx (by omega) (by omega) hyb
        rw [lx_not]
        omega
    · obtain ⟨t, ht, rfl, k1⟩ := e2 x (by omega) (by omega)
      rw [k1]
      by_cases cy : y < m + q
      · obtain ⟨u, hu, rfl, k2⟩ := e3 y (by omega) (by omega)
        rw [k2]
        have g1 := h2 (by omega) (by omega)
        rw [ls_iff] at g1
        have g2 := le_of_sorted h.r (show m ≤ m + t by omega) (show m + t ≤ m + q - 1 by omega) (by omega)
        have g3 := le_of_sorted h.l ha (show c ≤ c + u by omega) (by omega)
        rw [lx_not]
        omega
      · rw [e4 y (by omega)]; exact h.r _ _ (by omega) (by omega) (by omega)
/-- two sorted parts, nothing of the right one less than anything of the left one -/
theorem sorted_join {a m b : Nat} {d1 d2 d3 : Array Nat} (hb : b ≤ d1.size) (ham : a ≤ m) (hmb : m ≤ b) (h : ∀ x y, a ≤ x → x < m → m ≤ y → y < b → lx s d1[y]! d1[x]! = false)
    (p2 : PermIn a m d1 d2) (s2 : SortedIn (lx s) a m d2) (p3 : PermIn m b d2 d3) (s3 : SortedIn (lx s) m b d3) : PermIn a b d1 d3 ∧ SortedIn (lx s) a b d3 := by
  refine ⟨permIn_trans _ _ _ _ _ (permIn_mono _ _ _ _ _ _ (Nat.le_refl _) hmb hb p2) (permIn_mono _ _ _ _ _ _ ham (Nat.le_refl _) (by rw [p2.1]; exact hb) p3), fun x y hx hxy hy => ?_⟩
  by_cases cx : x < m
  · rw [p3.2.1 x (Or.inl cx)]
    by_cases cy : y < m
    · rw [p3.2.1 y (Or.inl cy)]; exact s2 x y hx hxy cy
    · have key : ∀ i, m ≤ i → i < b → ∀ j, a ≤ j → j < m → lx s d1[i]! d1[j]! = false := fun i h1 h2 j h3 h4 => h j i h3 h4 h1 h2
      have k2 : ∀ i, m ≤ i → i < b → ∀ j, a ≤ j → j < m → lx s d2[i]! d1[j]! = false := fun i h1 h2 j h3 h4 => by
        rw [p2.2.1 i (Or.inr h1)]; exact key i h1 h2 j h3 h4
      have k3 : ∀ i, m ≤ i → i < b → ∀ j, a ≤ j → j < m → lx s d3[i]! d1[j]! = false :=
        permIn_all d2 d3 m b (fun z => ∀ j, a ≤ j → j < m → lx s z d1[j]! = false) (by rw [p2.1]; exact hb) p3 k2
      exact permIn_all d1 d2 a m (fun z => lx s d3[y]! z = false) (by omega) p2 (fun j h3 h4 => k3 y (by omega) hy j h3 h4) x hx cx
  · exact s3 x y (by omega) hxy hy
theorem Hv.flat {a m b : Nat} {d : Array Nat} (h : Hv s a m b d) (e : m ≤ a ∨ b ≤ m) : SortedIn (lx s) a b d := by
  rcases e with e | e
  · exact fun x y hx hxy hy => h.r x y (by omega) hxy hy
  · exact fun x y hx hxy hy => h.l x y hx hxy (by omega)
theorem Hv.one {a b q : Nat} {d d1 : Array Nat} (h : Hv s a (a + 1) b d) (hq : a + 1 + q ≤ b) (hb : b ≤ d.size)
    (h1 : a + 1 + q < b → ls s d[a + 1 + q]! d[a]! = false) (h2 : 0 < q → ls s d[a + q]! d[a]! = true) (r : Rot d a 1 q d1) : PermIn a b d d1 ∧ SortedIn (lx s) a b d1 := by
  obtain ⟨p1, v1, v2, x⟩ := h.rot (c := a) (p := 1) rfl (Nat.le_refl _) hq hb (fun h => absurd h (by omega)) (fun _ hq0 => by rw [show a + 1 + q - 1 = a + q by omega]; exact h2 hq0) r
  refine ⟨p1, (sorted_join (d1 := d1) (by rw [p1.1]; exact hb) (Nat.le_add_right a q) (by omega) x (permIn_refl _ _ _) (v1.flat (Or.inl (Nat.le_refl _))) (permIn_refl _ _ _) (fun y z hy hyz hz => ?_)).2⟩
  by_cases c : y = a + q
  · subst c
    have k1 := r.snd 0 (by omega)
    simp only [Nat.add_zero] at k1
    rw [k1, r.off z (by omega)]
    have g1 := h1 (by omega)
    rw [ls_not] at g1
    have g2 := le_of_sorted h.r (show a + 1 ≤ a + 1 + q by omega) (show a + 1 + q ≤ z by omega) hz
    have g3 := h.x a z (Nat.le_refl _) (by omega) (by omega) hz
    rw [lx_not]
    omega
  · exact v2.r y z (by omega) hyz hz
theorem Hv.end {a m c p : Nat} {d d1 : Array Nat} (h : Hv s a m (m + 1) d) (hm : c + p = m) (ha : a ≤ c) (hb : m + 1 ≤ d.size)
    (h1 : a < c → ls s d[m]! d[c - 1]! = false) (h2 : 0 < p → ls s d[m]! d[c]! = true) (r : Rot d c p 1 d1) : PermIn a (m + 1) d d1 ∧ SortedIn (lx s) a (m + 1) d1 := by
  obtain ⟨p1, v1, v2, x⟩ := h.rot (q := 1) hm ha (Nat.le_refl _) hb (fun _ h => absurd h (by omega)) (fun hp0 _ => h2 hp0) r
  refine ⟨p1, (sorted_join (d1 := d1) (by rw [p1.1]; exact hb) (by omega) (by omega) x (permIn_refl _ _ _) (fun y z hy hyz hz => ?_) (permIn_refl _ _ _) (v2.flat (Or.inr (Nat.le_refl _)))).2⟩
  by_cases e : z = c
  · subst e
    have k1 := r.fst 0 (by omega)
    simp only [Nat.add_zero] at k1
    rw [k1, r.off y (by omega), hm]
    have g1 := h1 (by omega)
    rw [ls_not] at g1
    have g2 := le_of_sorted h.l hy (show y ≤ z - 1 by omega) (by omega)
    have g3 := h.x y m hy (by omega) (Nat.le_refl _) (by omega)
    rw [lx_not]
    omega
  · exact v1.l y z hy hyz (by omega)
theorem Rot.up {d dk : Array Nat} {a t : Nat} (h : Rot d a 1 t dk) (hz : a + 1 + (t + 1) ≤ d.size) : Rot d a 1 (t + 1) (swp dk (a + t) (a + t + 1)) := by
  have hs : dk.size = d.size := h.perm.1
  refine ⟨permIn_trans _ _ _ _ _ (permIn_mono _ _ _ _ _ _ (Nat.le_refl _) (by omega) hz h.perm) (swp_permIn dk a _ (a + t) (a + t + 1) (by omega) (by omega) (by omega) (by omega) (by omega)), fun u hu => ?_, fun u hu => ?_, fun k hk => ?_⟩
  · by_cases e : u = t
    · subst e
      rw [swp_left _ _ _ (by omega) (by omega), h.off _ (by omega)]
      congr 1; omega
    · rw [swp_other _ _ _ _ (by omega) (by omega)]
      exact h.fst u (by omega)
  · obtain rfl : u = 0 := by omega
    have := h.snd 0 (by omega)
    rw [show a + (t + 1) + 0 = a + t + 1 by omega, swp_right _ _ _ (by omega)]
    exact this
  · rw [swp_other _ _ _ _ (by omega) (by omega)]
    exact h.off k (by omega)
theorem Rot.down {d dk : Array Nat} {j t : Nat} (h : Rot d (j + 1) t 1 dk) (hz : j + 1 + t + 1 ≤ d.size) : Rot d j (t + 1) 1 (swp dk (j + 1) j) := by
  have hs : dk.size = d.size := h.perm.1
  have hp := h.perm
  rw [show j + 1 + t + 1 = j + (t + 1) + 1 by omega] at hp
  refine ⟨permIn_trans _ _ _ _ _ (permIn_mono _ _ _ _ _ _ (by omega) (Nat.le_refl _) (by omega) hp) (swp_permIn dk j _ (j + 1) j (by omega) (by omega) (by omega) (by omega) (by omega)), fun u hu => ?_, fun u hu => ?_, fun k hk => ?_⟩
  · obtain rfl : u = 0 := by omega
    have := h.fst 0 (by omega)
    rw [show j + 0 = j by omega, swp_right _ _ _ (by omega)]
    rw [show j + 1 + 0 = j + 1 by omega] at this
    rw [this]
    congr 1; omega
  · by_cases e : u = 0
    · subst e
      rw [show j + 1 + 0 = j + 1 by omega, swp_left _ _ _ (by omega) (by omega)]
      exact h.off _ (by omega)
    · obtain ⟨v, rfl⟩ : ∃ v, u = v + 1 := ⟨u - 1, by omega⟩
      rw [swp_other _ _ _ _ (by omega) (by omega)]
      have := h.snd v (by omega)
      rw [show j + 1 + (v + 1) = j + 1 + 1 + v by omega, this]
      congr 1; omega
  · rw [swp_other _ _ _ _ (by omega) (by omega)]
    exact h.off k (by omega)
end
end Go.Proofs.Ytplaicdbcfnjbaa
/- slices.swapRangeCmpFunc: its walk, over any program that holds its body (elements of k cells, k a variable). -/
namespace Go.Proofs.Ytplaicdbcfnjbaa
open Go.Shelf Go.RowKit Go.Lib Go.Sort
set_option linter.unusedVariables false
set_option maxHeartbeats 8000000
set_option maxRecDepth 1000000
/-- what the walks ask of the program -/
structure SLays (P : Program) (k : Nat) : Prop where
  mixed : P.follows .mixedOrders = true
  f59 : P.funcs[59]? = some Try.f59
  f73 : P.funcs[73]? = some Try.f73
  f88 : P.funcs[88]? = some Try.f88
  t0 : P.underlying 0 = some (TypeDesc.tuple #[])
  a0 : ∀ w, (isAgg 0).run P w = .ok false w
  z0 : ∀ w, (Go.sizeOf 0).run P w = .ok 1 w
  v0 : ∀ w, (zeroValue 0).run P w = .ok (Value.tuple #[]) w
  t3 : P.underlying 3 = some (TypeDesc.int IntKind.i64)
  a3 : ∀ w, (isAgg 3).run P w = .ok false w
  z3 : ∀ w, (Go.sizeOf 3).run P w = .ok 1 w
  v3 : ∀ w, (zeroValue 3).run P w = .ok (Value.int IntKind.i64 0) w
  t4 : P.underlying 4 = some (TypeDesc.bool)
  a4 : ∀ w, (isAgg 4).run P w = .ok false w
  z4 : ∀ w, (Go.sizeOf 4).run P w = .ok 1 w
  v4 : ∀ w, (zeroValue 4).run P w = .ok (Value.bool false) w
  t38 : P.underlying 38 = some (TypeDesc.slice 36)
  a38 : ∀ w, (isAgg 38).run P w = .ok false w
  z38 : ∀ w, (Go.sizeOf 38).run P w = .ok 1 w
  v38 : ∀ w, (zeroValue 38).run P w = .ok (Value.slice none 0 0) w
  t62 : P.underlying 62 = some (TypeDesc.func #[36, 36] #[3] false)
  a62 : ∀ w, (isAgg 62).run P w = .ok false w
  z62 : ∀ w, (Go.sizeOf 62).run P w = .ok 1 w
  v62 : ∀ w, (zeroValue 62).run P w = .ok (Value.nilFunc) w
  t81 : P.underlying 81 = some (TypeDesc.int IntKind.u64)
  a81 : ∀ w, (isAgg 81).run P w = .ok false w
  z81 : ∀ w, (Go.sizeOf 81).run P w = .ok 1 w
  v81 : ∀ w, (zeroValue 81).run P w = .ok (Value.int IntKind.u64 0) w
  aE : ∀ w, (isAgg 36).run P w = .ok true w
  zE : ∀ w, (Go.sizeOf 36).run P w = .ok k w
variable {P : Program}
theorem swapRange_any (k : Nat) (L : SLays P k) (enc : Nat → List Value) (g : Nat) (cb : Array Value) (blk off cap a b n : Nat) (d0 d : Array Nat) (w0 w : World)
    (R : RowK enc k w0 blk off d0) (hs : d0.size = d.size) (S : SWK enc k w0 blk off d w) (hab : a + n ≤ b) (hb : b + n ≤ d.size) (hsz : d.size < 4611686018427387904) :
    Calls P 88 #[.slice (some ⟨blk, off, none⟩) d.size cap, .int .i64 a, .int .i64 b, .int .i64 n, .func (.func g) #[] cb] w fun e w' => e = .returned (.tuple #[]) ∧ ∃ d', Swd d a b n d' ∧ SWK enc k w0 blk off d' w' := by
  have mixed := L.mixed; have t0 := L.t0; have a0 := L.a0; have z0 := L.z0; have v0 := L.v0; have t3 := L.t3; have a3 := L.a3; have z3 := L.z3; have v3 := L.v3; have t4 := L.t4; have a4 := L.a4; have z4 := L.z4; have v4 := L.v4; have t38 := L.t38; have a38 := L.a38; have z38 := L.z38; have v38 := L.v38; have t62 := L.t62; have a62 := L.a62; have z62 := L.z62; have v62 := L.v62; have t81 := L.t81; have a81 := L.a81; have z81 := L.z81; have v81 := L.v81; have aE := L.aE; have zE := L.zE
  have S0 : Aside (SWK enc k w0 blk off d w) := S
  clear S
  have FG := L.f88
  go_enter FG, Try.ntmps88
  go_wp2
  go_loopg [10] n (fun q s10 wr => ∃ (i : Nat) (dk : Array Nat), s10 = .int .i64 i ∧ i + q = n ∧ Aside (SWK enc k w0 blk off dk wr) ∧ Aside (Swd d a b i dk))
  case atStart => exact ⟨0, d, rfl, by omega, S0, Swd.start d a b⟩
  case round =>
    clear S0
    obtain ⟨i, dk, rfl, hq, S1, hw⟩ := hrel
    have hds : dk.size = d.size := hw.out.perm.1
    by_cases hlt : i < n
    · have hltz : (i : Int) < (n : Int) := by omega
      go_wp2_with fail
      have ea1 : ((a : Int) + (i : Int)).toNat = a + i := by omega
      have pa1 : (0 : Int) ≤ (a : Int) + (i : Int) := by omega
      have ba1 : (a : Int) + (i : Int) < (d.size : Int) := by omega
      have ra1 : IntKind.i64.wrap ((a : Int) + (i : Int)) = (a : Int) + (i : Int) := by rw [IntKind.wrap_i64]; omega
      have ec1 : ((b : Int) + (i : Int)).toNat = b + i := by omega
      have pc1 : (0 : Int) ≤ (b : Int) + (i : Int) := by omega
      have bc1 : (b : Int) + (i : Int) < (d.size : Int) := by omega
      have rc1 : IntKind.i64.wrap ((b : Int) + (i : Int)) = (b : Int) + (i : Int) := by rw [IntKind.wrap_i64]; omega
      have S2 : Aside (SWK enc k w0 blk off (swp dk (a + i) (b + i)) ((wr.drew.setCells blk (off + (a + i) * k) (enc dk[b + i]!)).setCells blk (off + (b + i) * k) (enc dk[a + i]!))) := S1.out.swapped R (a + i) (b + i) (by omega) (by omega)
      have l1a := S1.out.ld1 R (by omega) P (a + i) (by omega)
      have l1b := S1.out.ld1 R (by omega) P (b + i) (by omega)
      have s1a := S1.out.st1 R (by omega) P (a + i) (by omega) dk[b + i]!
      have s1b := S1.out.st2 R (by omega) P (a + i) (b + i) (by omega) (by omega) dk[b + i]! dk[a + i]!
      have n1a : (enc dk[a + i]!).length = k := R.hk _
      have n1b : (enc dk[b + i]!).length = k := R.hk _
      generalize enc dk[a + i]! = cI1 at S2 l1a s1b n1a
      generalize enc dk[b + i]! = cJ1 at S2 l1b s1a s1b n1b
      clear S1
      go_wp2_with fail
      go_big_region_o
      clear l1a l1b s1a s1b
      generalize (wr.drew.setCells blk (off + (a + i) * k) cJ1).setCells blk (off + (b + i) * k) cI1 = w2 at S2 ⊢
      go_wp2
      go_roundg (gk - 1)
      case measure => omega
      case rel => exact ⟨i + 1, swp dk (a + i) (b + i), by go_num, by omega, S2, hw.out.step (by omega) (by omega)⟩
    · have hltz : ¬ (i : Int) < (n : Int) := by omega
      obtain rfl : i = n := by omega
      go_wp2
      go_end0
      exact ⟨rfl, dk, hw.out, S1.out⟩
end Go.Proofs.Ytplaicdbcfnjbaa
/- slices.rotateCmpFunc: its walk, over any program that holds its body (elements of k cells, k a variable). -/
namespace Go.Proofs.Ytplaicdbcfnjbaa
open Go.Shelf Go.RowKit Go.Lib Go.Sort
set_option linter.unusedVariables false
set_option maxHeartbeats 8000000
set_option maxRecDepth 1000000
variable {P : Program}
theorem rotate_any (k : Nat) (L : SLays P k) (enc : Nat → List Value) (g : Nat) (cb : Array Value) (blk off cap a p q : Nat) (d0 d : Array Nat) (w0 w : World)
    (R : RowK enc k w0 blk off d0) (hs : d0.size = d.size) (S : SWK enc k w0 blk off d w) (hp : 0 < p) (hq : 0 < q) (hb : a + p + q ≤ d.size) (hsz : d.size < 4611686018427387904) :
    Calls P 73 #[.slice (some ⟨blk, off, none⟩) d.size cap, .int .i64 a, .int .i64 ((a + p : Nat) : Int), .int .i64 ((a + p + q : Nat) : Int), .func (.func g) #[] cb] w fun e w' => e = .returned (.tuple #[]) ∧ ∃ d', Rot d a p q d' ∧ SWK enc k w0 blk off d' w' := by
  have mixed := L.mixed; have t0 := L.t0; have a0 := L.a0; have z0 := L.z0; have v0 := L.v0; have t3 := L.t3; have a3 := L.a3; have z3 := L.z3; have v3 := L.v3; have t4 := L.t4; have a4 := L.a4; have z4 := L.z4; have v4 := L.v4; have t38 := L.t38; have a38 := L.a38; have z38 := L.z38; have v38 := L.v38; have t62 := L.t62; have a62 := L.a62; have z62 := L.z62; have v62 := L.v62; have t81 := L.t81; have a81 := L.a81; have z81 := L.z81; have v81 := L.v81; have aE := L.aE; have zE := L.zE
  have e88 : ∀ args w, (callFunc 88 args).run P w = .ok (.enter 88 args) w := enters_of L.f88 (by kernel_rfl) rfl
  have C := Lib.hid (fun a b n (dk : Array Nat) w (hs : d0.size = dk.size) (S : SWK enc k w0 blk off dk w) (hab : a + n ≤ b) (hb : b + n ≤ dk.size) (hsz : dk.size < 4611686018427387904) => swapRange_any k L enc g cb blk off cap a b n d0 dk w0 w R hs S hab hb hsz)
  have S0 : Aside (SWK enc k w0 blk off d w) := S
  clear S R
  have FG := L.f73
  clear L
  obtain ⟨e, he⟩ : ∃ e, e = a + p + q := ⟨_, rfl⟩
  rw [← he]
  obtain ⟨m, hm⟩ : ∃ m, m = a + p := ⟨_, rfl⟩
  rw [← hm]
  have hm1 : m ≤ a + p := by omega
  have hm2 : a + p ≤ m := by omega
  have he1 : e ≤ m + q := by omega
  have he2 : m + q ≤ e := by omega
  clear hm he
  have n1 : (m : Int) - (a : Int) = (p : Int) := by omega
  have n2 : (e : Int) - (m : Int) = (q : Int) := by omega
  go_enter FG, Try.ntmps73
  go_wp2
  go_loopg [10, 11] (p + q) (fun z s10 s11 wr => ∃ (i j : Nat) (dk : Array Nat), s10 = .int .i64 i ∧ s11 = .int .i64 j ∧ i + j = z ∧ 0 < i ∧ 0 < j ∧ i ≤ m ∧ m + j ≤ d.size ∧ dk.size = d.size ∧ Aside (SWK enc k w0 blk off dk wr) ∧ Aside (∀ d', Rot dk (m - i) i j d' → Rot d a p q d'))
  case atStart => exact ⟨p, q, d, by go_num, by go_num, rfl, hp, hq, by omega, by omega, rfl, S0, fun d' h => by rw [show m - p = a by omega] at h; exact h⟩
  case round =>
    clear S0
    obtain ⟨i, j, dk, rfl, rfl, hz, hi, hj, him, hjm, hds, S1, hr⟩ := hrel
    rcases Nat.lt_trichotomy i j with hlt | hlt | hlt
    · obtain ⟨r, hr1, hr2⟩ : ∃ r, i + r ≤ j ∧ j ≤ i + r := ⟨j - i, by omega, by omega⟩
      have hr0 : 0 < r := by omega
      have hne : ¬ (i : Int) = (j : Int) := by omega
      have hng : ¬ (j : Int) < (i : Int) := by omega
      have e1 : (m : Int) - (i : Int) = ((m - i : Nat) : Int) := by omega
      obtain ⟨v, hv1, hv2⟩ : ∃ v, m + r ≤ v ∧ v ≤ m + r := ⟨m + r, by omega, by omega⟩
      have e2 : (m : Int) + (j : Int) - (i : Int) = (v : Int) := by omega
      have C1 := Lib.hid (C.out (m - i) v i dk wr (by omega) S1.out (by omega) (by omega) (by omega))
      rw [hds] at C1
      go_wp2_with (first | (go_at_fn 88; refine (C1.out).mono ?_; rintro e w1 ⟨rfl, d1, h1, g1⟩; replace h1 := Lib.hid h1; replace g1 := Lib.hid g1))
      go_wp2
      go_roundg (i + r)
      case measure => omega
      case rel => exact ⟨i, r, d1, rfl, by go_num, rfl, hi, hr0, him, by omega, h1.out.perm.1.trans hds, g1, fun d' h => hr.out d' (by rw [show j = i + r by omega]; exact Rot.right (by omega) (by rw [show m - i + i + r = v by omega]; exact h1.out) h)⟩
    · obtain rfl : i = j := hlt
      have C1 := Lib.hid (C.out (m - i) m i dk wr (by omega) S1.out (by omega) (by omega) (by omega))
      rw [hds] at C1
      have e1 : (m : Int) - (i : Int) = ((m - i : Nat) : Int) := by omega
      go_wp2_with (first | (go_at_fn 88; refine (C1.out).mono ?_; rintro e w1 ⟨rfl, d1, h1, g1⟩; replace h1 := Lib.hid h1; replace g1 := Lib.hid g1))
      go_end0
      exact ⟨rfl, d1, hr.out d1 (Rot.last (by rw [show m - i + i = m by omega]; exact h1.out)), g1.out⟩
    · obtain ⟨r, hr1, hr2⟩ : ∃ r, r + j ≤ i ∧ i ≤ r + j := ⟨i - j, by omega, by omega⟩
      have hr0 : 0 < r := by omega
      have hne : ¬ (i : Int) = (j : Int) := by omega
      have hng : (j : Int) < (i : Int) := by omega
      have e1 : (m : Int) - (i : Int) = ((m - i : Nat) : Int) := by omega
      have C1 := Lib.hid (C.out (m - i) m j dk wr (by omega) S1.out (by omega) (by omega) (by omega))
      rw [hds] at C1
      go_wp2_with (first | (go_at_fn 88; refine (C1.out).mono ?_; rintro e w1 ⟨rfl, d1, h1, g1⟩; replace h1 := Lib.hid h1; replace g1 := Lib.hid g1))
      go_wp2
      go_roundg (r + j)
      case measure => omega
      case rel => exact ⟨r, j, d1, by go_num, rfl, rfl, hr0, hj, by omega, hjm, h1.out.perm.1.trans hds, g1, fun d' h => hr.out d' (by rw [show i = r + j by omega]; exact Rot.left (by omega) (by rw [show m - (r + j) + (r + j) = m by omega, show r + j = i by omega]; exact h1.out) (by rw [show m - (r + j) + j = m - r by omega]; exact h))⟩
end Go.Proofs.Ytplaicdbcfnjbaa
