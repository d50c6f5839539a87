/- Trees that avoid some blocks. -/
import Derived.Test.YtplaicdbcfnjbaaV01
set_option linter.unusedSimpArgs false
set_option linter.unusedVariables false
namespace Go.Proofs.Ytplaicdbcfnjbaa
open Go.RowKit
set_option linter.unusedVariables false
/-- as IsD; none of its blocks is one of X -/
def IsDA (X : Nat → Prop) (w : World) : Nat → DT → Option Addr → Nat → Prop
  | 0, _, _, _ => False
  | f + 1, t, A, cap => i64 t.k ∧ i64 t.n ∧ t.kids.length ≤ cap ∧ cap ≤ 9223372036854775807 ∧
    (0 < t.kids.length → ∃ ad : Addr, A = some ad ∧ ¬ X ad.block ∧ ∀ i, i < t.kids.length → ∃ A' cap', D3 w (ad.add (i * 3)) (t.kid i) A' cap' ∧ IsDA X w f (t.kid i) A' cap')
theorem ad_blk (a : Addr) (j : Nat) : (a.add j).block = a.block := by unfold Addr.add; split <;> rfl
theorem IsDA.isD {X : Nat → Prop} {w : World} : ∀ {f : Nat} {t : DT} {A : Option Addr} {cap : Nat}, IsDA X w f t A cap → IsD w f t A cap
  | f + 1, t, A, cap, ⟨h1, h2, h3, h4, h5⟩ => ⟨h1, h2, h3, h4, fun h0 => by
    obtain ⟨ad, e, _, hk⟩ := h5 h0
    refine ⟨ad, e, fun i hi => ?_⟩
    obtain ⟨A', cap', d, r⟩ := hk i hi
    exact ⟨A', cap', d, IsDA.isD r⟩⟩
theorem IsD.avoid {X : Nat → Prop} {w : World} (hX : ∀ b, X b → w.heap.size ≤ b) : ∀ {f : Nat} {t : DT} {A : Option Addr} {cap : Nat}, IsD w f t A cap → IsDA X w f t A cap
  | f + 1, t, A, cap, ⟨h1, h2, h3, h4, h5⟩ => ⟨h1, h2, h3, h4, fun h0 => by
    obtain ⟨ad, e, hk⟩ := h5 h0
    refine ⟨ad, e, fun hx => ?_, fun i hi => ?_⟩
    · obtain ⟨A', cap', d, r⟩ := hk 0 h0
      have := d.lt
      rw [ad_blk] at this
      have := hX _ hx
      omega
    · obtain ⟨A', cap', d, r⟩ := hk i hi
      exact ⟨A', cap', d, IsD.avoid hX r⟩⟩
theorem IsDA.keep {X Y : Nat → Prop} {w w' : World} (hs : w.heap.size ≤ w'.heap.size) (hk : ∀ b, ¬ X b → b < w.heap.size → w'.heap[b]? = w.heap[b]?) (hY : ∀ b, b < w.heap.size → Y b → X b) : ∀ {f : Nat} {t : DT} {A : Option Addr} {cap : Nat}, IsDA X w f t A cap → IsDA Y w' f t A cap
  | f + 1, t, A, cap, ⟨h1, h2, h3, h4, h5⟩ => ⟨h1, h2, h3, h4, fun h0 => by
    obtain ⟨ad, e, hx, hkd⟩ := h5 h0
    have hlt : ad.block < w.heap.size := by
      obtain ⟨A', cap', d, r⟩ := hkd 0 h0
      have := d.lt
      rw [ad_blk] at this
      exact this
    have hb := hk _ hx hlt
    refine ⟨ad, e, fun hy => hx (hY _ hlt hy), fun i hi => ?_⟩
    obtain ⟨A', cap', d, r⟩ := hkd i hi
    have hcell : ∀ off, w'.cell? ⟨ad.block, off, none⟩ = w.cell? ⟨ad.block, off, none⟩ := fun off => by simp only [World.cell?]; rw [hb]
    have hc2 : ∀ p : Addr, p.block = ad.block → w'.cell? p = w.cell? p := fun p hp => by simp only [World.cell?]; rw [hp, hb]
    refine ⟨A', cap', ⟨Nat.lt_of_lt_of_le d.lt hs, (hc2 _ (ad_blk _ _)).trans d.c0, ?_, ?_⟩, IsDA.keep hs hk hY r⟩
    · exact (hc2 ⟨(ad.add (i * 3)).block, (ad.add (i * 3)).off + 1, none⟩ (ad_blk _ _)).trans d.c1
    · exact (hc2 ⟨(ad.add (i * 3)).block, (ad.add (i * 3)).off + 2, none⟩ (ad_blk _ _)).trans d.c2⟩
theorem IsDA.new {X : Nat → Prop} {w w' : World} {f : Nat} {t : DT} {A : Option Addr} {cap : Nat} (h : IsDA X w f t A cap) (n : New w w') : IsDA X w' f t A cap :=
  h.keep n.lt (fun b _ hb => n.block b hb) (fun _ _ h => h)
/-- the first k kids, laid one behind the other -/
def cl (t : DT) (As : Nat → Option Addr) (cs : Nat → Nat) (k : Nat) : List Value := (List.range k).flatMap fun j => (dcs (t.kid j) (As j) (cs j)).toList
theorem cl_congr {t : DT} {As Bs : Nat → Option Addr} {cs ds : Nat → Nat} : ∀ {k : Nat}, (∀ j, j < k → As j = Bs j ∧ cs j = ds j) → cl t As cs k = cl t Bs ds k
  | 0, _ => rfl
  | k + 1, h => by
    have := cl_congr (t := t) (k := k) (fun j hj => h j (by omega))
    unfold cl at this ⊢
    rw [List.range_succ, List.flatMap_append, List.flatMap_append, this]
    simp only [List.flatMap_cons, List.flatMap_nil, List.append_nil]
    rw [(h k (by omega)).1, (h k (by omega)).2]
theorem cl_snoc (t : DT) (As : Nat → Option Addr) (cs : Nat → Nat) (k : Nat) : cl t As cs (k + 1) = cl t As cs k ++ (dcs (t.kid k) (As k) (cs k)).toList := by
  unfold cl
  rw [List.range_succ, List.flatMap_append]
  simp
theorem cl_len (t : DT) (As : Nat → Option Addr) (cs : Nat → Nat) : ∀ k, (cl t As cs k).length = k * 3
  | 0 => rfl
  | k + 1 => by rw [cl_snoc, List.length_append, cl_len t As cs k]; simp [dcs]; omega
theorem cl_at (t : DT) (As : Nat → Option Addr) (cs : Nat → Nat) : ∀ (k j r : Nat), j < k → r < 3 → (cl t As cs k)[j * 3 + r]? = (dcs (t.kid j) (As j) (cs j)).toList[r]?
  | 0, _, _, h, _ => absurd h (by omega)
  | k + 1, j, r, h, hr => by
    rw [cl_snoc]
    by_cases hj : j = k
    · subst hj
      rw [List.getElem?_append_right (by rw [cl_len]; omega), cl_len]
      congr 1; omega
    · rw [List.getElem?_append_left (by rw [cl_len]; omega)]
      exact cl_at t As cs k j r (by omega) hr
theorem kids_le {w : World} {f : Nat} {t : DT} {A : Option Addr} {cap : Nat} (h : IsD w (f + 1) t A cap) : t.kids.length ≤ nodes (f + 1) t := by
  obtain ⟨_, _, _, _, h5⟩ := h
  have key : ∀ k, k ≤ t.kids.length → k ≤ sumN (nodes f) t.kids k := by
    intro k
    induction k with
    | zero => intro _; exact Nat.zero_le _
    | succ k ih =>
      intro hk
      have := ih (by omega)
      obtain ⟨ad, _, hkd⟩ := h5 (by omega)
      obtain ⟨A', cap', _, r⟩ := hkd k (by omega)
      have hp := nodes_pos r
      show k + 1 ≤ sumN (nodes f) t.kids k + nodes f (t.kid k)
      omega
  have := key _ (Nat.le_refl _)
  show _ ≤ 1 + sumN (nodes f) t.kids t.kids.length
  omega
end Go.Proofs.Ytplaicdbcfnjbaa
