/- A slice literal of one call (api.Op): its row is the new block. -/
import Derived.Test.YtplejooihfhpdaaOpr
import Derived.Great.BuildSlice
namespace Go.Proofs.Ytplejooihfhpdaa
open Go.RowKit
set_option linter.unusedVariables false

theorem set_all (l : List Value) : ∀ (k : Nat) (cs : Array Value), ((l.zipIdx k).foldl (fun cs (x : Value × Nat) => cs.setIfInBounds (0 + x.2) x.1) cs).size = cs.size ∧
    ∀ i, ((l.zipIdx k).foldl (fun cs (x : Value × Nat) => cs.setIfInBounds (0 + x.2) x.1) cs)[i]? = if k ≤ i ∧ i < k + l.length ∧ i < cs.size then l[i - k]? else cs[i]? := by
  induction l with
  | nil => intro k cs; refine ⟨by simp, fun i => ?_⟩; rw [if_neg (by simp; omega)]; simp
  | cons v l ih =>
    intro k cs
    obtain ⟨h1, h2⟩ := ih (k + 1) (cs.setIfInBounds (0 + k) v)
    rw [List.zipIdx_cons, List.foldl_cons]
    refine ⟨by rw [h1]; simp, fun i => ?_⟩
    rw [h2]
    simp only [Array.size_setIfInBounds, Nat.zero_add, List.length_cons]
    by_cases ha : k + 1 ≤ i ∧ i < k + 1 + l.length ∧ i < cs.size
    · rw [if_pos ha, if_pos (by omega), show i - k = (i - (k + 1)) + 1 by omega, List.getElem?_cons_succ]
    · rw [if_neg ha, Array.getElem?_setIfInBounds]
      by_cases hk : k = i
      · subst hk
        by_cases hs : k < cs.size
        · rw [if_pos rfl, if_pos hs, if_pos (by omega), Nat.sub_self, List.getElem?_cons_zero]
        · rw [if_pos rfl, if_neg hs, if_neg (by omega), Array.getElem?_eq_none (by omega)]
      · rw [if_neg hk, if_neg (by omega)]
theorem fill_one (base c : Array Value) (hb : base.size = 19) (hc : c.size = 19) : Instr.fill (fun i => some (i * 19, 19)) base [(0, .agg c)] = some c := by
  unfold Instr.fill
  have e : (Value.agg c).cells = c := rfl
  simp only [e, hc, hb, Nat.zero_mul]
  rw [if_neg (by simp)]
  unfold Instr.fill
  rw [← Array.foldl_toList, Array.toList_zipIdx]
  have h := set_all c.toList 0 base
  congr 1
  refine Array.ext_getElem? fun i => ?_
  refine (h.2 i).trans ?_
  rw [Array.length_toList, hc, hb, Nat.sub_zero, Array.getElem?_toList]
  by_cases hi : i < 19
  · rw [if_pos (by omega)]
  · rw [if_neg (by omega), Array.getElem?_eq_none (by omega), Array.getElem?_eq_none (by omega)]
/-- a slice literal of one call -/
theorem wpl_build {ops : Array Oper} {rest : List Oper} {o : Oper} {a : Act} {w : World} {Q : Exit → Act → World → Prop} {x : Operand} {c : Array Value} {ie : TypeInfo} {z : Value}
    (ho : o.op = .buildSlice 28 1 #[(0, x)]) (hx : a.eval x = .agg c) (h : IsOp c) (hg : o.guard = none) (hi : Try.prog.info? 45 = some ie) (hz : ie.zero = some z) (hs : ie.size = 19)
    (hk : wpList Try.prog ops Q rest (a.put o.dst (.slice (some ⟨w.heap.size, 0, none⟩) 1 1)) (w.alloc (.cells c 45))) : wpList Try.prog ops Q (o :: rest) a w := by
  refine wpList_buildSlice hg 28 45 1 #[(0, x)] ho c ie z Try.underlying28 hi hz (by rw [hs]; decide) (by rw [hs]; decide) ?_ hk
  rw [hs]
  rw [Array.toList_map]
  show Instr.fill _ _ [(0, a.eval x)] = some c
  rw [hx]
  exact fill_one _ c (by simp) h.1
end Go.Proofs.Ytplejooihfhpdaa
