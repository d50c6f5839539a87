/- Descriptors (api.Desc): trees of nodes of two numbers each; where one lies in memory. -/
import Derived.Test.YtplaicdbcfnjbaaProg
import Derived.Test.YtplaicdbcfnjbaaKit
import Derived.BigQuiet
import Derived.Deep.QuietTactic
import Derived.Deep.LoopGhost
import Derived.Deep.RegionHeld3
import Derived.WalkMore
namespace Go.Proofs.Ytplaicdbcfnjbaa
open Go.RowKit
set_option linter.unusedVariables false

def i64 (n : Int) : Prop := -9223372036854775808 ≤ n ∧ n ≤ 9223372036854775807
inductive DT where
  | mk : Int → Int → List DT → DT
def DT.k : DT → Int | .mk a _ _ => a
def DT.n : DT → Int | .mk _ b _ => b
def DT.kids : DT → List DT | .mk _ _ l => l
def DT.kid (t : DT) (i : Nat) : DT := t.kids.getD i (.mk 0 0 [])
/-- a node's three cells -/
structure D3 (w : World) (p : Addr) (t : DT) (A : Option Addr) (cap : Nat) : Prop where
  lt : p.block < w.heap.size
  c0 : w.cell? p = some (.int .i64 t.k)
  c1 : w.cell? ⟨p.block, p.off + 1, none⟩ = some (.int .i64 t.n)
  c2 : w.cell? ⟨p.block, p.off + 2, none⟩ = some (.slice A t.kids.length cap)
theorem D3.new {w w' : World} {p : Addr} {t : DT} {A : Option Addr} {cap : Nat} (h : D3 w p t A cap) (n : New w w') : D3 w' p t A cap :=
  ⟨Nat.lt_of_lt_of_le h.lt n.lt, (n.cell h.lt).trans h.c0, (n.cell (p := ⟨p.block, p.off + 1, none⟩) h.lt).trans h.c1, (n.cell (p := ⟨p.block, p.off + 2, none⟩) h.lt).trans h.c2⟩
/-- below a node whose kids are the slice at A lies the tree, f levels deep at most -/
def IsD (w : World) : Nat → DT → Option Addr → Nat → Prop
  | 0, _, _, _ => False
  | f + 1, t, A, cap => i64 t.k ∧ i64 t.n ∧ t.kids.length ≤ cap ∧ cap ≤ 9223372036854775807 ∧
    (0 < t.kids.length → ∃ ad : Addr, A = some ad ∧ ∀ i, i < t.kids.length → ∃ A' cap', D3 w (ad.add (i * 3)) (t.kid i) A' cap' ∧ IsD w f (t.kid i) A' cap')
theorem IsD.new {w w' : World} (n : New w w') : ∀ {f : Nat} {t : DT} {A : Option Addr} {cap : Nat}, IsD w f t A cap → IsD w' f t A cap
  | f + 1, t, A, cap, ⟨h1, h2, h3, h4, h5⟩ => ⟨h1, h2, h3, h4, fun h0 => by
    obtain ⟨ad, e, hk⟩ := h5 h0
    refine ⟨ad, e, fun i hi => ?_⟩
    obtain ⟨A', cap', d, r⟩ := hk i hi
    exact ⟨A', cap', d.new n, IsD.new n r⟩⟩
theorem IsD.more {w : World} : ∀ {f : Nat} {t : DT} {A : Option Addr} {cap : Nat}, IsD w f t A cap → IsD w (f + 1) t A cap
  | f + 1, t, A, cap, ⟨h1, h2, h3, h4, h5⟩ => ⟨h1, h2, h3, h4, fun h0 => by
    obtain ⟨ad, e, hk⟩ := h5 h0
    refine ⟨ad, e, fun i hi => ?_⟩
    obtain ⟨A', cap', d, r⟩ := hk i hi
    exact ⟨A', cap', d, IsD.more r⟩⟩
theorem IsD.le {w : World} {f g : Nat} {t : DT} {A : Option Addr} {cap : Nat} (h : IsD w f t A cap) (hg : f ≤ g) : IsD w g t A cap := by
  induction hg with
  | refl => exact h
  | step _ ih => exact IsD.more ih
def dagg (t : DT) (A : Option Addr) (cap : Nat) : Value := .agg #[.int .i64 t.k, .int .i64 t.n, .slice A t.kids.length cap]
def dcs (t : DT) (A : Option Addr) (cap : Nat) : Array Value := #[.int .i64 t.k, .int .i64 t.n, .slice A t.kids.length cap]
/-- how many nodes -/
def sumN (g : DT → Nat) (l : List DT) : Nat → Nat
  | 0 => 0
  | i + 1 => sumN g l i + g (l.getD i (.mk 0 0 []))
def nodes : Nat → DT → Nat
  | 0, _ => 0
  | f + 1, t => 1 + sumN (nodes f) t.kids t.kids.length
/-- the first that is not 0 -/
def or3 (a b c : Int) : Int := if a ≠ 0 then a else if b ≠ 0 then b else c
def cmpI (a b : Int) : Int := if a < b then -1 else if b < a then 1 else 0
/-- kid by kid -/
def cmpK (c : DT → DT → Int) (a b : List DT) : Nat → Int
  | 0 => 0
  | i + 1 => if cmpK c a b i ≠ 0 then cmpK c a b i else c (a.getD i (.mk 0 0 [])) (b.getD i (.mk 0 0 []))
def cmpD : Nat → DT → DT → Int
  | 0, _, _ => 0
  | f + 1, a, b => if or3 (cmpI a.k b.k) (cmpI a.n b.n) (cmpI a.kids.length b.kids.length) ≠ 0 then or3 (cmpI a.k b.k) (cmpI a.n b.n) (cmpI a.kids.length b.kids.length) else cmpK (cmpD f) a.kids b.kids a.kids.length
theorem cmpI_cases (a b : Int) : cmpI a b = -1 ∨ cmpI a b = 0 ∨ cmpI a b = 1 := by unfold cmpI; split; exact Or.inl rfl; split; exact Or.inr (Or.inr rfl); exact Or.inr (Or.inl rfl)
end Go.Proofs.Ytplaicdbcfnjbaa
