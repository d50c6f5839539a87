import Derived.Test.YtibcdikfbhmheaaB16
import Derived.Deep.RegionHeld
import Derived.Lib.Hide
set_option linter.unusedSimpArgs false
set_option linter.unusedVariables false
namespace Go.Proofs.Ytibcdikfbhmheaa
open Go Go.Conc Go.Proofs
open Go.ConcN (sumTo upd sumTo_upd upd_ne upd_same)
set_option linter.unusedVariables false
structure Th where
 n : Nat
 acts : Nat → List (Int × Int)
 wp : Nat
 wb : Nat → Nat
 ib : Nat → Nat
 lb : Nat → Nat
 la : Nat → Option Addr
 lc : Nat → Nat
 Vr : World
structure TS where
 at_ : Nat → Nat
 st : Nat → Int
 log : List (Nat × Nat)
def TS.set (s : TS) (i : Nat) (x : Int) : TS:={ s with st:=upd s.st i x }
def notes (l : List (Nat × Nat)) : List Value:=l.flatMap fun x=>[.int .i64 (x.1 : Int),.int .i64 (x.2 : Int)]
def cl (x : Int) : Int:=if x = 0 ∨ x = 1 ∨ x = 2 then x else 3
structure TInv (D : Th) (s : TS) (own : Nat → Prop) (V : World) : Prop where
 sz : D.Vr.heap.size ≤ V.heap.size
 world : ∃ lv,V.heap[D.wp]? = some (.cells #[lv,.bool false] 37 (0,0)) ∧ V.ownsRow 0 41 2 lv s.log.length (notes s.log) ∧ ∀ b,lv.ownBlock = some b → own b ∧ D.Vr.heap.size ≤ b
 old : ∀ b,b < D.Vr.heap.size → own b ∧ (b ≠ D.wp → V.heap[b]? = D.Vr.heap[b]?)
 cnt : s.log.length = sumTo D.n s.at_
 le : ∀ i,i < D.n → s.at_ i ≤ (D.acts i).length
 z : ∀ i,i < D.n → s.st i = 0 → s.at_ i = 0
section
variable {C : Cw} {E : Env} {V : World} {st : Nat → Int} {Stop : Goroutine → World → Prop} {b₀ : Frame} {a₀ : Act} {ops₀ : Array Oper} {i₀ : Nat} {rest₀ : List Nat} {k₀ : List Item} {cs0 : List Frame}
end
end Go.Proofs.Ytibcdikfbhmheaa

namespace Go.Proofs.Ytibcdikfbhmheaa
open Go Go.Conc Go.Proofs
open Go.ConcN (sumTo upd sumTo_upd upd_ne upd_same)
set_option linter.unusedVariables false
section
variable {C : Cw} {E : Env} {V : World} {D : Th} {s : TS} {own : Nat → Prop} {i p : Nat} {T : Array Value} {kt : List Item} {Stop : Goroutine → World → Prop} {cs0 : List Frame}
def S0 (D : Th) (C : Cw) (i : Nat) (w : World) : Prop:=w.cell? ⟨D.wb i,0,none⟩ = some (.pointer (some ⟨D.wp,0,none⟩)) ∧ w.cell? ⟨D.wp,1,none⟩ = some (.bool false) ∧ w.cell? ⟨C.tb i,0,none⟩ = some (.int .i64 i) ∧ w.cell? ⟨D.ib i,0,none⟩ = some (.int .i64 i)
end
end Go.Proofs.Ytibcdikfbhmheaa
