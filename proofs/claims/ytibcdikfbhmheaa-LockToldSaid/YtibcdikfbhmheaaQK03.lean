import Derived.Test.YtibcdikfbhmheaaB22
import Derived.Test.YtibcdikfbhmheaaQK02
import Derived.Test.YtibcdikfbhmheaaB15
set_option linter.unusedSimpArgs false
set_option linter.unusedVariables false
namespace Go.Proofs.Ytibcdikfbhmheaa
open Go Go.Conc Go.Proofs
open Go.ConcN (sumTo upd sumTo_upd upd_ne upd_same)
set_option linter.unusedVariables false
def S8 (sb g o i n lc ga p h q len rc : Nat) (la : Option Addr) (d y : Int) (w : World) : Prop:=w.cell? ⟨sb,0,none⟩ = some (.slice (some ⟨g,o,none⟩) n lc) ∧ w.cell? ⟨g,o + i,none⟩ = some (.slice (some ⟨h,q,none⟩) len rc) ∧ w.cell? ⟨ga,i,none⟩ = some (.int .i64 (p : Int)) ∧ w.cell? ⟨h,q + p * 2,none⟩ = some (.int .i64 d) ∧ w.cell? ⟨h,q + p * 2 + 1,none⟩ = some (.int .i64 y)
theorem S8.keep {sb g o i n lc ga p h q len rc : Nat} {la : Option Addr} {d y : Int} {w w' : World} (hS : S8 sb g o i n lc ga p h q len rc la d y w) (k : ∀ b,b < w.heap.size → w'.heap[b]? = w.heap[b]?) : S8 sb g o i n lc ga p h q len rc la d y w':=by
 obtain ⟨h0,h1,h2,h3,h4⟩:=hS
 exact ⟨cell_keep h0 (k _ (cell_lt h0)),cell_keep h1 (k _ (cell_lt h1)),cell_keep h2 (k _ (cell_lt h2)),cell_keep h3 (k _ (cell_lt h3)),cell_keep h4 (k _ (cell_lt h4))⟩
section
variable {V : World} {Z : Cuts} {Post : Value → World → Prop} {n lc i p sb rb g o ga ca h q len rc : Nat} {d y : Int} {ov pv : Value} {T : Array Value} {kt : List Item} {cs0 : List Frame}
end
end Go.Proofs.Ytibcdikfbhmheaa

namespace Go.Proofs.Ytibcdikfbhmheaa
open Go Go.Conc Go.Proofs
open Go.ConcN (sumTo upd sumTo_upd upd_ne upd_same)
set_option linter.unusedVariables false
def HB (T : Array Value) (i sb rb : Nat) : Prop:=T.size = 150 ∧ T[1]? = some (.int .i64 (i : Int)) ∧ T[2]? = some (.pointer (some ⟨sb,0,none⟩)) ∧ T[4]? = some (.pointer (some ⟨rb,0,none⟩))
section
variable {V : World} {Z : Cuts} {Post : Value → World → Prop} {n i sb rb m : Nat} {c0 c1 c2 c3 c4 c5 : Value} {ys : List Value} {T : Array Value} {kt : List Item} {cs0 : List Frame}
end
end Go.Proofs.Ytibcdikfbhmheaa

namespace Go.Proofs.Ytibcdikfbhmheaa
open Go Go.Conc Go.Proofs
open Go.ConcN (sumTo upd sumTo_upd upd_ne upd_same)
set_option linter.unusedVariables false
section
variable {V : World} {Z : Cuts} {Post : Value → World → Prop} {n i sb rb ga go gp ca oc pc tb p : Nat} {d y : Int} {T : Array Value} {kt : List Item} {cs0 : List Frame}
end
end Go.Proofs.Ytibcdikfbhmheaa

namespace Go.Proofs.Ytibcdikfbhmheaa
open Go Go.Conc Go.Proofs
open Go.ConcN (sumTo upd sumTo_upd upd_ne upd_same)
set_option linter.unusedVariables false
section
variable {V : World} {Z : Cuts} {Post : Value → World → Prop} {n lc i sb rb ga go gp ca oc pc tb p : Nat} {la : Option Addr} {av0 ov0 pv0 odv lgv : Value} {d y : Int} {T : Array Value} {kt : List Item} {cs0 : List Frame}
end
end Go.Proofs.Ytibcdikfbhmheaa
