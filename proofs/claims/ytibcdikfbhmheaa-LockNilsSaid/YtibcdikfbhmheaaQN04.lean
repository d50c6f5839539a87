import Derived.Test.YtibcdikfbhmheaaQN03
import Derived.Test.YtibcdikfbhmheaaB12
import Derived.Test.YtibcdikfbhmheaaB20
import Derived.Test.YtibcdikfbhmheaaB17
import Derived.Laws.MakeOwn
set_option linter.unusedSimpArgs false
set_option linter.unusedVariables false
namespace Go.Proofs.Ytibcdikfbhmheaa
open Go Go.Conc Go.Proofs
open Go.ConcN (sumTo upd sumTo_upd upd_ne upd_same)
set_option linter.unusedVariables false
def fov (st : Nat → Int) (j : Nat) : Bool:=decide (cl (st j) = 3)
def fpk (st : Nat → Int) (j : Nat) : Bool:=decide (cl (st j) = 2)
section
variable {k : Tk} {l0 : List (Int × Int)} {at_ : Nat → Nat} {lg : List (Nat × Nat)} {fo fp : Nat → Bool} {xs : List Nat} {V : World} {odv lgv : Value} {Z : Cuts} {Post : Value → World → Prop} {T : Array Value} {b₀ : Frame} {a₀ : Act} {ops₀ : Array Oper} {i₀ : Nat} {rest₀ : List Nat} {k₀ : List Item} {cs0 : List Frame}
end
end Go.Proofs.Ytibcdikfbhmheaa

namespace Go.Proofs.Ytibcdikfbhmheaa
open Go Go.Conc Go.Proofs
open Go.ConcN (sumTo upd sumTo_upd upd_ne upd_same)
set_option linter.unusedVariables false
section
variable {V : World} {Z : Cuts} {Post : Value → World → Prop} {n i sb rb ga go gp oc pc : Nat} {c0 c1 c2 c3 c4 c5 : Value} {T : Array Value} {kt : List Item} {b₀ : Frame} {a₀ : Act} {ops₀ : Array Oper} {i₀ : Nat} {rest₀ : List Nat} {k₀ : List Item} {cs0 : List Frame}
end
end Go.Proofs.Ytibcdikfbhmheaa

namespace Go.Proofs.Ytibcdikfbhmheaa
open Go Go.Conc Go.Proofs
open Go.ConcN (sumTo upd sumTo_upd upd_ne upd_same)
set_option linter.unusedVariables false
structure RS (V0 : World) (n : Nat) (la : Option Addr) (lc : Nat) (acts : Nat → List (Int × Int)) (x : TS × List Nat) (v : Value) (V : World) : Prop where
 nrm : norm V = V
 kp : Kp V0 V
 out : ∃ av ov pv odv lgv,v = .agg #[.slice la n lc,av,ov,pv,odv,lgv] ∧ V.ownsRow 0 3 1 av n (rowN x.1.at_ n) ∧ V.ownsRow 0 4 1 ov n (rowB (fov x.1.st) n) ∧ V.ownsRow 0 4 1 pv n (rowB (fpk x.1.st) n) ∧ V.ownsRow 0 3 1 odv x.2.length (ints x.2) ∧ V.ownsRow 0 41 2 lgv x.1.log.length (notes x.1.log)
 le : ∀ j,j < n → x.1.at_ j ≤ (acts j).length
 cnt : x.1.log.length = sumTo n x.1.at_
section
variable {V0 V : World} {n lc i : Nat} {la : Option Addr} {acts : Nat → List (Int × Int)} {ra : Nat → Option Addr} {rc : Nat → Nat} {x : TS × List Nat} {v : Value} {Z : Cuts} {Post : Value → World → Prop} {b₀ : Frame} {a₀ : Act} {ops₀ : Array Oper} {i₀ : Nat} {rest₀ : List Nat} {k₀ : List Item} {cs0 : List Frame}
end
end Go.Proofs.Ytibcdikfbhmheaa

namespace Go.Proofs.Ytibcdikfbhmheaa
open Go Go.Conc Go.Proofs
open Go.ConcN (sumTo upd sumTo_upd upd_ne upd_same)
set_option linter.unusedVariables false
end Go.Proofs.Ytibcdikfbhmheaa
