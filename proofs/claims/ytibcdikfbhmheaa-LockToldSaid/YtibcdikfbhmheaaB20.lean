import Derived.Test.YtibcdikfbhmheaaB19
import Derived.Test.YtibcdikfbhmheaaB16
set_option linter.unusedSimpArgs false
set_option linter.unusedVariables false
namespace Go.Proofs.Ytibcdikfbhmheaa
open Go Go.Conc Go.Proofs
open Go.ConcN (sumTo upd sumTo_upd upd_ne upd_same)
set_option linter.unusedVariables false
structure Rw (V : World) (la : Option Addr) (n : Nat) (acts : Nat → List (Int × Int)) (ra : Nat → Option Addr) (rc : Nat → Nat) : Prop where
 out : 0 < n → ∃ g o,la = some ⟨g,o,none⟩ ∧ g < V.heap.size ∧ ∀ j,j < n → V.cell? ⟨g,o + j,none⟩ = some (.slice (ra j) (acts j).length (rc j))
 inn : ∀ i,i < n → 0 < (acts i).length → ∃ g o,ra i = some ⟨g,o,none⟩ ∧ g < V.heap.size ∧ ∀ j (hj : j < (acts i).length),V.cell? ⟨g,o + j * 2,none⟩ = some (.int .i64 ((acts i)[j]'hj).1) ∧ V.cell? ⟨g,o + j * 2 + 1,none⟩ = some (.int .i64 ((acts i)[j]'hj).2)
theorem Rw.kp {V V' : World} {la : Option Addr} {n : Nat} {acts : Nat → List (Int × Int)} {ra : Nat → Option Addr} {rc : Nat → Nat} (h : Rw V la n acts ra rc) (k : Kp V V') : Rw V' la n acts ra rc:=⟨fun h0=>by
 obtain ⟨g,o,e,hg,c⟩:=h.out h0
 exact ⟨g,o,e,Nat.lt_of_lt_of_le hg k.size,fun j hj=>k.cell (c j hj)⟩,fun i hi h0=>by
 obtain ⟨g,o,e,hg,c⟩:=h.inn i hi h0
 exact ⟨g,o,e,Nat.lt_of_lt_of_le hg k.size,fun j hj=>⟨k.cell (c j hj).1,k.cell (c j hj).2⟩⟩⟩
def HP (T : Array Value) (l pv : Value) (rounds : Int) (R wp : Nat) (fv : Value) : Prop:=T.size = 43 ∧ T[0]? = some l ∧ T[1]? = some pv ∧ T[2]? = some (.int .i64 rounds) ∧ T[6]? = some (.pointer (some ⟨R,0,none⟩)) ∧ T[9]? = some (.pointer (some ⟨wp,0,none⟩)) ∧ T[10]? = some fv
section
variable {n lc : Nat} {la : Option Addr} {acts : Nat → List (Int × Int)} {ra : Nat → Option Addr} {rc : Nat → Nat} {wp : Nat} {V V0 : World} {Z : Cuts} {Post : Value → World → Prop} {b₀ : Frame} {a₀ : Act} {ops₀ : Array Oper} {i₀ : Nat} {rest₀ : List Nat} {k₀ : List Item} {cs0 : List Frame}
end
end Go.Proofs.Ytibcdikfbhmheaa

namespace Go.Proofs.Ytibcdikfbhmheaa
open Go Go.Conc Go.Proofs
open Go.ConcN (sumTo upd sumTo_upd upd_ne upd_same)
set_option linter.unusedVariables false
@[go_sem] theorem build37n (w : World) : (Instr.build 37 #[]).run Try.prog w = .ok (.agg #[.slice none 0 0,.bool false]) w:=run_build w 37 _ _ (by kernel_rfl)
section
variable {n lc : Nat} {la : Option Addr} {acts : Nat → List (Int × Int)} {ra : Nat → Option Addr} {rc : Nat → Nat} {wp : Nat} {V V0 : World} {Z : Cuts} {Post : Value → World → Prop} {b₀ : Frame} {a₀ : Act} {ops₀ : Array Oper} {i₀ : Nat} {rest₀ : List Nat} {k₀ : List Item} {cs0 : List Frame}
end
end Go.Proofs.Ytibcdikfbhmheaa
