import Derived.Test.YtibcdikfbhmheaaB19
import Derived.Test.YtibcdikfbhmheaaB16
set_option linter.unusedSimpArgs false
set_option linter.unusedVariables false
namespace Go.Proofs.Ytibcdikfbhmheaa
open Go Go.Conc Go.Proofs
open Go.ConcN (sumTo upd sumTo_upd upd_ne upd_same)
set_option linter.unusedVariables false
structure Rw (V : World) (la : Option Addr) (n : Nat) (acts : Nat → List (Int × Int)) (ra : Nat → Option Addr) (rc : Nat → Nat) : Prop where
 out : 0 < n → ∃ g o,la = some ⟨g,o,none⟩ ∧ g < V.heap.size ∧ ∀ j,j < n → V.cell? ⟨g,o + j,none⟩ = some (.slice (ra j) (acts j).length (rc j))
 inn : ∀ i,i < n → 0 < (acts i).length → ∃ g o,ra i = some ⟨g,o,none⟩ ∧ g < V.heap.size ∧ ∀ j (hj : j < (acts i).length),V.cell? ⟨g,o + j * 2,none⟩ = some (.int .i64 ((acts i)[j]'hj).1) ∧ V.cell? ⟨g,o + j * 2 + 1,none⟩ = some (.int .i64 ((acts i)[j]'hj).2)
theorem Rw.kp {V V' : World} {la : Option Addr} {n : Nat} {acts : Nat → List (Int × Int)} {ra : Nat → Option Addr} {rc : Nat → Nat} (h : Rw V la n acts ra rc) (k : Kp V V') : Rw V' la n acts ra rc:=⟨fun h0=>by
 obtain ⟨g,o,e,hg,c⟩:=h.out h0
 exact ⟨g,o,e,Nat.lt_of_lt_of_le hg k.size,fun j hj=>k.cell (c j hj)⟩,fun i hi h0=>by
 obtain ⟨g,o,e,hg,c⟩:=h.inn i hi h0
 exact ⟨g,o,e,Nat.lt_of_lt_of_le hg k.size,fun j hj=>⟨k.cell (c j hj).1,k.cell (c j hj).2⟩⟩⟩
def thf (wb ib lb : Nat → Nat) (j : Nat) : Value:=.func (.func 107) #[] #[bp (wb j),bp (ib j),bp (lb j)]
def fns (wb ib lb : Nat → Nat) (k : Nat) : List Value:=(List.range k).map (thf wb ib lb)
structure Pl (acts : Nat → List (Int × Int)) (ra : Nat → Option Addr) (rc : Nat → Nat) (wp : Nat) (V0 : World) (k : Nat) (wb ib lb : Nat → Nat) (V : World) (fv : Value) : Prop where
 nrm : norm V = V
 kp : Kp V0 V
 row : V.ownsRow 0 70 1 fv k (fns wb ib lb k)
 rown : ∀ b,fv.ownBlock = some b → V0.heap.size ≤ b
 wb : ∀ j,j < k → V0.heap.size ≤ wb j ∧ V.heap[wb j]? = some (.cells #[.pointer (some ⟨wp,0,none⟩)] 29 (0,0))
 ib : ∀ j,j < k → V0.heap.size ≤ ib j ∧ V.heap[ib j]? = some (.cells #[.int .i64 (j : Int)] 3 (0,0))
 lb : ∀ j,j < k → V0.heap.size ≤ lb j ∧ V.heap[lb j]? = some (.cells #[.slice (ra j) (acts j).length (rc j)] 44 (0,0))
section
variable {n lc : Nat} {la : Option Addr} {acts : Nat → List (Int × Int)} {ra : Nat → Option Addr} {rc : Nat → Nat} {wp : Nat} {V V0 : World} {Z : Cuts} {Post : Value → World → Prop} {b₀ : Frame} {a₀ : Act} {ops₀ : Array Oper} {i₀ : Nat} {rest₀ : List Nat} {k₀ : List Item} {cs0 : List Frame}
end
end Go.Proofs.Ytibcdikfbhmheaa

namespace Go.Proofs.Ytibcdikfbhmheaa
open Go Go.Conc Go.Proofs
open Go.ConcN (sumTo upd sumTo_upd upd_ne upd_same)
set_option linter.unusedVariables false
def tzero : TS:=⟨fun _=>0,fun _=>0,[]⟩
@[go_sem] theorem build37n (w : World) : (Instr.build 37 #[]).run Try.prog w = .ok (.agg #[.slice none 0 0,.bool false]) w:=run_build w 37 _ _ (by kernel_rfl)
section
variable {n lc : Nat} {la : Option Addr} {acts : Nat → List (Int × Int)} {ra : Nat → Option Addr} {rc : Nat → Nat} {wp : Nat} {V V0 : World} {Z : Cuts} {Post : Value → World → Prop} {b₀ : Frame} {a₀ : Act} {ops₀ : Array Oper} {i₀ : Nat} {rest₀ : List Nat} {k₀ : List Item} {cs0 : List Frame}
end
end Go.Proofs.Ytibcdikfbhmheaa
