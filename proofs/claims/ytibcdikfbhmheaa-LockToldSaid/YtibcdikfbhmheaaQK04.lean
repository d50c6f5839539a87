import Derived.Test.YtibcdikfbhmheaaQK03
import Derived.Test.YtibcdikfbhmheaaB12
import Derived.Test.YtibcdikfbhmheaaB20
set_option linter.unusedSimpArgs false
set_option linter.unusedVariables false
namespace Go.Proofs.Ytibcdikfbhmheaa
open Go Go.Conc Go.Proofs
open Go.ConcN (sumTo upd sumTo_upd upd_ne upd_same)
set_option linter.unusedVariables false
theorem own_tyK {V : World} {e t : TypeId} {sz : Nat} {v : Value} {n : Nat} {xs : List Value} {b : Nat} {c : Array Value} {f : Nat × Nat} (h : V.ownsRow 0 e sz v n xs) (hb : V.heap[b]? = some (.cells c t f)) (hne : e ≠ t) : v.ownBlock ≠ some b:=fun he=>by
 obtain ⟨_,h2⟩:=h
 rcases h2 with ⟨rfl,_⟩ | ⟨g,cap,cur,rfl,_,h4,_⟩
 · cases he
 · obtain rfl : g = b:=by simpa [Value.ownBlock] using he
   rw [h4] at hb
   injection hb with hb
   injection hb with _ hb _
   exact hne hb
structure Tk where
 n : Nat
 i : Nat
 sb : Nat
 rb : Nat
 ga : Nat
 go : Nat
 gp : Nat
 ca : Nat
 oc : Nat
 pc : Nat
 lc : Nat
 la : Option Addr
 av0 : Value
 ov0 : Value
 pv0 : Value
 V0 : World
def Tk.av (k : Tk) : Value:=.slice (some ⟨k.ga,0,none⟩) k.n k.ca
def Tk.ov (k : Tk) : Value:=.slice (some ⟨k.go,0,none⟩) k.n k.oc
def Tk.pv (k : Tk) : Value:=.slice (some ⟨k.gp,0,none⟩) k.n k.pc
structure Tk.Ok (k : Tk) : Prop where
 hi : k.i < k.n
 lo : k.V0.heap.size ≤ k.sb ∧ k.V0.heap.size ≤ k.rb ∧ k.V0.heap.size ≤ k.ga ∧ k.V0.heap.size ≤ k.go ∧ k.V0.heap.size ≤ k.gp
 ne : k.sb ≠ k.rb ∧ k.ga ≠ k.sb ∧ k.ga ≠ k.rb ∧ k.go ≠ k.sb ∧ k.go ≠ k.rb ∧ k.gp ≠ k.sb ∧ k.gp ≠ k.rb ∧ k.ga ≠ k.go ∧ k.ga ≠ k.gp ∧ k.go ≠ k.gp
 f1 : ∃ a b c,k.av0 = .slice a b c
 f2 : ∃ a b c,k.ov0 = .slice a b c
 f3 : ∃ a b c,k.pv0 = .slice a b c
def rowB (f : Nat → Bool) (n : Nat) : List Value:=(List.range n).map fun j=>.bool (f j)
def rowN (f : Nat → Nat) (n : Nat) : List Value:=(List.range n).map fun j=>.int .i64 (f j : Int)
structure TI (k : Tk) (at_ : Nat → Nat) (lg : List (Nat × Nat)) (fo fp : Nat → Bool) (xs : List Nat) (V : World) (odv lgv : Value) : Prop where
 nrm : norm V = V
 kp : Kp k.V0 V
 sbc : V.heap[k.sb]? = some (.cells #[.slice k.la k.n k.lc,k.av0,k.ov0,k.pv0,odv,lgv] 34 (0,0))
 rbc : V.heap[k.rb]? = some (.cells #[.slice none 0 0,.slice none 0 0,.slice none 0 0,.slice none 0 0,.slice none 0 0,.slice none 0 0] 34 (0,0))
 a : V.ownsRow 0 3 1 k.av k.n (rowN at_ k.n)
 o : V.ownsRow 0 4 1 k.ov k.n (rowB fo k.n)
 q : V.ownsRow 0 4 1 k.pv k.n (rowB fp k.n)
 od : V.ownsRow 0 3 1 odv xs.length (ints xs)
 lg : V.ownsRow 0 41 2 lgv lg.length (notes lg)
 odn : odv.ownBlock ≠ some k.ga
section
variable {k : Tk} {at_ : Nat → Nat} {lg : List (Nat × Nat)} {fo fp : Nat → Bool} {xs : List Nat} {V V' : World} {odv lgv : Value}
theorem TI.more (O : k.Ok) (I : TI k at_ lg fo fp xs V odv lgv) (hn : norm V' = V') (h : Kp V V') : TI k at_ lg fo fp xs V' odv lgv :=
 ⟨hn,I.kp.trans h,(h.keep _ (Array.getElem?_eq_some_iff.1 I.sbc).1).trans I.sbc,(h.keep _ (Array.getElem?_eq_some_iff.1 I.rbc).1).trans I.rbc,row_keep I.a fun b hb=>h.keep b (row_at I.a hb),row_keep I.o fun b hb=>h.keep b (row_at I.o hb),row_keep I.q fun b hb=>h.keep b (row_at I.q hb),row_keep I.od fun b hb=>h.keep b (row_at I.od hb),row_keep I.lg fun b hb=>h.keep b (row_at I.lg hb),I.odn⟩
theorem TI.log (O : k.Ok) (I : TI k at_ lg fo fp xs V odv lgv) {W : World} {v' : Value} {p : Nat} (hn : norm W = W) (h : Kp V W) (hr : W.ownsRow 0 41 2 v' (lg.length + 1) (notes (lg ++ [(k.i,p)]))) : TI k at_ (lg ++ [(k.i,p)]) fo fp xs (W.setCell ⟨k.sb,5,none⟩ v') odv v':=by
 obtain ⟨h1,h2,h3,h4,h5⟩:=O.lo
 obtain ⟨n1,n2,n3,n4,n5,n6,n7,n8,n9,n10⟩:=O.ne
 have I2:=I.more O hn h
 have hs : ∀ b,b ≠ k.sb → (W.setCell ⟨k.sb,5,none⟩ v').heap[b]? = W.heap[b]?:=fun b hb=>set_off _ _ hb
 refine ⟨norm_set hn _ _,⟨by have:=I2.kp.size; simpa [World.setCell] using this,fun b hb=>by rw [hs b (by omega)]; exact I2.kp.keep b hb⟩,?_,by rw [hs _ (fun e=>n1 e.symm)]; exact I2.rbc,row_keep I2.a fun b hb=>hs b (fun e=>?_),row_keep I2.o fun b hb=>hs b (fun e=>?_),row_keep I2.q fun b hb=>hs b (fun e=>?_),row_keep I2.od fun b hb=>hs b (fun e=>own_tyL I2.od I2.sbc (by decide) (e ▸ hb)),?_,I2.odn⟩
 · rw [setCell_heap,if_pos rfl,I2.sbc]
   simp
 · subst e; exact n2 (Option.some.inj (show some k.ga = some k.sb from hb))
 · subst e; exact n4 (Option.some.inj (show some k.go = some k.sb from hb))
 · subst e; exact n6 (Option.some.inj (show some k.gp = some k.sb from hb))
 · rw [List.length_append,List.length_singleton]
   exact row_keep hr fun b hb=>hs b (fun e=>own_tyK hr I2.sbc (by decide) (e ▸ hb))
end
section
variable {k : Tk} {at_ : Nat → Nat} {lg : List (Nat × Nat)} {fo fp : Nat → Bool} {xs : List Nat} {V : World} {odv lgv : Value} {Z : Cuts} {Post : Value → World → Prop} {T : Array Value} {kt : List Item} {b₀ : Frame} {a₀ : Act} {ops₀ : Array Oper} {i₀ : Nat} {rest₀ : List Nat} {k₀ : List Item} {cs0 : List Frame}
end
end Go.Proofs.Ytibcdikfbhmheaa

namespace Go.Proofs.Ytibcdikfbhmheaa
open Go Go.Conc Go.Proofs
open Go.ConcN (sumTo upd sumTo_upd upd_ne upd_same)
set_option linter.unusedVariables false
section
variable {k : Tk} {at_ : Nat → Nat} {lg : List (Nat × Nat)} {fo fp : Nat → Bool} {xs : List Nat} {V : World} {odv lgv : Value} {Z : Cuts} {Post : Value → World → Prop} {T : Array Value} {kt : List Item} {b₀ : Frame} {a₀ : Act} {ops₀ : Array Oper} {i₀ : Nat} {rest₀ : List Nat} {k₀ : List Item} {cs0 : List Frame}
end
end Go.Proofs.Ytibcdikfbhmheaa

namespace Go.Proofs.Ytibcdikfbhmheaa
open Go Go.Conc Go.Proofs
open Go.ConcN (sumTo upd sumTo_upd upd_ne upd_same)
set_option linter.unusedVariables false
def fov (st : Nat → Int) (j : Nat) : Bool:=decide (cl (st j) = 3)
def fpk (st : Nat → Int) (j : Nat) : Bool:=decide (cl (st j) = 2)
section
variable {k : Tk} {l0 : List (Int × Int)} {at_ : Nat → Nat} {lg : List (Nat × Nat)} {fo fp : Nat → Bool} {xs : List Nat} {V : World} {odv lgv : Value} {Z : Cuts} {Post : Value → World → Prop} {T : Array Value} {b₀ : Frame} {a₀ : Act} {ops₀ : Array Oper} {i₀ : Nat} {rest₀ : List Nat} {k₀ : List Item} {cs0 : List Frame}
end
end Go.Proofs.Ytibcdikfbhmheaa

namespace Go.Proofs.Ytibcdikfbhmheaa
open Go Go.Conc Go.Proofs
open Go.ConcN (sumTo upd sumTo_upd upd_ne upd_same)
set_option linter.unusedVariables false
section
variable {V : World} {Z : Cuts} {Post : Value → World → Prop} {n i sb rb ga go gp oc pc : Nat} {c0 c1 c2 c3 c4 c5 : Value} {T : Array Value} {kt : List Item} {b₀ : Frame} {a₀ : Act} {ops₀ : Array Oper} {i₀ : Nat} {rest₀ : List Nat} {k₀ : List Item} {cs0 : List Frame}
end
end Go.Proofs.Ytibcdikfbhmheaa

namespace Go.Proofs.Ytibcdikfbhmheaa
open Go Go.Conc Go.Proofs
open Go.ConcN (sumTo upd sumTo_upd upd_ne upd_same)
set_option linter.unusedVariables false
structure RS (V0 : World) (n : Nat) (la : Option Addr) (lc : Nat) (acts : Nat → List (Int × Int)) (x : TS × List Nat) (v : Value) (V : World) : Prop where
 nrm : norm V = V
 kp : Kp V0 V
 out : ∃ av ov pv odv lgv,v = .agg #[.slice la n lc,av,ov,pv,odv,lgv] ∧ V.ownsRow 0 3 1 av n (rowN x.1.at_ n) ∧ V.ownsRow 0 4 1 ov n (rowB (fov x.1.st) n) ∧ V.ownsRow 0 4 1 pv n (rowB (fpk x.1.st) n) ∧ V.ownsRow 0 3 1 odv x.2.length (ints x.2) ∧ V.ownsRow 0 41 2 lgv x.1.log.length (notes x.1.log)
 le : ∀ j,j < n → x.1.at_ j ≤ (acts j).length
 cnt : x.1.log.length = sumTo n x.1.at_
section
variable {V0 V : World} {n lc i : Nat} {la : Option Addr} {acts : Nat → List (Int × Int)} {ra : Nat → Option Addr} {rc : Nat → Nat} {x : TS × List Nat} {v : Value} {Z : Cuts} {Post : Value → World → Prop} {b₀ : Frame} {a₀ : Act} {ops₀ : Array Oper} {i₀ : Nat} {rest₀ : List Nat} {k₀ : List Item} {cs0 : List Frame}
end
end Go.Proofs.Ytibcdikfbhmheaa
