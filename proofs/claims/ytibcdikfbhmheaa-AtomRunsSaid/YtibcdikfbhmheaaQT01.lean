import Derived.Test.YtibcdikfbhmheaaB18
import Derived.Test.YtibcdikfbhmheaaB22
import Derived.Test.YtibcdikfbhmheaaB15
import Derived.Test.YtibcdikfbhmheaaB12
import Derived.Test.YtibcdikfbhmheaaB20
import Derived.Test.YtibcdikfbhmheaaB17
import Derived.Laws.MakeOwn
set_option linter.unusedSimpArgs false
set_option linter.unusedVariables false
namespace Go.Proofs.Ytibcdikfbhmheaa
open Go Go.Conc Go.Proofs
open Go.ConcN (sumTo upd sumTo_upd upd_ne upd_same)
set_option linter.unusedVariables false
end Go.Proofs.Ytibcdikfbhmheaa

namespace Go.Proofs.Ytibcdikfbhmheaa
open Go Go.Conc Go.Proofs
open Go.ConcN (sumTo upd sumTo_upd upd_ne upd_same)
set_option linter.unusedVariables false
def S8 (sb g o i n lc ga p h q len rc : Nat) (la : Option Addr) (d y : Int) (w : World) : Prop:=w.cell? ⟨sb,0,none⟩ = some (.slice (some ⟨g,o,none⟩) n lc) ∧ w.cell? ⟨g,o + i,none⟩ = some (.slice (some ⟨h,q,none⟩) len rc) ∧ w.cell? ⟨ga,i,none⟩ = some (.int .i64 (p : Int)) ∧ w.cell? ⟨h,q + p * 2,none⟩ = some (.int .i64 d) ∧ w.cell? ⟨h,q + p * 2 + 1,none⟩ = some (.int .i64 y)
theorem S8.keep {sb g o i n lc ga p h q len rc : Nat} {la : Option Addr} {d y : Int} {w w' : World} (hS : S8 sb g o i n lc ga p h q len rc la d y w) (k : ∀ b,b < w.heap.size → w'.heap[b]? = w.heap[b]?) : S8 sb g o i n lc ga p h q len rc la d y w':=by
 obtain ⟨h0,h1,h2,h3,h4⟩:=hS
 exact ⟨cell_keep h0 (k _ (cell_lt h0)),cell_keep h1 (k _ (cell_lt h1)),cell_keep h2 (k _ (cell_lt h2)),cell_keep h3 (k _ (cell_lt h3)),cell_keep h4 (k _ (cell_lt h4))⟩
section
variable {V : World} {Z : Cuts} {Post : Value → World → Prop} {n lc i p sb rb g o ga ca h q len rc : Nat} {d y : Int} {ov pv : Value} {T : Array Value} {kt : List Item} {cs0 : List Frame}
end
end Go.Proofs.Ytibcdikfbhmheaa

namespace Go.Proofs.Ytibcdikfbhmheaa
open Go Go.Conc Go.Proofs
open Go.ConcN (sumTo upd sumTo_upd upd_ne upd_same)
set_option linter.unusedVariables false
section
variable {V : World} {Z : Cuts} {Post : Value → World → Prop} {n i sb rb m : Nat} {c0 c1 c2 c3 c4 c5 : Value} {ys : List Value} {T : Array Value} {kt : List Item} {cs0 : List Frame}
end
end Go.Proofs.Ytibcdikfbhmheaa

namespace Go.Proofs.Ytibcdikfbhmheaa
open Go Go.Conc Go.Proofs
open Go.ConcN (sumTo upd sumTo_upd upd_ne upd_same)
set_option linter.unusedVariables false
section
variable {V : World} {Z : Cuts} {Post : Value → World → Prop} {n i sb rb ga go gp ca oc pc tb p : Nat} {d y : Int} {T : Array Value} {kt : List Item} {cs0 : List Frame}
end
end Go.Proofs.Ytibcdikfbhmheaa

namespace Go.Proofs.Ytibcdikfbhmheaa
open Go Go.Conc Go.Proofs
open Go.ConcN (sumTo upd sumTo_upd upd_ne upd_same)
set_option linter.unusedVariables false
section
variable {V : World} {Z : Cuts} {Post : Value → World → Prop} {n lc i sb rb ga go gp ca oc pc tb p : Nat} {la : Option Addr} {av0 ov0 pv0 odv lgv : Value} {d y : Int} {T : Array Value} {kt : List Item} {cs0 : List Frame}
end
end Go.Proofs.Ytibcdikfbhmheaa

namespace Go.Proofs.Ytibcdikfbhmheaa
open Go Go.Conc Go.Proofs
open Go.ConcN (sumTo upd sumTo_upd upd_ne upd_same)
set_option linter.unusedVariables false
theorem own_tyK {V : World} {e t : TypeId} {sz : Nat} {v : Value} {n : Nat} {xs : List Value} {b : Nat} {c : Array Value} {f : Nat × Nat} (h : V.ownsRow 0 e sz v n xs) (hb : V.heap[b]? = some (.cells c t f)) (hne : e ≠ t) : v.ownBlock ≠ some b:=fun he=>by
 obtain ⟨_,h2⟩:=h
 rcases h2 with ⟨rfl,_⟩ | ⟨g,cap,cur,rfl,_,h4,_⟩
 · cases he
 · obtain rfl : g = b:=by simpa [Value.ownBlock] using he
   rw [h4] at hb
   injection hb with hb
   injection hb with _ hb _
   exact hne hb
structure Tk where
 n : Nat
 i : Nat
 sb : Nat
 rb : Nat
 ga : Nat
 go : Nat
 gp : Nat
 ca : Nat
 oc : Nat
 pc : Nat
 lc : Nat
 la : Option Addr
 av0 : Value
 ov0 : Value
 pv0 : Value
 V0 : World
def Tk.av (k : Tk) : Value:=.slice (some ⟨k.ga,0,none⟩) k.n k.ca
def Tk.ov (k : Tk) : Value:=.slice (some ⟨k.go,0,none⟩) k.n k.oc
def Tk.pv (k : Tk) : Value:=.slice (some ⟨k.gp,0,none⟩) k.n k.pc
structure Tk.Ok (k : Tk) : Prop where
 hi : k.i < k.n
 lo : k.V0.heap.size ≤ k.sb ∧ k.V0.heap.size ≤ k.rb ∧ k.V0.heap.size ≤ k.ga ∧ k.V0.heap.size ≤ k.go ∧ k.V0.heap.size ≤ k.gp
 ne : k.sb ≠ k.rb ∧ k.ga ≠ k.sb ∧ k.ga ≠ k.rb ∧ k.go ≠ k.sb ∧ k.go ≠ k.rb ∧ k.gp ≠ k.sb ∧ k.gp ≠ k.rb ∧ k.ga ≠ k.go ∧ k.ga ≠ k.gp ∧ k.go ≠ k.gp
 f1 : ∃ a b c,k.av0 = .slice a b c
 f2 : ∃ a b c,k.ov0 = .slice a b c
 f3 : ∃ a b c,k.pv0 = .slice a b c
def rowB (f : Nat → Bool) (n : Nat) : List Value:=(List.range n).map fun j=>.bool (f j)
def rowN (f : Nat → Nat) (n : Nat) : List Value:=(List.range n).map fun j=>.int .i64 (f j : Int)
structure TI (k : Tk) (at_ : Nat → Nat) (lg : List (Nat × Nat)) (fo fp : Nat → Bool) (xs : List Nat) (V : World) (odv lgv : Value) : Prop where
 nrm : norm V = V
 kp : Kp k.V0 V
 sbc : V.heap[k.sb]? = some (.cells #[.slice k.la k.n k.lc,k.av0,k.ov0,k.pv0,odv,lgv] 34 (0,0))
 rbc : V.heap[k.rb]? = some (.cells #[.slice none 0 0,.slice none 0 0,.slice none 0 0,.slice none 0 0,.slice none 0 0,.slice none 0 0] 34 (0,0))
 a : V.ownsRow 0 3 1 k.av k.n (rowN at_ k.n)
 o : V.ownsRow 0 4 1 k.ov k.n (rowB fo k.n)
 q : V.ownsRow 0 4 1 k.pv k.n (rowB fp k.n)
 od : V.ownsRow 0 3 1 odv xs.length (ints xs)
 lg : V.ownsRow 0 41 2 lgv lg.length (notes lg)
 odn : odv.ownBlock ≠ some k.ga
section
variable {k : Tk} {at_ : Nat → Nat} {lg : List (Nat × Nat)} {fo fp : Nat → Bool} {xs : List Nat} {V V' : World} {odv lgv : Value}
theorem row_cell {e : TypeId} {g c n j : Nat} {ys : List Value} {x : Value} (h : V.ownsRow 0 e 1 (.slice (some ⟨g,0,none⟩) n c) n ys) (hx : ys[j]? = some x) : V.cell? ⟨g,j,none⟩ = some x ∧ V.frozen? ⟨g,j,none⟩ = false:=by
 obtain ⟨h1,h2⟩:=h
 rcases h2 with ⟨h2,_⟩ | ⟨g',cap,cur,h2,_,h4,h5,h6,h7,h8⟩
 · cases h2
 · obtain ⟨rfl,rfl⟩ : g = g' ∧ c = cap:=by simpa using h2
   refine ⟨cell_of h4 ?_,by simp [World.frozen?,h4]⟩
   rw [← h8] at hx
   have hj : j < n * 1:=by
     apply Nat.lt_of_not_le
     intro hge
     rw [List.getElem?_eq_none (by rw [List.length_take]; omega)] at hx
     cases hx
   rw [List.getElem?_take,if_pos hj] at hx
   simpa using hx
theorem rowB_at {f : Nat → Bool} {n j : Nat} (hj : j < n) : (rowB f n)[j]? = some (.bool (f j)):=by simp [rowB,hj]
theorem rowN_at {f : Nat → Nat} {n j : Nat} (hj : j < n) : (rowN f n)[j]? = some (.int .i64 (f j : Int)):=by simp [rowN,hj]
theorem rowB_set {f : Nat → Bool} {n j : Nat} {b : Bool} : (rowB f n).set j (.bool b) = rowB (upd f j b) n:=by
 unfold rowB
 rw [set_map]
 exact map_cong fun i _=>by
   by_cases e : i = j
   · subst e; rw [upd_same,upd_same]
   · rw [upd_ne _ _ e,upd_ne _ _ e]
theorem rowN_set {f : Nat → Nat} {n j x : Nat} : (rowN f n).set j (.int .i64 (x : Int)) = rowN (upd f j x) n:=by
 unfold rowN
 rw [set_map]
 exact map_cong fun i _=>by
   by_cases e : i = j
   · subst e; rw [upd_same,upd_same]
   · rw [upd_ne _ _ e,upd_ne _ _ e]
theorem TI.more (O : k.Ok) (I : TI k at_ lg fo fp xs V odv lgv) (hn : norm V' = V') (h : Kp V V') : TI k at_ lg fo fp xs V' odv lgv :=
 ⟨hn,I.kp.trans h,(h.keep _ (Array.getElem?_eq_some_iff.1 I.sbc).1).trans I.sbc,(h.keep _ (Array.getElem?_eq_some_iff.1 I.rbc).1).trans I.rbc,row_keep I.a fun b hb=>h.keep b (row_at I.a hb),row_keep I.o fun b hb=>h.keep b (row_at I.o hb),row_keep I.q fun b hb=>h.keep b (row_at I.q hb),row_keep I.od fun b hb=>h.keep b (row_at I.od hb),row_keep I.lg fun b hb=>h.keep b (row_at I.lg hb),I.odn⟩
theorem TI.log (O : k.Ok) (I : TI k at_ lg fo fp xs V odv lgv) {W : World} {v' : Value} {p : Nat} (hn : norm W = W) (h : Kp V W) (hr : W.ownsRow 0 41 2 v' (lg.length + 1) (notes (lg ++ [(k.i,p)]))) : TI k at_ (lg ++ [(k.i,p)]) fo fp xs (W.setCell ⟨k.sb,5,none⟩ v') odv v':=by
 obtain ⟨h1,h2,h3,h4,h5⟩:=O.lo
 obtain ⟨n1,n2,n3,n4,n5,n6,n7,n8,n9,n10⟩:=O.ne
 have I2:=I.more O hn h
 have hs : ∀ b,b ≠ k.sb → (W.setCell ⟨k.sb,5,none⟩ v').heap[b]? = W.heap[b]?:=fun b hb=>set_off _ _ hb
 refine ⟨norm_set hn _ _,⟨by have:=I2.kp.size; simpa [World.setCell] using this,fun b hb=>by rw [hs b (by omega)]; exact I2.kp.keep b hb⟩,?_,by rw [hs _ (fun e=>n1 e.symm)]; exact I2.rbc,row_keep I2.a fun b hb=>hs b (fun e=>?_),row_keep I2.o fun b hb=>hs b (fun e=>?_),row_keep I2.q fun b hb=>hs b (fun e=>?_),row_keep I2.od fun b hb=>hs b (fun e=>own_tyL I2.od I2.sbc (by decide) (e ▸ hb)),?_,I2.odn⟩
 · rw [setCell_heap,if_pos rfl,I2.sbc]
   simp
 · subst e; exact n2 (Option.some.inj (show some k.ga = some k.sb from hb))
 · subst e; exact n4 (Option.some.inj (show some k.go = some k.sb from hb))
 · subst e; exact n6 (Option.some.inj (show some k.gp = some k.sb from hb))
 · rw [List.length_append,List.length_singleton]
   exact row_keep hr fun b hb=>hs b (fun e=>own_tyK hr I2.sbc (by decide) (e ▸ hb))
end
section
variable {k : Tk} {at_ : Nat → Nat} {lg : List (Nat × Nat)} {fo fp : Nat → Bool} {xs : List Nat} {V : World} {odv lgv : Value} {Z : Cuts} {Post : Value → World → Prop} {T : Array Value} {kt : List Item} {b₀ : Frame} {a₀ : Act} {ops₀ : Array Oper} {i₀ : Nat} {rest₀ : List Nat} {k₀ : List Item} {cs0 : List Frame}
end
end Go.Proofs.Ytibcdikfbhmheaa

namespace Go.Proofs.Ytibcdikfbhmheaa
open Go Go.Conc Go.Proofs
open Go.ConcN (sumTo upd sumTo_upd upd_ne upd_same)
set_option linter.unusedVariables false
section
variable {k : Tk} {at_ : Nat → Nat} {lg : List (Nat × Nat)} {fo fp : Nat → Bool} {xs : List Nat} {V : World} {odv lgv : Value} {Z : Cuts} {Post : Value → World → Prop} {T : Array Value} {kt : List Item} {b₀ : Frame} {a₀ : Act} {ops₀ : Array Oper} {i₀ : Nat} {rest₀ : List Nat} {k₀ : List Item} {cs0 : List Frame}
end
end Go.Proofs.Ytibcdikfbhmheaa

namespace Go.Proofs.Ytibcdikfbhmheaa
open Go Go.Conc Go.Proofs
open Go.ConcN (sumTo upd sumTo_upd upd_ne upd_same)
set_option linter.unusedVariables false
def fov (st : Nat → Int) (j : Nat) : Bool:=decide (cl (st j) = 3)
def fpk (st : Nat → Int) (j : Nat) : Bool:=decide (cl (st j) = 2)
section
variable {k : Tk} {l0 : List (Int × Int)} {at_ : Nat → Nat} {lg : List (Nat × Nat)} {fo fp : Nat → Bool} {xs : List Nat} {V : World} {odv lgv : Value} {Z : Cuts} {Post : Value → World → Prop} {T : Array Value} {b₀ : Frame} {a₀ : Act} {ops₀ : Array Oper} {i₀ : Nat} {rest₀ : List Nat} {k₀ : List Item} {cs0 : List Frame}
end
end Go.Proofs.Ytibcdikfbhmheaa

namespace Go.Proofs.Ytibcdikfbhmheaa
open Go Go.Conc Go.Proofs
open Go.ConcN (sumTo upd sumTo_upd upd_ne upd_same)
set_option linter.unusedVariables false
section
variable {V : World} {Z : Cuts} {Post : Value → World → Prop} {n i sb rb ga go gp oc pc : Nat} {c0 c1 c2 c3 c4 c5 : Value} {T : Array Value} {kt : List Item} {b₀ : Frame} {a₀ : Act} {ops₀ : Array Oper} {i₀ : Nat} {rest₀ : List Nat} {k₀ : List Item} {cs0 : List Frame}
end
end Go.Proofs.Ytibcdikfbhmheaa

namespace Go.Proofs.Ytibcdikfbhmheaa
open Go Go.Conc Go.Proofs
open Go.ConcN (sumTo upd sumTo_upd upd_ne upd_same)
set_option linter.unusedVariables false
structure RS (V0 : World) (n : Nat) (la : Option Addr) (lc : Nat) (acts : Nat → List (Int × Int)) (x : TS × List Nat) (v : Value) (V : World) : Prop where
 nrm : norm V = V
 kp : Kp V0 V
 out : ∃ av ov pv odv lgv,v = .agg #[.slice la n lc,av,ov,pv,odv,lgv] ∧ V.ownsRow 0 3 1 av n (rowN x.1.at_ n) ∧ V.ownsRow 0 4 1 ov n (rowB (fov x.1.st) n) ∧ V.ownsRow 0 4 1 pv n (rowB (fpk x.1.st) n) ∧ V.ownsRow 0 3 1 odv x.2.length (ints x.2) ∧ V.ownsRow 0 41 2 lgv x.1.log.length (notes x.1.log)
 le : ∀ j,j < n → x.1.at_ j ≤ (acts j).length
 cnt : x.1.log.length = sumTo n x.1.at_
section
variable {V0 V : World} {n lc i : Nat} {la : Option Addr} {acts : Nat → List (Int × Int)} {ra : Nat → Option Addr} {rc : Nat → Nat} {x : TS × List Nat} {v : Value} {Z : Cuts} {Post : Value → World → Prop} {b₀ : Frame} {a₀ : Act} {ops₀ : Array Oper} {i₀ : Nat} {rest₀ : List Nat} {k₀ : List Item} {cs0 : List Frame}
end
end Go.Proofs.Ytibcdikfbhmheaa

namespace Go.Proofs.Ytibcdikfbhmheaa
open Go Go.Conc Go.Proofs
open Go.ConcN (sumTo upd sumTo_upd upd_ne upd_same)
set_option linter.unusedVariables false
theorem mkk {t e : TypeId} {z : Value} {B : Nat} (ht : Try.prog.underlying t = some (.slice e)) (hi : (Try.prog.info? e).map (fun i=>(i.zero,i.size,i.bytes)) = some (some z,1,B)) (hz : z.cells = #[z]) (hB : B ≤ 100) {k : Nat} (hk : k ≤ 1000) (w : World) : (Instr.makeSlice t (.int .i64 (k : Int)) (.int .i64 (k : Int))).run Try.prog w = .ok (.slice (some ⟨w.heap.size,0,none⟩) k k) (w.alloc (.cells (madeCells #[z] k) e)):=by
 obtain ⟨i0,hi0,hzz⟩ : ∃ i0,Try.prog.info? e = some i0 ∧ (i0.zero,i0.size,i0.bytes) = (some z,1,B):=by
   cases h : Try.prog.info? e with
   | none=>rw [h] at hi; cases hi
   | some i0=>rw [h] at hi; exact ⟨i0,rfl,by simpa using hi⟩
 obtain ⟨hz0,hz1,hz2⟩ : i0.zero = some z ∧ i0.size = 1 ∧ i0.bytes = B:=by simpa using hzz
 have hb : k * i0.bytes ≤ 1000 * 100:=Nat.mul_le_mul hk (by rw [hz2]; exact hB)
 have h:=run_make (P:=Try.prog) w t e i0 z ht hi0 hz0 .i64 .i64 k k (by omega) (Int.le_refl _) (by rw [Nat.mul_comm] at hb; omega) (by omega)
 rw [hz1] at h
 simpa [hz] using h
theorem made_row {z : Value} {k : Nat} (hk : k ≤ 1000) {w : World} {g : Nat} {e : TypeId} (h : w.heap[g]? = some (.cells (madeCells #[z] k) e (0,0))) : w.ownsRow 0 e 1 (.slice (some ⟨g,0,none⟩) k k) k (List.replicate k z):=by
 have e1 : (madeCells #[z] k).toList = List.replicate k z:=by
   apply List.ext_getElem?
   intro j
   rw [Array.getElem?_toList,List.getElem?_replicate]
   by_cases hj : j < k
   · rw [if_pos hj]; simp [madeCells,hj,Nat.mod_one]
   · rw [if_neg hj]; simp [madeCells,hj]
 refine ⟨by simp,.inr ⟨g,k,_,rfl,Nat.zero_le _,h,Nat.le_refl _,by simp [maxLen]; omega,by simp [madeCells],?_⟩⟩
 rw [e1,Nat.mul_one,List.take_of_length_le (by simp)]
theorem rep_rowN (n : Nat) : List.replicate n (Value.int .i64 0) = rowN tzero.at_ n:=by
 apply List.ext_getElem?
 intro j
 rw [List.getElem?_replicate]
 by_cases h : j < n
 · rw [if_pos h,rowN_at h]; rfl
 · rw [if_neg h,List.getElem?_eq_none (by simp [rowN]; omega)]
theorem rep_rowB (n : Nat) (f : Nat → Bool) (hf : ∀ j,f j = false) : List.replicate n (Value.bool false) = rowB f n:=by
 apply List.ext_getElem?
 intro j
 rw [List.getElem?_replicate]
 by_cases h : j < n
 · rw [if_pos h,rowB_at h,hf]
 · rw [if_neg h,List.getElem?_eq_none (by simp [rowB]; omega)]
end Go.Proofs.Ytibcdikfbhmheaa

namespace Go.Proofs.Ytibcdikfbhmheaa
open Go Go.Conc Go.Proofs
open Go.ConcN (sumTo upd sumTo_upd upd_ne upd_same)
set_option linter.unusedVariables false
section
variable {V : World} {Z : Cuts} {Post : Value → World → Prop} {pl pc Rn rb sb n k j : Nat} {pa : Option Addr} {T : Array Value} {kt : List Item} {cs0 : List Frame}
theorem tmod_lt {n : Nat} (h : 0 < n) (p : Int) : -(n : Int) < p.tmod n ∧ p.tmod n < n:=by
 have h1:=Int.lt_tmod_of_pos p (show (0 : Int) < n by omega)
 have h2:=Int.tmod_lt_of_pos p (show (0 : Int) < n by omega)
 omega
theorem pidx_neg {n : Nat} (h : 0 < n) (p : Int) (hp : p.tmod n < 0) : ((pidx n p : Nat) : Int) = p.tmod n + n:=by
 obtain ⟨h1,h2⟩:=tmod_lt h p
 unfold pidx
 rw [Int.tmod_eq_emod_of_nonneg (a:=p.tmod n + n) (by omega),Int.emod_eq_of_lt (by omega) (by omega)]
 omega
theorem pidx_pos {n : Nat} (h : 0 < n) (p : Int) (hp : ¬ p.tmod n < 0) : ((pidx n p : Nat) : Int) = p.tmod n:=by
 obtain ⟨h1,h2⟩:=tmod_lt h p
 unfold pidx
 rw [Int.tmod_eq_emod_of_nonneg (a:=p.tmod n + n) (by omega),Int.add_emod_right,Int.emod_eq_of_lt (by omega) (by omega)]
 omega
end
section
variable {V0 V V1 W : World} {n lc i sb rb : Nat} {la : Option Addr} {acts : Nat → List (Int × Int)} {ra : Nat → Option Addr} {rc : Nat → Nat} {x : TS × List Nat} {v : Value}
theorem RS.self (S : RS V0 n la lc acts x v V) : RS V n la lc acts x v V:=⟨S.nrm,Kp.refl V,S.out,S.le,S.cnt⟩
theorem RS.back (S : RS V n la lc acts x v V1) (h : Kp V0 V) : RS V0 n la lc acts x v V1:=⟨S.nrm,h.trans S.kp,S.out,S.le,S.cnt⟩
theorem RS.put (S : RS V0 n la lc acts x v V) {c : Array Value} (hb : V.heap[sb]? = some (.cells c 34 (0,0))) (hlo : V0.heap.size ≤ sb) (hoff : ∀ b,b ≠ sb → W.heap[b]? = V.heap[b]?) (hsz : W.heap.size = V.heap.size) (hn : norm W = W) : RS V0 n la lc acts x v W:=by
 obtain ⟨nrm,kp,⟨av,ov,pv,odv,lgv,e,r1,r2,r3,r4,r5⟩,le,cnt⟩:=S
 refine ⟨hn,⟨by rw [hsz]; exact kp.size,fun b h=>by rw [hoff b (by omega)]; exact kp.keep b h⟩,⟨av,ov,pv,odv,lgv,e,row_keep r1 fun b h=>hoff b fun e=>own_tyK r1 hb (by decide) (e ▸ h),row_keep r2 fun b h=>hoff b fun e=>own_tyK r2 hb (by decide) (e ▸ h),row_keep r3 fun b h=>hoff b fun e=>own_tyK r3 hb (by decide) (e ▸ h),row_keep r4 fun b h=>hoff b fun e=>own_tyK r4 hb (by decide) (e ▸ h),row_keep r5 fun b h=>hoff b fun e=>own_tyK r5 hb (by decide) (e ▸ h)⟩,le,cnt⟩
end
end Go.Proofs.Ytibcdikfbhmheaa
