import Derived.Test.YtibcdikfbhmheaaProg
import Derived.ProofKit
import Derived.Below
import Derived.Maps.AppendAt
import Derived.WalkSpells
import Derived.WalkLawsBesides
import Derived.Deep.Draws
import Derived.Lib.Hide
import Derived.Deep.LoopGhost
import Derived.Deep.QuietTactic
import Derived.Test.YtibcdikfbhmheaaB16
import Derived.OrdersHeld
import Derived.Test.YtibcdikfbhmheaaB12
set_option linter.unusedSimpArgs false
set_option linter.unusedVariables false
namespace Go.Proofs.Ytibcdikfbhmheaa
open Go Go.Proofs
open Go.RowKit
set_option linter.unusedVariables false
def Qu (w : World) (e : TypeId) (sz : Nat) (v : Value) (n : Nat) (q : List Value) : Prop :=
 q.length = n * sz ∧ ((v = .slice none 0 0 ∧ n = 0) ∨ ∃ g o cap cur,v = .slice (some ⟨g,o,none⟩) n cap ∧ w.heap[g]? = some (.cells cur e (0,0)) ∧ n ≤ cap ∧ cap ≤ maxLen ∧ o + cap * sz ≤ cur.size ∧ ∀ j u,q[j]? = some u → cur[o + j]? = some u)
theorem qadd (b off k : Nat) : (⟨b,off,none⟩ : Addr).add k = ⟨b,off + k,none⟩:=by unfold Addr.add; split <;> simp_all
theorem Qu.keep {w w' : World} {e : TypeId} {sz : Nat} {v : Value} {n : Nat} {q : List Value} (h : Qu w e sz v n q) (hk : ∀ b,v.ownBlock = some b → w'.heap[b]? = w.heap[b]?) : Qu w' e sz v n q:=by
 obtain ⟨h1,h2⟩:=h
 refine ⟨h1,h2.imp id ?_⟩
 rintro ⟨g,o,cap,cur,rfl,h3,h4⟩
 exact ⟨g,o,cap,cur,rfl,by rw [hk g rfl]; exact h3,h4⟩
theorem Qu.at_ {w : World} {e : TypeId} {sz : Nat} {v : Value} {n : Nat} {q : List Value} (h : Qu w e sz v n q) {b : Nat} (hb : v.ownBlock = some b) : b < w.heap.size:=by
 obtain ⟨h1,⟨rfl,_⟩ | ⟨g,o,cap,cur,rfl,h3,_⟩⟩:=h
 · cases hb
 · obtain rfl : g = b:=by simpa [Value.ownBlock] using hb
   exact (Array.getElem?_eq_some_iff.1 h3).1
theorem Qu.sl {w : World} {e : TypeId} {sz : Nat} {v : Value} {n : Nat} {q : List Value} (h : Qu w e sz v n q) : ∃ b c,v = .slice b n c:=by
 obtain ⟨h1,⟨rfl,h2⟩ | ⟨g,o,cap,cur,rfl,_⟩⟩:=h
 · exact ⟨_,_,by rw [h2]⟩
 · exact ⟨_,_,rfl⟩
end Go.Proofs.Ytibcdikfbhmheaa

namespace Go.Proofs.Ytibcdikfbhmheaa
open Go Go.Conc Go.Proofs
open Go.ConcN (sumTo upd sumTo_upd upd_ne upd_same)
set_option linter.unusedVariables false
def Grw (V W : World) (v v' : Value) : Prop:=V.heap.size ≤ W.heap.size ∧ (∀ b,b < V.heap.size → v.ownBlock ≠ some b → W.heap[b]? = V.heap[b]?) ∧ (v'.ownBlock = v.ownBlock ∨ v'.ownBlock = some V.heap.size)
theorem app_none {t e : TypeId} {z : Value} {sz B : Nat} (ht : Try.prog.underlying t = some (.slice e)) (hi : (Try.prog.info? e).map (fun i=>(i.zero,i.size,i.bytes)) = some (some z,sz,B)) {b : Option Addr} {n c : Nat} (hc : n ≤ c) (hb : c = 0 → b ≠ none → True) (w : World) :
   (Builtin.append_ #[t,t] t #[.slice b n c,.slice none 0 0]).run Try.prog w = .ok (.slice b n c) w:=by
 obtain ⟨i0,hi0,hz⟩ : ∃ i0,Try.prog.info? e = some i0 ∧ (i0.zero,i0.size,i0.bytes) = (some z,sz,B):=by
   cases e : Try.prog.info? e with
   | none=>rw [e] at hi; cases hi
   | some i0=>rw [e] at hi; exact ⟨i0,rfl,by simpa using hi⟩
 have hs : (sizeOf e).run Try.prog w = .ok i0.size w:=by simp [sizeOf,typeInfo,hi0]
 cases b with
 | none=>simp [Builtin.append_,run_underlying ht,hs,Builtin.lenOf,Builtin.firstCells,hc]
 | some a=>simp [Builtin.append_,run_underlying ht,hs,Builtin.lenOf,Builtin.firstCells,storeCells,hc]
theorem app_row {t e : TypeId} {z : Value} {sz B : Nat} (ht : Try.prog.underlying t = some (.slice e)) (hi : (Try.prog.info? e).map (fun i=>(i.zero,i.size,i.bytes)) = some (some z,sz,B)) (hzs : z.cells.size = sz) (hsz : 0 < sz) (hB : B ≤ 100) {V : World} {v u : Value} {n m : Nat} {xs ys : List Value} (hrow : V.ownsRow 0 e sz v n xs) (hsrc : V.ownsRow 0 e sz u m ys) (h1 : ∀ y ∈ ys,y.oneCell' = true) (hlen : n + m < 1000000000) :
   ∃ v' w',(Builtin.append_ #[t,t] t #[v,u]).run Try.prog V = .ok v' w' ∧ w'.ownsRow 0 e sz v' (n + m) (xs ++ ys) ∧ Grw V w' v v':=by
 obtain ⟨hy,h2⟩:=hsrc
 rcases h2 with ⟨rfl,rfl⟩ | ⟨g,cap,cur,rfl,_,h4,h5,h6,h7,h8⟩
 · obtain ⟨b,k,c,rfl,hkc,rfl⟩ : ∃ b k c,v = .slice b k c ∧ k ≤ c ∧ k = n:=by
     obtain ⟨_,h2⟩:=hrow
     rcases h2 with ⟨rfl,rfl⟩ | ⟨g,cap,cur,rfl,_,_,h5,_⟩
     · exact ⟨_,_,_,rfl,Nat.le_refl _,rfl⟩
     · exact ⟨_,_,_,rfl,h5,rfl⟩
   have : ys = []:=by simpa using hy
   subst this
   refine ⟨_,_,app_none ht hi hkc (fun _ _=>trivial) _,?_,⟨Nat.le_refl _,fun _ _ _=>rfl,.inl rfl⟩⟩
   rw [List.append_nil,Nat.add_zero]
   exact hrow
 · obtain ⟨i0,hi0,hz⟩ : ∃ i0,Try.prog.info? e = some i0 ∧ (i0.zero,i0.size,i0.bytes) = (some z,sz,B):=by
     cases e : Try.prog.info? e with
     | none=>rw [e] at hi; cases hi
     | some i0=>rw [e] at hi; exact ⟨i0,rfl,by simpa using hi⟩
   obtain ⟨hz0,hz1,hz2⟩ : i0.zero = some z ∧ i0.size = sz ∧ i0.bytes = B:=by simpa using hz
   obtain ⟨v',w',a1,a2,a3,_,a5⟩:=run_append_own_at (P:=Try.prog) (w:=V) 0 t t e i0 z sz B ht hi0 hz0 hz1 hz2 hzs hsz v n xs hrow ⟨g,0,none⟩ m cap ys hy (fun j u hu=>by
     rw [qadd,Nat.zero_add]
     rw [← h8] at hu
     have hj : j < m * sz:=by
       apply Nat.lt_of_not_le
       intro hge
       rw [List.getElem?_eq_none (by rw [List.length_take]; omega)] at hu
       cases hu
     rw [List.getElem?_take,if_pos hj] at hu
     exact cell_of h4 (by simpa using hu)) h1 (by simp only [maxLen]; omega) (by
     have : (n + m) * B ≤ (n + m) * 100:=Nat.mul_le_mul_left _ hB
     omega) (Nat.zero_le _)
   exact ⟨v',w',a1,a2,a3.size,fun b hb hne=>a3.block b hb (fun e=>hne e.symm),a5⟩
end Go.Proofs.Ytibcdikfbhmheaa

namespace Go.Proofs.Ytibcdikfbhmheaa
open Go Go.Conc Go.Proofs
set_option linter.unusedVariables false
section
variable {P : Program} {ops : Array Oper} {Q : Exit → Act → World → Prop} {md : Region.Mode} {S : Array Bool → World → Prop}
end
end Go.Proofs.Ytibcdikfbhmheaa

namespace Go.Proofs.Ytibcdikfbhmheaa
open Go Go.Proofs
open Go.RowKit
set_option linter.unusedVariables false
set_option maxRecDepth 100000
end Go.Proofs.Ytibcdikfbhmheaa

namespace Go.Proofs.Ytibcdikfbhmheaa
open Go Go.Proofs Go.Conc
open Go.ConcN (sumTo upd sumTo_upd upd_ne upd_same)
open Go.RowKit
set_option linter.unusedVariables false
set_option maxRecDepth 100000
def Cw.has (C : Cw) (b : Nat) : Prop:=b = C.cb ∨ b = C.lb ∨ ∃ j,j < C.n ∧ b = C.tb j
theorem CwAt.off {C : Cw} {ended : Bool} {st : Nat → Int} {V V' : World} (H : CwAt C ended st V) (hk : ∀ b,C.has b → V'.heap[b]? = V.heap[b]?) : CwAt C ended st V':=⟨by rw [hk _ (.inl rfl)]; exact H.crew,fun i hi=>by rw [hk _ (.inr (.inr ⟨i,hi,rfl⟩))]; exact H.thr i hi⟩
theorem LsV.off {C : Cw} {V V' : World} (H : LsV C V) (hk : ∀ b,C.has b → V'.heap[b]? = V.heap[b]?) : LsV C V':=H.keep (hk _ (.inr (.inl rfl)))
end Go.Proofs.Ytibcdikfbhmheaa

namespace Go.Proofs.Ytibcdikfbhmheaa
open Go Go.Proofs Go.Conc
open Go.ConcN (sumTo upd sumTo_upd upd_ne upd_same)
open Go.RowKit
set_option linter.unusedVariables false
set_option maxRecDepth 100000
end Go.Proofs.Ytibcdikfbhmheaa
