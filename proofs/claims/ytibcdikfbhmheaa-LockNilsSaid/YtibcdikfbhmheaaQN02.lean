import Derived.Test.YtibcdikfbhmheaaQN01
import Derived.Test.YtibcdikfbhmheaaB20
import Derived.Test.YtibcdikfbhmheaaB23
import Derived.Test.YtibcdikfbhmheaaB18
import Derived.Test.YtibcdikfbhmheaaB22
set_option linter.unusedSimpArgs false
set_option linter.unusedVariables false
namespace Go.Proofs.Ytibcdikfbhmheaa
open Go Go.Conc Go.Proofs
open Go.ConcN (sumTo upd sumTo_upd upd_ne upd_same)
set_option linter.unusedVariables false
structure Ad where
 n : Nat
 d : Nat → Int
 ab : Nat
 lbx : Nat
 ibx : Nat → Nat
 la : Option Addr
 ln : Nat
 lc : Nat
 Vr : World
structure AS where
 st : Nat → Nat
 v : Int
def AS.step (D : Ad) (s : AS) (i : Nat) : AS:=if s.st i = 0 then { s with st:=upd s.st i 1 } else { st:=upd s.st i 2,v:=IntKind.i64.wrap (s.v + D.d i) }
noncomputable def B34 : Code:=Try.f34.body.getD .skip
noncomputable def A3 : Code:=nvb (nvb B34)
section
variable {D : Ad} {C : Cw} {E : Env} {i : Nat} {own : Nat → Prop} {V : World} {σ : AS} {a₁ : Act} {ops₁ : Array Oper} {i₁ : Nat} {rest₁ : List Nat} {k₁ : List Item}
end
end Go.Proofs.Ytibcdikfbhmheaa

namespace Go.Proofs.Ytibcdikfbhmheaa
open Go Go.Conc Go.Proofs
open Go.ConcN (sumTo upd sumTo_upd upd_ne upd_same)
set_option linter.unusedVariables false
structure Nd where
 u : Int
 y : Nat
 yb : Nat
 mb : Nat
 cb : Nat
 rb : Nat
 kb : Nat
 eb : Nat
 Vr : World
structure NdOk (D : Nd) : Prop where
 u : 0 ≤ D.u ∧ D.u < 256
 y : (D.y : Int) = D.u % 3
 yb : D.yb < D.Vr.heap.size ∧ D.yb ≠ D.eb ∧ D.Vr.heap[D.yb]? = some (.cells #[.int .u8 D.u] 5 (0,0))
 mb : D.mb < D.Vr.heap.size ∧ D.mb ≠ D.eb ∧ D.Vr.heap[D.mb]? = some (.cells #[.pointer none] 104 (0,0))
 cb : D.cb < D.Vr.heap.size ∧ D.cb ≠ D.eb ∧ D.Vr.heap[D.cb]? = some (.cells #[.pointer none] 126 (0,0))
 eb : D.eb < D.Vr.heap.size
theorem NdOk.y3 {D : Nd} (O : NdOk D) : D.y < 3:=by have:=O.y; omega
structure NInv (D : Nd) (s : Nat) (own : Nat → Prop) (V : World) : Prop where
 sz : D.Vr.heap.size ≤ V.heap.size
 res : V.heap[D.eb]? = some (.cells #[.int .i64 (if s ≤ D.y then 0 else 6)] 3 (0,0))
 old : ∀ b,b < D.Vr.heap.size → own b ∧ (b ≠ D.eb → V.heap[b]? = D.Vr.heap[b]?)
def nst (y s : Nat) : Int:=if s = 0 then 0 else if s ≤ y then 1 else 3
noncomputable def Und (D : Nd) (C : Cw) : Usr:={ S:=Nat,inv:=NInv D,st:=fun s _=>nst D.y s,loc:=fun s i cs=>i < C.n ∧ ∃ T,NF (C.tb i) D.yb D.mb D.cb D.rb D.kb D.eb (s - 1) T ∧ cs = [n57F T],turn:=fun s _=>s + 1,fid:=fun _=>57,first:=fun _=>#[],caps:=fun _=>#[bp D.yb,bp D.mb,bp D.cb,bp D.rb,bp D.kb,bp D.eb] }
section
variable {D : Nd} {C : Cw} {E : Env} {i : Nat} {own : Nat → Prop} {V : World} {σ : Nat} {a₁ : Act} {ops₁ : Array Oper} {i₁ : Nat} {rest₁ : List Nat} {k₁ : List Item}
theorem nd_yield (O : NdOk D) (hi : i < C.n) (hn1 : C.n = 1) (hn : norm V = V) (H : CwAt C false (upd (fun _=>nst D.y σ) i 1) V) (A : NInv D σ own V) (hown : ∀ b,own b → b < V.heap.size) (hs : σ < D.y) {T : Array Value} (hT : NF (C.tb i) D.yb D.mb D.cb D.rb D.kb D.eb σ T) {Rf : Frame} :
   TEnd C (Und D C) σ i own V Rf (G (Frame.enter Try.prog 24 #[C.tp i] .normal) [n57F T,Rf,rootF]) V:=by
 refine ⟨hn,Nat.le_refl _,fun _ _ _ _=>rfl,⟨own,⟨A.sz,?_,A.old⟩,fun b hb=>⟨.inl hb,hown b hb⟩⟩,?_,.inl ⟨?_,⟨_,[],rfl,hi,T,hT,rfl⟩⟩⟩
 · have h:=A.res
   rw [if_pos (by omega)] at h
   show V.heap[D.eb]? = some (.cells #[.int .i64 (if σ + 1 ≤ D.y then 0 else 6)] 3 (0,0))
   rw [if_pos (by omega)]
   exact h
 · refine H.congr fun j hj=>?_
   obtain rfl : j = i:=by omega
   rw [upd_same]
   show 1 = upd (fun _=>nst D.y (σ + 1)) j 1 j
   rw [upd_same]
 · show nst D.y (σ + 1) = 1
   unfold nst
   rw [if_neg (by omega),if_pos (by omega)]
theorem nd_over (O : NdOk D) (hi : i < C.n) (hn1 : C.n = 1) (hn : norm V = V) (H : CwAt C false (upd (fun _=>nst D.y σ) i 1) V) (A : NInv D σ own V) (hown : ∀ b,own b → b < V.heap.size ∧ b ≠ C.cb ∧ ∀ j,j < C.n → b ≠ C.tb j) (hs : σ = D.y) :
   TEnd C (Und D C) σ i own V ((baseD 141).at a₁ (.inRegion ops₁ (i₁ :: rest₁) :: k₁)) (G ((baseD 141).at (a₁.put ((ops₁[i₁]?).bind (·.dst)) (.tuple #[])) (.inRegion ops₁ rest₁ :: k₁)) [rootF]) (V.setCell ⟨D.eb,0,none⟩ (.int .i64 6)):=by
 have heb:=(A.old D.eb O.eb).1
 obtain ⟨h1,h2,h3⟩:=hown _ heb
 have hsz : (V.setCell ⟨D.eb,0,none⟩ (.int .i64 6)).heap.size = V.heap.size:=size_setCell _ _ _
 have hget : ∀ b,b ≠ D.eb → (V.setCell ⟨D.eb,0,none⟩ (.int .i64 6)).heap[b]? = V.heap[b]?:=fun b hb=>by rw [setCell_heap,if_neg hb]
 refine ⟨norm_set hn _ _,by rw [hsz]; exact Nat.le_refl _,fun b hb ho ht=>hget b (fun e=>ho (by rw [e]; exact heb)),⟨own,⟨by rw [hsz]; exact A.sz,?_,fun b hb=>⟨(A.old b hb).1,fun hne=>by rw [hget b hne]; exact (A.old b hb).2 hne⟩⟩,fun b hb=>⟨.inl hb,by rw [hsz]; exact (hown b hb).1⟩⟩,?_,.inr (.inr ⟨?_,.inl ⟨_,a₁,ops₁,i₁,rest₁,k₁,rfl,rfl⟩⟩)⟩
 · show (V.setCell ⟨D.eb,0,none⟩ (.int .i64 6)).heap[D.eb]? = some (.cells #[.int .i64 (if σ + 1 ≤ D.y then 0 else 6)] 3 (0,0))
   rw [if_neg (by omega),setCell_heap,if_pos rfl,A.res]
   simp
 · refine (H.keep (hget _ (fun e=>h2 e.symm)) fun j hj=>hget _ (fun e=>h3 j hj e.symm)).congr fun j hj=>?_
   obtain rfl : j = i:=by omega
   rw [upd_same]
   show 1 = upd (fun _=>nst D.y (σ + 1)) j 1 j
   rw [upd_same]
 · show nst D.y (σ + 1) = 3
   unfold nst
   rw [if_neg (by omega),if_neg (by omega)]
theorem nst_four (y s : Nat) : nst y s = 0 ∨ nst y s = 1 ∨ nst y s = 2 ∨ nst y s = 3:=by
 unfold nst
 repeat' split
 all_goals omega
theorem und_ok (O : NdOk D) (hnC : C.n = 1) (hf : ∀ i,i < C.n → C.f i = .func (.func 57) #[] #[bp D.yb,bp D.mb,bp D.cb,bp D.rb,bp D.kb,bp D.eb]) : UOk E C (Und D C):=by
 refine UOkS.up ?_ fun _ _ _=>trivial
 have hcells : ∀ {σ : Nat} {own : Nat → Prop} {V : World},NInv D σ own V → (∀ τ,(re V τ 0).cell? ⟨D.yb,0,none⟩ = some (.int .u8 D.u)) ∧ (∀ τ,(re V τ 0).cell? ⟨D.mb,0,none⟩ = some (.pointer none)) ∧ (∀ τ,(re V τ 0).cell? ⟨D.cb,0,none⟩ = some (.pointer none)):=fun A=>by
   obtain ⟨a1,a2,a3⟩:=O.yb
   obtain ⟨b1,b2,b3⟩:=O.mb
   obtain ⟨c1,c2,c3⟩:=O.cb
   exact ⟨fun τ=>cell_of (((A.old _ a1).2 a2).trans a3) (by simp),fun τ=>cell_of (((A.old _ b1).2 b2).trans b3) (by simp),fun τ=>cell_of (((A.old _ c1).2 c2).trans c3) (by simp)⟩
 have h3:=O.y3
 refine ⟨fun σ own V V' A hk hsz=>?_,fun σ i cs h=>?_,fun σ i j cs hi _ hj h=>?_,fun σ i j hi _ hj hji=>by omega,fun σ i _=>nst_four _ _,fun σ i hi h=>⟨hf i hi,_,_,Try.func57,by kernel_rfl,rfl⟩,fun (σ : Nat) i own V Rf bx hi hs hRf hn H A hown _ _=>?_,fun (σ : Nat) i own V Rf bx b a ops i₀ rest k cs hi hs hl hRf hn H A hown _ _=>?_⟩
 · exact ⟨Nat.le_trans A.sz hsz,by rw [hk _ (A.old _ O.eb).1]; exact A.res,fun b hb=>⟨(A.old b hb).1,fun hne=>by rw [hk b (A.old b hb).1]; exact (A.old b hb).2 hne⟩⟩
 · obtain ⟨_,T,_,rfl⟩:=h
   intro f hf
   obtain rfl : f = _:=by simpa using hf
   exact uf_at rfl rfl rfl ⟨_,Try.func57⟩
 · have:=h.1
   omega
 · obtain ⟨a₁,ops₁,i₁,rest₁,k₁,eRf,-⟩:=hRf
   subst eRf
   obtain ⟨c1,c2,c3⟩:=hcells A
   have hs : nst D.y σ = 0:=hs
   have hσ : σ = 0:=by
     unfold nst at hs
     repeat' split at hs
     all_goals omega
   subst hσ
   refine n57_in hn fun T hT=>?_
   refine n57_head hn h3 c1 O.u O.y c2 c3 A.res (Nat.zero_le _) hT (fun hk T' hT'=>?_) fun hk=>?_
   · exact Will.stop (nd_yield (σ:=(0 : Nat)) O hi hnC hn H A (fun b hb=>(hown b hb).1) hk hT')
   · exact Will.stop (nd_over (σ:=(0 : Nat)) O hi hnC hn H A hown hk)
 · obtain ⟨a₁,ops₁,i₁,rest₁,k₁,eRf,-⟩:=hRf
   subst eRf
   obtain ⟨c1,c2,c3⟩:=hcells A
   have hs : nst D.y σ = 1:=hs
   have hσ : 1 ≤ σ ∧ σ ≤ D.y:=by
     unfold nst at hs
     repeat' split at hs
     all_goals omega
   obtain ⟨_,T,hT,e⟩:=hl
   obtain ⟨e1,rfl⟩:=List.cons.inj e
   obtain ⟨rfl,e2,e3⟩:=at_inj e1
   obtain ⟨rfl,e4,rfl⟩:=item_inj e2
   obtain ⟨rfl,rfl⟩:=List.cons.inj e4
   rw [e3]
   have H' : CwAt C false (upd (fun _=>nst D.y σ) i 1) V:=H.congr fun j hj=>by
     obtain rfl : j = i:=by omega
     rw [upd_same]
     exact hs
   have hd : (n57o3[1]?).map (·.dst) = some (some 17):=by kernel_rfl
   have hd2 : (n57o3[1]?).bind (·.dst) = some 17:=by
     rcases ho : n57o3[1]? with _ | o
     · rw [ho] at hd; cases hd
     · rw [ho] at hd; simpa using hd
   rw [hd2]
   have hT2 : NF (C.tb i) D.yb D.mb D.cb D.rb D.kb D.eb (σ - 1) (T.setIfInBounds 17 (.tuple #[])):=⟨hT.1.put (by omega),by rw [Array.getElem?_setIfInBounds_ne (by omega)]; exact hT.2.1,by rw [Array.getElem?_setIfInBounds_ne (by omega)]; exact hT.2.2⟩
   refine mu_region_end mu_will (mu_inBlock mu_will (n57_r2 hn (by omega) hT2 fun T3 hT3=>mu_inLoop mu_will ?_))
   have e1 : σ - 1 + 1 = σ:=by omega
   rw [e1] at hT3
   refine n57_head hn h3 c1 O.u O.y c2 c3 A.res hσ.2 hT3 (fun hk T' hT'=>?_) fun hk=>?_
   · exact Will.stop (nd_yield O hi hnC hn H' A (fun b hb=>(hown b hb).1) hk hT')
   · exact Will.stop (nd_over O hi hnC hn H' A hown hk)
end
end Go.Proofs.Ytibcdikfbhmheaa

namespace Go.Proofs.Ytibcdikfbhmheaa
open Go Go.Conc Go.Proofs
open Go.ConcN (sumTo upd sumTo_upd upd_ne upd_same)
set_option linter.unusedVariables false
end Go.Proofs.Ytibcdikfbhmheaa

namespace Go.Proofs.Ytibcdikfbhmheaa
open Go Go.Conc Go.Proofs
open Go.ConcN (sumTo upd sumTo_upd upd_ne upd_same)
set_option linter.unusedVariables false
def S8 (sb g o i n lc ga p h q len rc : Nat) (la : Option Addr) (d y : Int) (w : World) : Prop:=w.cell? ⟨sb,0,none⟩ = some (.slice (some ⟨g,o,none⟩) n lc) ∧ w.cell? ⟨g,o + i,none⟩ = some (.slice (some ⟨h,q,none⟩) len rc) ∧ w.cell? ⟨ga,i,none⟩ = some (.int .i64 (p : Int)) ∧ w.cell? ⟨h,q + p * 2,none⟩ = some (.int .i64 d) ∧ w.cell? ⟨h,q + p * 2 + 1,none⟩ = some (.int .i64 y)
theorem S8.keep {sb g o i n lc ga p h q len rc : Nat} {la : Option Addr} {d y : Int} {w w' : World} (hS : S8 sb g o i n lc ga p h q len rc la d y w) (k : ∀ b,b < w.heap.size → w'.heap[b]? = w.heap[b]?) : S8 sb g o i n lc ga p h q len rc la d y w':=by
 obtain ⟨h0,h1,h2,h3,h4⟩:=hS
 exact ⟨cell_keep h0 (k _ (cell_lt h0)),cell_keep h1 (k _ (cell_lt h1)),cell_keep h2 (k _ (cell_lt h2)),cell_keep h3 (k _ (cell_lt h3)),cell_keep h4 (k _ (cell_lt h4))⟩
section
variable {V : World} {Z : Cuts} {Post : Value → World → Prop} {n lc i p sb rb g o ga ca h q len rc : Nat} {d y : Int} {ov pv : Value} {T : Array Value} {kt : List Item} {cs0 : List Frame}
end
end Go.Proofs.Ytibcdikfbhmheaa

namespace Go.Proofs.Ytibcdikfbhmheaa
open Go Go.Conc Go.Proofs
open Go.ConcN (sumTo upd sumTo_upd upd_ne upd_same)
set_option linter.unusedVariables false
section
variable {V : World} {Z : Cuts} {Post : Value → World → Prop} {n i sb rb m : Nat} {c0 c1 c2 c3 c4 c5 : Value} {ys : List Value} {T : Array Value} {kt : List Item} {cs0 : List Frame}
end
end Go.Proofs.Ytibcdikfbhmheaa
