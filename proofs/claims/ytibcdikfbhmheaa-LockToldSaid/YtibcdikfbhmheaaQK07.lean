import Derived.Test.YtibcdikfbhmheaaQK06
import Derived.Test.YtibcdikfbhmheaaB24
import Derived.Test.YtibcdikfbhmheaaB20
set_option linter.unusedSimpArgs false
set_option linter.unusedVariables false
namespace Go.Proofs.Ytibcdikfbhmheaa
open Go Go.Conc Go.Proofs
open Go.ConcN (sumTo upd sumTo_upd upd_ne upd_same)
set_option linter.unusedVariables false
structure Ld where
 n : Nat
 y : Nat
 u : Int
 lb : Nat
 mb : Nat
 sb : Nat
 cb : Nat
 hb : Nat
def Ld.X (D : Ld) (b : Nat) : Prop:=b = D.lb ∨ b = D.sb ∨ b = D.hb
structure LdOk (D : Ld) : Prop where
 u : 0 ≤ D.u ∧ D.u < 256
 y : (D.y : Int) = D.u % 9
 n : D.n ≤ 8
 mc : D.mb ≠ D.cb
 xm : ¬ D.X D.mb
 xc : ¬ D.X D.cb
 sh : D.sb ≠ D.hb
 sl : D.sb ≠ D.lb
 hl : D.hb ≠ D.lb
structure LtI (D : Ld) (ow : Nat) (q cq : List Nat) (so : Bool) (thr : Nat) (own : Nat → Prop) (V : World) (qv cv : Value) : Prop where
 mu : MuI V own D.mb 0 ow q qv
 ec : V.heap[D.cb]? = some (.cells #[cv] 102 (0,0))
 qu : Qu V 183 2 cv cq.length (wts D.mb cq)
 oc : own D.cb
 ocv : ∀ b,cv.ownBlock = some b → own b
 c1 : cv.ownBlock ≠ some D.cb
 c2 : cv.ownBlock ≠ some D.mb
 c3 : qv.ownBlock ≠ some D.cb
 es : V.heap[D.sb]? = some (.cells #[.bool so] 4 (0,0))
 eh : V.heap[D.hb]? = some (.cells #[.int .i64 (thr : Int)] 3 (0,0))
 el : V.heap[D.lb]? = some (.cells #[.int .u8 D.u] 5 (0,0))
 xo : ∀ b,D.X b → own b
 qx : ∀ b,qv.ownBlock = some b → ¬ D.X b
 cx : ∀ b,cv.ownBlock = some b → ¬ D.X b
structure Gw (C : Cw) (own : Nat → Prop) (V : World) (own' : Nat → Prop) (V' : World) : Prop where
 nrm : norm V' = V'
 sz : V.heap.size ≤ V'.heap.size
 keep : ∀ b,b < V.heap.size → ¬ own b → (∀ j,j < C.n → b ≠ C.tb j) → V'.heap[b]? = V.heap[b]?
 new : ∀ b,own' b → (own b ∨ V.heap.size ≤ b) ∧ b < V'.heap.size
 old : ∀ b,own b → own' b
structure Gs (own : Nat → Prop) (V : World) (own' : Nat → Prop) (V' : World) : Prop where
 nrm : norm V' = V'
 sz : V.heap.size ≤ V'.heap.size
 keep : ∀ b,b < V.heap.size → ¬ own b → V'.heap[b]? = V.heap[b]?
 new : ∀ b,own' b → (own b ∨ V.heap.size ≤ b) ∧ b < V'.heap.size
 old : ∀ b,own b → own' b
section
variable {C : Cw} {D : Ld} {ow thr : Nat} {q cq : List Nat} {so : Bool} {own own' own'' : Nat → Prop} {V V' V'' : World} {qv cv qv' cv' : Value}
theorem Gs.gw (h : Gs own V own' V') : Gw C own V own' V':=⟨h.nrm,h.sz,fun b hb ho _=>h.keep b hb ho,h.new,h.old⟩
theorem Gs.refl (hn : norm V = V) (h : ∀ b,own b → b < V.heap.size) : Gs own V own V:=⟨hn,Nat.le_refl _,fun _ _ _=>rfl,fun b hb=>⟨.inl hb,h b hb⟩,fun _ h=>h⟩
theorem Gs.trans (h : Gs own V own' V') (k : Gs own' V' own'' V'') : Gs own V own'' V'' :=
 ⟨k.nrm,Nat.le_trans h.sz k.sz,fun b hb ho=>(k.keep b (Nat.lt_of_lt_of_le hb h.sz) (fun e=>by rcases (h.new b e).1 with h1 | h1; exact ho h1; omega)).trans (h.keep b hb ho),fun b hb=>⟨by
   rcases (k.new b hb).1 with h1 | h1
   · exact (h.new b h1).1
   · right; have:=h.sz; omega,(k.new b hb).2⟩,fun b hb=>k.old b (h.old b hb)⟩
theorem Gw.trans (h : Gw C own V own' V') (k : Gw C own' V' own'' V'') : Gw C own V own'' V'' :=
 ⟨k.nrm,Nat.le_trans h.sz k.sz,fun b hb ho ht=>(k.keep b (Nat.lt_of_lt_of_le hb h.sz) (fun e=>by rcases (h.new b e).1 with h1 | h1; exact ho h1; omega) ht).trans (h.keep b hb ho ht),fun b hb=>⟨by
   rcases (k.new b hb).1 with h1 | h1
   · exact (h.new b h1).1
   · right; have:=h.sz; omega,(k.new b hb).2⟩,fun b hb=>k.old b (h.old b hb)⟩
theorem Gs.set {b k : Nat} {v : Value} (hn : norm V = V) (h : ∀ b,own b → b < V.heap.size) (hb : own b) : Gs own V own (V.setCell ⟨b,k,none⟩ v) :=
 ⟨norm_set hn _ _,by simp [World.setCell],fun x _ hx=>set_off _ _ (fun e=>hx (e ▸ hb)),fun x hx=>⟨.inl hx,by simpa [World.setCell] using h x hx⟩,fun _ h=>h⟩
theorem Gs.far (h : Gs own V own' V') (hf : ∀ b,own b → ¬ C.has b) (hl : ∀ b,C.has b → b < V.heap.size) : ∀ b,own' b → ¬ C.has b:=fun b hb hh=>by
 rcases (h.new b hb).1 with h1 | h1
 · exact hf b h1 hh
 · have:=hl b hh; omega
theorem Gs.has (h : Gs own V own' V') (hf : ∀ b,own b → ¬ C.has b) (hl : ∀ b,C.has b → b < V.heap.size) : ∀ b,C.has b → V'.heap[b]? = V.heap[b]?:=fun b hb=>h.keep b (hl b hb) fun e=>hf b e hb
def grow (own : Nat → Prop) (V V' : World) (b : Nat) : Prop:=own b ∨ (V.heap.size ≤ b ∧ b < V'.heap.size)
theorem setc {V : World} {b : Nat} {v u : Value} {t : TypeId} (h : V.heap[b]? = some (.cells #[v] t (0,0))) : (V.setCell ⟨b,0,none⟩ u).heap[b]? = some (.cells #[u] t (0,0)):=by
 rw [setCell_heap,if_pos rfl,h]
 simp
theorem LtI.frame (h : LtI D ow q cq so thr own V qv cv) (hk : ∀ b,own b → V'.heap[b]? = V.heap[b]?) : LtI D ow q cq so thr own V' qv cv :=
 ⟨h.mu.keep hk,(hk _ h.oc).trans h.ec,h.qu.keep fun b hb=>hk b (h.ocv b hb),h.oc,h.ocv,h.c1,h.c2,h.c3,(hk _ (h.xo _ (.inr (.inl rfl)))).trans h.es,(hk _ (h.xo _ (.inr (.inr rfl)))).trans h.eh,(hk _ (h.xo _ (.inl rfl))).trans h.el,h.xo,h.qx,h.cx⟩
theorem LtI.take (O : LdOk D) (h : LtI D ow q cq so thr own V qv cv) (x : Nat) : LtI D x q cq so thr own (V.setCell ⟨D.mb,1,none⟩ (.int .i64 (x : Nat))) qv cv:=by
 have hoff : ∀ b,b ≠ D.mb → (V.setCell ⟨D.mb,1,none⟩ (.int .i64 (x : Nat))).heap[b]? = V.heap[b]?:=fun b hb=>set_off _ _ hb
 have hX : ∀ b,D.X b → b ≠ D.mb:=fun b hb e=>O.xm (e ▸ hb)
 exact ⟨h.mu.take x,(hoff _ (fun e=>O.mc e.symm)).trans h.ec,h.qu.keep fun b hb=>hoff b (fun e=>h.c2 (e ▸ hb)),h.oc,h.ocv,h.c1,h.c2,h.c3,(hoff _ (hX _ (.inr (.inl rfl)))).trans h.es,(hoff _ (hX _ (.inr (.inr rfl)))).trans h.eh,(hoff _ (hX _ (.inl rfl))).trans h.el,h.xo,h.qx,h.cx⟩
theorem LtI.setX (O : LdOk D) (h : LtI D ow q cq so thr own V qv cv) {b : Nat} {v : Value} (hb : D.X b) {so' : Bool} {thr' : Nat} (e1 : (V.setCell ⟨b,0,none⟩ v).heap[D.sb]? = some (.cells #[.bool so'] 4 (0,0))) (e2 : (V.setCell ⟨b,0,none⟩ v).heap[D.hb]? = some (.cells #[.int .i64 (thr' : Int)] 3 (0,0))) (e3 : b ≠ D.lb) : LtI D ow q cq so' thr' own (V.setCell ⟨b,0,none⟩ v) qv cv:=by
 have hoff : ∀ c,c ≠ b → (V.setCell ⟨b,0,none⟩ v).heap[c]? = V.heap[c]?:=fun c hc=>set_off _ _ hc
 exact ⟨h.mu.keep2 (hoff _ (fun e=>O.xm (by rw [show D.mb = b from e]; exact hb))) fun c hc=>hoff c (fun e=>h.qx c hc (e ▸ hb)),(hoff _ (fun e=>O.xc (by rw [show D.cb = b from e]; exact hb))).trans h.ec,h.qu.keep fun c hc=>hoff c (fun e=>h.cx c hc (e ▸ hb)),h.oc,h.ocv,h.c1,h.c2,h.c3,e1,e2,(hoff _ (Ne.symm e3)).trans h.el,h.xo,h.qx,h.cx⟩
theorem LtI.tell (O : LdOk D) (h : LtI D ow q cq so thr own V qv cv) : LtI D ow q cq true thr own (V.setCell ⟨D.sb,0,none⟩ (.bool true)) qv cv :=
 h.setX O (.inr (.inl rfl)) (setc h.es) ((set_off _ _ (fun e=>O.sh e.symm)).trans h.eh) O.sl
theorem LtI.more (O : LdOk D) (h : LtI D ow q cq so thr own V qv cv) : LtI D ow q cq so (thr + 1) own (V.setCell ⟨D.hb,0,none⟩ (.int .i64 ((thr + 1 : Nat) : Int))) qv cv :=
 h.setX O (.inr (.inr rfl)) ((set_off _ _ O.sh).trans h.es) (setc h.eh) O.hl
theorem LtI.push (O : LdOk D) (h : LtI D ow q cq so thr own V qv cv) (hlt : ∀ b,own b → b < V.heap.size) {x : Nat} (P : Pu V D.mb 0 qv q.length (ints q) x V' qv') : LtI D ow (q ++ [x]) cq so thr (grow own V V') V' qv' cv ∧ Gs own V (grow own V V') V':=by
 have hoff : ∀ b,own b → b ≠ D.mb → qv.ownBlock ≠ some b → V'.heap[b]? = V.heap[b]?:=fun b hb h1 h2=>P.keep b (hlt b hb) h1 h2
 have hX : ∀ b,D.X b → V'.heap[b]? = V.heap[b]?:=fun b hb=>hoff b (h.xo b hb) (fun e=>O.xm (e ▸ hb)) (fun e=>h.qx b e hb)
 have hq : ∀ b,qv'.ownBlock = some b → qv.ownBlock = some b ∨ V.heap.size ≤ b:=fun b hb=>by
   rcases P.own with h1 | ⟨c,h1,h2⟩
   · exact .inl (h1 ▸ hb)
   · rw [h1] at hb
     have:=Option.some.inj hb
     right; omega
 refine ⟨⟨h.mu.push P (fun b hb=>.inl hb) (fun b h1 h2=>.inr ⟨h1,h2⟩),(hoff _ h.oc (fun e=>O.mc e.symm) h.c3).trans h.ec,h.qu.keep fun b hb=>hoff b (h.ocv b hb) (fun e=>h.c2 (e ▸ hb)) (qu_ne h.qu h.mu.qu (by decide) hb),.inl h.oc,fun b hb=>.inl (h.ocv b hb),h.c1,h.c2,fun e=>?_,(hX _ (.inr (.inl rfl))).trans h.es,(hX _ (.inr (.inr rfl))).trans h.eh,(hX _ (.inl rfl)).trans h.el,fun b hb=>.inl (h.xo b hb),fun b hb hx=>?_,h.cx⟩,⟨P.nrm,P.sz,fun b hb ho=>P.keep b hb (fun e=>ho (e ▸ h.mu.mown)) (fun e=>ho (h.mu.qown b e)),fun b hb=>?_,fun b hb=>.inl hb⟩⟩
 · rcases hq _ e with h1 | h1
   · exact h.c3 h1
   · have:=hlt _ h.oc; omega
 · rcases hq b hb with h1 | h1
   · exact h.qx b h1 hx
   · have:=hlt _ (h.xo b hx); omega
 · rcases hb with h1 | h1
   · exact ⟨.inl h1,Nat.lt_of_lt_of_le (hlt b h1) P.sz⟩
   · exact ⟨.inr h1.1,h1.2⟩
theorem LtI.wait (O : LdOk D) (h : LtI D ow q cq so thr own V qv cv) (hlt : ∀ b,own b → b < V.heap.size) {x : Nat} (P : PuW V D.cb cv cq.length (wts D.mb cq) x (.pointer (some ⟨D.mb,0,none⟩)) V' cv') : LtI D ow q (cq ++ [x]) so thr (grow own V V') V' qv cv' ∧ Gs own V (grow own V V') V':=by
 have hoff : ∀ b,own b → b ≠ D.cb → cv.ownBlock ≠ some b → V'.heap[b]? = V.heap[b]?:=fun b hb h1 h2=>P.keep b (hlt b hb) h1 h2
 have hX : ∀ b,D.X b → V'.heap[b]? = V.heap[b]?:=fun b hb=>hoff b (h.xo b hb) (fun e=>O.xc (e ▸ hb)) (fun e=>h.cx b e hb)
 have hq : ∀ b,cv'.ownBlock = some b → cv.ownBlock = some b ∨ V.heap.size ≤ b:=fun b hb=>by
   rcases P.own with h1 | ⟨c,h1,h2⟩
   · exact .inl (h1 ▸ hb)
   · rw [h1] at hb
     have:=Option.some.inj hb
     right; omega
 have hm : MuI V' own D.mb 0 ow q qv:=h.mu.keep2 (hoff _ h.mu.mown O.mc h.c2) fun b hb=>hoff b (h.mu.qown b hb) (fun e=>h.c3 (e ▸ hb)) (qu_ne h.mu.qu h.qu (by decide) hb)
 refine ⟨⟨hm.grow fun b hb _=>.inl hb,P.c,?_,.inl h.oc,fun b hb=>?_,fun e=>?_,fun e=>?_,h.c3,(hX _ (.inr (.inl rfl))).trans h.es,(hX _ (.inr (.inr rfl))).trans h.eh,(hX _ (.inl rfl)).trans h.el,fun b hb=>.inl (h.xo b hb),h.qx,fun b hb hx=>?_⟩,⟨P.nrm,P.sz,fun b hb ho=>P.keep b hb (fun e=>ho (e ▸ h.oc)) (fun e=>ho (h.ocv b e)),fun b hb=>?_,fun b hb=>.inl hb⟩⟩
 · rw [wts_snoc,List.length_append,List.length_singleton]
   exact P.qu
 · rcases hq b hb with h1 | h1
   · exact .inl (h.ocv b h1)
   · exact .inr ⟨h1,P.qu.at_ hb⟩
 · rcases hq _ e with h1 | h1
   · exact h.c1 h1
   · have:=hlt _ h.oc; omega
 · rcases hq _ e with h1 | h1
   · exact h.c2 h1
   · have:=hlt _ h.mu.mown; omega
 · rcases hq b hb with h1 | h1
   · exact h.cx b h1 hx
   · have:=hlt _ (h.xo b hx); omega
 · rcases hb with h1 | h1
   · exact ⟨.inl h1,Nat.lt_of_lt_of_le (hlt b h1) P.sz⟩
   · exact ⟨.inr h1.1,h1.2⟩
theorem LtI.un (O : LdOk D) (h : LtI D ow q cq so thr own V qv cv) (hlt : ∀ b,own b → b < V.heap.size) (hfar : ∀ b,own b → ¬ C.has b) {st : Nat → Int} (U : UnP C st V own D.mb 0 q qv V' qv') : LtI D (unOw q) q.tail cq so thr own V' qv' cv ∧ Gw C own V own V':=by
 have hoff : ∀ b,own b → b ≠ D.mb → V'.heap[b]? = V.heap[b]?:=fun b hb hne=>U.keep b hne fun j hj e=>hfar b hb (.inr (.inr ⟨j,hj,e⟩))
 have hX : ∀ b,D.X b → V'.heap[b]? = V.heap[b]?:=fun b hb=>hoff b (h.xo b hb) (fun e=>O.xm (e ▸ hb))
 refine ⟨⟨U.mu,(hoff _ h.oc (fun e=>O.mc e.symm)).trans h.ec,h.qu.keep fun b hb=>hoff b (h.ocv b hb) (fun e=>h.c2 (e ▸ hb)),h.oc,h.ocv,h.c1,h.c2,by rw [U.qo]; exact h.c3,(hX _ (.inr (.inl rfl))).trans h.es,(hX _ (.inr (.inr rfl))).trans h.eh,(hX _ (.inl rfl)).trans h.el,h.xo,fun b hb=>h.qx b (by rw [← U.qo]; exact hb),h.cx⟩,⟨U.nrm,by rw [U.sz]; exact Nat.le_refl _,fun b hb ho ht=>U.keep b (fun e=>ho (e ▸ h.mu.mown)) ht,fun b hb=>⟨.inl hb,by rw [U.sz]; exact hlt b hb⟩,fun _ h=>h⟩⟩
theorem LtI.bc (O : LdOk D) (h : LtI D ow q cq so thr own V qv cv) : BcI V qv cv D.mb D.cb ow q qv cq cv V :=
 ⟨h.mu.c0,h.mu.z0,h.mu.c1,h.mu.z1,h.mu.qu,cell_of h.ec (by simp),by simp [World.frozen?,h.ec],h.qu,O.mc,h.mu.qmb,h.c3,h.c2,h.c1,Nat.le_refl _,fun _ _ _ _ _=>rfl,.inl rfl,rfl,h.ec⟩
theorem LtI.told (O : LdOk D) (h : LtI D ow q cq so thr own V qv cv) (hlt : ∀ b,own b → b < V.heap.size) (hn' : norm V' = V') {q' : List Nat} (B : BcI V qv cv D.mb D.cb ow q' qv' [] cv' V') : LtI D ow q' [] so thr (grow own V V') V' qv' cv' ∧ Gs own V (grow own V V') V':=by
 have hoff : ∀ b,own b → b ≠ D.mb → b ≠ D.cb → qv.ownBlock ≠ some b → V'.heap[b]? = V.heap[b]?:=fun b hb h1 h2 h3=>B.keep b (hlt b hb) h1 h2 h3
 have hX : ∀ b,D.X b → V'.heap[b]? = V.heap[b]?:=fun b hb=>hoff b (h.xo b hb) (fun e=>O.xm (e ▸ hb)) (fun e=>O.xc (e ▸ hb)) (fun e=>h.qx b e hb)
 have hq : ∀ b,qv'.ownBlock = some b → qv.ownBlock = some b ∨ V.heap.size ≤ b:=fun b hb=>by
   rcases B.qo with h1 | ⟨c,h1,h2⟩
   · exact .inl (h1 ▸ hb)
   · rw [h1] at hb
     have:=Option.some.inj hb
     right; omega
 refine ⟨⟨⟨B.c0,B.z0,B.c1,B.z1,B.qu,fun b hb=>?_,B.qm,.inl h.mu.mown⟩,B.ec,B.cu,.inl h.oc,fun b hb=>.inl (h.ocv b (by rw [← B.co]; exact hb)),B.cc,B.cm,B.qc,(hX _ (.inr (.inl rfl))).trans h.es,(hX _ (.inr (.inr rfl))).trans h.eh,(hX _ (.inl rfl)).trans h.el,fun b hb=>.inl (h.xo b hb),fun b hb hx=>?_,fun b hb=>h.cx b (by rw [← B.co]; exact hb)⟩,⟨hn',B.sz,fun b hb ho=>B.keep b hb (fun e=>ho (e ▸ h.mu.mown)) (fun e=>ho (e ▸ h.oc)) (fun e=>ho (h.mu.qown b e)),fun b hb=>?_,fun b hb=>.inl hb⟩⟩
 · rcases hq b hb with h1 | h1
   · exact .inl (h.mu.qown b h1)
   · exact .inr ⟨h1,B.qu.at_ hb⟩
 · rcases hq b hb with h1 | h1
   · exact h.qx b h1 hx
   · have:=hlt _ (h.xo b hx); omega
 · rcases hb with h1 | h1
   · exact ⟨.inl h1,Nat.lt_of_lt_of_le (hlt b h1) B.sz⟩
   · exact ⟨.inr h1.1,h1.2⟩
end
end Go.Proofs.Ytibcdikfbhmheaa

namespace Go.Proofs.Ytibcdikfbhmheaa
open Go Go.Conc Go.Proofs
open Go.ConcN (sumTo upd sumTo_upd upd_ne upd_same)
set_option linter.unusedVariables false
def LtInv (D : Ld) (s : Lt) (own : Nat → Prop) (V : World) : Prop:=Lt.Ok D.n D.y s ∧ ∃ qv cv,LtI D s.ow s.q s.cq s.told s.thr own V qv cv
def tF (D : Ld) (tb : Nat) (T : Array Value) : Prop:=Fg 22 [(0,.pointer (some ⟨tb,0,none⟩)),(1,.pointer (some ⟨D.lb,0,none⟩)),(2,.pointer (some ⟨D.mb,0,none⟩)),(3,.pointer (some ⟨D.sb,0,none⟩)),(4,.pointer (some ⟨D.cb,0,none⟩))] T
def tFk (D : Ld) (tb k : Nat) (T : Array Value) : Prop:=Fg 22 [(0,.pointer (some ⟨tb,0,none⟩)),(1,.pointer (some ⟨D.lb,0,none⟩)),(2,.pointer (some ⟨D.mb,0,none⟩)),(3,.pointer (some ⟨D.sb,0,none⟩)),(4,.pointer (some ⟨D.cb,0,none⟩)),(6,.int .i64 (k : Int))] T
def wF (D : Ld) (tb : Nat) (T : Array Value) : Prop:=Fg 24 [(0,.pointer (some ⟨tb,0,none⟩)),(1,.pointer (some ⟨D.mb,0,none⟩)),(2,.pointer (some ⟨D.sb,0,none⟩)),(3,.pointer (some ⟨D.cb,0,none⟩)),(4,.pointer (some ⟨D.hb,0,none⟩))] T
def wFk (D : Ld) (tb k : Nat) (T : Array Value) : Prop:=Fg 24 [(0,.pointer (some ⟨tb,0,none⟩)),(1,.pointer (some ⟨D.mb,0,none⟩)),(2,.pointer (some ⟨D.sb,0,none⟩)),(3,.pointer (some ⟨D.cb,0,none⟩)),(4,.pointer (some ⟨D.hb,0,none⟩)),(6,.int .i64 (k : Int))] T
def LtLoc (C : Cw) (D : Ld) (s : Lt) (i : Nat) (cs : List Frame) : Prop :=
 (i = 0 → (1 ≤ s.pc 0 ∧ s.pc 0 ≤ D.y + 1) ∧ (s.pc 0 ≤ D.y → ∃ T,tFk D (C.tb 0) (s.pc 0 - 1) T ∧ cs = [tlF3 T]) ∧ (s.pc 0 = D.y + 1 → ∃ f T,LkY D.mb 0 (C.tp 0) f ∧ tF D (C.tb 0) T ∧ cs = [f,tlF4 T])) ∧
 (1 ≤ i → (1 ≤ s.pc i ∧ s.pc i ≤ 3) ∧ (s.pc i = 1 → ∃ f T,LkY D.mb 0 (C.tp i) f ∧ wF D (C.tb i) T ∧ cs = [f,wF0 T]) ∧ (s.pc i = 2 → ∃ f g T,RsP D.mb 0 (C.tp i) f ∧ LkR g ∧ wF D (C.tb i) T ∧ cs = [f,g,wF0 T]) ∧ (s.pc i = 3 → ∃ f g T,RsP D.mb 0 (C.tp i) f ∧ WtR g ∧ wFk D (C.tb i) 0 T ∧ cs = [f,g,wF4 T]))
open Classical in
noncomputable def Ult (D : Ld) (C : Cw) : Usr:={ S:=Lt,inv:=LtInv D,st:=Lt.st D.y,loc:=LtLoc C D,turn:=fun s i=>if Lt.Ok D.n D.y s ∧ i ≤ D.n ∧ (Lt.st D.y s i = 0 ∨ Lt.st D.y s i = 1) then Lt.go D.y s i else s,fid:=fun i=>if i = 0 then 50 else 48,first:=fun _=>#[],caps:=fun i=>if i = 0 then #[bq D.lb,bq D.mb,bq D.sb,bq D.cb] else #[bq D.mb,bq D.sb,bq D.cb,bq D.hb] }
section
variable {D : Ld} {C : Cw} {E : Env} {i : Nat} {own own' : Nat → Prop} {V V' : World} {s s' : Lt} {qv cv : Value} {a₁ : Act} {ops₁ : Array Oper} {i₁ : Nat} {rest₁ : List Nat} {k₁ : List Item} {Rf : Frame}
theorem lt_end (hD : C.n = D.n + 1) (hi : i < C.n) (hok : Lt.Ok D.n D.y s) (hs : Lt.st D.y s i = 0 ∨ Lt.st D.y s i = 1) (hgo : Lt.go D.y s i = s') (W : Gw C own V own' V') (I : LtI D s'.ow s'.q s'.cq s'.told s'.thr own' V' qv cv) {st' : Nat → Int} (H : CwAt C false st' V') (hst : ∀ j,j < C.n → st' j = upd (Lt.st D.y s') i 1 j) {g : Goroutine}
   (hg : (Lt.st D.y s' i = 1 ∧ ∃ fr cs,g = G (Frame.enter Try.prog 24 #[C.tp i] .normal) (fr :: cs ++ [Rf,rootF]) ∧ LtLoc C D s' i (fr :: cs)) ∨ (Lt.st D.y s' i = 2 ∧ ∃ fr cs,g = G (Frame.enter Try.prog 25 #[C.tp i] .normal) (fr :: cs ++ [Rf,rootF]) ∧ LtLoc C D s' i (fr :: cs)) ∨ (Lt.st D.y s' i = 3 ∧ ∃ v a ops i₀ rest k,Rf = (baseD 141).at a (.inRegion ops (i₀ :: rest) :: k) ∧ g = G ((baseD 141).at (a.put ((ops[i₀]?).bind (·.dst)) v) (.inRegion ops rest :: k)) [rootF])) :
   TEnd C (Ult D C) s i own V Rf g V':=by
 have hturn : (Ult D C).turn s i = s':=(if_pos ⟨hok,by omega,hs⟩).trans hgo
 have hok' : Lt.Ok D.n D.y s':=by rw [← hgo]; exact Lt.ok_go hok (by omega) hs
 refine ⟨W.nrm,W.sz,W.keep,⟨own',?_,W.new⟩,?_,?_⟩
 · rw [hturn]
   exact ⟨hok',qv,cv,I⟩
 · rw [hturn]
   exact H.congr hst
 · rw [hturn]
   rcases hg with ⟨h1,fr,cs,h2,h3⟩ | ⟨h1,fr,cs,h2,h3⟩ | ⟨h1,h2⟩
   · exact .inl ⟨h1,fr,cs,h2,h3⟩
   · exact .inr (.inl ⟨h1,fr,cs,h2,h3⟩)
   · exact .inr (.inr ⟨h1,.inl h2⟩)
theorem st_same (hp : ∀ j,j ≠ i → s'.pc j = s.pc j) (ho : s'.ow = s.ow) {y : Nat} (j : Nat) : upd (Lt.st y s) i 1 j = upd (Lt.st y s') i 1 j:=by
 by_cases e : j = i
 · subst e; rw [upd_same,upd_same]
 · rw [upd_ne _ _ e,upd_ne _ _ e]
   unfold Lt.st
   rw [ho]
   by_cases e0 : j = 0
   · subst e0
     rw [if_pos rfl,if_pos rfl,hp 0 e]
   · rw [if_neg e0,if_neg e0,hp j e]
theorem st_un {y : Nat} {q : List Nat} (how : s.ow = 0 ∨ s.ow = i + 1) (hq : ∀ x ∈ q,1 ≤ x ∧ (s.pc x = 2 ∨ s.pc x = 3) ∧ x ≠ i) (hp : ∀ j,j ≠ i → s'.pc j = s.pc j) (ho : s'.ow = unOw q) (j : Nat) : unSt (upd (Lt.st y s) i 1) q j = upd (Lt.st y s') i 1 j:=by
 cases q with
 | nil =>
   show upd (Lt.st y s) i 1 j = _
   by_cases e : j = i
   · subst e; rw [upd_same,upd_same]
   · rw [upd_ne _ _ e,upd_ne _ _ e]
     unfold Lt.st
     rw [ho]
     by_cases e0 : j = 0
     · subst e0; rw [if_pos rfl,if_pos rfl,hp 0 e]
     · rw [if_neg e0,if_neg e0,hp j e]
       have h1 : ¬ s.ow = j + 1:=fun h=>by omega
       have h2 : ¬ unOw [] = j + 1:=fun h=>by have : 0 = j + 1:=h; omega
       rw [if_neg h1,if_neg h2]
 | cons x l =>
   obtain ⟨x1,x2,x3⟩:=hq x List.mem_cons_self
   have hx2 : upd (Lt.st y s) i 1 x = 2:=by
     rw [upd_ne _ _ x3,Lt.st_waiter x1,if_neg (by omega),if_neg (by omega),if_pos (by omega),if_neg (by omega)]
   show wk (upd (Lt.st y s) i 1) x j = _
   unfold wk
   rw [if_pos hx2]
   by_cases ex : j = x
   · subst ex
     rw [upd_same,upd_ne _ _ x3,Lt.st_waiter x1,hp j x3,ho]
     rw [if_neg (by omega),if_neg (by omega),if_pos (by omega),if_pos (Lt.unOw_cons j l)]
   · rw [upd_ne _ _ ex]
     by_cases e : j = i
     · subst e; rw [upd_same,upd_same]
     · rw [upd_ne _ _ e,upd_ne _ _ e]
       unfold Lt.st
       rw [ho]
       by_cases e0 : j = 0
       · subst e0; rw [if_pos rfl,if_pos rfl,hp 0 e]
       · rw [if_neg e0,if_neg e0,hp j e]
         have h1 : ¬ s.ow = j + 1:=fun h=>by omega
         have h2 : ¬ unOw (x :: l) = j + 1:=fun h=>by have : x + 1 = j + 1:=h; omega
         rw [if_neg h1,if_neg h2]
theorem lt_out (hO : CwOk E C) (O : LdOk D) (hD : C.n = D.n + 1) (hi : i < C.n) (h1 : 1 ≤ i) (hok : Lt.Ok D.n D.y s) (hs : Lt.st D.y s i = 0 ∨ Lt.st D.y s i = 1) (hgo : Lt.go D.y s i = { s with pc:=upd s.pc i 4,thr:=s.thr + 1,ow:=unOw s.q,q:=s.q.tail }) (how : s.ow = 0 ∨ s.ow = i + 1) (hiq : i ∉ s.q) {own2 : Nat → Prop} {V2 : World}
   (I : LtI D (i + 1) s.q s.cq s.told (s.thr + 1) own2 V2 qv cv) (W : Gs own V own2 V2) (H : CwAt C false (upd (Lt.st D.y s) i 1) V2) (L : LsV C V2) (hfar : ∀ b,own2 b → ¬ C.has b) {T : Array Value} (hT : wF D (C.tb i) T) :
   Will Try.prog false E.Z (TEnd C (Ult D C) s i own V ((baseD 141).at a₁ (.inRegion ops₁ (i₁ :: rest₁) :: k₁))) (G (Frame.enter Try.prog 46 #[.pointer (some ⟨D.mb,0,none⟩),.pointer (some ⟨C.tb i,0,none⟩)] .normal) (wF7 T :: [(baseD 141).at a₁ (.inRegion ops₁ (i₁ :: rest₁) :: k₁),rootF])) V2:=by
 have hn8:=O.n
 have hlt2 : ∀ b,own2 b → b < V2.heap.size:=fun b hb=>(W.new b hb).2
 refine will_unlock (C:=C) (mo:=0) W.nrm hO.tbi (fun a ha=>hO.cbt ha) hi (by omega) H L I.mu (fun x hx=>by have:=(hok.w3 x hx).2.1; omega) hfar fun V3 qv3 U=>?_
 obtain ⟨I3,W3⟩:=I.un O hlt2 hfar U
 unfold wF7
 rw [Frame.finish_at]
 refine w48_over hT ?_
 refine Will.stop (lt_end hD hi hok hs hgo (W.gw.trans W3) I3 U.cw (fun j hj=>?_) (.inr (.inr ⟨?_,_,a₁,ops₁,i₁,rest₁,k₁,rfl,rfl⟩)))
 · exact st_un how (fun x hx=>by
     obtain ⟨x1,_,x3,_⟩:=hok.w3 x hx
     exact ⟨x1,x3,fun e=>hiq (e ▸ hx)⟩) (fun j hj=>upd_ne _ _ hj) rfl j
 · rw [Lt.st_waiter h1]
   have e4 : ({ s with pc:=upd s.pc i 4,thr:=s.thr + 1,ow:=unOw s.q,q:=s.q.tail } : Lt).pc i = 4:=upd_same _ _ _
   rw [e4]
   rfl
end
end Go.Proofs.Ytibcdikfbhmheaa

namespace Go.Proofs.Ytibcdikfbhmheaa
open Go Go.Conc Go.Proofs
open Go.ConcN (sumTo upd sumTo_upd upd_ne upd_same)
set_option linter.unusedVariables false
theorem far_ofL {C : Cw} {own : Nat → Prop} {V : World} (hown : ∀ b,own b → b < V.heap.size ∧ b ≠ C.cb ∧ ∀ j,j < C.n → b ≠ C.tb j) (hlb : ∀ b,own b → b ≠ C.lb) : ∀ b,own b → ¬ C.has b:=fun b hb h=>by
 rcases h with h | h | ⟨j,hj,h⟩
 · exact (hown b hb).2.1 h
 · exact hlb b hb h
 · exact (hown b hb).2.2 j hj h
theorem uf_wtr {f : Frame} (h : WtR f) : UF f:=by
 obtain ⟨T,_,rfl⟩:=h
 exact uf_at rfl rfl rfl ⟨_,Try.func49⟩
structure Tn (E : Env) (C : Cw) (D : Ld) (s : Lt) (i : Nat) (own : Nat → Prop) (V : World) (qv cv : Value) : Prop where
 hO : CwOk E C
 O : LdOk D
 hD : C.n = D.n + 1
 hi : i < C.n
 hn : norm V = V
 hok : Lt.Ok D.n D.y s
 hs : Lt.st D.y s i = 0 ∨ Lt.st D.y s i = 1
 I : LtI D s.ow s.q s.cq s.told s.thr own V qv cv
 H : CwAt C false (upd (Lt.st D.y s) i 1) V
 L : LsV C V
 lt : ∀ b,own b → b < V.heap.size
 far : ∀ b,own b → ¬ C.has b
section
variable {D : Ld} {C : Cw} {E : Env} {i : Nat} {own : Nat → Prop} {V : World} {s s' : Lt} {qv cv : Value} {a₁ : Act} {ops₁ : Array Oper} {i₁ : Nat} {rest₁ : List Nat} {k₁ : List Item}
theorem Tn.y9 (t : Tn E C D s i own V qv cv) : D.y < 9:=by have:=t.O.y; omega
theorem Tn.hlt (t : Tn E C D s i own V qv cv) : ∀ b,C.has b → b < V.heap.size:=has_lt t.H t.L (by have:=t.hi; omega)
theorem Tn.n1 (t : Tn E C D s i own V qv cv) : C.n < 1000:=by have:=t.hD; have:=t.O.n; omega
theorem lt_still (t : Tn E C D s i own V qv cv) (hgo : Lt.go D.y s i = s') (e1 : s'.ow = s.ow) (e2 : s'.q = s.q) (e3 : s'.cq = s.cq) (e4 : s'.told = s.told) (e5 : s'.thr = s.thr) (hp : ∀ j,j ≠ i → s'.pc j = s.pc j) {g : Goroutine} {Rf : Frame}
   (hg : Lt.st D.y s' i = 1 ∧ ∃ fr cs,g = G (Frame.enter Try.prog 24 #[C.tp i] .normal) (fr :: cs ++ [Rf,rootF]) ∧ LtLoc C D s' i (fr :: cs)) : TEnd C (Ult D C) s i own V Rf g V :=
 lt_end t.hD t.hi t.hok t.hs hgo (Gs.refl t.hn t.lt).gw (by rw [e1,e2,e3,e4,e5]; exact t.I) t.H (fun j _=>st_same hp e1 j) (.inl hg)
theorem go_yield (h : s.pc 0 ≤ D.y) : Lt.go D.y s 0 = { s with pc:=upd s.pc 0 (s.pc 0 + 1) }:=by unfold Lt.go; rw [if_pos rfl,if_pos h]
theorem go_tell (h : ¬ s.pc 0 ≤ D.y) : Lt.go D.y s 0 = { s with pc:=upd s.pc 0 (D.y + 2),told:=true,cq:=[],ow:=unOw (s.q ++ s.cq),q:=(s.q ++ s.cq).tail }:=by unfold Lt.go; rw [if_pos rfl,if_neg h]
theorem go_begin (hi : i ≠ 0) (h : s.pc i = 0) : Lt.go D.y s i = { s with pc:=upd s.pc i 1 }:=by unfold Lt.go; rw [if_neg hi,if_pos h]
theorem go_queue (hi : i ≠ 0) (h : s.pc i = 1) (hf : ¬ (s.ow = 0 ∧ s.q = [])) : Lt.go D.y s i = { s with pc:=upd s.pc i 2,q:=s.q ++ [i] }:=by unfold Lt.go; rw [if_neg hi,if_neg (by omega),if_pos ⟨h,hf⟩]
theorem go_over (hi : i ≠ 0) (h : s.pc i ≠ 0) (hf : ¬ (s.pc i = 1 ∧ ¬ (s.ow = 0 ∧ s.q = []))) (ht : s.told = true) : Lt.go D.y s i = { s with pc:=upd s.pc i 4,thr:=s.thr + 1,ow:=unOw s.q,q:=s.q.tail }:=by unfold Lt.go; rw [if_neg hi,if_neg h,if_neg hf,if_pos ht]
theorem go_wait (hi : i ≠ 0) (h : s.pc i ≠ 0) (hf : ¬ (s.pc i = 1 ∧ ¬ (s.ow = 0 ∧ s.q = []))) (ht : s.told = false) : Lt.go D.y s i = { s with pc:=upd s.pc i 3,cq:=s.cq ++ [i] }:=by unfold Lt.go; rw [if_neg hi,if_neg h,if_neg hf,if_neg (by rw [ht]; decide)]
theorem tn_yield (t : Tn E C D s 0 own V qv cv) {k : Nat} (hk : s.pc 0 = k) (hky : k < D.y) {T : Array Value} (hT : tFk D (C.tb 0) k T) {Rf : Frame} :
   TEnd C (Ult D C) s 0 own V Rf (G (Frame.enter Try.prog 24 #[C.tp 0] .normal) [tlF3 T,Rf,rootF]) V:=by
 have hp : ({ s with pc:=upd s.pc 0 (s.pc 0 + 1) } : Lt).pc 0 = k + 1:=by
   show upd s.pc 0 (s.pc 0 + 1) 0 = _
   rw [upd_same,hk]
 refine lt_still t (go_yield (by omega)) rfl rfl rfl rfl rfl (fun j hj=>upd_ne _ _ hj) ⟨?_,tlF3 T,[],rfl,fun _=>⟨?_,fun _=>⟨T,?_,rfl⟩,fun e=>?_⟩,fun h=>by omega⟩
 · rw [Lt.st_teller,hp,if_neg (by omega),if_pos (by omega)]
 · rw [hp]; omega
 · rw [hp]; exact hT
 · rw [hp] at e; omega
theorem tn_asks (t : Tn E C D s 0 own V qv cv) (hk : s.pc 0 = D.y) {T : Array Value} (hT : tF D (C.tb 0) T) {Rf : Frame} :
   Will Try.prog false E.Z (TEnd C (Ult D C) s 0 own V Rf) (G (Frame.enter Try.prog 45 #[.pointer (some ⟨D.mb,0,none⟩),.pointer (some ⟨C.tb 0,0,none⟩)] .normal) [tlF4 T,Rf,rootF]) V:=by
 have hne : s.ow ≠ 0 + 1:=fun e=>by have:=(t.hok.w2 0 (Nat.zero_le _) e).1; omega
 refine lock_in (C:=C) (mo:=0) t.hn t.hi t.n1 t.H t.I.mu.c1 hne fun f hf=>Will.stop ?_
 have hp : ({ s with pc:=upd s.pc 0 (s.pc 0 + 1) } : Lt).pc 0 = D.y + 1:=by
   show upd s.pc 0 (s.pc 0 + 1) 0 = _
   rw [upd_same,hk]
 refine lt_still t (go_yield (by omega)) rfl rfl rfl rfl rfl (fun j hj=>upd_ne _ _ hj) ⟨?_,f,[tlF4 T],rfl,fun _=>⟨?_,fun e=>?_,fun _=>⟨f,T,hf,hT,rfl⟩⟩,fun h=>by omega⟩
 · rw [Lt.st_teller,hp,if_neg (by omega),if_pos (by omega)]
 · rw [hp]; omega
 · rw [hp] at e; omega
theorem tn_tell (t : Tn E C D s 0 own V qv cv) (hk : s.pc 0 = D.y + 1) {T : Array Value} (hT : tF D (C.tb 0) T) {b : Frame} {a : Act} {ops : Array Oper} {j : Nat} {rest : List Nat} {k : List Item} (hfr : LkY D.mb 0 (C.tp 0) (b.at a (.inRegion ops (j :: rest) :: k))) :
   Will Try.prog false E.Z (TEnd C (Ult D C) s 0 own V ((baseD 141).at a₁ (.inRegion ops₁ (i₁ :: rest₁) :: k₁))) (G (b.at (a.put ((ops[j]?).bind (·.dst)) (.tuple #[])) (.inRegion ops rest :: k)) [tlF4 T,(baseD 141).at a₁ (.inRegion ops₁ (i₁ :: rest₁) :: k₁),rootF]) V:=by
 have hb : s.told = false:=by
   cases ht : s.told with
   | false=>rfl
   | true=>have:=t.hok.t0.1 ht; omega
 obtain ⟨f1,f2,f3⟩:=t.hok.f hb
 have hI:=t.I
 have hcq : ∀ x ∈ s.cq,1 ≤ x ∧ x ≤ D.n ∧ s.pc x = 3:=fun x hx=>((t.hok.cq x).1 hx).2
 rw [f1,f2] at hI
 obtain ⟨vb,vc,rfl⟩:=hI.mu.qu.sl
 have hn8:=t.O.n
 have hDn:=t.hD
 unfold tlF4
 refine lock_back (mo:=0) (ow:=0) t.hn t.hi t.n1 t.H t.L hI.mu.c0 hI.mu.z0 hI.mu.c1 hI.mu.z1 hI.mu.qu (by simp) hI.mu.qmb (t.far D.mb hI.mu.mown) (fun b hb=>t.far b (hI.mu.qown b hb)) (by omega) (fun _=>?_) (fun h=>absurd ⟨rfl,rfl⟩ h) hfr
 have I1:=hI.take t.O (0 + 1)
 have W1 : Gs own V own (V.setCell ⟨D.mb,0 + 1,none⟩ (.int .i64 (0 + 1 : Nat))):=Gs.set t.hn t.lt hI.mu.mown
 refine t50_lock W1.nrm I1.es hT fun T2 hT2=>?_
 have I2:=I1.tell t.O
 have W2:=W1.trans (Gs.set (k:=0) (v:=.bool true) W1.nrm (fun b hb=>(W1.new b hb).2) (I1.xo _ (.inr (.inl rfl))))
 unfold tlF6
 have hlen : s.cq.length ≤ D.n + 1:=nd_len _ _ t.hok.cnd fun x hx=>by have:=(hcq x hx).2.1; omega
 refine will_bc W2.nrm (by omega) (I2.bc t.O) (fun x hx=>by have:=(hcq x hx).2.1; omega) (by simp only [List.length_nil]; omega) fun V3 qv3 cv3 hn3 B=>?_
 rw [List.nil_append] at B
 obtain ⟨I3,W3⟩:=I2.told t.O (fun b hb=>(W2.new b hb).2) hn3 B
 have W23:=W2.trans W3
 refine t50_bc hn3 hT2 fun T3 hT3=>?_
 unfold tlF7
 have far3:=W23.far t.far t.hlt
 have has3:=W23.has t.far t.hlt
 refine will_unlock (C:=C) (mo:=0) hn3 t.hO.tbi (fun a ha=>t.hO.cbt ha) t.hi t.n1 (t.H.off has3) (t.L.off has3) I3.mu (fun x hx=>by have:=(hcq x hx).2.1; omega) far3 fun V4 qv4 U=>?_
 obtain ⟨I4,W4⟩:=I3.un t.O (fun b hb=>(W23.new b hb).2) far3 U
 rw [Frame.finish_at]
 refine t50_over hT3 ?_
 have hgo : Lt.go D.y s 0 = { s with pc:=upd s.pc 0 (D.y + 2),told:=true,cq:=[],ow:=unOw s.cq,q:=s.cq.tail }:=by
   rw [go_tell (by omega),f2,List.nil_append]
 refine Will.stop (lt_end t.hD t.hi t.hok t.hs hgo (W23.gw.trans W4) I4 U.cw (fun j hj=>?_) (.inr (.inr ⟨?_,_,a₁,ops₁,i₁,rest₁,k₁,rfl,rfl⟩)))
 · exact st_un (.inl f1) (fun x hx=>by
     obtain ⟨x1,_,x3⟩:=hcq x hx
     exact ⟨x1,.inr x3,by omega⟩) (fun j hj=>upd_ne _ _ hj) rfl j
 · have e4 : ({ s with pc:=upd s.pc 0 (D.y + 2),told:=true,cq:=[],ow:=unOw s.cq,q:=s.cq.tail } : Lt).pc 0 = D.y + 2:=by
     show upd s.pc 0 (D.y + 2) 0 = _
     rw [upd_same]
   rw [Lt.st_teller,e4,if_neg (by omega),if_neg (by omega)]
theorem tn_has (t : Tn E C D s i own V qv cv) (h1 : 1 ≤ i) (ht : s.told = true) (hp0 : s.pc i ≠ 0) (hf : ¬ (s.pc i = 1 ∧ ¬ (s.ow = 0 ∧ s.q = []))) (how : s.ow = 0 ∨ s.ow = i + 1) (hiq : i ∉ s.q) {V1 : World} (I1 : LtI D (i + 1) s.q s.cq s.told s.thr own V1 qv cv) (W1 : Gs own V own V1) {T : Array Value} (hT : wF D (C.tb i) T) :
   Will Try.prog false E.Z (TEnd C (Ult D C) s i own V ((baseD 141).at a₁ (.inRegion ops₁ (i₁ :: rest₁) :: k₁))) (G (Frame.enter Try.prog 46 #[.pointer (some ⟨D.mb,0,none⟩),.pointer (some ⟨C.tb i,0,none⟩)] .normal) (wF7 T :: [(baseD 141).at a₁ (.inRegion ops₁ (i₁ :: rest₁) :: k₁),rootF])) (V1.setCell ⟨D.hb,0,none⟩ (.int .i64 ((s.thr + 1 : Nat) : Int))):=by
 have I2:=I1.more t.O
 have W2:=W1.trans (Gs.set (k:=0) (v:=.int .i64 ((s.thr + 1 : Nat) : Int)) W1.nrm (fun b hb=>(W1.new b hb).2) (I1.xo _ (.inr (.inr rfl))))
 have has2:=W2.has t.far t.hlt
 exact lt_out t.hO t.O t.hD t.hi h1 t.hok t.hs (go_over (by omega) hp0 hf ht) how hiq I2 W2 (t.H.off has2) (t.L.off has2) (W2.far t.far t.hlt) hT
theorem Tn.thr (t : Tn E C D s i own V qv cv) : s.thr < 1000:=by
 have h:=t.hok.thr
 have : ∀ m,sumTo m (Lt.oc s) ≤ m:=by
   intro m
   induction m with
   | zero=>exact Nat.le_refl _
   | succ m ih =>
     show sumTo m (Lt.oc s) + Lt.oc s m ≤ m + 1
     have : Lt.oc s m ≤ 1:=by unfold Lt.oc; split <;> omega
     omega
 have h2:=this (D.n + 1)
 have:=t.O.n
 omega
theorem tn_w1 (t : Tn E C D s i own V qv cv) (h1 : 1 ≤ i) (hp : s.pc i = 1) {T : Array Value} (hT : wF D (C.tb i) T) {b : Frame} {a : Act} {ops : Array Oper} {j : Nat} {rest : List Nat} {k : List Item} (hfr : LkY D.mb 0 (C.tp i) (b.at a (.inRegion ops (j :: rest) :: k))) :
   Will Try.prog false E.Z (TEnd C (Ult D C) s i own V ((baseD 141).at a₁ (.inRegion ops₁ (i₁ :: rest₁) :: k₁))) (G (b.at (a.put ((ops[j]?).bind (·.dst)) (.tuple #[])) (.inRegion ops rest :: k)) [wF0 T,(baseD 141).at a₁ (.inRegion ops₁ (i₁ :: rest₁) :: k₁),rootF]) V:=by
 have hiD : i ≤ D.n:=by have:=t.hi; have:=t.hD; omega
 have hne : s.ow ≠ i + 1:=fun e=>by have:=(t.hok.w2 i hiD e).2; omega
 have hiq : i ∉ s.q:=fun hm=>by have:=(t.hok.w3 i hm).2.2.1; omega
 have hI:=t.I
 have hn8:=t.O.n
 have hDn:=t.hD
 have hql : s.q.length ≤ D.n + 1:=nd_len _ _ t.hok.nd fun x hx=>by have:=(t.hok.w3 x hx).2.1; omega
 obtain ⟨vb,vc,hqv⟩:=hI.mu.qu.sl
 have m0:=hI.mu.c0
 have mq:=hI.mu.qu
 have mb:=hI.mu.qmb
 have mo:=hI.mu.qown
 rw [hqv] at m0 mq mb mo
 unfold wF0
 refine lock_back (mo:=0) t.hn t.hi t.n1 t.H t.L m0 hI.mu.z0 hI.mu.c1 hI.mu.z1 mq (by omega) mb (t.far D.mb hI.mu.mown) (fun b hb=>t.far b (mo b hb)) hne (fun hx=>?_) (fun hx V' v' g1 g2 P hg1 hg2=>?_) hfr
 · have hq0 : s.q = []:=List.eq_nil_of_length_eq_zero hx.2
   have hfree : ¬ (s.pc i = 1 ∧ ¬ (s.ow = 0 ∧ s.q = [])):=fun h=>h.2 ⟨hx.1,hq0⟩
   have I1:=hI.take t.O (i + 1)
   have W1 : Gs own V own (V.setCell ⟨D.mb,0 + 1,none⟩ (.int .i64 (i + 1 : Nat))):=Gs.set t.hn t.lt hI.mu.mown
   have has1:=W1.has t.far t.hlt
   refine w48_lock W1.nrm I1.es t.thr I1.eh hT (fun ht T2 hT2=>?_) fun ht T2 hT2=>tn_has t h1 ht (by omega) hfree (.inl hx.1) hiq I1 W1 hT2
   -- he waits
   have hlen : s.cq.length ≤ D.n + 1:=nd_len _ _ t.hok.cnd fun x hx=>by have:=((t.hok.cq x).1 hx).2.2.1; omega
   unfold wF4
   refine wait_in (q:=s.q) (own:=own) W1.nrm t.hO.tbi (fun a ha=>t.hO.cbt ha) t.hi t.n1 (t.H.off has1) (t.L.off has1) I1.mu (fun x hx=>by rw [hq0] at hx; cases hx) t.far I1.ec I1.oc t.O.mc I1.qu I1.ocv I1.c1 I1.c2 I1.c3 (by omega) fun V2 cv2 V3 qv3 f g PW U hf hg=>Will.stop ?_
   obtain ⟨I2,W2⟩:=I1.wait t.O (fun b hb=>(W1.new b hb).2) PW
   have W12:=W1.trans W2
   have far2:=W12.far t.far t.hlt
   have has2:=W12.has t.far t.hlt
   have U' : UnP C (upd (Lt.st D.y s) i 1) V2 (grow own (V.setCell ⟨D.mb,0 + 1,none⟩ (.int .i64 (i + 1 : Nat))) V2) D.mb 0 s.q qv V3 qv3:=⟨U.nrm,U.sz,U.mu.grow fun b hb _=>.inl hb,U.cw,U.ls,U.keep,U.qo,U.mbk⟩
   obtain ⟨I3,W3⟩:=I2.un t.O (fun b hb=>(W12.new b hb).2) far2 U'
   have e0 : unOw s.q = 0:=by rw [hq0]; rfl
   have e1 : s.q.tail = s.q:=by rw [hq0]; rfl
   rw [e0,e1] at I3
   have hpc : ({ s with pc:=upd s.pc i 3,cq:=s.cq ++ [i] } : Lt).pc i = 3:=upd_same _ _ _
   refine lt_end (qv:=qv3) (cv:=cv2) t.hD t.hi t.hok t.hs (go_wait (by omega) (by omega) hfree ht) (W12.gw.trans W3) ?_ U.cw (fun j hj=>?_) (.inr (.inl ⟨?_,f,[g,wF4 T2],rfl,fun h=>by omega,fun _=>⟨?_,fun e=>?_,fun e=>?_,fun _=>⟨f,g,T2,hf,hg,hT2,rfl⟩⟩⟩))
   · rw [show ({ s with pc:=upd s.pc i 3,cq:=s.cq ++ [i] } : Lt).ow = 0 from hx.1]
     exact I3
   · rw [hq0]
     show upd (Lt.st D.y s) i 1 j = _
     exact st_same (s':={ s with pc:=upd s.pc i 3,cq:=s.cq ++ [i] }) (s:=s) (fun j hj=>upd_ne _ _ hj) rfl j
   · rw [Lt.st_waiter h1,hpc,if_neg (by omega),if_neg (by omega),if_pos (by omega),if_neg (fun e=>hne e)]
   · rw [hpc]; omega
   · rw [hpc] at e; omega
   · rw [hpc] at e; omega
 · have hx' : ¬ (s.ow = 0 ∧ s.q = []):=fun h=>hx ⟨h.1,by rw [h.2]; rfl⟩
   rw [← hqv] at P
   obtain ⟨I1,W1⟩:=hI.push t.O t.lt P
   have has1:=W1.has t.far t.hlt
   have hpc : ({ s with pc:=upd s.pc i 2,q:=s.q ++ [i] } : Lt).pc i = 2:=upd_same _ _ _
   refine Will.stop (lt_end t.hD t.hi t.hok t.hs (go_queue (by omega) hp hx') W1.gw I1 (t.H.off has1) (fun j _=>st_same (s':={ s with pc:=upd s.pc i 2,q:=s.q ++ [i] }) (s:=s) (fun j hj=>upd_ne _ _ hj) rfl j) (.inr (.inl ⟨?_,g1,[g2,wF0 T],rfl,fun h=>by omega,fun _=>⟨?_,fun e=>?_,fun _=>⟨g1,g2,T,hg1,hg2,hT,rfl⟩,fun e=>?_⟩⟩)))
   · rw [Lt.st_waiter h1,hpc,if_neg (by omega),if_neg (by omega),if_pos (by omega),if_neg (fun e=>hne e)]
   · rw [hpc]; omega
   · rw [hpc] at e; omega
   · rw [hpc] at e; omega
end
end Go.Proofs.Ytibcdikfbhmheaa

namespace Go.Proofs.Ytibcdikfbhmheaa
open Go Go.Conc Go.Proofs
open Go.ConcN (sumTo upd sumTo_upd upd_ne upd_same)
set_option linter.unusedVariables false
section
variable {D : Ld} {C : Cw} {E : Env} {i : Nat} {own : Nat → Prop} {V : World} {s s' : Lt} {qv cv : Value} {a₁ : Act} {ops₁ : Array Oper} {i₁ : Nat} {rest₁ : List Nat} {k₁ : List Item}
theorem tn_w23 (t : Tn E C D s i own V qv cv) (h1 : 1 ≤ i) (hp : s.pc i = 2 ∨ s.pc i = 3) (ho : s.ow = i + 1) : s.told = true ∧ ¬ (s.pc i = 1 ∧ ¬ (s.ow = 0 ∧ s.q = [])) ∧ i ∉ s.q ∧ LtI D (i + 1) s.q s.cq s.told s.thr own V qv cv :=
 ⟨Lt.told_of t.hok (fun h=>by omega),fun h=>by omega,fun hm=>(t.hok.w3 i hm).2.2.2 ho,by rw [← ho]; exact t.I⟩
theorem tn_w2 (t : Tn E C D s i own V qv cv) (h1 : 1 ≤ i) (hp : s.pc i = 2) (ho : s.ow = i + 1) {g : Frame} {T : Array Value} (hg : LkR g) (hT : wF D (C.tb i) T) {b : Frame} {a : Act} {ops : Array Oper} {j : Nat} {rest : List Nat} {k : List Item} (hfr : RsP D.mb 0 (C.tp i) (b.at a (.inRegion ops (j :: rest) :: k))) :
   Will Try.prog false E.Z (TEnd C (Ult D C) s i own V ((baseD 141).at a₁ (.inRegion ops₁ (i₁ :: rest₁) :: k₁))) (G (b.at (a.put ((ops[j]?).bind (·.dst)) (.tuple #[])) (.inRegion ops rest :: k)) [g,wF0 T,(baseD 141).at a₁ (.inRegion ops₁ (i₁ :: rest₁) :: k₁),rootF]) V:=by
 obtain ⟨ht,hf,hiq,I1⟩:=tn_w23 t h1 (.inl hp) ho
 obtain ⟨TR,hTR,rfl⟩:=hg
 unfold wF0
 refine rest_back (mo:=0) t.hn t.hi t.n1 t.H I1.mu.c1 (fun _=>?_) (fun hx=>absurd rfl hx) hfr
 refine lock_ret t.hn ?_ ⟨TR,hTR,rfl⟩
 refine w48_lock t.hn I1.es t.thr I1.eh hT (fun ht'=>?_) fun _ T2 hT2=>tn_has t h1 ht (by omega) hf (.inr ho) hiq I1 (Gs.refl t.hn t.lt) hT2
 rw [ht] at ht'; cases ht'
theorem tn_w3 (t : Tn E C D s i own V qv cv) (h1 : 1 ≤ i) (hp : s.pc i = 3) (ho : s.ow = i + 1) {g : Frame} {T : Array Value} (hg : WtR g) (hT : wFk D (C.tb i) 0 T) {b : Frame} {a : Act} {ops : Array Oper} {j : Nat} {rest : List Nat} {k : List Item} (hfr : RsP D.mb 0 (C.tp i) (b.at a (.inRegion ops (j :: rest) :: k))) :
   Will Try.prog false E.Z (TEnd C (Ult D C) s i own V ((baseD 141).at a₁ (.inRegion ops₁ (i₁ :: rest₁) :: k₁))) (G (b.at (a.put ((ops[j]?).bind (·.dst)) (.tuple #[])) (.inRegion ops rest :: k)) [g,wF4 T,(baseD 141).at a₁ (.inRegion ops₁ (i₁ :: rest₁) :: k₁),rootF]) V:=by
 obtain ⟨ht,hf,hiq,I1⟩:=tn_w23 t h1 (.inr hp) ho
 obtain ⟨TR,hTR,rfl⟩:=hg
 unfold wF4
 refine rest_back (mo:=0) t.hn t.hi t.n1 t.H I1.mu.c1 (fun _=>?_) (fun hx=>absurd rfl hx) hfr
 refine wait_ret t.hn ?_ ⟨TR,hTR,rfl⟩
 have es:=I1.es
 rw [ht] at es
 exact w48_back (k:=0) t.hn (by decide) es t.thr I1.eh hT fun T2 hT2=>tn_has t h1 ht (by omega) hf (.inr ho) hiq I1 (Gs.refl t.hn t.lt) hT2
theorem ult_ok (hO : CwOk E C) (O : LdOk D) (hD : C.n = D.n + 1) (hf0 : C.f 0 = .func (.func 50) #[] #[bq D.lb,bq D.mb,bq D.sb,bq D.cb]) (hf1 : ∀ i,1 ≤ i → i < C.n → C.f i = .func (.func 48) #[] #[bq D.mb,bq D.sb,bq D.cb,bq D.hb]) : UOk E C (Ult D C):=by
 refine UOkS.up ?_ fun _ _ _=>trivial
 have hturn : ∀ (s : Lt) (i : Nat),(Ult D C).turn s i = s ∨ (Lt.Ok D.n D.y s ∧ i ≤ D.n ∧ (Lt.st D.y s i = 0 ∨ Lt.st D.y s i = 1) ∧ (Ult D C).turn s i = Lt.go D.y s i):=fun s i=>by
   by_cases h : Lt.Ok D.n D.y s ∧ i ≤ D.n ∧ (Lt.st D.y s i = 0 ∨ Lt.st D.y s i = 1)
   · exact .inr ⟨h.1,h.2.1,h.2.2,if_pos h⟩
   · exact .inl (if_neg h)
 refine ⟨fun σ own V V' A hk hsz=>?_,fun σ i cs h=>?_,fun σ i j cs _ _ hj h=>?_,fun σ i j hi hs hj hji=>?_,fun σ i _=>Lt.st_cases _ _ _,fun σ i hi h=>?_,fun (σ : Lt) i own V Rf bx hi hs hRf hn H A hown L hlb=>?_,fun (σ : Lt) i own V Rf bx b a ops i₀ rest k cs hi hs hl hRf hn H A hown L hlb=>?_⟩
 · obtain ⟨h1,qv,cv,h2⟩:=A
   exact ⟨h1,qv,cv,h2.frame hk⟩
 · obtain ⟨h0,h1⟩:=h
   intro f hf
   by_cases e : i = 0
   · obtain ⟨⟨p1,p2⟩,a1,a2⟩:=h0 e
     by_cases hp : σ.pc 0 ≤ D.y
     · obtain ⟨T,_,rfl⟩:=a1 hp
       obtain rfl : f = _:=by simpa using hf
       exact uf_at rfl rfl rfl ⟨_,Try.func50⟩
     · obtain ⟨g,T,q1,_,rfl⟩:=a2 (by omega)
       simp only [List.mem_cons,List.not_mem_nil,or_false] at hf
       rcases hf with rfl | rfl
       · exact uf_lky q1
       · exact uf_at rfl rfl rfl ⟨_,Try.func50⟩
   · obtain ⟨⟨p1,p2⟩,a1,a2,a3⟩:=h1 (by omega)
     rcases (show σ.pc i = 1 ∨ σ.pc i = 2 ∨ σ.pc i = 3 by omega) with hp | hp | hp
     · obtain ⟨g,T,q1,_,rfl⟩:=a1 hp
       simp only [List.mem_cons,List.not_mem_nil,or_false] at hf
       rcases hf with rfl | rfl
       · exact uf_lky q1
       · exact uf_at rfl rfl rfl ⟨_,Try.func48⟩
     · obtain ⟨g,g2,T,q1,q2,_,rfl⟩:=a2 hp
       simp only [List.mem_cons,List.not_mem_nil,or_false] at hf
       rcases hf with rfl | rfl | rfl
       · exact uf_rsp q1
       · exact uf_lkr q2
       · exact uf_at rfl rfl rfl ⟨_,Try.func48⟩
     · obtain ⟨g,g2,T,q1,q2,_,rfl⟩:=a3 hp
       simp only [List.mem_cons,List.not_mem_nil,or_false] at hf
       rcases hf with rfl | rfl | rfl
       · exact uf_rsp q1
       · exact uf_wtr q2
       · exact uf_at rfl rfl rfl ⟨_,Try.func48⟩
 · show LtLoc C D ((Ult D C).turn σ i) j cs
   rcases hturn σ i with e | ⟨_,_,_,e⟩
   · rw [e]; exact h
   · rw [e]
     have hp:=Lt.go_pc D.y σ i j hj
     unfold LtLoc
     by_cases e0 : j = 0
     · subst e0
       rw [hp]
       exact ⟨h.1,fun h=>by omega⟩
     · rw [hp]
       exact ⟨fun h=>absurd h e0,h.2⟩
 · show Lt.st D.y ((Ult D C).turn σ i) j = Lt.st D.y σ j ∨ (Lt.st D.y σ j = 2 ∧ Lt.st D.y ((Ult D C).turn σ i) j = 1)
   rcases hturn σ i with e | ⟨h,hi',hs',e⟩
   · rw [e]; exact .inl rfl
   · rw [e]; exact Lt.go_st h hi' hs' (by omega) hji
 · by_cases e : i = 0
   · subst e
     exact ⟨hf0,_,_,Try.func50,by kernel_rfl,rfl⟩
   · have e1 : (Ult D C).fid i = 48:=if_neg e
     have e2 : (Ult D C).caps i = #[bq D.mb,bq D.sb,bq D.cb,bq D.hb]:=if_neg e
     rw [e1,e2]
     exact ⟨hf1 i (by omega) hi,_,_,Try.func48,by kernel_rfl,rfl⟩
 · obtain ⟨hok,qv,cv,I⟩:=A
   obtain ⟨a₁,ops₁,i₁,rest₁,k₁,eRf,-⟩:=hRf
   subst eRf
   have hs : Lt.st D.y σ i = 0:=hs
   have t : Tn E C D σ i own V qv cv:=⟨hO,O,hD,hi,hn,hok,.inl hs,I,H,L,fun b hb=>(hown b hb).1,far_ofL hown hlb⟩
   by_cases e : i = 0
   · subst e
     have hp : σ.pc 0 = 0:=by
       rw [Lt.st_teller] at hs
       repeat' split at hs
       all_goals omega
     refine t50_in (tb:=C.tb 0) hn t.y9 I.el O.u O.y (fun hk T hT=>Will.stop (tn_yield t hp hk hT)) fun hk T hT=>tn_asks t (by omega) hT
   · have h1 : 1 ≤ i:=by omega
     have hp : σ.pc i = 0:=by
       rw [Lt.st_waiter h1] at hs
       repeat' split at hs
       all_goals omega
     have e1 : (Ult D C).fid i = 48:=if_neg e
     have e2 : (Ult D C).caps i = #[bq D.mb,bq D.sb,bq D.cb,bq D.hb]:=if_neg e
     rw [e1,e2]
     refine w48_in (tb:=C.tb i) hn fun T hT=>?_
     have hne : σ.ow ≠ i + 1:=fun e=>by have:=(hok.w2 i (by omega) e).2; omega
     refine lock_in (C:=C) (mo:=0) hn hi t.n1 t.H I.mu.c1 hne fun f hf=>Will.stop ?_
     have hpc : ({ σ with pc:=upd σ.pc i 1 } : Lt).pc i = 1:=upd_same _ _ _
     refine lt_still t (go_begin e hp) rfl rfl rfl rfl rfl (fun j hj=>upd_ne _ _ hj) ⟨?_,f,[wF0 T],rfl,fun h=>by omega,fun _=>⟨?_,fun _=>⟨f,T,hf,hT,rfl⟩,fun e=>?_,fun e=>?_⟩⟩
     · rw [Lt.st_waiter h1,hpc,if_neg (by omega),if_pos rfl]
     · rw [hpc]; omega
     · rw [hpc] at e; omega
     · rw [hpc] at e; omega
 · obtain ⟨hok,qv,cv,I⟩:=A
   obtain ⟨a₁,ops₁,i₁,rest₁,k₁,eRf,-⟩:=hRf
   subst eRf
   have hs : Lt.st D.y σ i = 1:=hs
   have hH : CwAt C false (upd (Lt.st D.y σ) i 1) V:=H.congr fun j hj=>by
     by_cases e : j = i
     · subst e; rw [upd_same]; exact hs
     · rw [upd_ne _ _ e]; rfl
   have t : Tn E C D σ i own V qv cv:=⟨hO,O,hD,hi,hn,hok,.inr hs,I,hH,L,fun b hb=>(hown b hb).1,far_ofL hown hlb⟩
   obtain ⟨h0,h1⟩:=hl
   by_cases e : i = 0
   · subst e
     obtain ⟨⟨p1,p2⟩,a1,a2⟩:=h0 rfl
     by_cases hp : σ.pc 0 ≤ D.y
     · obtain ⟨T,hT,e⟩:=a1 hp
       obtain ⟨e1,rfl⟩:=List.cons.inj e
       obtain ⟨rfl,e2,e3⟩:=at_inj e1
       obtain ⟨rfl,e4,rfl⟩:=item_inj e2
       obtain ⟨rfl,rfl⟩:=List.cons.inj e4
       rw [e3]
       have ek : σ.pc 0 - 1 + 1 = σ.pc 0:=by omega
       refine t50_back (tb:=C.tb 0) (k:=σ.pc 0 - 1) hn t.y9 I.el O.u O.y (by omega) hT (fun hk T2 hT2=>Will.stop ?_) fun hk T2 hT2=>tn_asks t (by omega) hT2
       rw [ek] at hT2
       exact tn_yield t rfl (by omega) hT2
     · obtain ⟨f,T,q1,hT,e⟩:=a2 (by omega)
       obtain ⟨e1,rfl⟩:=List.cons.inj e
       subst e1
       exact tn_tell t (by omega) hT q1
   · obtain ⟨⟨p1,p2⟩,a1,a2,a3⟩:=h1 (by omega)
     have hr:=Lt.ready_waiter (by omega) (.inr hs)
     rcases (show σ.pc i = 1 ∨ σ.pc i = 2 ∨ σ.pc i = 3 by omega) with hp | hp | hp
     · obtain ⟨f,T,q1,hT,e⟩:=a1 hp
       obtain ⟨e1,rfl⟩:=List.cons.inj e
       subst e1
       exact tn_w1 t (by omega) hp hT q1
     · obtain ⟨f,g,T,q1,q2,hT,e⟩:=a2 hp
       obtain ⟨e1,rfl⟩:=List.cons.inj e
       subst e1
       exact tn_w2 t (by omega) hp (by omega) q2 hT q1
     · obtain ⟨f,g,T,q1,q2,hT,e⟩:=a3 hp
       obtain ⟨e1,rfl⟩:=List.cons.inj e
       subst e1
       exact tn_w3 t (by omega) hp (by omega) q2 hT q1
theorem ult_run (O : LdOk D) (hn : C.n = D.n + 1) (hpid : ∀ p,0 < D.n + 1 → pidx (D.n + 1) p < D.n + 1) (ps : List Int) (R : Nat) (hR : 50 ≤ R) : ∀ x,x = rnds (Ult D C) (D.n + 1) R (ps.foldl (pk (Ult D C) (D.n + 1)) ((Lt.zero : Lt),([] : List Nat))) → (x.1 : Lt).told = true ∧ (x.1 : Lt).ow = 0 ∧ (x.1 : Lt).cq = [] ∧ (x.1 : Lt).thr = D.n:=by
 intro x hx
 have h1 : ∀ (s : (Ult D C).S) i,Lt.Ok D.n D.y s → i < D.n + 1 → ((Ult D C).st s i = 0 ∨ (Ult D C).st s i = 1) → Lt.Ok D.n D.y ((Ult D C).turn s i) ∧ sumTo (D.n + 1) (s : Lt).pc + 1 ≤ sumTo (D.n + 1) ((Ult D C).turn s i : Lt).pc:=fun (s : Lt) i hok hi hs=>by
   have hs' : Lt.st D.y s i = 0 ∨ Lt.st D.y s i = 1:=hs
   have ht : (Ult D C).turn s i = Lt.go D.y s i:=if_pos ⟨hok,by omega,hs'⟩
   rw [ht]
   refine ⟨Lt.ok_go hok (by omega) hs',?_⟩
   exact Ls.sum_more (D.n + 1) i hi (fun j hj=>by
     by_cases e : j = i
     · subst e; have:=Lt.go_more hok (by omega) hs'; omega
     · rw [Lt.go_pc D.y s i j e]; exact Nat.le_refl _) (Lt.go_more hok (by omega) hs')
 have hy9 : D.y < 9:=by have:=O.y; omega
 have hn8:=O.n
 have h2 : ∀ s : (Ult D C).S,Lt.Ok D.n D.y s → sumTo (D.n + 1) (s : Lt).pc ≤ 42:=fun s h=>by
   have:=Lt.pc_sum h
   omega
 have h0 : Lt.Ok D.n D.y Lt.zero ∧ (([] : List Nat)).length ≤ sumTo (D.n + 1) Lt.zero.pc:=⟨Lt.ok_zero _ _,Nat.zero_le _⟩
 have hp:=rq_pks (U:=Ult D C) (n:=D.n + 1) (Ok:=Lt.Ok D.n D.y) (M:=fun s=>sumTo (D.n + 1) (s : Lt).pc) hpid h1 ps ((Lt.zero : Lt),([] : List Nat)) h0
 obtain ⟨hok,hq⟩:=run_quiet (U:=Ult D C) (n:=D.n + 1) (B:=42) (Ok:=Lt.Ok D.n D.y) (M:=fun s=>sumTo (D.n + 1) (s : Lt).pc) h1 h2 R _ hp (by omega)
 rw [← hx] at hok hq
 exact Lt.ok_end hok fun i hi=>hq i (by omega)
end
end Go.Proofs.Ytibcdikfbhmheaa
