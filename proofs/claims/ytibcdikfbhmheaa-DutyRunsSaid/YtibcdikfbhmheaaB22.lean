import Derived.Test.YtibcdikfbhmheaaProg
import Derived.ProofKit
import Derived.Below
import Derived.Maps.AppendAt
import Derived.WalkSpells
import Derived.WalkLawsBesides
import Derived.Deep.Draws
import Derived.Lib.Hide
import Derived.Deep.LoopGhost
import Derived.Deep.QuietTactic
import Derived.Test.YtibcdikfbhmheaaB16
import Derived.OrdersHeld
import Derived.Test.YtibcdikfbhmheaaB12
set_option linter.unusedSimpArgs false
set_option linter.unusedVariables false
namespace Go.Proofs.Ytibcdikfbhmheaa
open Go Go.Proofs
open Go.RowKit
set_option linter.unusedVariables false
def Qu (w : World) (e : TypeId) (sz : Nat) (v : Value) (n : Nat) (q : List Value) : Prop :=
 q.length = n * sz ∧ ((v = .slice none 0 0 ∧ n = 0) ∨ ∃ g o cap cur,v = .slice (some ⟨g,o,none⟩) n cap ∧ w.heap[g]? = some (.cells cur e (0,0)) ∧ n ≤ cap ∧ cap ≤ maxLen ∧ o + cap * sz ≤ cur.size ∧ ∀ j u,q[j]? = some u → cur[o + j]? = some u)
theorem qadd (b off k : Nat) : (⟨b,off,none⟩ : Addr).add k = ⟨b,off + k,none⟩:=by unfold Addr.add; split <;> simp_all
theorem Qu.keep {w w' : World} {e : TypeId} {sz : Nat} {v : Value} {n : Nat} {q : List Value} (h : Qu w e sz v n q) (hk : ∀ b,v.ownBlock = some b → w'.heap[b]? = w.heap[b]?) : Qu w' e sz v n q:=by
 obtain ⟨h1,h2⟩:=h
 refine ⟨h1,h2.imp id ?_⟩
 rintro ⟨g,o,cap,cur,rfl,h3,h4⟩
 exact ⟨g,o,cap,cur,rfl,by rw [hk g rfl]; exact h3,h4⟩
theorem Qu.at_ {w : World} {e : TypeId} {sz : Nat} {v : Value} {n : Nat} {q : List Value} (h : Qu w e sz v n q) {b : Nat} (hb : v.ownBlock = some b) : b < w.heap.size:=by
 obtain ⟨h1,⟨rfl,_⟩ | ⟨g,o,cap,cur,rfl,h3,_⟩⟩:=h
 · cases hb
 · obtain rfl : g = b:=by simpa [Value.ownBlock] using hb
   exact (Array.getElem?_eq_some_iff.1 h3).1
theorem Qu.sl {w : World} {e : TypeId} {sz : Nat} {v : Value} {n : Nat} {q : List Value} (h : Qu w e sz v n q) : ∃ b c,v = .slice b n c:=by
 obtain ⟨h1,⟨rfl,h2⟩ | ⟨g,o,cap,cur,rfl,_⟩⟩:=h
 · exact ⟨_,_,by rw [h2]⟩
 · exact ⟨_,_,rfl⟩
end Go.Proofs.Ytibcdikfbhmheaa

namespace Go.Proofs.Ytibcdikfbhmheaa
open Go Go.Conc Go.Proofs
open Go.ConcN (sumTo upd sumTo_upd upd_ne upd_same)
set_option linter.unusedVariables false
def Grw (V W : World) (v v' : Value) : Prop:=V.heap.size ≤ W.heap.size ∧ (∀ b,b < V.heap.size → v.ownBlock ≠ some b → W.heap[b]? = V.heap[b]?) ∧ (v'.ownBlock = v.ownBlock ∨ v'.ownBlock = some V.heap.size)
theorem app_none {t e : TypeId} {z : Value} {sz B : Nat} (ht : Try.prog.underlying t = some (.slice e)) (hi : (Try.prog.info? e).map (fun i=>(i.zero,i.size,i.bytes)) = some (some z,sz,B)) {b : Option Addr} {n c : Nat} (hc : n ≤ c) (hb : c = 0 → b ≠ none → True) (w : World) :
   (Builtin.append_ #[t,t] t #[.slice b n c,.slice none 0 0]).run Try.prog w = .ok (.slice b n c) w:=by
 obtain ⟨i0,hi0,hz⟩ : ∃ i0,Try.prog.info? e = some i0 ∧ (i0.zero,i0.size,i0.bytes) = (some z,sz,B):=by
   cases e : Try.prog.info? e with
   | none=>rw [e] at hi; cases hi
   | some i0=>rw [e] at hi; exact ⟨i0,rfl,by simpa using hi⟩
 have hs : (sizeOf e).run Try.prog w = .ok i0.size w:=by simp [sizeOf,typeInfo,hi0]
 cases b with
 | none=>simp [Builtin.append_,run_underlying ht,hs,Builtin.lenOf,Builtin.firstCells,hc]
 | some a=>simp [Builtin.append_,run_underlying ht,hs,Builtin.lenOf,Builtin.firstCells,storeCells,hc]
theorem app_row {t e : TypeId} {z : Value} {sz B : Nat} (ht : Try.prog.underlying t = some (.slice e)) (hi : (Try.prog.info? e).map (fun i=>(i.zero,i.size,i.bytes)) = some (some z,sz,B)) (hzs : z.cells.size = sz) (hsz : 0 < sz) (hB : B ≤ 100) {V : World} {v u : Value} {n m : Nat} {xs ys : List Value} (hrow : V.ownsRow 0 e sz v n xs) (hsrc : V.ownsRow 0 e sz u m ys) (h1 : ∀ y ∈ ys,y.oneCell' = true) (hlen : n + m < 1000000000) :
   ∃ v' w',(Builtin.append_ #[t,t] t #[v,u]).run Try.prog V = .ok v' w' ∧ w'.ownsRow 0 e sz v' (n + m) (xs ++ ys) ∧ Grw V w' v v':=by
 obtain ⟨hy,h2⟩:=hsrc
 rcases h2 with ⟨rfl,rfl⟩ | ⟨g,cap,cur,rfl,_,h4,h5,h6,h7,h8⟩
 · obtain ⟨b,k,c,rfl,hkc,rfl⟩ : ∃ b k c,v = .slice b k c ∧ k ≤ c ∧ k = n:=by
     obtain ⟨_,h2⟩:=hrow
     rcases h2 with ⟨rfl,rfl⟩ | ⟨g,cap,cur,rfl,_,_,h5,_⟩
     · exact ⟨_,_,_,rfl,Nat.le_refl _,rfl⟩
     · exact ⟨_,_,_,rfl,h5,rfl⟩
   have : ys = []:=by simpa using hy
   subst this
   refine ⟨_,_,app_none ht hi hkc (fun _ _=>trivial) _,?_,⟨Nat.le_refl _,fun _ _ _=>rfl,.inl rfl⟩⟩
   rw [List.append_nil,Nat.add_zero]
   exact hrow
 · obtain ⟨i0,hi0,hz⟩ : ∃ i0,Try.prog.info? e = some i0 ∧ (i0.zero,i0.size,i0.bytes) = (some z,sz,B):=by
     cases e : Try.prog.info? e with
     | none=>rw [e] at hi; cases hi
     | some i0=>rw [e] at hi; exact ⟨i0,rfl,by simpa using hi⟩
   obtain ⟨hz0,hz1,hz2⟩ : i0.zero = some z ∧ i0.size = sz ∧ i0.bytes = B:=by simpa using hz
   obtain ⟨v',w',a1,a2,a3,_,a5⟩:=run_append_own_at (P:=Try.prog) (w:=V) 0 t t e i0 z sz B ht hi0 hz0 hz1 hz2 hzs hsz v n xs hrow ⟨g,0,none⟩ m cap ys hy (fun j u hu=>by
     rw [qadd,Nat.zero_add]
     rw [← h8] at hu
     have hj : j < m * sz:=by
       apply Nat.lt_of_not_le
       intro hge
       rw [List.getElem?_eq_none (by rw [List.length_take]; omega)] at hu
       cases hu
     rw [List.getElem?_take,if_pos hj] at hu
     exact cell_of h4 (by simpa using hu)) h1 (by simp only [maxLen]; omega) (by
     have : (n + m) * B ≤ (n + m) * 100:=Nat.mul_le_mul_left _ hB
     omega) (Nat.zero_le _)
   exact ⟨v',w',a1,a2,a3.size,fun b hb hne=>a3.block b hb (fun e=>hne e.symm),a5⟩
theorem row_set {V : World} {e : TypeId} {v : Value} {n g j : Nat} {xs : List Value} {x : Value} (h : V.ownsRow 0 e 1 v n xs) (hg : v.ownBlock = some g) (hj : j < n) : (V.setCell ⟨g,j,none⟩ x).ownsRow 0 e 1 v n (xs.set j x):=by
 obtain ⟨h1,h2⟩:=h
 rcases h2 with ⟨rfl,_⟩ | ⟨g',cap,cur,rfl,h3,h4,h5,h6,h7,h8⟩
 · cases hg
 · obtain rfl : g' = g:=by simpa [Value.ownBlock] using hg
   refine ⟨by rw [List.length_set]; exact h1,.inr ⟨g',cap,cur.setIfInBounds j x,rfl,h3,?_,h5,h6,by simpa using h7,?_⟩⟩
   · rw [setCell_heap,if_pos rfl,h4]
     rfl
   · rw [Array.toList_setIfInBounds,← h8,List.take_set]
theorem set_map {f : Nat → Value} {n j : Nat} {x : Value} : ((List.range n).map f).set j x = (List.range n).map (upd f j x):=by
 apply List.ext_getElem?
 intro k
 rw [List.getElem?_set,List.getElem?_map,List.getElem?_map,List.length_map,List.length_range]
 by_cases hk : k < n
 · rw [List.getElem?_range hk]
   by_cases e : j = k
   · subst e; simp [upd_same,hk]
   · rw [if_neg e,Option.map_some,Option.map_some,upd_ne _ _ (fun h=>e h.symm)]
 · rw [List.getElem?_eq_none (by simp; omega)]
   by_cases e : j = k
   · subst e; simp [hk]
   · simp [e]
theorem map_cong {f g : Nat → Value} {n : Nat} (h : ∀ i,i < n → f i = g i) : (List.range n).map f = (List.range n).map g:=List.map_congr_left fun i hi=>h i (List.mem_range.1 hi)
theorem own_tyL {V : World} {e t : TypeId} {v : Value} {n : Nat} {xs : List Value} {b : Nat} {c : Array Value} {f : Nat × Nat} (h : V.ownsRow 0 e 1 v n xs) (hb : V.heap[b]? = some (.cells c t f)) (hne : e ≠ t) : v.ownBlock ≠ some b:=fun he=>by
 obtain ⟨_,h2⟩:=h
 rcases h2 with ⟨rfl,_⟩ | ⟨g,cap,cur,rfl,_,h4,_⟩
 · cases he
 · obtain rfl : g = b:=by simpa [Value.ownBlock] using he
   rw [h4] at hb
   injection hb with hb
   injection hb with _ hb _
   exact hne hb
theorem pidx_ltL {n : Nat} (h : 0 < n) (p : Int) : pidx n p < n:=by
 unfold pidx
 have h1 : -(n : Int) < p.tmod n:=by
   have:=Int.lt_tmod_of_pos p (show (0 : Int) < n by omega)
   omega
 have h2 : 0 ≤ p.tmod n + n:=by omega
 rw [Int.tmod_eq_emod_of_nonneg h2]
 have h3:=Int.emod_lt_of_pos (p.tmod n + n) (show (0 : Int) < n by omega)
 have h4:=Int.emod_nonneg (p.tmod n + n) (show (n : Int) ≠ 0 by omega)
 omega
end Go.Proofs.Ytibcdikfbhmheaa

namespace Go.Proofs.Ytibcdikfbhmheaa
open Go Go.Conc Go.Proofs
set_option linter.unusedVariables false
section
variable {P : Program} {ops : Array Oper} {Q : Exit → Act → World → Prop} {md : Region.Mode} {S : Array Bool → World → Prop}
def wpAnyG (P : Program) (md : Region.Mode) (ops : Array Oper) (Q : Exit → Act → World → Prop) (S : Array Bool → World → Prop) : Nat → Array Bool → Act → World → Prop
 | 0,listed,a,w=>Region.ready md ops listed = [] ∧ Q .normal a w
 | fuel + 1,listed,a,w=>(Region.ready md ops listed = [] → Q .normal a w) ∧ ∀ i ∈ Region.ready md ops listed,wpOp P ops Q i (fun a' w'=>S (listed.setIfInBounds i true) w' ∧ wpAnyG P md ops Q S fuel (listed.setIfInBounds i true) a' w') a w
theorem wpAny_of_g : ∀ (fuel : Nat) (listed : Array Bool) (a : Act) (w : World),wpAnyG P md ops Q S fuel listed a w → wpAny P md ops Q fuel listed a w
 | 0,_,_,_,h=>h
 | fuel + 1,_,_,_,h=>⟨h.1,fun i hi=>wpOp_mono (fun a' w' h'=>wpAny_of_g fuel _ a' w' h'.2) (h.2 i hi)⟩
def SG (md : Region.Mode) (ops : Array Oper) (S : Array Bool → World → Prop) (i : Nat) (w : World) : Prop:=∃ l,S l w ∧ Cl md ops l ∧ l.getD i false = false
theorem off_of {listed : Array Bool} {i : Nat} (hr : i ∈ Region.ready md ops listed) : listed.getD i false = false:=by
 have h0:=(mem_ready.1 hr).1
 rcases Nat.lt_or_ge i listed.size with h' | h'
 · simp [h'] at h0 ⊢; exact h0
 · simp [Array.getElem?_eq_none h'] at h0
theorem wpAnyG_first {i : Nat} {oi : Oper} {v : Value} (hi : ops[i]? = some oi) (hsel : ∀ (j : Nat) (o : Oper) cs b,ops[j]? = some o → o.op ≠ .select cs b)
   (hQ : ∀ c a w,Q (.panic c) (a.put oi.dst v) w → Q (.panic c) a w) (hSi : ∀ l w,S (l.setIfInBounds i true) w ↔ S l w) :
   ∀ (fuel : Nat) (listed : Array Bool) (a : Act) (w : World),Cl md ops listed →
     (∀ j oj,ops[j]? = some oj → j ≠ i → listed.getD j true = false → (∀ e ∈ oj.after,Region.binds md e = true → e.on ≠ i) → oi.apart ops oj = true) →
     i ∈ Region.ready md ops listed → YieldsIf P ops (SG md ops S i) oi v a → S listed w →
     wpAnyG P md ops Q S fuel (listed.setIfInBounds i true) (a.put oi.dst v) w → wpAnyG P md ops Q S (fuel + 1) listed a w:=by
 intro fuel
 induction fuel with
 | zero =>
   intro listed a w hc _ hr hy hS H
   refine ⟨fun h=>(by rw [h] at hr; cases hr),fun j hj=>?_⟩
   by_cases hji : j = i
   · subst hji; exact hy.wpOp hi ⟨listed,hS,hc,off_of hr⟩ ⟨(hSi _ _).2 hS,H⟩
   · have:=ready_mono hj hji
     rw [H.1] at this
     cases this
 | succ fuel ih =>
   intro listed a w hc hfree hr hy hS H
   refine ⟨fun h=>(by rw [h] at hr; cases hr),fun j hj=>?_⟩
   by_cases hji : j = i
   · subst hji; exact hy.wpOp hi ⟨listed,hS,hc,off_of hr⟩ ⟨(hSi _ _).2 hS,H⟩
   · have h1:=H.2 j (ready_mono hj hji)
     obtain ⟨hjun,oj,hoj,hall⟩:=mem_ready.1 hj
     have hnot : ∀ e ∈ oj.after,Region.binds md e = true → e.on ≠ i:=fun e he hb heq=>by
       have h1:=hall e he hb
       rw [heq,off_of hr] at h1
       cases h1
     have h2:=wpOp_putIf hoj (hfree j oj hoj hji hjun hnot) (fun cs b=>hsel i oi cs b hi) (fun cs b=>hsel j oj cs b hoj) hQ hy h1
     have hfree' : ∀ k ok,ops[k]? = some ok → k ≠ i → (listed.setIfInBounds j true).getD k true = false →
         (∀ e ∈ ok.after,Region.binds md e = true → e.on ≠ i) → oi.apart ops ok = true:=fun k ok hk hki hun hno=>by
       refine hfree k ok hk hki ?_ hno
       by_cases hjk : j = k
       · subst hjk; exact hjun
       · rw [getD_set_ne true hjk] at hun; exact hun
     refine wpOp_mono (fun a' w' h3=>?_) h2
     have hS' : S (listed.setIfInBounds j true) w':=by
       have:=h3.2.1
       rw [← Array.setIfInBounds_comm _ _ hji] at this
       exact (hSi _ _).1 this
     refine ⟨hS',ih (listed.setIfInBounds j true) a' w' (hc.set hj) hfree' (ready_mono hr (Ne.symm hji)) h3.1 hS' ?_⟩
     rw [Array.setIfInBounds_comm _ _ hji]
     exact h3.2.2
theorem wpAnyG_take {i : Nat} {oi : Oper} {v : Value} {fuel : Nat} {listed : Array Bool} {a : Act} {w : World} (hi : ops[i]? = some oi)
   (hs : Region.noSelect ops = true) (hc : clB md ops listed = true) (hf : Region.free md ops listed i = true) (hr : (Region.ready md ops listed).contains i = true)
   (hQ : ∀ c a w,Q (.panic c) (a.put oi.dst v) w → Q (.panic c) a w) (hSi : ∀ l w,S (l.setIfInBounds i true) w ↔ S l w) (hy : YieldsIf P ops (SG md ops S i) oi v a) (hS : S listed w)
   (h : wpAnyG P md ops Q S fuel (listed.setIfInBounds i true) (a.put oi.dst v) w) : wpAnyG P md ops Q S (fuel + 1) listed a w :=
 wpAnyG_first hi (Region.noSelect_spec hs) hQ hSi fuel listed a w (cl_of hc) (Region.free_spec hi hf) (by simpa using hr) hy hS h
theorem wpAnyG_all {rs : List Nat} {fuel : Nat} {listed : Array Bool} {a : Act} {w : World} (hr : Region.ready md ops listed = rs) (hne : rs ≠ [])
   (h : ∀ i ∈ rs,wpOp P ops Q i (fun a' w'=>S (listed.setIfInBounds i true) w' ∧ wpAnyG P md ops Q S fuel (listed.setIfInBounds i true) a' w') a w) : wpAnyG P md ops Q S (fuel + 1) listed a w :=
 ⟨fun h0=>absurd (hr ▸ h0) hne,hr ▸ h⟩
theorem wpAnyG_done {listed : Array Bool} {a : Act} {w : World} (hr : Region.ready md ops listed = []) (h : Q .normal a w) :
   ∀ fuel,wpAnyG P md ops Q S fuel listed a w
 | 0=>⟨hr,h⟩
 | _ + 1=>⟨fun _=>h,by rw [hr]; simp⟩
theorem wp_region_g {id : Nat} {a : Act} {w : World} (S : Array Bool → World → Prop) (hm : P.follows .mixedOrders = true)
   (h : wpAnyG P .any ops Q S ops.size (Array.replicate ops.size false) a { w with drawn:=w.drawn + 1 }) : (Code.region id ops true).wp P Q a w :=
 wp_region_any hm (wpAny_of_g _ _ _ _ h)
theorem set_iff {l : Array Bool} {i j : Nat} (h : i ≠ j) : ((l.setIfInBounds i true).getD j false = false) ↔ (l.getD j false = false):=by rw [getD_set_ne false h]
end
end Go.Proofs.Ytibcdikfbhmheaa

namespace Go.Proofs.Ytibcdikfbhmheaa
open Go Go.Proofs
open Go.RowKit
set_option linter.unusedVariables false
theorem wpl_ex {P : Program} {ops : Array Oper} {rest : List Oper} {o : Oper} {a : Act} {w : World} {Q : Exit → Act → World → Prop} {s x : Operand} {t : TypeId} {vs vx : Value} {Ψ : Value → World → Prop} (hgd : o.guard = none)
   (ho : o.op = .call { callee:=.builtin .append,args:=#[s,x],argTypes:=#[t,t] }) (hty : o.type = t) (hs : a.eval s = vs) (hx : a.eval x = vx) (hr : ∃ v w',(Builtin.append_ #[t,t] t #[vs,vx]).run P w = .ok v w' ∧ Ψ v w')
   (h : ∀ v w',Ψ v w' → wpList P ops Q rest (a.put o.dst v) w') : wpList P ops Q (o :: rest) a w:=by
 refine wpList_plain hgd fun K hK=>?_
 obtain ⟨v',w',hr,h2⟩:=hr
 unfold Oper.wp execOp
 rw [← hty] at hr
 simp only [ho,resolve,invoke,builtin,Sem.run_bind,Sem.run_pure,Result.andThen_ok,List.map_toArray,List.map_cons,List.map_nil,hs,hx]
 rw [hty] at hr ⊢
 rw [hr]
 exact hK _ _ (h v' w' h2)
set_option maxRecDepth 100000
end Go.Proofs.Ytibcdikfbhmheaa

namespace Go.Proofs.Ytibcdikfbhmheaa
open Go Go.Proofs Go.Conc
open Go.ConcN (sumTo upd sumTo_upd upd_ne upd_same)
open Go.RowKit
set_option linter.unusedVariables false
theorem CwAt.z4 {C : Cw} {ended : Bool} {st : Nat → Int} {V : World} (H : CwAt C ended st V) {i : Nat} (hi : i < C.n) : V.frozen? ⟨C.tb i,4,none⟩ = false:=by simp [World.frozen?,H.thr i hi]
set_option maxRecDepth 100000
def Cw.has (C : Cw) (b : Nat) : Prop:=b = C.cb ∨ b = C.lb ∨ ∃ j,j < C.n ∧ b = C.tb j
theorem CwAt.off {C : Cw} {ended : Bool} {st : Nat → Int} {V V' : World} (H : CwAt C ended st V) (hk : ∀ b,C.has b → V'.heap[b]? = V.heap[b]?) : CwAt C ended st V':=⟨by rw [hk _ (.inl rfl)]; exact H.crew,fun i hi=>by rw [hk _ (.inr (.inr ⟨i,hi,rfl⟩))]; exact H.thr i hi⟩
theorem LsV.off {C : Cw} {V V' : World} (H : LsV C V) (hk : ∀ b,C.has b → V'.heap[b]? = V.heap[b]?) : LsV C V':=H.keep (hk _ (.inr (.inl rfl)))
theorem set_off (w : World) {b k c : Nat} (v : Value) (h : c ≠ b) : (w.setCell ⟨b,k,none⟩ v).heap[c]? = w.heap[c]?:=by rw [setCell_heap,if_neg h]
end Go.Proofs.Ytibcdikfbhmheaa

namespace Go.Proofs.Ytibcdikfbhmheaa
open Go Go.Proofs Go.Conc
open Go.ConcN (sumTo upd sumTo_upd upd_ne upd_same)
open Go.RowKit
set_option linter.unusedVariables false
set_option maxRecDepth 100000
end Go.Proofs.Ytibcdikfbhmheaa
