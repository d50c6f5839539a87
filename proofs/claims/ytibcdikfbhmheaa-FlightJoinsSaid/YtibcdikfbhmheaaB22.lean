import Derived.Test.YtibcdikfbhmheaaProg
import Derived.ProofKit
import Derived.Below
import Derived.Maps.AppendAt
import Derived.WalkSpells
import Derived.WalkLawsBesides
import Derived.Deep.Draws
import Derived.Lib.Hide
import Derived.Deep.LoopGhost
import Derived.Deep.QuietTactic
import Derived.Test.YtibcdikfbhmheaaB16
import Derived.OrdersHeld
import Derived.Test.YtibcdikfbhmheaaB12
set_option linter.unusedSimpArgs false
set_option linter.unusedVariables false
namespace Go.Proofs.Ytibcdikfbhmheaa
open Go Go.Proofs
open Go.RowKit
def Qu (w : World) (e : TypeId) (sz : Nat) (v : Value) (n : Nat) (q : List Value) : Prop :=
 q.length = n * sz /\ ((v = .slice none 0 0 /\ n = 0) ∨ ∃ g o cap cur,v = .slice (some ⟨g,o,none⟩) n cap /\ w.heap[g]? = some (.cells cur e (0,0)) /\ n <= cap /\ cap <= maxLen /\ o + cap * sz <= cur.size /\ ∀ j u,q[j]? = some u -> cur[o + j]? = some u)
theorem qadd (b off k : Nat) : (⟨b,off,none⟩ : Addr).add k = ⟨b,off + k,none⟩:=by unfold Addr.add; split <;> simp_all
theorem qu_push {P : Program} {t e : TypeId} {i : TypeInfo} {z : Value} {sz B : Nat} (ht : P.underlying t = some (.slice e)) (hi : P.info? e = some i) (hz : i.zero = some z) (hsize : i.size = sz) (hby : i.bytes = B) (hzs : z.cells.size = sz) (hsz : 0 < sz) (hB : B <= 100)
   {w : World} {v : Value} {n : Nat} {q : List Value} (hq : Qu w e sz v n q) {b c : Nat} {news : Array Value} (hb : w.heap[b]? = some (.cells news e (0,0))) (hl : news.size = sz) (h1 : ∀ u ∈ news.toList,u.oneCell' = true) (hn : n < 1000000000) :
   ∃ v' w',(Builtin.append_ #[t,t] t #[v,.slice (some ⟨b,0,none⟩) 1 c]).run P w = .ok v' w' /\ Qu w' e sz v' (n + 1) (q ++ news.toList) /\ w.heap.size <= w'.heap.size /\ (∀ b,b < w.heap.size -> v.ownBlock ≠ some b -> w'.heap[b]? = w.heap[b]?) /\ (v'.ownBlock = v.ownBlock ∨ v'.ownBlock = some w.heap.size):=by
 subst hsize
 have hnews : ∀ j u,news.toList[j]? = some u -> w.cell? ((⟨b,0,none⟩ : Addr).add j) = some u:=fun j u hu=>by
   rw [qadd,Nat.zero_add]
   simp only [World.cell?,hb]
   simpa using hu
 have hl' : news.toList.length = 1 * i.size:=by simp [hl]
 have h63 : n + 1 <= maxLen:=by simp only [maxLen]; omega
 have hby2 : (n + 1) * i.bytes <= 140737488355328:=by
   have : (n + 1) * i.bytes <= (n + 1) * 100:=Nat.mul_le_mul_left _ (by omega)
   omega
 have hlen : (q ++ news.toList).length = (n + 1) * i.size:=by rw [List.length_append,hq.1,hl',← Nat.add_mul]
 have grown : ∀ (old : Nat),old < n + 1 ->
     Qu (w.drew.alloc (.cells (q.toArray ++ news.toList.toArray ++ Builtin.zeroCells z.cells (grownCap w (n + 1) old e - (n + 1))) e)) e i.size (.slice (some ⟨w.heap.size,0,none⟩) (n + 1) (grownCap w (n + 1) old e)) (n + 1) (q ++ news.toList) /\
     w.heap.size <= (w.drew.alloc (.cells (q.toArray ++ news.toList.toArray ++ Builtin.zeroCells z.cells (grownCap w (n + 1) old e - (n + 1))) e)).heap.size /\
     ∀ b,b < w.heap.size -> (w.drew.alloc (.cells (q.toArray ++ news.toList.toArray ++ Builtin.zeroCells z.cells (grownCap w (n + 1) old e - (n + 1))) e)).heap[b]? = w.heap[b]?:=by
   intro old ho
   have hge:=grownCap_ge w (n + 1) old e
   have hcm : grownCap w (n + 1) old e <= maxLen:=grownCap_le_maxLen w (n + 1) old e h63
   refine ⟨⟨hlen,.inr ⟨w.heap.size,0,_,_,rfl,heap_alloc_new w.drew _,hge,hcm,?_,fun j u hu=>?_⟩⟩,by simp,fun k hk=>(heap_alloc_old w.drew _ hk)⟩
   . have h3 : (grownCap w (n + 1) old e) * i.size = (n + 1) * i.size + (grownCap w (n + 1) old e - (n + 1)) * i.size:=by rw [← Nat.add_mul]; congr 1; omega
     have h4 : (n + 1) * i.size = n * i.size + i.size:=by rw [Nat.succ_mul]
     have h5 : q.length = n * i.size:=hq.1
     simp only [Array.size_append,List.size_toArray,size_zeroCells,hzs,Array.length_toList,hl,h5]
     omega
   . rw [Nat.zero_add]
     have e2 : q.toArray ++ news.toList.toArray ++ Builtin.zeroCells z.cells (grownCap w (n + 1) old e - (n + 1)) = ((q ++ news.toList) ++ (Builtin.zeroCells z.cells (grownCap w (n + 1) old e - (n + 1))).toList).toArray:=by
       apply Array.ext'; simp
     rw [e2,List.getElem?_toArray,List.getElem?_append_left]
     . exact hu
     . apply Nat.lt_of_not_le
       intro h
       rw [List.getElem?_eq_none h] at hu
       cases hu
 rcases hq.2 with ⟨rfl,rfl⟩ | ⟨g,o,cap,cur,rfl,hg,hnc,hcm,hcs,hread⟩
 . have hx : q = []:=List.eq_nil_of_length_eq_zero (by simpa using hq.1)
   subst hx
   have hr:=run_append_nil (P:=P) w t t e i z ht hi hz ⟨b,0,none⟩ 1 c news.toList hl' hnews (by omega) (by omega) (by have hb:=hby2; simp only [Nat.zero_add] at hb; omega)
   have hgr:=grown 0 (by omega)
   simp only [Nat.zero_add,List.nil_append,Array.empty_append] at hgr ⊢
   exact ⟨_,_,hr,hgr.1,hgr.2.1,fun b hb _=>hgr.2.2 b hb,.inr rfl⟩
 . have hq1:=hq.1
   by_cases hroom : n + 1 <= cap
   . have hs : (n + 1) * i.size <= cap * i.size:=Nat.mul_le_mul_right _ hroom
     have hs2 : (n + 1) * i.size = n * i.size + i.size:=by rw [Nat.succ_mul]
     have hfit : o + n * i.size + 0 + news.toList.length <= cur.size:=by rw [Array.length_toList,hl]; omega
     have hf:=run_firstCells_some (P:=P) w i.size 1 ⟨b,0,none⟩ 1 c news.toList hl' hnews
     have hst:=run_storeCells_at P g (o + n * i.size) e news.toList 0 cur w hg hfit h1
     simp only [Nat.add_zero] at hst
     have hr : (Builtin.append_ #[t,t] t #[.slice (some ⟨g,o,none⟩) n cap,.slice (some ⟨b,0,none⟩) 1 c]).run P w = .ok (.slice (some ⟨g,o,none⟩) (n + 1) cap) (w.setRow g (cur.toList.take (o + n * i.size) ++ news.toList ++ cur.toList.drop (o + n * i.size + news.toList.length)).toArray):=by
         simp [Builtin.append_,run_underlying ht,sizeOf,typeInfo,hi,Builtin.lenOf,hroom,hf,qadd,hst]
     refine ⟨_,_,hr,⟨hlen,.inr ⟨g,o,cap,_,rfl,setRow_heap w g cur _ e _ hg,hroom,hcm,?_,fun j u hu=>?_⟩⟩,by simp,fun k _ hk=>setRow_other w g k _ (fun e=>hk (by simp [Value.ownBlock,e])),.inl rfl⟩
     . simp only [List.size_toArray,List.length_append,List.length_take,List.length_drop,Array.length_toList]
       rw [hl]
       rw [Array.length_toList,hl] at hfit
       omega
     . rw [List.getElem?_toArray,List.append_assoc]
       rw [Array.length_toList] at hfit
       have ht1 : (List.take (o + n * i.size) cur.toList).length = o + n * i.size:=by rw [List.length_take,Array.length_toList]; omega
       by_cases hj : j < n * i.size
       . rw [List.getElem?_append_left (by rw [ht1]; omega),List.getElem?_take,if_pos (by omega)]
         rw [List.getElem?_append_left (by omega)] at hu
         simpa using hread j u hu
       . rw [List.getElem?_append_right (by rw [ht1]; omega),ht1]
         rw [List.getElem?_append_right (by omega),hq1] at hu
         have hlt : j - n * i.size < news.toList.length:=by
           apply Nat.lt_of_not_le
           intro h
           rw [List.getElem?_eq_none h] at hu
           cases hu
         rw [show o + j - (o + n * i.size) = j - n * i.size by omega,List.getElem?_append_left hlt]
         exact hu
   . have holds : ∀ j u,q[j]? = some u -> w.cell? ((⟨g,o,none⟩ : Addr).add j) = some u:=fun j u hu=>by
       rw [qadd]
       simp only [World.cell?,hg]
       exact hread j u hu
     have hr:=run_append_grow (P:=P) w t t e i z ht hi hz ⟨g,o,none⟩ n cap q hq1 holds ⟨b,0,none⟩ 1 c news.toList hl' hnews (by omega) (by omega) (growslice_fits (by omega) hby2)
     have hgr:=grown cap (by omega)
     exact ⟨_,_,hr,hgr.1,hgr.2.1,fun b hb _=>hgr.2.2 b hb,.inr rfl⟩
theorem Qu.keep {w w' : World} {e : TypeId} {sz : Nat} {v : Value} {n : Nat} {q : List Value} (h : Qu w e sz v n q) (hk : ∀ b,v.ownBlock = some b -> w'.heap[b]? = w.heap[b]?) : Qu w' e sz v n q:=by
 obtain ⟨h1,h2⟩:=h
 refine ⟨h1,h2.imp id ?_⟩
 rintro ⟨g,o,cap,cur,rfl,h3,h4⟩
 exact ⟨g,o,cap,cur,rfl,by rw [hk g rfl]; exact h3,h4⟩
theorem Qu.at_ {w : World} {e : TypeId} {sz : Nat} {v : Value} {n : Nat} {q : List Value} (h : Qu w e sz v n q) {b : Nat} (hb : v.ownBlock = some b) : b < w.heap.size:=by
 obtain ⟨h1,⟨rfl,_⟩ | ⟨g,o,cap,cur,rfl,h3,_⟩⟩:=h
 . cases hb
 . obtain rfl : g = b:=by simpa [Value.ownBlock] using hb
   exact (Array.getElem?_eq_some_iff.1 h3).1
theorem Qu.sl {w : World} {e : TypeId} {sz : Nat} {v : Value} {n : Nat} {q : List Value} (h : Qu w e sz v n q) : ∃ b c,v = .slice b n c:=by
 obtain ⟨h1,⟨rfl,h2⟩ | ⟨g,o,cap,cur,rfl,_⟩⟩:=h
 . exact ⟨_,_,by rw [h2]⟩
 . exact ⟨_,_,rfl⟩
theorem cell_lk {w : World} {a : Addr} {v : Value} (h : w.cell? a = some v) : a.block < w.heap.size:=by
 apply Nat.lt_of_not_le
 intro hge
 simp only [World.cell?,Array.getElem?_eq_none hge] at h
 cases h
theorem cell_kept {w w' : World} {a : Addr} {v : Value} (h : w.cell? a = some v) (hk : w'.heap[a.block]? = w.heap[a.block]?) : w'.cell? a = some v:=by
 unfold World.cell? at h ⊢
 rw [hk]; exact h
theorem froz_kept {w w' : World} {a : Addr} (h : w.frozen? a = false) (hk : w'.heap[a.block]? = w.heap[a.block]?) : w'.frozen? a = false:=by
 unfold World.frozen? at h ⊢
 rw [hk]; exact h
def cdr (sz : Nat) : Value -> Value
 | .slice (some a) n c=>.slice (some (if c = 1 then a else a.add sz)) (n - 1) (c - 1)
 | v=>v
theorem cdr_mk (sz g o n c : Nat) : cdr sz (.slice (some ⟨g,o,none⟩) n c) = .slice (some ⟨g,if c = 1 then o else o + sz,none⟩) (n - 1) (c - 1):=by
 unfold cdr
 simp only
 split <;> simp [qadd]
theorem Qu.pop {w : World} {e : TypeId} {sz : Nat} {v : Value} {n : Nat} {x q : List Value} (h : Qu w e sz v (n + 1) (x ++ q)) (hx : x.length = sz) (hsz : 0 < sz) : ∃ g o cap,v = .slice (some ⟨g,o,none⟩) (n + 1) cap /\ n + 1 <= cap /\ (∀ j u,x[j]? = some u -> w.cell? ⟨g,o + j,none⟩ = some u) /\ Qu w e sz (cdr sz v) n q /\ (cdr sz v).ownBlock = v.ownBlock:=by
 obtain ⟨h1,⟨_,h2⟩ | ⟨g,o,cap,cur,rfl,h3,h4,h5,h6,h7⟩⟩:=h
 . omega
 . refine ⟨g,o,cap,rfl,h4,fun j u hu=>?_,⟨?_,.inr ⟨g,if cap = 1 then o else o + sz,cap - 1,cur,?_,h3,by omega,by omega,?_,fun j u hu=>?_⟩⟩,?_⟩
   . simp only [World.cell?,h3]
     exact h7 j u (by rw [List.getElem?_append_left]; exact hu; exact (List.getElem?_eq_some_iff.1 hu).1)
   . rw [List.length_append,hx,Nat.succ_mul] at h1; omega
   . rw [cdr_mk,Nat.add_sub_cancel]
   . by_cases hc : cap = 1
     . subst hc; simp; omega
     . rw [if_neg hc]
       have : (cap - 1) * sz + sz = cap * sz:=by rw [← Nat.succ_mul]; congr 1; omega
       omega
   . by_cases hc : cap = 1
     . exfalso
       have h0 : n = 0:=by omega
       subst h0
       rw [List.length_append,hx,Nat.zero_add,Nat.one_mul] at h1
       have:=(List.getElem?_eq_some_iff.1 hu).1
       omega
     . rw [if_neg hc,Nat.add_assoc]
       refine h7 (sz + j) u ?_
       rw [List.getElem?_append_right (by omega),hx,show sz + j - sz = j by omega]
       exact hu
   . rw [cdr_mk]; rfl
open Go Go.Conc Go.Proofs
def Grw (V W : World) (v v' : Value) : Prop:=V.heap.size <= W.heap.size /\ (∀ b,b < V.heap.size -> v.ownBlock ≠ some b -> W.heap[b]? = V.heap[b]?) /\ (v'.ownBlock = v.ownBlock ∨ v'.ownBlock = some V.heap.size)
theorem app_none {t e : TypeId} {z : Value} {sz B : Nat} (ht : Try.prog.underlying t = some (.slice e)) (hi : (Try.prog.info? e).map (fun i=>(i.zero,i.size,i.bytes)) = some (some z,sz,B)) {b : Option Addr} {n c : Nat} (hc : n <= c) (hb : c = 0 -> b ≠ none -> True) (w : World) :
   (Builtin.append_ #[t,t] t #[.slice b n c,.slice none 0 0]).run Try.prog w = .ok (.slice b n c) w:=by
 obtain ⟨i0,hi0,hz⟩ : ∃ i0,Try.prog.info? e = some i0 /\ (i0.zero,i0.size,i0.bytes) = (some z,sz,B):=by
   cases e : Try.prog.info? e with
   | none=>rw [e] at hi; cases hi
   | some i0=>rw [e] at hi; exact ⟨i0,rfl,by simpa using hi⟩
 have hs : (sizeOf e).run Try.prog w = .ok i0.size w:=by simp [sizeOf,typeInfo,hi0]
 cases b with
 | none=>simp [Builtin.append_,run_underlying ht,hs,Builtin.lenOf,Builtin.firstCells,hc]
 | some a=>simp [Builtin.append_,run_underlying ht,hs,Builtin.lenOf,Builtin.firstCells,storeCells,hc]
theorem app_row {t e : TypeId} {z : Value} {sz B : Nat} (ht : Try.prog.underlying t = some (.slice e)) (hi : (Try.prog.info? e).map (fun i=>(i.zero,i.size,i.bytes)) = some (some z,sz,B)) (hzs : z.cells.size = sz) (hsz : 0 < sz) (hB : B <= 100) {V : World} {v u : Value} {n m : Nat} {xs ys : List Value} (hrow : V.ownsRow 0 e sz v n xs) (hsrc : V.ownsRow 0 e sz u m ys) (h1 : ∀ y ∈ ys,y.oneCell' = true) (hlen : n + m < 1000000000) :
   ∃ v' w',(Builtin.append_ #[t,t] t #[v,u]).run Try.prog V = .ok v' w' /\ w'.ownsRow 0 e sz v' (n + m) (xs ++ ys) /\ Grw V w' v v':=by
 obtain ⟨hy,h2⟩:=hsrc
 rcases h2 with ⟨rfl,rfl⟩ | ⟨g,cap,cur,rfl,_,h4,h5,h6,h7,h8⟩
 . obtain ⟨b,k,c,rfl,hkc,rfl⟩ : ∃ b k c,v = .slice b k c /\ k <= c /\ k = n:=by
     obtain ⟨_,h2⟩:=hrow
     rcases h2 with ⟨rfl,rfl⟩ | ⟨g,cap,cur,rfl,_,_,h5,_⟩
     . exact ⟨_,_,_,rfl,Nat.le_refl _,rfl⟩
     . exact ⟨_,_,_,rfl,h5,rfl⟩
   have : ys = []:=by simpa using hy
   subst this
   refine ⟨_,_,app_none ht hi hkc (fun _ _=>trivial) _,?_,⟨Nat.le_refl _,fun _ _ _=>rfl,.inl rfl⟩⟩
   rw [List.append_nil,Nat.add_zero]
   exact hrow
 . obtain ⟨i0,hi0,hz⟩ : ∃ i0,Try.prog.info? e = some i0 /\ (i0.zero,i0.size,i0.bytes) = (some z,sz,B):=by
     cases e : Try.prog.info? e with
     | none=>rw [e] at hi; cases hi
     | some i0=>rw [e] at hi; exact ⟨i0,rfl,by simpa using hi⟩
   obtain ⟨hz0,hz1,hz2⟩ : i0.zero = some z /\ i0.size = sz /\ i0.bytes = B:=by simpa using hz
   obtain ⟨v',w',a1,a2,a3,_,a5⟩:=run_append_own_at (P:=Try.prog) (w:=V) 0 t t e i0 z sz B ht hi0 hz0 hz1 hz2 hzs hsz v n xs hrow ⟨g,0,none⟩ m cap ys hy (fun j u hu=>by
     rw [qadd,Nat.zero_add]
     rw [← h8] at hu
     have hj : j < m * sz:=by
       apply Nat.lt_of_not_le
       intro hge
       rw [List.getElem?_eq_none (by rw [List.length_take]; omega)] at hu
       cases hu
     rw [List.getElem?_take,if_pos hj] at hu
     exact cell_of h4 (by simpa using hu)) h1 (by simp only [maxLen]; omega) (by
     have : (n + m) * B <= (n + m) * 100:=Nat.mul_le_mul_left _ hB
     omega) (Nat.zero_le _)
   exact ⟨v',w',a1,a2,a3.size,fun b hb hne=>a3.block b hb (fun e=>hne e.symm),a5⟩
def bq (b : Nat) : Value:=.pointer (some ⟨b,0,none⟩)
section
variable {P : Program} {ops : Array Oper} {Q : Exit -> Act -> World -> Prop} {md : Region.Mode} {S : Array Bool -> World -> Prop}
def wpAnyG (P : Program) (md : Region.Mode) (ops : Array Oper) (Q : Exit -> Act -> World -> Prop) (S : Array Bool -> World -> Prop) : Nat -> Array Bool -> Act -> World -> Prop
 | 0,listed,a,w=>Region.ready md ops listed = [] /\ Q .normal a w
 | fuel + 1,listed,a,w=>(Region.ready md ops listed = [] -> Q .normal a w) /\ ∀ i ∈ Region.ready md ops listed,wpOp P ops Q i (fun a' w'=>S (listed.setIfInBounds i true) w' /\ wpAnyG P md ops Q S fuel (listed.setIfInBounds i true) a' w') a w
theorem wpAny_of_g : ∀ (fuel : Nat) (listed : Array Bool) (a : Act) (w : World),wpAnyG P md ops Q S fuel listed a w -> wpAny P md ops Q fuel listed a w
 | 0,_,_,_,h=>h
 | fuel + 1,_,_,_,h=>⟨h.1,fun i hi=>wpOp_mono (fun a' w' h'=>wpAny_of_g fuel _ a' w' h'.2) (h.2 i hi)⟩
def SG (md : Region.Mode) (ops : Array Oper) (S : Array Bool -> World -> Prop) (i : Nat) (w : World) : Prop:=∃ l,S l w /\ Cl md ops l /\ l.getD i false = false
theorem off_of {listed : Array Bool} {i : Nat} (hr : i ∈ Region.ready md ops listed) : listed.getD i false = false:=by
 have h0:=(mem_ready.1 hr).1
 rcases Nat.lt_or_ge i listed.size with h' | h'
 . simp [h'] at h0 ⊢; exact h0
 . simp [Array.getElem?_eq_none h'] at h0
theorem wpAnyG_first {i : Nat} {oi : Oper} {v : Value} (hi : ops[i]? = some oi) (hsel : ∀ (j : Nat) (o : Oper) cs b,ops[j]? = some o -> o.op ≠ .select cs b)
   (hQ : ∀ c a w,Q (.panic c) (a.put oi.dst v) w -> Q (.panic c) a w) (hSi : ∀ l w,S (l.setIfInBounds i true) w ↔ S l w) :
   ∀ (fuel : Nat) (listed : Array Bool) (a : Act) (w : World),Cl md ops listed ->
     (∀ j oj,ops[j]? = some oj -> j ≠ i -> listed.getD j true = false -> (∀ e ∈ oj.after,Region.binds md e = true -> e.on ≠ i) -> oi.apart ops oj = true) ->
     i ∈ Region.ready md ops listed -> YieldsIf P ops (SG md ops S i) oi v a -> S listed w ->
     wpAnyG P md ops Q S fuel (listed.setIfInBounds i true) (a.put oi.dst v) w -> wpAnyG P md ops Q S (fuel + 1) listed a w:=by
 intro fuel
 induction fuel with
 | zero =>
   intro listed a w hc _ hr hy hS H
   refine ⟨fun h=>(by rw [h] at hr; cases hr),fun j hj=>?_⟩
   by_cases hji : j = i
   . subst hji; exact hy.wpOp hi ⟨listed,hS,hc,off_of hr⟩ ⟨(hSi _ _).2 hS,H⟩
   . have:=ready_mono hj hji
     rw [H.1] at this
     cases this
 | succ fuel ih =>
   intro listed a w hc hfree hr hy hS H
   refine ⟨fun h=>(by rw [h] at hr; cases hr),fun j hj=>?_⟩
   by_cases hji : j = i
   . subst hji; exact hy.wpOp hi ⟨listed,hS,hc,off_of hr⟩ ⟨(hSi _ _).2 hS,H⟩
   . have h1:=H.2 j (ready_mono hj hji)
     obtain ⟨hjun,oj,hoj,hall⟩:=mem_ready.1 hj
     have hnot : ∀ e ∈ oj.after,Region.binds md e = true -> e.on ≠ i:=fun e he hb heq=>by
       have h1:=hall e he hb
       rw [heq,off_of hr] at h1
       cases h1
     have h2:=wpOp_putIf hoj (hfree j oj hoj hji hjun hnot) (fun cs b=>hsel i oi cs b hi) (fun cs b=>hsel j oj cs b hoj) hQ hy h1
     have hfree' : ∀ k ok,ops[k]? = some ok -> k ≠ i -> (listed.setIfInBounds j true).getD k true = false ->
         (∀ e ∈ ok.after,Region.binds md e = true -> e.on ≠ i) -> oi.apart ops ok = true:=fun k ok hk hki hun hno=>by
       refine hfree k ok hk hki ?_ hno
       by_cases hjk : j = k
       . subst hjk; exact hjun
       . rw [getD_set_ne true hjk] at hun; exact hun
     refine wpOp_mono (fun a' w' h3=>?_) h2
     have hS' : S (listed.setIfInBounds j true) w':=by
       have:=h3.2.1
       rw [← Array.setIfInBounds_comm _ _ hji] at this
       exact (hSi _ _).1 this
     refine ⟨hS',ih (listed.setIfInBounds j true) a' w' (hc.set hj) hfree' (ready_mono hr (Ne.symm hji)) h3.1 hS' ?_⟩
     rw [Array.setIfInBounds_comm _ _ hji]
     exact h3.2.2
theorem wpAnyG_take {i : Nat} {oi : Oper} {v : Value} {fuel : Nat} {listed : Array Bool} {a : Act} {w : World} (hi : ops[i]? = some oi)
   (hs : Region.noSelect ops = true) (hc : clB md ops listed = true) (hf : Region.free md ops listed i = true) (hr : (Region.ready md ops listed).contains i = true)
   (hQ : ∀ c a w,Q (.panic c) (a.put oi.dst v) w -> Q (.panic c) a w) (hSi : ∀ l w,S (l.setIfInBounds i true) w ↔ S l w) (hy : YieldsIf P ops (SG md ops S i) oi v a) (hS : S listed w)
   (h : wpAnyG P md ops Q S fuel (listed.setIfInBounds i true) (a.put oi.dst v) w) : wpAnyG P md ops Q S (fuel + 1) listed a w :=
 wpAnyG_first hi (Region.noSelect_spec hs) hQ hSi fuel listed a w (cl_of hc) (Region.free_spec hi hf) (by simpa using hr) hy hS h
theorem wpAnyG_all {rs : List Nat} {fuel : Nat} {listed : Array Bool} {a : Act} {w : World} (hr : Region.ready md ops listed = rs) (hne : rs ≠ [])
   (h : ∀ i ∈ rs,wpOp P ops Q i (fun a' w'=>S (listed.setIfInBounds i true) w' /\ wpAnyG P md ops Q S fuel (listed.setIfInBounds i true) a' w') a w) : wpAnyG P md ops Q S (fuel + 1) listed a w :=
 ⟨fun h0=>absurd (hr ▸ h0) hne,hr ▸ h⟩
theorem wpAnyG_done {listed : Array Bool} {a : Act} {w : World} (hr : Region.ready md ops listed = []) (h : Q .normal a w) :
   ∀ fuel,wpAnyG P md ops Q S fuel listed a w
 | 0=>⟨hr,h⟩
 | _ + 1=>⟨fun _=>h,by rw [hr]; simp⟩
theorem wp_region_g {id : Nat} {a : Act} {w : World} (S : Array Bool -> World -> Prop) (hm : P.follows .mixedOrders = true)
   (h : wpAnyG P .any ops Q S ops.size (Array.replicate ops.size false) a { w with drawn:=w.drawn + 1 }) : (Code.region id ops true).wp P Q a w :=
 wp_region_any hm (wpAny_of_g _ _ _ _ h)
theorem set_iff {l : Array Bool} {i j : Nat} (h : i ≠ j) : ((l.setIfInBounds i true).getD j false = false) ↔ (l.getD j false = false):=by rw [getD_set_ne false h]
end
theorem wpl_ex {P : Program} {ops : Array Oper} {rest : List Oper} {o : Oper} {a : Act} {w : World} {Q : Exit -> Act -> World -> Prop} {s x : Operand} {t : TypeId} {vs vx : Value} {Ψ : Value -> World -> Prop} (hgd : o.guard = none)
   (ho : o.op = .call { callee:=.builtin .append,args:=#[s,x],argTypes:=#[t,t] }) (hty : o.type = t) (hs : a.eval s = vs) (hx : a.eval x = vx) (hr : ∃ v w',(Builtin.append_ #[t,t] t #[vs,vx]).run P w = .ok v w' /\ Ψ v w')
   (h : ∀ v w',Ψ v w' -> wpList P ops Q rest (a.put o.dst v) w') : wpList P ops Q (o :: rest) a w:=by
 refine wpList_plain hgd fun K hK=>?_
 obtain ⟨v',w',hr,h2⟩:=hr
 unfold Oper.wp execOp
 rw [← hty] at hr
 simp only [ho,resolve,invoke,builtin,Sem.run_bind,Sem.run_pure,Result.andThen_ok,List.map_toArray,List.map_cons,List.map_nil,hs,hx]
 rw [hty] at hr ⊢
 rw [hr]
 exact hK _ _ (h v' w' h2)
set_option maxRecDepth 100000
set_option maxHeartbeats 1000000 in
theorem idn27 (tb i : Nat) (w : World) (h : w.cell? ⟨tb,0,none⟩ = some (.int .i64 (i : Int))) : Calls Try.prog 27 #[.pointer (some ⟨tb,0,none⟩)] w fun e w'=>e = .returned (.int .i64 (i : Int)) /\ w' = w:=by
 go_enter Try.func27,Try.ntmps27
 go_wp2
 go_ret
 exact ⟨rfl,rfl⟩
set_option maxHeartbeats 1000000 in
theorem size127 (mb mo n c : Nat) (b : Option Addr) (w : World) (h : w.cell? ⟨mb,mo,none⟩ = some (.slice b n c)) : Calls Try.prog 127 #[.pointer (some ⟨mb,mo,none⟩)] w fun e w'=>e = .returned (.int .i64 (n : Int)) /\ w' = w:=by
 go_enter Try.func127,Try.ntmps127
 go_wp2
 go_ret
 exact ⟨rfl,rfl⟩
set_option maxHeartbeats 1000000 in
theorem pop129 (mb mo : Nat) (v : Value) (x : Int) (q : List Value) (w : World) (hc : w.cell? ⟨mb,mo,none⟩ = some v) (hf : w.frozen? ⟨mb,mo,none⟩ = false) (n : Nat) (h : Qu w 3 1 v (n + 1) (.int .i64 x :: q)) : Calls Try.prog 129 #[.pointer (some ⟨mb,mo,none⟩)] w fun e w'=>e = .returned (.tuple #[.int .i64 x,.bool true]) /\ w' = w.setCell ⟨mb,mo,none⟩ (cdr 1 v):=by
 obtain ⟨g,o,cap,rfl,hnc,hx,-,-⟩:=Qu.pop (x:=[.int .i64 x]) h rfl (by decide)
 have hx0 : w.cell? ⟨g,o,none⟩ = some (.int .i64 x):=hx 0 _ rfl
 rw [cdr_mk]
 clear hx h
 go_enter Try.func129,Try.ntmps129
 go_wp2
 . go_ret2
   exact ⟨rfl,rfl⟩
 . go_ret2
   exact ⟨rfl,rfl⟩
set_option maxHeartbeats 1000000 in
theorem pop129n (mb mo : Nat) (w : World) (b : Option Addr) (c : Nat) (hc : w.cell? ⟨mb,mo,none⟩ = some (.slice b 0 c)) : Calls Try.prog 129 #[.pointer (some ⟨mb,mo,none⟩)] w fun e w'=>e = .returned (.tuple #[.int .i64 0,.bool false]) /\ w' = w:=by
 go_enter Try.func129,Try.ntmps129
 go_wp2
 go_ret2
 exact ⟨rfl,rfl⟩
set_option maxHeartbeats 1000000 in
theorem has90 (mb mo tb i : Nat) (ow : Int) (w : World) (hi : i < 1000) (ho : w.cell? ⟨mb,mo + 1,none⟩ = some (.int .i64 ow)) (h : w.cell? ⟨tb,0,none⟩ = some (.int .i64 (i : Int))) : Calls Try.prog 90 #[.pointer (some ⟨mb,mo,none⟩),.pointer (some ⟨tb,0,none⟩)] w fun e w'=>e = .returned (.bool (ow == (i : Int) + 1)) /\ ∃ m,w' = w.drewN m:=by
 have hw : IntKind.i64.wrap ((i : Int) + 1) = (i : Int) + 1:=by rw [IntKind.wrap_i64]; omega
 go_enter Try.func90,Try.ntmps90
 go_wp2
 go_quiet ((go_at_call 27; refine Calls.quiet_of_same (idn27 tb i _ h)))
 go_wp2
 go_ret
 exact ⟨rfl,_,rfl⟩
set_option maxHeartbeats 1000000 in
theorem push128 (mb mo : Nat) (v : Value) (x : Int) (q : List Value) (n : Nat) (w : World) (hc : w.cell? ⟨mb,mo,none⟩ = some v) (hf : w.frozen? ⟨mb,mo,none⟩ = false) (h : Qu w 3 1 v n q) (hn : n < 1000000000) (hmv : v.ownBlock ≠ some mb) : Calls Try.prog 128 #[.pointer (some ⟨mb,mo,none⟩),.int .i64 x] w fun e w'=>e = .returned (.tuple #[]) /\ ∃ v' w1,w' = w1.setCell ⟨mb,mo,none⟩ v' /\ Qu w1 3 1 v' (n + 1) (q ++ [.int .i64 x]) /\ w.heap.size <= w1.heap.size /\ (∀ b,b < w.heap.size -> v.ownBlock ≠ some b -> w1.heap[b]? = w.heap[b]?) /\ (v'.ownBlock = v.ownBlock ∨ ∃ b,v'.ownBlock = some b /\ w.heap.size <= b):=by
 obtain ⟨i0,hi0,hz⟩ : ∃ i0,Try.prog.info? 3 = some i0 /\ (i0.zero,i0.size,i0.bytes) = (some (.int .i64 0),1,8):=by
   have h3 : (Try.prog.info? 3).map (fun i=>(i.zero,i.size,i.bytes)) = some (some (.int .i64 0),1,8):=by kernel_rfl
   cases e : Try.prog.info? 3 with
   | none=>rw [e] at h3; cases h3
   | some i0=>rw [e] at h3; exact ⟨i0,rfl,by simpa using h3⟩
 obtain ⟨hz0,hz1,hz2⟩ : i0.zero = some (.int .i64 0) /\ i0.size = 1 /\ i0.bytes = 8:=by simpa using hz
 have hmb : mb < w.heap.size:=cell_lk hc
 have A:=Lib.hid (qu_push (P:=Try.prog) (c:=1) Try.underlying23 hi0 hz0 hz1 hz2 rfl (by decide) (by decide) (w:=w.alloc (.cells #[.int .i64 x] 3)) (b:=w.heap.size) (news:=#[.int .i64 x]) (h.keep fun b hb=>by
   rw [heap_alloc_old _ _ (h.at_ hb)]) (heap_alloc_new w _) rfl (by simp [Value.oneCell']) hn)
 have hown : ∀ b,v.ownBlock = some b -> b < w.heap.size:=fun b hb=>h.at_ hb
 obtain ⟨vb,vc,rfl⟩:=h.sl
 clear h hz
 go_enter Try.func128,Try.ntmps128
 go_wp2_with (first
   | (refine wpl_ex rfl rfl rfl rfl rfl A.out ?_
      rintro v' w1 ⟨h1,h2,h3,h4⟩
      have k1 : ∀ b,b < w.heap.size -> (Value.slice vb n vc).ownBlock ≠ some b -> w1.heap[b]? = w.heap[b]?:=fun b hb hne=>(h3 b (by simp; omega) hne).trans (heap_alloc_old _ _ hb)
      have hs1 : w.heap.size <= w1.heap.size:=by simp at h2; omega
      have c1 : w1.cell? ⟨mb,mo,none⟩ = some (.slice vb n vc):=cell_kept hc (k1 mb hmb hmv)
      have f1 : w1.frozen? ⟨mb,mo,none⟩ = false:=froz_kept hf (k1 mb hmb hmv)
      obtain ⟨xb,xc,rfl⟩:=h1.sl
      have H:=Lib.hid (And.intro h1 (And.intro hs1 (And.intro k1 h4)))
      clear h1 h2 h3 h4 hs1 k1))
 first | go_end0 | refine bodyPost_ret (results_none rfl _ _ _) rfl ?_
 obtain ⟨h1,h2,h3,h4⟩:=H.out
 exact ⟨rfl,_,w1,rfl,h1,h2,h3,h4.imp id fun h=>⟨_,h,by simp⟩⟩
set_option maxHeartbeats 1000000 in
theorem ask91 (mb mo : Nat) (x : Nat) (w : World) (vb : Option Addr) (n vc : Nat) (ow : Int) (q : List Value) (hc : w.cell? ⟨mb,mo,none⟩ = some (.slice vb n vc)) (hf : w.frozen? ⟨mb,mo,none⟩ = false) (ho : w.cell? ⟨mb,mo + 1,none⟩ = some (.int .i64 ow)) (hfo : w.frozen? ⟨mb,mo + 1,none⟩ = false) (h : Qu w 3 1 (.slice vb n vc) n q) (hn : n < 1000000000) (hx : x < 1000) (hmv : (Value.slice vb n vc).ownBlock ≠ some mb) :
   Calls Try.prog 91 #[.pointer (some ⟨mb,mo,none⟩),.int .i64 (x : Int)] w fun e w'=>(ow = 0 /\ n = 0 /\ e = .returned (.bool true) /\ w' = w.setCell ⟨mb,mo + 1,none⟩ (.int .i64 (x + 1 : Nat))) ∨
     (¬ (ow = 0 /\ n = 0) /\ e = .returned (.bool false) /\ ∃ v' w1,w' = w1.setCell ⟨mb,mo,none⟩ v' /\ Qu w1 3 1 v' (n + 1) (q ++ [.int .i64 (x : Int)]) /\ w.heap.size <= w1.heap.size /\ (∀ b,b < w.heap.size -> (Value.slice vb n vc).ownBlock ≠ some b -> w1.heap[b]? = w.heap[b]?) /\ (v'.ownBlock = (Value.slice vb n vc).ownBlock ∨ ∃ b,v'.ownBlock = some b /\ w.heap.size <= b)):=by
 have hw : IntKind.i64.wrap ((x : Int) + 1) = ((x + 1 : Nat) : Int):=by rw [IntKind.wrap_i64]; omega
 have PU:=Lib.hid (push128 mb mo _ (x : Int) q n w hc hf h hn hmv)
 have SZ:=Lib.hid (size127 mb mo n vc vb w hc)
 clear h hn hmv
 by_cases h0 : ow = 0
 . by_cases h1 : n = 0
   . subst h0 h1
     go_enter Try.func91,Try.ntmps91
     go_wp2_with (first | (go_at_call 127; refine SZ.out.mono ?_; rintro e w1 ⟨rfl,rfl⟩))
     go_ret
     exact .inl ⟨trivial,trivial,rfl,rfl⟩
   . subst h0
     have d1 : ((n : Int) == 0) = false:=by simp; omega
     go_enter Try.func91,Try.ntmps91
     go_wp2_with (first | (go_at_call 127; refine SZ.out.mono ?_; rintro e w1 ⟨rfl,rfl⟩) | (go_at_call 128; refine PU.out.mono ?_; rintro e w1 ⟨rfl,H⟩; replace H:=Lib.hid H))
     go_ret
     exact .inr ⟨fun h=>h1 h.2,rfl,H.out⟩
 . have d1 : (ow == 0) = false:=by simp; omega
   go_enter Try.func91,Try.ntmps91
   go_wp2_with (first | (go_at_call 128; refine PU.out.mono ?_; rintro e w1 ⟨rfl,H⟩; replace H:=Lib.hid H))
   go_ret
   exact .inr ⟨fun h=>h0 h.1,rfl,H.out⟩
open Go Go.Proofs Go.Conc
def wkW (C : Cw) (st : Nat -> Int) (x : Nat) (w : World) : World:=if st x = 2 then w.setCell ⟨C.tb x,4,none⟩ (.int .i64 1) else w
theorem CwAt.z4 {C : Cw} {ended : Bool} {st : Nat -> Int} {V : World} (H : CwAt C ended st V) {i : Nat} (hi : i < C.n) : V.frozen? ⟨C.tb i,4,none⟩ = false:=by simp [World.frozen?,H.thr i hi]
set_option maxRecDepth 100000
set_option maxHeartbeats 1000000 in
theorem wake26 {C : Cw} {st : Nat -> Int} {w : World} {i x : Nat} (hi : i < C.n) (hx : x < C.n) (hn : C.n < 1000) (H : CwAt C false st w) (L : LsV C w) :
   Calls Try.prog 26 #[C.tp i,.int .i64 (x : Int)] w fun e w'=>e = .returned (.tuple #[]) /\ w' = wkW C st x w:=by
 obtain ⟨lb0,hl,hlb⟩:=L.l
 have hlb:=hlb (by omega)
 subst hlb
 have c0 : w.cell? ⟨C.cb,0,none⟩ = some (.slice (some ⟨C.lb,0,none⟩) C.n C.cap):=by rw [← hl]; exact cell_of H.crew (by simp)
 have c2:=H.c2
 have t1:=H.t1 hi
 have t4:=H.t4 hx
 have z4:=H.z4 hx
 have la:=L.at_ x hx
 have q1 : ¬ ((x : Int) < 0):=by omega
 have q2 : ¬ ((C.n : Int) <= (x : Int)):=by omega
 have d1 : decide ((x : Int) < 0) = false:=decide_eq_false q1
 have d2 : decide ((C.n : Int) <= (x : Int)) = false:=decide_eq_false q2
 simp only [Cw.tp] at la ⊢
 clear H L hl
 generalize C.n = n at *
 by_cases h2 : st x = 2
 . have d3 : (st x == 2) = true:=by simp [h2]
   unfold wkW
   rw [if_pos h2]
   go_enter Try.func26,Try.ntmps26
   go_wp2_with fail
   first | go_end0 | refine bodyPost_ret (results_none rfl _ _ _) rfl ?_
   exact ⟨rfl,rfl⟩
 . have d3 : (st x == 2) = false:=by simp [h2]
   unfold wkW
   rw [if_neg h2]
   go_enter Try.func26,Try.ntmps26
   go_wp2_with fail
   first | go_end0 | refine bodyPost_ret (results_none rfl _ _ _) rfl ?_
   exact ⟨rfl,rfl⟩
def Cw.has (C : Cw) (b : Nat) : Prop:=b = C.cb ∨ b = C.lb ∨ ∃ j,j < C.n /\ b = C.tb j
theorem CwAt.off {C : Cw} {ended : Bool} {st : Nat -> Int} {V V' : World} (H : CwAt C ended st V) (hk : ∀ b,C.has b -> V'.heap[b]? = V.heap[b]?) : CwAt C ended st V':=⟨by rw [hk _ (.inl rfl)]; exact H.crew,fun i hi=>by rw [hk _ (.inr (.inr ⟨i,hi,rfl⟩))]; exact H.thr i hi⟩
theorem LsV.off {C : Cw} {V V' : World} (H : LsV C V) (hk : ∀ b,C.has b -> V'.heap[b]? = V.heap[b]?) : LsV C V':=H.keep (hk _ (.inr (.inl rfl)))
theorem set_off (w : World) {b k c : Nat} (v : Value) (h : c ≠ b) : (w.setCell ⟨b,k,none⟩ v).heap[c]? = w.heap[c]?:=by rw [setCell_heap,if_neg h]
theorem cell_set_ne (w : World) {b k k' : Nat} (v : Value) (h : k ≠ k') : (w.setCell ⟨b,k,none⟩ v).cell? ⟨b,k',none⟩ = w.cell? ⟨b,k',none⟩:=by
 unfold World.cell?
 simp only
 rw [setCell_heap,if_pos rfl]
 rcases ho : w.heap[b]? with _ | o
 . simp
 . cases o <;> simp [Array.getElem?_setIfInBounds,h]
theorem froz_set (w : World) (a b : Addr) (v : Value) : (w.setCell a v).frozen? b = w.frozen? b:=by
 by_cases h : b.block = a.block
 . unfold World.frozen?
   rw [setCell_heap,if_pos h]
   rcases ho : w.heap[b.block]? with _ | o
   . simp
   . cases o <;> simp
 . unfold World.frozen?
   rw [setCell_heap,if_neg h]
set_option maxHeartbeats 1000000 in
theorem hand93n {C : Cw} {st : Nat -> Int} {w : World} {i : Nat} (mb mo : Nat) (vb : Option Addr) (vc : Nat) (ow : Int) (hc : w.cell? ⟨mb,mo,none⟩ = some (.slice vb 0 vc)) (ho : w.cell? ⟨mb,mo + 1,none⟩ = some (.int .i64 ow)) (hfo : w.frozen? ⟨mb,mo + 1,none⟩ = false) :
   Calls Try.prog 93 #[.pointer (some ⟨mb,mo,none⟩),C.tp i] w fun e w'=>e = .returned (.tuple #[]) /\ w' = w.setCell ⟨mb,mo + 1,none⟩ (.int .i64 0):=by
 have PO:=Lib.hid (pop129n mb mo w vb vc hc)
 simp only [Cw.tp]
 go_enter Try.func93,Try.ntmps93
 go_wp2_with (first | (go_at_call 129; refine PO.out.mono ?_; rintro e w1 ⟨rfl,rfl⟩))
 first | go_end0 | refine bodyPost_ret (results_none rfl _ _ _) rfl ?_
 exact ⟨rfl,rfl⟩
set_option maxHeartbeats 1000000 in
theorem hand93 {C : Cw} {st : Nat -> Int} {w : World} {i x : Nat} (mb mo : Nat) (v : Value) (n : Nat) (q : List Value) (ow : Int) (hi : i < C.n) (hx : x < C.n) (hn : C.n < 1000) (H : CwAt C false st w) (L : LsV C w) (hmb : ¬ C.has mb) (hc : w.cell? ⟨mb,mo,none⟩ = some v) (hf : w.frozen? ⟨mb,mo,none⟩ = false) (ho : w.cell? ⟨mb,mo + 1,none⟩ = some (.int .i64 ow)) (hfo : w.frozen? ⟨mb,mo + 1,none⟩ = false) (h : Qu w 3 1 v (n + 1) (.int .i64 (x : Int) :: q)) :
   Calls Try.prog 93 #[.pointer (some ⟨mb,mo,none⟩),C.tp i] w fun e w'=>e = .returned (.tuple #[]) /\ w' = wkW C st x ((w.setCell ⟨mb,mo,none⟩ (cdr 1 v)).setCell ⟨mb,mo + 1,none⟩ (.int .i64 (x + 1 : Nat))):=by
 have PO:=Lib.hid (pop129 mb mo v x q w hc hf n h)
 have hoff : ∀ b,C.has b -> ((w.setCell ⟨mb,mo,none⟩ (cdr 1 v)).setCell ⟨mb,mo + 1,none⟩ (.int .i64 (x + 1 : Nat))).heap[b]? = w.heap[b]?:=fun b hb=>by
   have hne : b ≠ mb:=fun e=>hmb (e ▸ hb)
   rw [set_off _ _ hne,set_off _ _ hne]
 have WK:=Lib.hid (wake26 hi hx hn (H.off hoff) (L.off hoff))
 have hw : IntKind.i64.wrap ((x : Int) + 1) = ((x + 1 : Nat) : Int):=by rw [IntKind.wrap_i64]; omega
 have ho' : (w.setCell ⟨mb,mo,none⟩ (cdr 1 v)).cell? ⟨mb,mo + 1,none⟩ = some (.int .i64 ow):=by
   rw [cell_set_ne _ _ (by omega)]; exact ho
 have hfo' : (w.setCell ⟨mb,mo,none⟩ (cdr 1 v)).frozen? ⟨mb,mo + 1,none⟩ = false:=by
   rw [froz_set]; exact hfo
 generalize hw1 : w.setCell ⟨mb,mo,none⟩ (cdr 1 v) = w1 at *
 simp only [Cw.tp] at WK ⊢
 clear h H L hoff hc hf ho hfo hw1
 go_enter Try.func93,Try.ntmps93
 go_wp2_with (first | (go_at_call 129; refine PO.out.mono ?_; rintro e w2 ⟨rfl,rfl⟩) | (go_at_call 26; refine WK.out.mono ?_; rintro e w3 ⟨rfl,rfl⟩))
 first | go_end0 | refine bodyPost_ret (results_none rfl _ _ _) rfl ?_
 exact ⟨rfl,rfl⟩
set_option maxRecDepth 100000
set_option maxHeartbeats 1000000 in
theorem unlock46n {C : Cw} {st : Nat -> Int} {w : World} {i : Nat} (mb mo : Nat) (vb : Option Addr) (vc : Nat) (hi : i < C.n) (hn : C.n < 1000) (H : CwAt C false st w) (hc : w.cell? ⟨mb,mo,none⟩ = some (.slice vb 0 vc)) (ho : w.cell? ⟨mb,mo + 1,none⟩ = some (.int .i64 (i + 1 : Nat))) (hfo : w.frozen? ⟨mb,mo + 1,none⟩ = false) :
   Calls Try.prog 46 #[.pointer (some ⟨mb,mo,none⟩),C.tp i] w fun e w'=>e = .returned (.int .i64 0) /\ ∃ m,w' = (w.drewN m).setCell ⟨mb,mo + 1,none⟩ (.int .i64 0):=by
 have HA:=Lib.hid (has90 mb mo (C.tb i) i (i + 1 : Nat) w (by omega) ho (H.t0 hi))
 have HD:=Lib.hid (fun m=>hand93n (C:=C) (st:=st) (i:=i) (w:=w.drewN m) mb mo vb vc (i + 1 : Nat) hc ho hfo)
 have e1 : (((i + 1 : Nat) : Int) == (i : Int) + 1) = true:=by simp
 rw [e1] at HA
 simp only [Cw.tp] at HD ⊢
 clear H hc ho hfo e1
 go_enter Try.func46,Try.ntmps46
 go_wp2_with (first | (go_at_call 90; refine HA.out.mono ?_; rintro e w1 ⟨rfl,mm,rfl⟩) | (go_at_call 93; refine (HD.out _).mono ?_; rintro e w2 ⟨rfl,rfl⟩))
 go_ret
 exact ⟨rfl,_,rfl⟩
set_option maxHeartbeats 1000000 in
theorem unlock46 {C : Cw} {st : Nat -> Int} {w : World} {i x : Nat} (mb mo : Nat) (v : Value) (n : Nat) (q : List Value) (hi : i < C.n) (hx : x < C.n) (hn : C.n < 1000) (H : CwAt C false st w) (L : LsV C w) (hmb : ¬ C.has mb) (hc : w.cell? ⟨mb,mo,none⟩ = some v) (hf : w.frozen? ⟨mb,mo,none⟩ = false) (ho : w.cell? ⟨mb,mo + 1,none⟩ = some (.int .i64 (i + 1 : Nat))) (hfo : w.frozen? ⟨mb,mo + 1,none⟩ = false) (h : Qu w 3 1 v (n + 1) (.int .i64 (x : Int) :: q)) :
   Calls Try.prog 46 #[.pointer (some ⟨mb,mo,none⟩),C.tp i] w fun e w'=>e = .returned (.int .i64 0) /\ ∃ m,w' = wkW C st x (((w.drewN m).setCell ⟨mb,mo,none⟩ (cdr 1 v)).setCell ⟨mb,mo + 1,none⟩ (.int .i64 (x + 1 : Nat))):=by
 have HA:=Lib.hid (has90 mb mo (C.tb i) i (i + 1 : Nat) w (by omega) ho (H.t0 hi))
 have HD:=Lib.hid (fun m=>hand93 (C:=C) (st:=st) (i:=i) (w:=w.drewN m) mb mo v n q (i + 1 : Nat) hi hx hn (H.off fun _ _=>rfl) (L.off fun _ _=>rfl) hmb hc hf ho hfo h)
 have e1 : (((i + 1 : Nat) : Int) == (i : Int) + 1) = true:=by simp
 rw [e1] at HA
 simp only [Cw.tp] at HD ⊢
 clear H L hc hf ho hfo h e1
 go_enter Try.func46,Try.ntmps46
 go_wp2_with (first | (go_at_call 90; refine HA.out.mono ?_; rintro e w1 ⟨rfl,mm,rfl⟩) | (go_at_call 93; refine (HD.out _).mono ?_; rintro e w2 ⟨rfl,rfl⟩))
 go_ret
 exact ⟨rfl,_,rfl⟩
end Go.Proofs.Ytibcdikfbhmheaa
