import Derived.Test.YtibcdikfbhmheaaB07
import Derived.Conc.AtomicLaws2
import Derived.Test.YtibcdikfbhmheaaB09
import Derived.Test.YtibcdikfbhmheaaB14
set_option linter.unusedSimpArgs false
set_option linter.unusedVariables false
set_option maxRecDepth 100000
set_option maxHeartbeats 4000000
namespace Go.Proofs.Ytibcdikfbhmheaa
open Go Go.Conc Go.Proofs
open Go.ConcN (sumTo upd sumTo_upd upd_ne upd_same)
set_option linter.unusedVariables false
section
variable {P : Program} {main : Bool} {Z : Cuts} {Stop : Goroutine → World → Prop} {V : World} {g g' : Goroutine}
theorem will_atr (hr : g.status = .running) {ad : Addr} {v : Value} (hc : V.cell? ad = some v) (hs : ∀ w,w.cell? ad = some v → stepG P main g w = .go g' w #[⟨.cell ad,false,true⟩]) (h : Will P main Z Stop g' V) : Will P main Z Stop g V:=by
 refine .step hr (fun w hV hf=>?_) fun w g2 w2 es hV hf hst=>?_
 · subst hV
   obtain ⟨h1,h2,_,_,h6⟩:=cell_of_norm (W:=pz Z w) (w:=w) rfl hc
   exact ⟨g',w,_,hs w h1,Hidden.refl w,hf,fun e he=>by
     obtain rfl:=Array.mem_singleton.1 he
     exact ⟨h2,fun k lo hi hz=>⟨h6 k lo hi hz,fun x=>by cases x⟩⟩⟩
 · subst hV
   obtain ⟨h1,_⟩:=cell_of_norm (W:=pz Z w) (w:=w) rfl hc
   rw [hs w h1] at hst
   injection hst with e1 e2 e3
   subst e1 e2
   exact h
theorem will_atw (hr : g.status = .running) {ad : Addr} {v : Value} {k : IntKind} {y : Int} (hc : V.cell? ad = some v) (hz : V.frozen? ad = false) (hs : ∀ w,w.cell? ad = some v → w.frozen? ad = false → stepG P main g w = .go g' (w.setCell ad (.int k y)) #[⟨.cell ad,false,true⟩,⟨.cell ad,true,true⟩])
   (h : Will P main Z Stop g' (V.setCell ad (.int k y))) : Will P main Z Stop g V:=by
 have key : ∀ w,pz Z w = V → Fit P Z w → stepG P main g w = .go g' (w.setCell ad (.int k y)) #[⟨.cell ad,false,true⟩,⟨.cell ad,true,true⟩] ∧ Hidden Z w (w.setCell ad (.int k y)) ∧ Fit P Z (w.setCell ad (.int k y)) ∧ (∀ e ∈ (#[⟨.cell ad,false,true⟩,⟨.cell ad,true,true⟩] : Array Event),EvZ Z (w.setCell ad (.int k y)).heap.size e) ∧ pz Z (w.setCell ad (.int k y)) = V.setCell ad (.int k y):=fun w hV hf=>by
   subst hV
   obtain ⟨h1,h2,h3,⟨c,e,f,h4,h5⟩,h6⟩:=cell_of_norm (W:=pz Z w) (w:=w) rfl hc
   obtain ⟨h7,h8⟩:=frozen_of_norm (W:=pz Z w) (w:=w) rfl hf h4 hz
   have hsim:=sim_store (P:=P) (Z:=Z) (a:=ad) (v:=.int k y) (m:=.atomic) (pz Z w) w #[] rfl hf
   have hrun : (store ad (.int k y) .atomic).run P (pz Z w) = .ok () ((pz Z w).setCell ad (.int k y)):=by
     simp [store,Sem.run,hc,hz]
   rw [hrun] at hsim
   obtain ⟨_,_,_,hgo⟩:=hsim
   obtain ⟨w',es',e',o⟩:=hgo (fun j hj=>absurd hj (by show ¬ (pz Z w).drawn + j < (pz Z w).drawn; omega))
   have hrunT : (store ad (.int k y) .atomic).runT P w #[] = (.ok () (w.setCell ad (.int k y)),#[⟨.cell ad,true,true⟩]):=by
     simp [store,Sem.runT,h1,h7,-Sem.runT_eq]
   rw [hrunT] at e'
   obtain ⟨e1,e2⟩:=Prod.mk.inj e'
   injection e1 with _ e1
   subst e1
   refine ⟨hs w h1 h7,o.hid,o.fit,fun ev he=>?_,o.rl.symm⟩
   have hsz : (w.setCell ad (.int k y)).heap.size = w.heap.size:=size_setCell _ _ _
   simp only [List.mem_toArray,List.mem_cons,List.not_mem_nil,or_false] at he
   rcases he with rfl | rfl
   · exact ⟨by rw [hsz]; exact h2,fun k lo hi hz=>⟨h6 k lo hi hz,fun x=>by cases x⟩⟩
   · exact ⟨by rw [hsz]; exact h2,fun k lo hi hz=>⟨h6 k lo hi hz,fun _=>h8 k lo hi hz⟩⟩
 refine .step hr (fun w hV hf=>?_) fun w g2 w2 es hV hf hst=>?_
 · obtain ⟨a1,a2,a3,a4,_⟩:=key w hV hf
   exact ⟨g',_,_,a1,a2,a3,a4⟩
 · obtain ⟨a1,_,_,_,a5⟩:=key w hV hf
   rw [a1] at hst
   injection hst with e1 e2 e3
   subst e1 e2
   rw [a5]
   exact h
end
end Go.Proofs.Ytibcdikfbhmheaa

namespace Go.Proofs.Ytibcdikfbhmheaa
open Go Go.Conc Go.Proofs
open Go.ConcN (sumTo upd sumTo_upd upd_ne upd_same)
set_option linter.unusedVariables false
theorem wanted_none {o : Oper} {y : Nat → Option Bool} (h : o.guard = none) : Region.wanted o y = true:=by unfold Region.wanted; rw [h]
theorem evt {T : Array Value} {i : Nat} {v : Value} (h : T[i]? = some v) : Act.eval ⟨T,[]⟩ (.tmp i) = v:=by simp [Act.eval,Array.getD_eq_getD_getElem?,h]
section
variable {P : Program} {K : Goroutine → Prop} {b : Frame} {k : List Item} {cs : List Frame} {ops : Array Oper}
theorem ready_some {listed : Array Bool} {N : Nat} (hN : ops.size = N) (hback : ((List.range N).all fun i=>(ops[i]?).any fun o=>o.after.all fun e=>decide (e.on < i)) = true) (hs : listed.size = N) (h : ∃ i,i < N ∧ listed.getD i false = false) : ∃ i,i ∈ Region.ready .any ops listed:=by
 obtain ⟨i,hi⟩:=h
 induction i using Nat.strongRecOn with
 | _ i ih =>
   by_cases hx : ∃ j,j < i ∧ listed.getD j false = false
   · obtain ⟨j,hj,hl⟩:=hx
     exact ih j hj ⟨by omega,hl⟩
   · refine ⟨i,mem_ready.2 ⟨?_,?_⟩⟩
     · have:=hi.2
       simp [Array.getD_eq_getD_getElem?,Array.getElem?_eq_getElem (show i < listed.size by omega)] at this ⊢
       exact this
     · have h:=List.all_eq_true.1 hback i (List.mem_range.2 hi.1)
       rcases ho : ops[i]? with _ | o
       · rw [ho] at h; cases h
       · rw [ho] at h
         simp only [Option.any_some,Array.all_eq_true',decide_eq_true_eq] at h
         refine ⟨o,rfl,fun e he _=>?_⟩
         have h1:=h e he
         cases hl : listed.getD e.on false with
         | true=>rfl
         | false=>exact absurd ⟨_,h1,hl⟩ hx
def unl (listed : Array Bool) : Nat:=listed.toList.countP fun x=>!x
theorem unl_set {listed : Array Bool} {i : Nat} (hi : i < listed.size) (h : listed.getD i true = false) : unl (listed.setIfInBounds i true) + 1 = unl listed:=by
 have hl : listed.toList[i]'(by simpa using hi) = false:=by
   simpa [Array.getD_eq_getD_getElem?,Array.getElem?_eq_getElem hi] using h
 unfold unl
 rw [Array.toList_setIfInBounds,List.countP_set (by simpa using hi),hl]
 have : 0 < listed.toList.countP fun x=>!x:=List.countP_pos_iff.2 ⟨_,List.getElem_mem (by simpa using hi),by rw [hl]; rfl⟩
 simp only [Bool.not_false,if_true,Bool.not_true,Bool.false_eq_true,if_false]
 omega
theorem order2_K {j N : Nat} (hN : ops.size = N) (hback : ((List.range N).all fun i=>(ops[i]?).any fun o=>o.after.all fun e=>decide (e.on < i)) = true)
   (hlast : ((List.range N).all fun i=>i == j || reach .any ops i N j) = true) (hj0 : j < N) (Inv : Array Bool → Act → Prop)
   (hstep : ∀ listed a i,Inv listed a → listed.size = N → i < N → i ≠ j → i ∈ Region.ready .any ops listed → ∃ a',Inv (listed.setIfInBounds i true) a' ∧ ∀ rest,K (G (b.at a' (.inRegion ops rest :: k)) cs) → K (G (b.at a (.inRegion ops (i :: rest) :: k)) cs))
   (hend : ∀ listed a,Inv listed a → (∀ i,i < N → i ≠ j → listed.getD i false = true) → K (G (b.at a (.inRegion ops [j] :: k)) cs)) :
   ∀ (n t : Nat) (listed : Array Bool) (a : Act),Cl .any ops listed → unl listed = n → listed.size = N → listed.getD j true = false → Inv listed a → K (G (b.at a (.inRegion ops (Region.linearise.go .any ops n t listed []) :: k)) cs):=by
 intro n
 induction n with
 | zero =>
   intro t listed a hc hu hs hj _
   exfalso
   have:=unl_set (by omega) hj
   omega
 | succ n ih =>
   intro t listed a hc hu hs hj hI
   have hjs : j < listed.size:=by omega
   have hjf : listed.getD j false = false:=by
     simp [Array.getD_eq_getD_getElem?,Array.getElem?_eq_getElem hjs] at hj ⊢; exact hj
   obtain ⟨i0,hi0⟩:=ready_some hN hback hs ⟨j,by omega,hjf⟩
   simp only [Region.linearise.go]
   change K (G (b.at a (.inRegion ops (match (Region.ready .any ops listed)[t % (Region.ready .any ops listed).length]? with
     | some i=>Region.linearise.go .any ops n (t / (Region.ready .any ops listed).length) (listed.setIfInBounds i true) [i]
     | none=>[].reverse) :: k)) cs)
   cases hi : (Region.ready .any ops listed)[t % (Region.ready .any ops listed).length]? with
   | none =>
     exfalso
     cases hr : Region.ready .any ops listed with
     | nil=>rw [hr] at hi0; cases hi0
     | cons x xs =>
       rw [hr] at hi
       have hlt : t % (x :: xs).length < (x :: xs).length:=Nat.mod_lt _ (by simp)
       simp at hi
       simp at hlt
       omega
   | some i =>
     simp only []
     rw [linearise_go_acc,List.reverse_singleton,List.singleton_append]
     have hr:=List.mem_of_getElem? hi
     obtain ⟨h1,o,ho,hall⟩:=mem_ready.1 hr
     have hiN : i < N:=by rw [← hN]; exact (Array.getElem?_eq_some_iff.1 ho).1
     by_cases e : i = j
     · subst e
       have hl : ∀ i',i' < N → i' ≠ i → listed.getD i' false = true:=fun i' h' hne=>by
         have h2:=List.all_eq_true.1 hlast i' (List.mem_range.2 h')
         simp only [Bool.or_eq_true,beq_iff_eq] at h2
         cases hv : listed.getD i' false with
         | true=>rfl
         | false =>
           rcases h2 with h2 | h2
           · exact absurd h2 hne
           · exact absurd hr (reach_off hc hv h2).2
       have hn0 : n = 0:=by
         have h2:=unl_set (by omega) h1
         have h3 : unl (listed.setIfInBounds i true) = 0:=by
           unfold unl
           rw [List.countP_eq_zero]
           intro x hx
           obtain ⟨m,hm,hmx⟩:=List.getElem_of_mem hx
           have hm' : m < listed.size:=by simpa using hm
           by_cases e : m = i
           · subst e
             have : x = true:=by rw [← hmx]; simp
             rw [this]; decide
           · have h5:=hl m (by omega) e
             have : x = true:=by
               rw [← hmx]
               simp [Array.getD_eq_getD_getElem?,Array.getElem?_eq_getElem hm'] at h5
               simp [Array.getElem_setIfInBounds,h5,Ne.symm e]
             rw [this]; decide
         omega
       subst hn0
       exact hend listed a hI hl
     · obtain ⟨a',hI',hk⟩:=hstep listed a i hI hs hiN e hr
       refine hk _ (ih _ _ _ (hc.set hr) ?_ (by simp [hs]) ?_ hI')
       · have:=unl_set (by omega) h1
         omega
       · rw [getD_set_ne true e]; exact hj
theorem order2_go {j N : Nat} {id : Nat} {a : Act} (hD : MuD P K) (hN : ops.size = N) (hback : ((List.range N).all fun i=>(ops[i]?).any fun o=>o.after.all fun e=>decide (e.on < i)) = true)
   (hlast : ((List.range N).all fun i=>i == j || reach .any ops i N j) = true) (hj0 : j < N) (Inv : Array Bool → Act → Prop) (h0 : Inv (Array.replicate N false) a)
   (hstep : ∀ listed a i,Inv listed a → listed.size = N → i < N → i ≠ j → i ∈ Region.ready .any ops listed → ∃ a',Inv (listed.setIfInBounds i true) a' ∧ ∀ rest,K (G (b.at a' (.inRegion ops rest :: k)) cs) → K (G (b.at a (.inRegion ops (i :: rest) :: k)) cs))
   (hend : ∀ listed a,Inv listed a → (∀ i,i < N → i ≠ j → listed.getD i false = true) → K (G (b.at a (.inRegion ops [j] :: k)) cs)) (hd : Region.departs ops = false:=by kernel_rfl) (hcl : clB .any ops (Array.replicate N false) = true:=by kernel_rfl) :
   K (G (b.at a (.code (.region id ops true) :: k)) cs):=by
 refine hD b a k cs id ops fun t=>?_
 unfold Region.schedule Region.linearise
 rw [hd]
 simp only [Bool.not_false,Bool.or_true,if_true]
 rw [hN]
 refine order2_K hN hback hlast hj0 Inv hstep hend N t _ a (cl_of hcl) ?_ (by simp) ?_ h0
 · unfold unl
   rw [Array.toList_replicate,List.countP_replicate]
   simp
 · simp [Array.getD_eq_getD_getElem?,hj0]
theorem opat {i : Nat} {d : Option Nat} {op : Op} (h : (ops[i]?).map (fun o=>(o.dst,o.op,o.guard)) = some (d,op,none)) : ∃ o,ops[i]? = some o ∧ o.dst = d ∧ o.op = op ∧ o.guard = none:=by
 rcases ho : ops[i]? with _ | o
 · rw [ho] at h; cases h
 · rw [ho] at h
   simp only [Option.map_some,Option.some.injEq,Prod.mk.injEq] at h
   exact ⟨o,rfl,h.1,h.2.1,h.2.2⟩
theorem opv {L : List FuncId} {V : World} {i d : Nat} {op : Op} {v : Value} {T : Array Value} {rest : List Nat} (hV : MuV P L V K) (hb : b.kind = .normal ∨ b.kind = .deferred) (h : (ops[i]?).map (fun o=>(o.dst,o.op,o.guard)) = some (some d,op,none)) (hok : opOk P L op = true) (hr : ∀ (o : Oper),o.op = op → ∀ τ,(execOp (Act.eval ⟨T,[]⟩) o).run P (re V τ 0) = .ok (.value v) (re V τ 0))
   (hk : K (G (b.at (Act.put ⟨T,[]⟩ (some d) v) (.inRegion ops rest :: k)) cs)) : K (G (b.at ⟨T,[]⟩ (.inRegion ops (i :: rest) :: k)) cs):=by
 obtain ⟨o,ho,hd,hop,hg⟩:=opat h
 exact hV b _ k cs ops i rest o v hb ho (wanted_none hg) (by rw [hop]; exact hok) (hr o hop) (by rw [hd]; exact hk)
theorem opc {R : World → Prop} {i f : Nat} {d : Option Nat} {args : Array Operand} {ats : Array TypeId} {fn : Func} {c : Code} {T : Array Value} {rest : List Nat} (hK : Mu P R K) (hb : b.kind ≠ .early) (h : (ops[i]?).map (fun o => (o.dst, o.op, o.guard)) = some (d, .call { callee := .value (.func f), args, argTypes := ats }, none)) (hf : P.funcs[f]? = some fn) (hname : (fn.name == "runtime.NumGoroutine") = false) (hbd : fn.body = some c)
   (hk : ((ops[i]?).bind (·.dst)) = d → K (G (Frame.enter P f (args.map (Act.eval ⟨T,[]⟩)) .normal) (b.at ⟨T,[]⟩ (.inRegion ops (i :: rest) :: k) :: cs))) : K (G (b.at ⟨T,[]⟩ (.inRegion ops (i :: rest) :: k)) cs):=by
 obtain ⟨o,ho,hd,hop,hg⟩:=opat h
 refine mu_call hK ho (wanted_none hg) hb hop hf hname hbd ?_
 rw [← enter_at (P:=P) _ hf hbd]
 exact hk (by rw [ho]; exact hd)
end
end Go.Proofs.Ytibcdikfbhmheaa

namespace Go.Proofs.Ytibcdikfbhmheaa
open Go Go.Conc Go.Proofs
open Go.ConcN (sumTo upd sumTo_upd upd_ne upd_same)
set_option linter.unusedVariables false
section
variable {P : Program} {main : Bool} {Z : Cuts} {Stop : Goroutine → World → Prop} {V : World} {g g' : Goroutine}
theorem will_ats (hr : g.status = .running) {ad : Addr} {v : Value} {k : IntKind} {y : Int} (hc : V.cell? ad = some v) (hz : V.frozen? ad = false) (hs : ∀ w,w.cell? ad = some v → w.frozen? ad = false → stepG P main g w = .go g' (w.setCell ad (.int k y)) #[⟨.cell ad,true,true⟩])
   (h : Will P main Z Stop g' (V.setCell ad (.int k y))) : Will P main Z Stop g V:=by
 have key : ∀ w,pz Z w = V → Fit P Z w → stepG P main g w = .go g' (w.setCell ad (.int k y)) #[⟨.cell ad,true,true⟩] ∧ Hidden Z w (w.setCell ad (.int k y)) ∧ Fit P Z (w.setCell ad (.int k y)) ∧ (∀ e ∈ (#[⟨.cell ad,true,true⟩] : Array Event),EvZ Z (w.setCell ad (.int k y)).heap.size e) ∧ pz Z (w.setCell ad (.int k y)) = V.setCell ad (.int k y):=fun w hV hf=>by
   subst hV
   obtain ⟨h1,h2,h3,⟨c,e,f,h4,h5⟩,h6⟩:=cell_of_norm (W:=pz Z w) (w:=w) rfl hc
   obtain ⟨h7,h8⟩:=frozen_of_norm (W:=pz Z w) (w:=w) rfl hf h4 hz
   have hsim:=sim_store (P:=P) (Z:=Z) (a:=ad) (v:=.int k y) (m:=.atomic) (pz Z w) w #[] rfl hf
   have hrun : (store ad (.int k y) .atomic).run P (pz Z w) = .ok () ((pz Z w).setCell ad (.int k y)):=by
     simp [store,Sem.run,hc,hz]
   rw [hrun] at hsim
   obtain ⟨_,_,_,hgo⟩:=hsim
   obtain ⟨w',es',e',o⟩:=hgo (fun j hj=>absurd hj (by show ¬ (pz Z w).drawn + j < (pz Z w).drawn; omega))
   have hrunT : (store ad (.int k y) .atomic).runT P w #[] = (.ok () (w.setCell ad (.int k y)),#[⟨.cell ad,true,true⟩]):=by
     simp [store,Sem.runT,h1,h7,-Sem.runT_eq]
   rw [hrunT] at e'
   obtain ⟨e1,e2⟩:=Prod.mk.inj e'
   injection e1 with _ e1
   subst e1
   refine ⟨hs w h1 h7,o.hid,o.fit,fun ev he=>?_,o.rl.symm⟩
   have hsz : (w.setCell ad (.int k y)).heap.size = w.heap.size:=size_setCell _ _ _
   obtain rfl:=Array.mem_singleton.1 he
   exact ⟨by rw [hsz]; exact h2,fun k lo hi hz=>⟨h6 k lo hi hz,fun _=>h8 k lo hi hz⟩⟩
 refine .step hr (fun w hV hf=>?_) fun w g2 w2 es hV hf hst=>?_
 · obtain ⟨a1,a2,a3,a4,_⟩:=key w hV hf
   exact ⟨g',_,_,a1,a2,a3,a4⟩
 · obtain ⟨a1,_,_,_,a5⟩:=key w hV hf
   rw [a1] at hst
   injection hst with e1 e2 e3
   subst e1 e2
   rw [a5]
   exact h
end
section
variable {main : Bool} {Z : Cuts} {Stop : Goroutine → World → Prop} {V : World} {b : Frame} {a : Act} {ops : Array Oper} {i : Nat} {rest : List Nat} {k : List Item} {cs : List Frame} {o : Oper} {ats : Array TypeId}
theorem at_ld32 (ho : ops[i]? = some o) (hw : Region.wanted o (yielded ops a.tmps) = true) (hk : b.kind ≠ .early) {x : Operand} (hop : o.op = .call { callee:=.value (.func 124),args:=#[x],argTypes:=ats }) {ad : Addr} {v : Int} (hx : a.eval x = .pointer (some ad)) (hc : V.cell? ad = some (.int .u32 v))
   (h : Will Try.prog main Z Stop (G (b.at (a.put o.dst (.int .u32 v)) (.inRegion ops rest :: k)) cs) V) : Will Try.prog main Z Stop (G (b.at a (.inRegion ops (i :: rest) :: k)) cs) V :=
 will_atr rfl hc (fun w hcw=>stepG_load_atomic ho hw hk hop Try.func124 (by kernel_rfl) (by kernel_rfl) (by kernel_rfl) .u32 (by kernel_rfl) hx hcw) h
theorem at_st32 (ho : ops[i]? = some o) (hw : Region.wanted o (yielded ops a.tmps) = true) (hk : b.kind ≠ .early) {x y : Operand} (hop : o.op = .call { callee:=.value (.func 122),args:=#[x,y],argTypes:=ats }) {ad : Addr} {v : Int} {u : Value} (hx : a.eval x = .pointer (some ad)) (hy : a.eval y = .int .u32 v) (hc : V.cell? ad = some u) (hz : V.frozen? ad = false)
   (h : Will Try.prog main Z Stop (G (b.at (a.put o.dst (.tuple #[])) (.inRegion ops rest :: k)) cs) (V.setCell ad (.int .u32 v))) : Will Try.prog main Z Stop (G (b.at a (.inRegion ops (i :: rest) :: k)) cs) V :=
 will_ats rfl hc hz (fun w hcw hzw=>stepG_store_atomic ho hw hk hop Try.func122 (by kernel_rfl) (by kernel_rfl) (by kernel_rfl) (by kernel_rfl) hx hy hcw hzw) h
theorem at_cas32 (ho : ops[i]? = some o) (hw : Region.wanted o (yielded ops a.tmps) = true) (hk : b.kind ≠ .early) {x y z : Operand} (hop : o.op = .call { callee:=.value (.func 177),args:=#[x,y,z],argTypes:=ats }) {ad : Addr} {v n : Int} (hx : a.eval x = .pointer (some ad)) (hy : a.eval y = .int .i32 v) (hzz : a.eval z = .int .i32 n) (hc : V.cell? ad = some (.int .i32 v)) (hz : V.frozen? ad = false)
   (h : Will Try.prog main Z Stop (G (b.at (a.put o.dst (.bool true)) (.inRegion ops rest :: k)) cs) (V.setCell ad (.int .i32 n))) : Will Try.prog main Z Stop (G (b.at a (.inRegion ops (i :: rest) :: k)) cs) V :=
 will_atw rfl hc hz (fun w hcw hzw=>stepG_cas_hit ho hw hk hop Try.func177 (by kernel_rfl) (by kernel_rfl) (by kernel_rfl) .i32 (by kernel_rfl) hx hy hzz hcw hzw) h
theorem at_add32 (ho : ops[i]? = some o) (hw : Region.wanted o (yielded ops a.tmps) = true) (hk : b.kind ≠ .early) {x y : Operand} (hop : o.op = .call { callee:=.value (.func 179),args:=#[x,y],argTypes:=ats }) {ad : Addr} {v d : Int} (hx : a.eval x = .pointer (some ad)) (hy : a.eval y = .int .i32 d) (hc : V.cell? ad = some (.int .i32 v)) (hz : V.frozen? ad = false)
   (h : Will Try.prog main Z Stop (G (b.at (a.put o.dst (.int .i32 (IntKind.i32.wrap (v + d)))) (.inRegion ops rest :: k)) cs) (V.setCell ad (.int .i32 (IntKind.i32.wrap (v + d))))) : Will Try.prog main Z Stop (G (b.at a (.inRegion ops (i :: rest) :: k)) cs) V :=
 will_atw rfl hc hz (fun w hcw hzw=>stepG_add_atomic ho hw hk hop Try.func179 (by kernel_rfl) (by kernel_rfl) (by kernel_rfl) .i32 (by kernel_rfl) hx hy hcw hzw) h
end
end Go.Proofs.Ytibcdikfbhmheaa

namespace Go.Proofs.Ytibcdikfbhmheaa
open Go Go.Conc Go.Proofs
open Go.ConcN (sumTo upd sumTo_upd upd_ne upd_same)
set_option linter.unusedVariables false
section
theorem cell_setC {w : World} {b k : Nat} {u v : Value} (h : w.cell? ⟨b,k,none⟩ = some u) : (w.setCell ⟨b,k,none⟩ v).cell? ⟨b,k,none⟩ = some v:=by
 unfold World.cell? at h
 cases ho : w.heap[b]? with
 | none=>rw [ho] at h; cases h
 | some x =>
   cases x with
   | cells c e f =>
     rw [ho] at h
     have hlt : k < c.size:=by
       rcases Nat.lt_or_ge k c.size with h' | h'
       · exact h'
       · simp [Array.getElem?_eq_none h'] at h
     unfold World.cell?
     rw [setCell_heap,if_pos rfl]
     simp [ho,hlt]
   | _=>rw [ho] at h; cases h
variable {main : Bool} {Z : Cuts} {KK : Nat → Goroutine → World → Prop} {d : Nat} {V : World} {b₀ : Frame} {a₀ : Act} {ops₀ : Array Oper} {i₀ : Nat} {rest₀ : List Nat} {k₀ : List Item} {cs0 cs : List Frame} {ob o : Nat}
theorem o87f (hM : MarkK Try.prog main Z KK) (hn : norm V = V) (hc : V.cell? ⟨ob,o,none⟩ = some (.int .u32 0)) (h : KK d (G (b₀.at (a₀.put ((ops₀[i₀]?).bind (·.dst)) (.bool false)) (.inRegion ops₀ rest₀ :: k₀)) cs0) V) : KK d (G (Frame.enter Try.prog 87 #[.pointer (some ⟨ob,o,none⟩)] .normal) (b₀.at a₀ (.inRegion ops₀ (i₀ :: rest₀) :: k₀) :: cs0)) V:=by
 rw [enter_at (P:=Try.prog) _ Try.func87 rfl]
 simp only [Try.f87]
 walk_nrm
 obtain ⟨K,hK,hV,key,yek⟩:=kKV (L:=Lone) (J:=fun g=>KK d g V) hM.mu (hM.muv hn)
 refine key _ ?_
 repeat (first|(with_reducible first|refine mu_seq hK ?_|refine mu_skip hK ?_|(refine mu_region_end hK ?_;try subst hkk)|refine mu_block hK ?_|refine mu_inBlock hK ?_|refine mu_ret hK ?_|refine mu_end hK ?_)|refine mu_exit hK rfl ?_|(with_reducible refine mu_regionH hK (fun kk hkk=>?_);simp only [List.size_toArray,List.length_cons,List.length_nil,Nat.reduceAdd,Nat.zero_add,List.range,List.range.loop])|(with_reducible refine mu_cf hK ?_ ?_;(· first|(walk_nrm;done)|(simp [Act.eval];done)))|(with_reducible refine mu_ct hK ?_ ?_;(· first|(walk_nrm;done)|(simp [Act.eval];done)))|(refine mu_unwanted hK rfl rfl ?_;walk_nrm)|(refine muv_val hV rfl (by first|exact .inl rfl|exact .inr rfl) rfl (by kernel_rfl) (fun J hJ=>?_);go_simp;with_reducible refine hJ _ ?_;clear hJ J;walk_nrm))
 refine yek _ ?_
 clear hK hV key yek K
 refine hM.walk _ _ _ (at_ld32 (ad:=⟨ob,o,none⟩) (v:=0) rfl rfl (base_ne _) rfl rfl hc (.stop ?_))
 walk_nrm
 obtain ⟨K,hK,hV,key,yek⟩:=kKV (L:=Lone) (J:=fun g=>KK d g V) hM.mu (hM.muv hn)
 refine key _ ?_
 repeat (first|(with_reducible first|refine mu_seq hK ?_|refine mu_skip hK ?_|(refine mu_region_end hK ?_;try subst hkk)|refine mu_block hK ?_|refine mu_inBlock hK ?_|refine mu_ret hK ?_|refine mu_end hK ?_)|refine mu_exit hK rfl ?_|(with_reducible refine mu_regionH hK (fun kk hkk=>?_);simp only [List.size_toArray,List.length_cons,List.length_nil,Nat.reduceAdd,Nat.zero_add,List.range,List.range.loop])|(with_reducible refine mu_cf hK ?_ ?_;(· first|(walk_nrm;done)|(simp [Act.eval];done)))|(with_reducible refine mu_ct hK ?_ ?_;(· first|(walk_nrm;done)|(simp [Act.eval];done)))|(refine mu_unwanted hK rfl rfl ?_;walk_nrm)|(refine muv_val hV rfl (by first|exact .inl rfl|exact .inr rfl) rfl (by kernel_rfl) (fun J hJ=>?_);go_simp;with_reducible refine hJ _ ?_;clear hJ J;walk_nrm))
 refine yek _ ?_
 clear hK hV key yek K
 refine mu_leave1 (K:=fun g=>KK d g V) hM.mu rfl rfl Try.func87 rfl ?_
 exact h
theorem o87t (hM : MarkK Try.prog main Z KK) (hn : norm V = V) (hc : V.cell? ⟨ob,o,none⟩ = some (.int .u32 1)) (h : KK d (G (b₀.at (a₀.put ((ops₀[i₀]?).bind (·.dst)) (.bool true)) (.inRegion ops₀ rest₀ :: k₀)) cs0) V) : KK d (G (Frame.enter Try.prog 87 #[.pointer (some ⟨ob,o,none⟩)] .normal) (b₀.at a₀ (.inRegion ops₀ (i₀ :: rest₀) :: k₀) :: cs0)) V:=by
 rw [enter_at (P:=Try.prog) _ Try.func87 rfl]
 simp only [Try.f87]
 walk_nrm
 obtain ⟨K,hK,hV,key,yek⟩:=kKV (L:=Lone) (J:=fun g=>KK d g V) hM.mu (hM.muv hn)
 refine key _ ?_
 repeat (first|(with_reducible first|refine mu_seq hK ?_|refine mu_skip hK ?_|(refine mu_region_end hK ?_;try subst hkk)|refine mu_block hK ?_|refine mu_inBlock hK ?_|refine mu_ret hK ?_|refine mu_end hK ?_)|refine mu_exit hK rfl ?_|(with_reducible refine mu_regionH hK (fun kk hkk=>?_);simp only [List.size_toArray,List.length_cons,List.length_nil,Nat.reduceAdd,Nat.zero_add,List.range,List.range.loop])|(with_reducible refine mu_cf hK ?_ ?_;(· first|(walk_nrm;done)|(simp [Act.eval];done)))|(with_reducible refine mu_ct hK ?_ ?_;(· first|(walk_nrm;done)|(simp [Act.eval];done)))|(refine mu_unwanted hK rfl rfl ?_;walk_nrm)|(refine muv_val hV rfl (by first|exact .inl rfl|exact .inr rfl) rfl (by kernel_rfl) (fun J hJ=>?_);go_simp;with_reducible refine hJ _ ?_;clear hJ J;walk_nrm))
 refine yek _ ?_
 clear hK hV key yek K
 refine hM.walk _ _ _ (at_ld32 (ad:=⟨ob,o,none⟩) (v:=1) rfl rfl (base_ne _) rfl rfl hc (.stop ?_))
 walk_nrm
 obtain ⟨K,hK,hV,key,yek⟩:=kKV (L:=Lone) (J:=fun g=>KK d g V) hM.mu (hM.muv hn)
 refine key _ ?_
 repeat (first|(with_reducible first|refine mu_seq hK ?_|refine mu_skip hK ?_|(refine mu_region_end hK ?_;try subst hkk)|refine mu_block hK ?_|refine mu_inBlock hK ?_|refine mu_ret hK ?_|refine mu_end hK ?_)|refine mu_exit hK rfl ?_|(with_reducible refine mu_regionH hK (fun kk hkk=>?_);simp only [List.size_toArray,List.length_cons,List.length_nil,Nat.reduceAdd,Nat.zero_add,List.range,List.range.loop])|(with_reducible refine mu_cf hK ?_ ?_;(· first|(walk_nrm;done)|(simp [Act.eval];done)))|(with_reducible refine mu_ct hK ?_ ?_;(· first|(walk_nrm;done)|(simp [Act.eval];done)))|(refine mu_unwanted hK rfl rfl ?_;walk_nrm)|(refine muv_val hV rfl (by first|exact .inl rfl|exact .inr rfl) rfl (by kernel_rfl) (fun J hJ=>?_);go_simp;with_reducible refine hJ _ ?_;clear hJ J;walk_nrm))
 refine yek _ ?_
 clear hK hV key yek K
 refine mu_leave1 (K:=fun g=>KK d g V) hM.mu rfl rfl Try.func87 rfl ?_
 exact h
theorem o123 (hM : MarkK Try.prog main Z KK) (hn : norm V = V) (h : KK d (G (b₀.at (a₀.put ((ops₀[i₀]?).bind (·.dst)) (.int .u32 1)) (.inRegion ops₀ rest₀ :: k₀)) cs0) V) : KK d (G (Frame.enter Try.prog 123 #[.bool true] .normal) (b₀.at a₀ (.inRegion ops₀ (i₀ :: rest₀) :: k₀) :: cs0)) V:=by
 rw [enter_at (P:=Try.prog) _ Try.func123 rfl]
 simp only [Try.f123]
 walk_nrm
 obtain ⟨K,hK,hV,key,yek⟩:=kKV (L:=Lone) (J:=fun g=>KK d g V) hM.mu (hM.muv hn)
 refine key _ ?_
 repeat (first|(with_reducible first|refine mu_seq hK ?_|refine mu_skip hK ?_|(refine mu_region_end hK ?_;try subst hkk)|refine mu_block hK ?_|refine mu_inBlock hK ?_|refine mu_ret hK ?_|refine mu_end hK ?_)|refine mu_exit hK rfl ?_|(with_reducible refine mu_regionH hK (fun kk hkk=>?_);simp only [List.size_toArray,List.length_cons,List.length_nil,Nat.reduceAdd,Nat.zero_add,List.range,List.range.loop])|(with_reducible refine mu_cf hK ?_ ?_;(· first|(walk_nrm;done)|(simp [Act.eval];done)))|(with_reducible refine mu_ct hK ?_ ?_;(· first|(walk_nrm;done)|(simp [Act.eval];done)))|(refine mu_unwanted hK rfl rfl ?_;walk_nrm)|(refine muv_val hV rfl (by first|exact .inl rfl|exact .inr rfl) rfl (by kernel_rfl) (fun J hJ=>?_);go_simp;with_reducible refine hJ _ ?_;clear hJ J;walk_nrm))
 refine yek _ ?_
 clear hK hV key yek K
 refine mu_leave1 (K:=fun g=>KK d g V) hM.mu rfl rfl Try.func123 rfl ?_
 exact h
theorem o162 (hM : MarkK Try.prog main Z KK) (hn : norm V = V) (hc : V.cell? ⟨ob,1,none⟩ = some (.int .i32 0)) (hz : V.frozen? ⟨ob,1,none⟩ = false) (hlt : ob < V.heap.size) (h : KK d (G (b₀.at (a₀.put ((ops₀[i₀]?).bind (·.dst)) (.tuple #[])) (.inRegion ops₀ rest₀ :: k₀)) cs0) (V.setCell ⟨ob,1,none⟩ (.int .i32 1))) : KK d (G (Frame.enter Try.prog 162 #[.pointer (some ⟨ob,1,none⟩)] .normal) (b₀.at a₀ (.inRegion ops₀ (i₀ :: rest₀) :: k₀) :: cs0)) V:=by
 rw [enter_at (P:=Try.prog) _ Try.func162 rfl]
 simp only [Try.f162]
 walk_nrm
 obtain ⟨K,hK,hV,key,yek⟩:=kKV (L:=Lone) (J:=fun g=>KK d g V) hM.mu (hM.muv hn)
 refine key _ ?_
 repeat (first|(with_reducible first|refine mu_seq hK ?_|refine mu_skip hK ?_|(refine mu_region_end hK ?_;try subst hkk)|refine mu_block hK ?_|refine mu_inBlock hK ?_|refine mu_ret hK ?_|refine mu_end hK ?_)|refine mu_exit hK rfl ?_|(with_reducible refine mu_regionH hK (fun kk hkk=>?_);simp only [List.size_toArray,List.length_cons,List.length_nil,Nat.reduceAdd,Nat.zero_add,List.range,List.range.loop])|(with_reducible refine mu_cf hK ?_ ?_;(· first|(walk_nrm;done)|(simp [Act.eval];done)))|(with_reducible refine mu_ct hK ?_ ?_;(· first|(walk_nrm;done)|(simp [Act.eval];done)))|(refine mu_unwanted hK rfl rfl ?_;walk_nrm)|(refine muv_val hV rfl (by first|exact .inl rfl|exact .inr rfl) rfl (by kernel_rfl) (fun J hJ=>?_);go_simp;with_reducible refine hJ _ ?_;clear hJ J;walk_nrm))
 refine yek _ ?_
 clear hK hV key yek K
 refine hM.disable rfl rfl (base_ne _) rfl Try.func109 (by kernel_rfl) (by kernel_rfl) (by kernel_rfl) (by kernel_rfl) ?_
 walk_nrm
 obtain ⟨K,hK,hV,key,yek⟩:=kKV (L:=Lone) (J:=fun g=>KK (d + 1) g V) hM.mu (hM.muv hn)
 refine key _ ?_
 repeat (first|(with_reducible first|refine mu_seq hK ?_|refine mu_skip hK ?_|(refine mu_region_end hK ?_;try subst hkk)|refine mu_block hK ?_|refine mu_inBlock hK ?_|refine mu_ret hK ?_|refine mu_end hK ?_)|refine mu_exit hK rfl ?_|(with_reducible refine mu_regionH hK (fun kk hkk=>?_);simp only [List.size_toArray,List.length_cons,List.length_nil,Nat.reduceAdd,Nat.zero_add,List.range,List.range.loop])|(with_reducible refine mu_cf hK ?_ ?_;(· first|(walk_nrm;done)|(simp [Act.eval];done)))|(with_reducible refine mu_ct hK ?_ ?_;(· first|(walk_nrm;done)|(simp [Act.eval];done)))|(refine mu_unwanted hK rfl rfl ?_;walk_nrm)|(refine muv_val hV rfl (by first|exact .inl rfl|exact .inr rfl) rfl (by kernel_rfl) (fun J hJ=>?_);go_simp;with_reducible refine hJ _ ?_;clear hJ J;walk_nrm))
 refine yek _ ?_
 clear hK hV key yek K
 refine hM.walk _ _ _ (at_cas32 (ad:=⟨ob,1,none⟩) (v:=0) (n:=1) rfl rfl (base_ne _) rfl rfl rfl rfl hc hz (.stop ?_))
 walk_nrm
 have hn2:=norm_set hn ⟨ob,1,none⟩ (.int .i32 1)
 have hlt2 : ob < (V.setCell ⟨ob,1,none⟩ (.int .i32 1)).heap.size:=by simpa [World.setCell] using hlt
 have hc2 : ∀ τ,(re (V.setCell ⟨ob,1,none⟩ (.int .i32 1)) τ 0).cell? ⟨ob,1,none⟩ = some (.int .i32 1):=fun τ=>cell_setC hc
 generalize V.setCell ⟨ob,1,none⟩ (.int .i32 1) = V2 at *
 obtain ⟨K,hK,hV,key,yek⟩:=kKV (L:=Lone) (J:=fun g=>KK (d + 1) g V2) hM.mu (hM.muv hn2)
 refine key _ ?_
 repeat (first|(with_reducible first|refine mu_seq hK ?_|refine mu_skip hK ?_|(refine mu_region_end hK ?_;try subst hkk)|refine mu_block hK ?_|refine mu_inBlock hK ?_|refine mu_ret hK ?_|refine mu_end hK ?_)|refine mu_exit hK rfl ?_|(with_reducible refine mu_regionH hK (fun kk hkk=>?_);simp only [List.size_toArray,List.length_cons,List.length_nil,Nat.reduceAdd,Nat.zero_add,List.range,List.range.loop])|(with_reducible refine mu_cf hK ?_ ?_;(· first|(walk_nrm;done)|(simp [Act.eval];done)))|(with_reducible refine mu_ct hK ?_ ?_;(· first|(walk_nrm;done)|(simp [Act.eval];done)))|(refine mu_unwanted hK rfl rfl ?_;walk_nrm)|(refine muv_val hV rfl (by first|exact .inl rfl|exact .inr rfl) rfl (by kernel_rfl) (fun J hJ=>?_);go_simp;with_reducible refine hJ _ ?_;clear hJ J;walk_nrm))
 refine yek _ ?_
 clear hK hV key yek K
 refine hM.enable rfl rfl (base_ne _) rfl Try.func111 (by kernel_rfl) (by kernel_rfl) (by kernel_rfl) (by kernel_rfl) ?_
 simp only [Nat.add_sub_cancel]
 walk_nrm
 obtain ⟨K,hK,hV,key,yek⟩:=kKV (L:=Lone) (J:=fun g=>KK d g V2) hM.mu (hM.muv hn2)
 refine key _ ?_
 repeat (first|(with_reducible first|refine mu_seq hK ?_|refine mu_skip hK ?_|(refine mu_region_end hK ?_;try subst hkk)|refine mu_block hK ?_|refine mu_inBlock hK ?_|refine mu_ret hK ?_|refine mu_end hK ?_)|refine mu_exit hK rfl ?_|(with_reducible refine mu_regionH hK (fun kk hkk=>?_);simp only [List.size_toArray,List.length_cons,List.length_nil,Nat.reduceAdd,Nat.zero_add,List.range,List.range.loop])|(with_reducible refine mu_cf hK ?_ ?_;(· first|(walk_nrm;done)|(simp [Act.eval];done)))|(with_reducible refine mu_ct hK ?_ ?_;(· first|(walk_nrm;done)|(simp [Act.eval];done)))|(refine mu_unwanted hK rfl rfl ?_;walk_nrm)|(refine muv_val hV rfl (by first|exact .inl rfl|exact .inr rfl) rfl (by kernel_rfl) (fun J hJ=>?_);go_simp;with_reducible refine hJ _ ?_;clear hJ J;walk_nrm))
 refine yek _ ?_
 refine hM.valw (v:=.pointer (some ⟨ob,1,none⟩)) rfl rfl (base_ne _) (fun w hVw=>?_) ?_
 · have hx:=(cell_of_norm (W:=pz Z w) (w:=w) rfl (by rw [hVw]; exact hc2 (fun _ _=>0))).1
   have hcv:=run_convert_to_unsafe (P:=Try.prog) (dst:=208) Try.underlying261 (by kernel_rfl) (by kernel_rfl) hx
   have hce:=fun es=>events_convert_to_unsafe (P:=Try.prog) (dst:=208) Try.underlying261 (by kernel_rfl) (by kernel_rfl) hx es
   refine ⟨?_,?_⟩
   · go_simp
   · simp [go_sem,hce]
 walk_nrm
 clear hK hV key yek K
 refine hM.acquire (ad:=⟨ob,1,none⟩) rfl rfl (base_ne _) rfl Try.func112 (by kernel_rfl) (by kernel_rfl) (by kernel_rfl) (by kernel_rfl) (by simp [Act.eval]) hlt2 ?_
 walk_nrm
 obtain ⟨K,hK,hV,key,yek⟩:=kKV (L:=Lone) (J:=fun g=>KK d g V2) hM.mu (hM.muv hn2)
 refine key _ ?_
 repeat (first|(with_reducible first|refine mu_seq hK ?_|refine mu_skip hK ?_|(refine mu_region_end hK ?_;try subst hkk)|refine mu_block hK ?_|refine mu_inBlock hK ?_|refine mu_ret hK ?_|refine mu_end hK ?_)|refine mu_exit hK rfl ?_|(with_reducible refine mu_regionH hK (fun kk hkk=>?_);simp only [List.size_toArray,List.length_cons,List.length_nil,Nat.reduceAdd,Nat.zero_add,List.range,List.range.loop])|(with_reducible refine mu_cf hK ?_ ?_;(· first|(walk_nrm;done)|(simp [Act.eval];done)))|(with_reducible refine mu_ct hK ?_ ?_;(· first|(walk_nrm;done)|(simp [Act.eval];done)))|(refine mu_unwanted hK rfl rfl ?_;walk_nrm)|(refine muv_val hV rfl (by first|exact .inl rfl|exact .inr rfl) rfl (by kernel_rfl) (fun J hJ=>?_);go_simp;with_reducible refine hJ _ ?_;clear hJ J;walk_nrm))
 refine yek _ ?_
 clear hK hV key yek K
 refine mu_leave0 (K:=fun g=>KK d g V2) hM.mu rfl rfl Try.func162 rfl ?_
 exact h
theorem o163 (hM : MarkK Try.prog main Z KK) (hn : norm V = V) (hc : V.cell? ⟨ob,1,none⟩ = some (.int .i32 1)) (hz : V.frozen? ⟨ob,1,none⟩ = false) (hlt : ob < V.heap.size) (h : KK d (G (b₀.at (a₀.put ((ops₀[i₀]?).bind (·.dst)) (.tuple #[])) (.inRegion ops₀ rest₀ :: k₀)) cs0) (V.setCell ⟨ob,1,none⟩ (.int .i32 0))) : KK d (G (Frame.enter Try.prog 163 #[.pointer (some ⟨ob,1,none⟩)] .normal) (b₀.at a₀ (.inRegion ops₀ (i₀ :: rest₀) :: k₀) :: cs0)) V:=by
 have hc2 : ∀ τ,(re V τ 0).cell? ⟨ob,1,none⟩ = some (.int .i32 1):=fun τ=>hc
 rw [enter_at (P:=Try.prog) _ Try.func163 rfl]
 simp only [Try.f163]
 walk_nrm
 obtain ⟨K,hK,hV,key,yek⟩:=kKV (L:=Lone) (J:=fun g=>KK d g V) hM.mu (hM.muv hn)
 refine key _ ?_
 repeat (first|(with_reducible first|refine mu_seq hK ?_|refine mu_skip hK ?_|(refine mu_region_end hK ?_;try subst hkk)|refine mu_block hK ?_|refine mu_inBlock hK ?_|refine mu_ret hK ?_|refine mu_end hK ?_)|refine mu_exit hK rfl ?_|(with_reducible refine mu_regionH hK (fun kk hkk=>?_);simp only [List.size_toArray,List.length_cons,List.length_nil,Nat.reduceAdd,Nat.zero_add,List.range,List.range.loop])|(with_reducible refine mu_cf hK ?_ ?_;(· first|(walk_nrm;done)|(simp [Act.eval];done)))|(with_reducible refine mu_ct hK ?_ ?_;(· first|(walk_nrm;done)|(simp [Act.eval];done)))|(refine mu_unwanted hK rfl rfl ?_;walk_nrm)|(refine muv_val hV rfl (by first|exact .inl rfl|exact .inr rfl) rfl (by kernel_rfl) (fun J hJ=>?_);go_simp;with_reducible refine hJ _ ?_;clear hJ J;walk_nrm))
 refine yek _ ?_
 refine hM.valw (v:=.pointer (some ⟨ob,1,none⟩)) rfl rfl (base_ne _) (fun w hVw=>?_) ?_
 · have hx:=(cell_of_norm (W:=pz Z w) (w:=w) rfl (by rw [hVw]; exact hc2 (fun _ _=>0))).1
   have hcv:=run_convert_to_unsafe (P:=Try.prog) (dst:=208) Try.underlying261 (by kernel_rfl) (by kernel_rfl) hx
   have hce:=fun es=>events_convert_to_unsafe (P:=Try.prog) (dst:=208) Try.underlying261 (by kernel_rfl) (by kernel_rfl) hx es
   refine ⟨?_,?_⟩
   · go_simp
   · simp [go_sem,hce]
 walk_nrm
 clear hK hV key yek K
 refine hM.releaseMerge (ad:=⟨ob,1,none⟩) rfl rfl (base_ne _) rfl Try.func152 (by kernel_rfl) (by kernel_rfl) (by kernel_rfl) (by kernel_rfl) (by simp [Act.eval]) hlt ?_
 walk_nrm
 obtain ⟨K,hK,hV,key,yek⟩:=kKV (L:=Lone) (J:=fun g=>KK d g V) hM.mu (hM.muv hn)
 refine key _ ?_
 repeat (first|(with_reducible first|refine mu_seq hK ?_|refine mu_skip hK ?_|(refine mu_region_end hK ?_;try subst hkk)|refine mu_block hK ?_|refine mu_inBlock hK ?_|refine mu_ret hK ?_|refine mu_end hK ?_)|refine mu_exit hK rfl ?_|(with_reducible refine mu_regionH hK (fun kk hkk=>?_);simp only [List.size_toArray,List.length_cons,List.length_nil,Nat.reduceAdd,Nat.zero_add,List.range,List.range.loop])|(with_reducible refine mu_cf hK ?_ ?_;(· first|(walk_nrm;done)|(simp [Act.eval];done)))|(with_reducible refine mu_ct hK ?_ ?_;(· first|(walk_nrm;done)|(simp [Act.eval];done)))|(refine mu_unwanted hK rfl rfl ?_;walk_nrm)|(refine muv_val hV rfl (by first|exact .inl rfl|exact .inr rfl) rfl (by kernel_rfl) (fun J hJ=>?_);go_simp;with_reducible refine hJ _ ?_;clear hJ J;walk_nrm))
 refine yek _ ?_
 clear hK hV key yek K
 refine hM.disable rfl rfl (base_ne _) rfl Try.func109 (by kernel_rfl) (by kernel_rfl) (by kernel_rfl) (by kernel_rfl) ?_
 walk_nrm
 obtain ⟨K,hK,hV,key,yek⟩:=kKV (L:=Lone) (J:=fun g=>KK (d + 1) g V) hM.mu (hM.muv hn)
 refine key _ ?_
 repeat (first|(with_reducible first|refine mu_seq hK ?_|refine mu_skip hK ?_|(refine mu_region_end hK ?_;try subst hkk)|refine mu_block hK ?_|refine mu_inBlock hK ?_|refine mu_ret hK ?_|refine mu_end hK ?_)|refine mu_exit hK rfl ?_|(with_reducible refine mu_regionH hK (fun kk hkk=>?_);simp only [List.size_toArray,List.length_cons,List.length_nil,Nat.reduceAdd,Nat.zero_add,List.range,List.range.loop])|(with_reducible refine mu_cf hK ?_ ?_;(· first|(walk_nrm;done)|(simp [Act.eval];done)))|(with_reducible refine mu_ct hK ?_ ?_;(· first|(walk_nrm;done)|(simp [Act.eval];done)))|(refine mu_unwanted hK rfl rfl ?_;walk_nrm)|(refine muv_val hV rfl (by first|exact .inl rfl|exact .inr rfl) rfl (by kernel_rfl) (fun J hJ=>?_);go_simp;with_reducible refine hJ _ ?_;clear hJ J;walk_nrm))
 refine yek _ ?_
 clear hK hV key yek K
 refine hM.walk _ _ _ (at_add32 (ad:=⟨ob,1,none⟩) (v:=1) (d:=-1) rfl rfl (base_ne _) rfl rfl rfl hc hz (.stop ?_))
 have ew : IntKind.i32.wrap (1 + -1) = 0:=by kernel_rfl
 rw [ew]
 walk_nrm
 have hn2:=norm_set hn ⟨ob,1,none⟩ (.int .i32 0)
 clear hc2 hc hz
 generalize V.setCell ⟨ob,1,none⟩ (.int .i32 0) = V2 at *
 obtain ⟨K,hK,hV,key,yek⟩:=kKV (L:=Lone) (J:=fun g=>KK (d + 1) g V2) hM.mu (hM.muv hn2)
 refine key _ ?_
 repeat (first|(with_reducible first|refine mu_seq hK ?_|refine mu_skip hK ?_|(refine mu_region_end hK ?_;try subst hkk)|refine mu_block hK ?_|refine mu_inBlock hK ?_|refine mu_ret hK ?_|refine mu_end hK ?_)|refine mu_exit hK rfl ?_|(with_reducible refine mu_regionH hK (fun kk hkk=>?_);simp only [List.size_toArray,List.length_cons,List.length_nil,Nat.reduceAdd,Nat.zero_add,List.range,List.range.loop])|(with_reducible refine mu_cf hK ?_ ?_;(· first|(walk_nrm;done)|(simp [Act.eval];done)))|(with_reducible refine mu_ct hK ?_ ?_;(· first|(walk_nrm;done)|(simp [Act.eval];done)))|(refine mu_unwanted hK rfl rfl ?_;walk_nrm)|(refine muv_val hV rfl (by first|exact .inl rfl|exact .inr rfl) rfl (by kernel_rfl) (fun J hJ=>?_);go_simp;with_reducible refine hJ _ ?_;clear hJ J;walk_nrm))
 refine yek _ ?_
 clear hK hV key yek K
 refine hM.enable rfl rfl (base_ne _) rfl Try.func111 (by kernel_rfl) (by kernel_rfl) (by kernel_rfl) (by kernel_rfl) ?_
 simp only [Nat.add_sub_cancel]
 walk_nrm
 obtain ⟨K,hK,hV,key,yek⟩:=kKV (L:=Lone) (J:=fun g=>KK d g V2) hM.mu (hM.muv hn2)
 refine key _ ?_
 repeat (first|(with_reducible first|refine mu_seq hK ?_|refine mu_skip hK ?_|(refine mu_region_end hK ?_;try subst hkk)|refine mu_block hK ?_|refine mu_inBlock hK ?_|refine mu_ret hK ?_|refine mu_end hK ?_)|refine mu_exit hK rfl ?_|(with_reducible refine mu_regionH hK (fun kk hkk=>?_);simp only [List.size_toArray,List.length_cons,List.length_nil,Nat.reduceAdd,Nat.zero_add,List.range,List.range.loop])|(with_reducible refine mu_cf hK ?_ ?_;(· first|(walk_nrm;done)|(simp [Act.eval];done)))|(with_reducible refine mu_ct hK ?_ ?_;(· first|(walk_nrm;done)|(simp [Act.eval];done)))|(refine mu_unwanted hK rfl rfl ?_;walk_nrm)|(refine muv_val hV rfl (by first|exact .inl rfl|exact .inr rfl) rfl (by kernel_rfl) (fun J hJ=>?_);go_simp;with_reducible refine hJ _ ?_;clear hJ J;walk_nrm))
 refine yek _ ?_
 clear hK hV key yek K
 refine mu_leave0 (K:=fun g=>KK d g V2) hM.mu rfl rfl Try.func163 rfl ?_
 exact h
theorem o144 (hM : MarkK Try.prog main Z KK) (hn : norm V = V) (hc : V.cell? ⟨ob,1,none⟩ = some (.int .i32 0)) (hz : V.frozen? ⟨ob,1,none⟩ = false) (hlt : ob < V.heap.size) (h : KK d (G (b₀.at (a₀.put ((ops₀[i₀]?).bind (·.dst)) (.tuple #[])) (.inRegion ops₀ rest₀ :: k₀)) cs0) (V.setCell ⟨ob,1,none⟩ (.int .i32 1))) : KK d (G (Frame.enter Try.prog 144 #[.pointer (some ⟨ob,1,none⟩)] .normal) (b₀.at a₀ (.inRegion ops₀ (i₀ :: rest₀) :: k₀) :: cs0)) V:=by
 rw [enter_at (P:=Try.prog) _ Try.func144 rfl]
 simp only [Try.f144]
 walk_nrm
 obtain ⟨K,hK,hV,key,yek⟩:=kKV (L:=Lone) (J:=fun g=>KK d g V) hM.mu (hM.muv hn)
 refine key _ ?_
 repeat (first|(with_reducible first|refine mu_seq hK ?_|refine mu_skip hK ?_|(refine mu_region_end hK ?_;try subst hkk)|refine mu_block hK ?_|refine mu_inBlock hK ?_|refine mu_ret hK ?_|refine mu_end hK ?_)|refine mu_exit hK rfl ?_|(with_reducible refine mu_regionH hK (fun kk hkk=>?_);simp only [List.size_toArray,List.length_cons,List.length_nil,Nat.reduceAdd,Nat.zero_add,List.range,List.range.loop])|(with_reducible refine mu_cf hK ?_ ?_;(· first|(walk_nrm;done)|(simp [Act.eval];done)))|(with_reducible refine mu_ct hK ?_ ?_;(· first|(walk_nrm;done)|(simp [Act.eval];done)))|(refine mu_unwanted hK rfl rfl ?_;walk_nrm)|(refine muv_val hV rfl (by first|exact .inl rfl|exact .inr rfl) rfl (by kernel_rfl) (fun J hJ=>?_);go_simp;with_reducible refine hJ _ ?_;clear hJ J;walk_nrm))
 refine mu_call hK rfl rfl (by decide) rfl Try.func162 (by kernel_rfl) rfl ?_
 rw [← enter_at (P:=Try.prog) _ Try.func162 rfl]
 walk_nrm
 refine yek _ ?_
 clear hK hV key yek K
 refine o162 hM hn hc hz hlt ?_
 have hn2:=norm_set hn ⟨ob,1,none⟩ (.int .i32 1)
 clear hc hz
 generalize V.setCell ⟨ob,1,none⟩ (.int .i32 1) = V2 at *
 walk_nrm
 obtain ⟨K,hK,hV,key,yek⟩:=kKV (L:=Lone) (J:=fun g=>KK d g V2) hM.mu (hM.muv hn2)
 refine key _ ?_
 repeat (first|(with_reducible first|refine mu_seq hK ?_|refine mu_skip hK ?_|(refine mu_region_end hK ?_;try subst hkk)|refine mu_block hK ?_|refine mu_inBlock hK ?_|refine mu_ret hK ?_|refine mu_end hK ?_)|refine mu_exit hK rfl ?_|(with_reducible refine mu_regionH hK (fun kk hkk=>?_);simp only [List.size_toArray,List.length_cons,List.length_nil,Nat.reduceAdd,Nat.zero_add,List.range,List.range.loop])|(with_reducible refine mu_cf hK ?_ ?_;(· first|(walk_nrm;done)|(simp [Act.eval];done)))|(with_reducible refine mu_ct hK ?_ ?_;(· first|(walk_nrm;done)|(simp [Act.eval];done)))|(refine mu_unwanted hK rfl rfl ?_;walk_nrm)|(refine muv_val hV rfl (by first|exact .inl rfl|exact .inr rfl) rfl (by kernel_rfl) (fun J hJ=>?_);go_simp;with_reducible refine hJ _ ?_;clear hJ J;walk_nrm))
 refine yek _ ?_
 clear hK hV key yek K
 refine mu_leave0 (K:=fun g=>KK d g V2) hM.mu rfl rfl Try.func144 rfl ?_
 exact h
end
end Go.Proofs.Ytibcdikfbhmheaa

namespace Go.Proofs.Ytibcdikfbhmheaa
open Go Go.Conc Go.Proofs
open Go.ConcN (sumTo upd sumTo_upd upd_ne upd_same)
set_option linter.unusedVariables false
def ropsO : Code → Array Oper | .region _ ops _=>ops | _=>#[]
noncomputable def o86 : Array Oper:=ropsO (Try.f86.body.getD .skip)
theorem b86_eq : Try.f86.body = some (.region 0 o86 true):=by kernel_rfl
section
variable {main : Bool} {Z : Cuts} {KK : Nat → Goroutine → World → Prop} {d : Nat} {V : World} {b b₀ fr : Frame} {a₀ : Act} {ops₀ : Array Oper} {i₀ : Nat} {rest₀ : List Nat} {k₀ kt : List Item} {cs0 cs : List Frame} {ob o : Nat} {T : Array Value}
def o86deps : Nat → List Nat:=fun i=>match i with | 1=>[0] | 2=>[1] | 4=>[3] | _=>[]
def o86val (ob o : Nat) : Nat → Value:=fun i=>match i with | 3=>.bool true | 4=>.int .u32 1 | _=>.pointer (some ⟨ob,o,none⟩)
def O86 (ob o : Nat) (T : Array Value) : Prop:=T.size = 10 ∧ T[0]? = some (.pointer (some ⟨ob,o,none⟩)) ∧ T[1]? = some (.bool true)
theorem O86.put {d : Nat} {v : Value} (h : O86 ob o T) (hd : 2 ≤ d) : O86 ob o (T.setIfInBounds d v):=⟨by rw [Array.size_setIfInBounds]; exact h.1,by rw [Array.getElem?_setIfInBounds_ne (by omega)]; exact h.2.1,by rw [Array.getElem?_setIfInBounds_ne (by omega)]; exact h.2.2⟩
def O86I (ob o : Nat) (listed : Array Bool) (a : Act) : Prop:=a.defers = [] ∧ O86 ob o a.tmps ∧ ∀ i,i < 5 → listed.getD i false = true → a.tmps[4 + i]? = some (o86val ob o i)
theorem o86_deps : ∀ i,i < 5 → ∃ p,o86[i]? = some p ∧ p.dst = some (4 + i) ∧ ∀ d ∈ o86deps i,d < i ∧ ∃ e ∈ p.after,e.on = d ∧ Region.binds .any e = true:=by
 have key : ((List.range 5).all fun i=>(o86[i]?).any fun o=>o.dst == some (4 + i) && (o86deps i).all fun d=>d < i && o.after.any fun e=>e.on == d && Region.binds .any e) = true:=by kernel_rfl
 intro i hi
 have h:=List.all_eq_true.1 key i (List.mem_range.2 hi)
 rcases ho : o86[i]? with _ | o
 · rw [ho] at h; cases h
 · rw [ho] at h
   simp only [Option.any_some,Bool.and_eq_true,beq_iff_eq,List.all_eq_true,decide_eq_true_eq,Array.any_eq_true'] at h
   refine ⟨o,rfl,h.1,fun d hd=>⟨(h.2 d hd).1,?_⟩⟩
   obtain ⟨e,he,h1,h2⟩:=(h.2 d hd).2
   exact ⟨e,he,h1,h2⟩
theorem o86_step (hM : MarkK Try.prog main Z KK) (hn : norm V = V) (hb : b.kind = .normal ∨ b.kind = .deferred) (hT : O86 ob o T) (j : Nat) (hj : j < 5) (hd : ∀ d ∈ o86deps j,T[4 + d]? = some (o86val ob o d)) {rest : List Nat}
   (h : KK d (G (b.at (Act.put ⟨T,[]⟩ (some (4 + j)) (o86val ob o j)) (.inRegion o86 rest :: kt)) cs) V) : KK d (G (b.at ⟨T,[]⟩ (.inRegion o86 (j :: rest) :: kt)) cs) V:=by
 obtain ⟨hs,t0,t1⟩:=hT
 have hne : b.kind ≠ .early:=by rcases hb with h | h <;> rw [h] <;> decide
 rcases (show j = 0 ∨ j = 1 ∨ j = 2 ∨ j = 3 ∨ j = 4 by omega) with rfl | rfl | rfl | rfl | rfl
 · refine opv (K:=fun g=>KK d g V) (L:=Lone) (hM.muv hn) hb (i:=0) (d:=4) (op:=.move (.tmp 0)) (by kernel_rfl) (by kernel_rfl) (fun o ho τ=>?_) h
   simp only [execOp,ho,o86val]
   clear hs
   go_simp
 · have t4:=hd 0 (by decide)
   simp only [o86val,Nat.add_zero] at t4
   refine opv (K:=fun g=>KK d g V) (L:=Lone) (hM.muv hn) hb (i:=1) (d:=5) (op:=.nilCheck (.tmp 4)) (by kernel_rfl) (by kernel_rfl) (fun o ho τ=>?_) h
   simp only [execOp,ho,o86val]
   clear hs
   go_simp
 · have t5:=hd 1 (by decide)
   simp only [o86val,Nat.reduceAdd] at t5
   refine opv (K:=fun g=>KK d g V) (L:=Lone) (hM.muv hn) hb (i:=2) (d:=6) (op:=.fieldAddr 78 (.tmp 5) 1) (by kernel_rfl) (by kernel_rfl) (fun o ho τ=>?_) h
   simp only [execOp,ho,o86val]
   clear hs
   go_simp
 · refine opv (K:=fun g=>KK d g V) (L:=Lone) (hM.muv hn) hb (i:=3) (d:=7) (op:=.move (.tmp 1)) (by kernel_rfl) (by kernel_rfl) (fun o ho τ=>?_) h
   simp only [execOp,ho,o86val]
   clear hs
   go_simp
 · have t7:=hd 3 (by decide)
   simp only [o86val,Nat.reduceAdd] at t7
   refine opc (K:=fun g=>KK d g V) hM.mu hne (i:=4) (d:=some 8) (f:=123) (args:=#[.tmp 7]) (ats:=#[4]) (by kernel_rfl) Try.func123 (by kernel_rfl) rfl fun hd=>?_
   have ea : (#[.tmp 7] : Array Operand).map (Act.eval ⟨T,[]⟩) = #[Value.bool true]:=by simp [t7,Act.eval]
   rw [ea]
   refine o123 hM hn ?_
   rw [hd]
   exact h
theorem o86_go (hM : MarkK Try.prog main Z KK) (hn : norm V = V) (hb : b.kind = .normal ∨ b.kind = .deferred) (hT : O86 ob o T) {u : Value} (hc : V.cell? ⟨ob,o,none⟩ = some u) (hz : V.frozen? ⟨ob,o,none⟩ = false)
   (h : ∀ T',KK d (G (b.at ⟨T',[]⟩ kt) cs) (V.setCell ⟨ob,o,none⟩ (.int .u32 1))) : KK d (G (b.at ⟨T,[]⟩ (.code (.region 0 o86 true) :: kt)) cs) V:=by
 have hne : b.kind ≠ .early:=by rcases hb with h | h <;> rw [h] <;> decide
 refine order2_go (P:=Try.prog) (K:=fun g=>KK d g V) (j:=5) (N:=6) hM.mud (by kernel_rfl) (by kernel_rfl) (by kernel_rfl) (by decide) (O86I ob o) ⟨rfl,hT,fun j hj h=>by
   rw [show (Array.replicate 6 false).getD j false = false by rw [Array.getD_eq_getD_getElem?,Array.getElem?_replicate]; split <;> rfl] at h
   cases h⟩ (fun listed a j hI hl hj hne' hr=>?_) fun listed a hI hall=>?_
 · obtain ⟨T,df⟩:=a
   obtain ⟨hdf,hN,hv⟩:=hI
   obtain rfl : df = []:=hdf
   have hj2 : j < 5:=by omega
   obtain ⟨o',ho,hdst,hdp⟩:=o86_deps j hj2
   refine ⟨_,⟨rfl,hN.put (d:=4 + j) (v:=o86val ob o j) (by omega),fun i' hi' hl'=>?_⟩,fun rest hk=>o86_step hM hn hb hN j hj2 (fun d hd=>?_) hk⟩
   · show (T.setIfInBounds (4 + j) (o86val ob o j))[4 + i']? = _
     by_cases e : i' = j
     · subst e
       rw [Array.getElem?_setIfInBounds_self_of_lt (by rw [hN.1]; omega)]
     · rw [Array.getElem?_setIfInBounds_ne (by omega)]
       refine hv i' hi' ?_
       rw [getD_set_ne false (Ne.symm e)] at hl'
       exact hl'
   · obtain ⟨h1,e,he,h2,h3⟩:=hdp d hd
     obtain ⟨_,o'',ho',hall⟩:=mem_ready.1 hr
     rw [ho] at ho'
     obtain rfl:=Option.some.inj ho'
     have:=hall e he h3
     rw [h2] at this
     exact hv d (by omega) this
 · obtain ⟨T,df⟩:=a
   obtain ⟨hdf,hN,hv⟩:=hI
   obtain rfl : df = []:=hdf
   have t6:=hv 2 (by omega) (hall 2 (by omega) (by omega))
   have t8:=hv 4 (by omega) (hall 4 (by omega) (by omega))
   simp only [o86val,Nat.reduceAdd] at t6 t8
   obtain ⟨p,hp,hd,hop,hg⟩:=opat (ops:=o86) (i:=5) (d:=some 9) (op:=.call { callee:=.value (.func 122),args:=#[.tmp 6,.tmp 8],argTypes:=#[212,76] }) (by kernel_rfl)
   refine hM.walk _ _ _ (at_st32 (ad:=⟨ob,o,none⟩) (v:=1) hp (wanted_none hg) hne hop (evt t6) (evt t8) hc hz (.stop ?_))
   refine mu_region_end (K:=fun g=>KK d g (V.setCell ⟨ob,o,none⟩ (.int .u32 1))) hM.mu ?_
   rw [hd]
   exact h _
theorem O86_enter : O86 ob o (#[.pointer (some ⟨ob,o,none⟩),.bool true] ++ Array.replicate 8 undef):=⟨by simp,by simp,by simp⟩
theorem o86n (hM : MarkK Try.prog main Z KK) (hn : norm V = V) {u : Value} (hc : V.cell? ⟨ob,o,none⟩ = some u) (hz : V.frozen? ⟨ob,o,none⟩ = false)
   (h : KK d (G (b₀.at (a₀.put ((ops₀[i₀]?).bind (·.dst)) (.tuple #[])) (.inRegion ops₀ rest₀ :: k₀)) cs0) (V.setCell ⟨ob,o,none⟩ (.int .u32 1))) : KK d (G (Frame.enter Try.prog 86 #[.pointer (some ⟨ob,o,none⟩),.bool true] .normal) (b₀.at a₀ (.inRegion ops₀ (i₀ :: rest₀) :: k₀) :: cs0)) V:=by
 rw [enter_at (P:=Try.prog) _ Try.func86 b86_eq]
 refine o86_go hM hn (.inl rfl) O86_enter hc hz fun T'=>?_
 refine mu_end (K:=fun g=>KK d g (V.setCell ⟨ob,o,none⟩ (.int .u32 1))) hM.mu ?_
 refine mu_leave0 (K:=fun g=>KK d g (V.setCell ⟨ob,o,none⟩ (.int .u32 1))) hM.mu rfl rfl Try.func86 rfl ?_
 exact h
theorem back_eq (hm : fr.mode = .returning) : ({ fr with mode:=.returning } : Frame) = fr:=by cases fr; simp only at hm; subst hm; rfl
theorem o86d (hM : MarkK Try.prog main Z KK) (hn : norm V = V) {u : Value} (hc : V.cell? ⟨ob,o,none⟩ = some u) (hz : V.frozen? ⟨ob,o,none⟩ = false) (hm : fr.mode = .returning)
   (h : KK d (G fr cs) (V.setCell ⟨ob,o,none⟩ (.int .u32 1))) : KK d (G (Frame.enter Try.prog 86 #[.pointer (some ⟨ob,o,none⟩),.bool true] .deferred) (fr :: cs)) V:=by
 rw [enter_atD (P:=Try.prog) _ Try.func86 b86_eq]
 refine o86_go hM hn (.inr rfl) O86_enter hc hz fun T'=>?_
 refine mu_end (K:=fun g=>KK d g (V.setCell ⟨ob,o,none⟩ (.int .u32 1))) hM.mu ?_
 refine mu_back (K:=fun g=>KK d g (V.setCell ⟨ob,o,none⟩ (.int .u32 1))) (v:=undef) hM.mu rfl rfl Try.func86 rfl (.inl hm) ?_
 rw [back_eq hm]
 exact h
end
end Go.Proofs.Ytibcdikfbhmheaa
