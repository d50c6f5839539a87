import Derived.Test.YtibcdikfbhmheaaB07
import Derived.Conc.AtomicLaws2
import Derived.Test.YtibcdikfbhmheaaB09
import Derived.Test.YtibcdikfbhmheaaB14
set_option linter.unusedSimpArgs false
set_option linter.unusedVariables false
namespace Go.Proofs.Ytibcdikfbhmheaa
open Go Go.Conc Go.Proofs
section
variable {P : Program} {main : Bool} {Z : Cuts} {Stop : Goroutine -> World -> Prop} {V : World} {g g' : Goroutine}
end
theorem wanted_none {o : Oper} {y : Nat -> Option Bool} (h : o.guard = none) : Region.wanted o y = true:=by unfold Region.wanted; rw [h]
theorem evt {T : Array Value} {i : Nat} {v : Value} (h : T[i]? = some v) : Act.eval ⟨T,[]⟩ (.tmp i) = v:=by simp [Act.eval,Array.getD_eq_getD_getElem?,h]
section
variable {P : Program} {K : Goroutine -> Prop} {b : Frame} {k : List Item} {cs : List Frame} {ops : Array Oper}
theorem ready_some {listed : Array Bool} {N : Nat} (hN : ops.size = N) (hback : ((List.range N).all fun i=>(ops[i]?).any fun o=>o.after.all fun e=>decide (e.on < i)) = true) (hs : listed.size = N) (h : ∃ i,i < N /\ listed.getD i false = false) : ∃ i,i ∈ Region.ready .any ops listed:=by
 obtain ⟨i,hi⟩:=h
 induction i using Nat.strongRecOn with
 | _ i ih =>
   by_cases hx : ∃ j,j < i /\ listed.getD j false = false
   . obtain ⟨j,hj,hl⟩:=hx
     exact ih j hj ⟨by omega,hl⟩
   . refine ⟨i,mem_ready.2 ⟨?_,?_⟩⟩
     . have:=hi.2
       simp [Array.getD_eq_getD_getElem?,Array.getElem?_eq_getElem (show i < listed.size by omega)] at this ⊢
       exact this
     . have h:=List.all_eq_true.1 hback i (List.mem_range.2 hi.1)
       rcases ho : ops[i]? with _ | o
       . rw [ho] at h; cases h
       . rw [ho] at h
         simp only [Option.any_some,Array.all_eq_true',decide_eq_true_eq] at h
         refine ⟨o,rfl,fun e he _=>?_⟩
         have h1:=h e he
         cases hl : listed.getD e.on false with
         | true=>rfl
         | false=>exact absurd ⟨_,h1,hl⟩ hx
def unl (listed : Array Bool) : Nat:=listed.toList.countP fun x=>!x
theorem unl_set {listed : Array Bool} {i : Nat} (hi : i < listed.size) (h : listed.getD i true = false) : unl (listed.setIfInBounds i true) + 1 = unl listed:=by
 have hl : listed.toList[i]'(by simpa using hi) = false:=by
   simpa [Array.getD_eq_getD_getElem?,Array.getElem?_eq_getElem hi] using h
 unfold unl
 rw [Array.toList_setIfInBounds,List.countP_set (by simpa using hi),hl]
 have : 0 < listed.toList.countP fun x=>!x:=List.countP_pos_iff.2 ⟨_,List.getElem_mem (by simpa using hi),by rw [hl]; rfl⟩
 simp only [Bool.not_false,if_true,Bool.not_true,Bool.false_eq_true,if_false]
 omega
theorem order2_K {j N : Nat} (hN : ops.size = N) (hback : ((List.range N).all fun i=>(ops[i]?).any fun o=>o.after.all fun e=>decide (e.on < i)) = true)
   (hlast : ((List.range N).all fun i=>i == j || reach .any ops i N j) = true) (hj0 : j < N) (Inv : Array Bool -> Act -> Prop)
   (hstep : ∀ listed a i,Inv listed a -> listed.size = N -> i < N -> i ≠ j -> i ∈ Region.ready .any ops listed -> ∃ a',Inv (listed.setIfInBounds i true) a' /\ ∀ rest,K (G (b.at a' (.inRegion ops rest :: k)) cs) -> K (G (b.at a (.inRegion ops (i :: rest) :: k)) cs))
   (hend : ∀ listed a,Inv listed a -> (∀ i,i < N -> i ≠ j -> listed.getD i false = true) -> K (G (b.at a (.inRegion ops [j] :: k)) cs)) :
   ∀ (n t : Nat) (listed : Array Bool) (a : Act),Cl .any ops listed -> unl listed = n -> listed.size = N -> listed.getD j true = false -> Inv listed a -> K (G (b.at a (.inRegion ops (Region.linearise.go .any ops n t listed []) :: k)) cs):=by
 intro n
 induction n with
 | zero =>
   intro t listed a hc hu hs hj _
   exfalso
   have:=unl_set (by omega) hj
   omega
 | succ n ih =>
   intro t listed a hc hu hs hj hI
   have hjs : j < listed.size:=by omega
   have hjf : listed.getD j false = false:=by
     simp [Array.getD_eq_getD_getElem?,Array.getElem?_eq_getElem hjs] at hj ⊢; exact hj
   obtain ⟨i0,hi0⟩:=ready_some hN hback hs ⟨j,by omega,hjf⟩
   simp only [Region.linearise.go]
   change K (G (b.at a (.inRegion ops (match (Region.ready .any ops listed)[t % (Region.ready .any ops listed).length]? with
     | some i=>Region.linearise.go .any ops n (t / (Region.ready .any ops listed).length) (listed.setIfInBounds i true) [i]
     | none=>[].reverse) :: k)) cs)
   cases hi : (Region.ready .any ops listed)[t % (Region.ready .any ops listed).length]? with
   | none =>
     exfalso
     cases hr : Region.ready .any ops listed with
     | nil=>rw [hr] at hi0; cases hi0
     | cons x xs =>
       rw [hr] at hi
       have hlt : t % (x :: xs).length < (x :: xs).length:=Nat.mod_lt _ (by simp)
       simp at hi
       simp at hlt
       omega
   | some i =>
     simp only []
     rw [linearise_go_acc,List.reverse_singleton,List.singleton_append]
     have hr:=List.mem_of_getElem? hi
     obtain ⟨h1,o,ho,hall⟩:=mem_ready.1 hr
     have hiN : i < N:=by rw [← hN]; exact (Array.getElem?_eq_some_iff.1 ho).1
     by_cases e : i = j
     . subst e
       have hl : ∀ i',i' < N -> i' ≠ i -> listed.getD i' false = true:=fun i' h' hne=>by
         have h2:=List.all_eq_true.1 hlast i' (List.mem_range.2 h')
         simp only [Bool.or_eq_true,beq_iff_eq] at h2
         cases hv : listed.getD i' false with
         | true=>rfl
         | false =>
           rcases h2 with h2 | h2
           . exact absurd h2 hne
           . exact absurd hr (reach_off hc hv h2).2
       have hn0 : n = 0:=by
         have h2:=unl_set (by omega) h1
         have h3 : unl (listed.setIfInBounds i true) = 0:=by
           unfold unl
           rw [List.countP_eq_zero]
           intro x hx
           obtain ⟨m,hm,hmx⟩:=List.getElem_of_mem hx
           have hm' : m < listed.size:=by simpa using hm
           by_cases e : m = i
           . subst e
             have : x = true:=by rw [← hmx]; simp
             rw [this]; decide
           . have h5:=hl m (by omega) e
             have : x = true:=by
               rw [← hmx]
               simp [Array.getD_eq_getD_getElem?,Array.getElem?_eq_getElem hm'] at h5
               simp [Array.getElem_setIfInBounds,h5,Ne.symm e]
             rw [this]; decide
         omega
       subst hn0
       exact hend listed a hI hl
     . obtain ⟨a',hI',hk⟩:=hstep listed a i hI hs hiN e hr
       refine hk _ (ih _ _ _ (hc.set hr) ?_ (by simp [hs]) ?_ hI')
       . have:=unl_set (by omega) h1
         omega
       . rw [getD_set_ne true e]; exact hj
theorem order2_go {j N : Nat} {id : Nat} {a : Act} (hD : MuD P K) (hN : ops.size = N) (hback : ((List.range N).all fun i=>(ops[i]?).any fun o=>o.after.all fun e=>decide (e.on < i)) = true)
   (hlast : ((List.range N).all fun i=>i == j || reach .any ops i N j) = true) (hj0 : j < N) (Inv : Array Bool -> Act -> Prop) (h0 : Inv (Array.replicate N false) a)
   (hstep : ∀ listed a i,Inv listed a -> listed.size = N -> i < N -> i ≠ j -> i ∈ Region.ready .any ops listed -> ∃ a',Inv (listed.setIfInBounds i true) a' /\ ∀ rest,K (G (b.at a' (.inRegion ops rest :: k)) cs) -> K (G (b.at a (.inRegion ops (i :: rest) :: k)) cs))
   (hend : ∀ listed a,Inv listed a -> (∀ i,i < N -> i ≠ j -> listed.getD i false = true) -> K (G (b.at a (.inRegion ops [j] :: k)) cs)) (hd : Region.departs ops = false:=by kernel_rfl) (hcl : clB .any ops (Array.replicate N false) = true:=by kernel_rfl) :
   K (G (b.at a (.code (.region id ops true) :: k)) cs):=by
 refine hD b a k cs id ops fun t=>?_
 unfold Region.schedule Region.linearise
 rw [hd]
 simp only [Bool.not_false,Bool.or_true,if_true]
 rw [hN]
 refine order2_K hN hback hlast hj0 Inv hstep hend N t _ a (cl_of hcl) ?_ (by simp) ?_ h0
 . unfold unl
   rw [Array.toList_replicate,List.countP_replicate]
   simp
 . simp [Array.getD_eq_getD_getElem?,hj0]
theorem opat {i : Nat} {d : Option Nat} {op : Op} (h : (ops[i]?).map (fun o=>(o.dst,o.op,o.guard)) = some (d,op,none)) : ∃ o,ops[i]? = some o /\ o.dst = d /\ o.op = op /\ o.guard = none:=by
 rcases ho : ops[i]? with _ | o
 . rw [ho] at h; cases h
 . rw [ho] at h
   simp only [Option.map_some,Option.some.injEq,Prod.mk.injEq] at h
   exact ⟨o,rfl,h.1,h.2.1,h.2.2⟩
theorem opv {L : List FuncId} {V : World} {i d : Nat} {op : Op} {v : Value} {T : Array Value} {rest : List Nat} (hV : MuV P L V K) (hb : b.kind = .normal ∨ b.kind = .deferred) (h : (ops[i]?).map (fun o=>(o.dst,o.op,o.guard)) = some (some d,op,none)) (hok : opOk P L op = true) (hr : ∀ (o : Oper),o.op = op -> ∀ τ,(execOp (Act.eval ⟨T,[]⟩) o).run P (re V τ 0) = .ok (.value v) (re V τ 0))
   (hk : K (G (b.at (Act.put ⟨T,[]⟩ (some d) v) (.inRegion ops rest :: k)) cs)) : K (G (b.at ⟨T,[]⟩ (.inRegion ops (i :: rest) :: k)) cs):=by
 obtain ⟨o,ho,hd,hop,hg⟩:=opat h
 exact hV b _ k cs ops i rest o v hb ho (wanted_none hg) (by rw [hop]; exact hok) (hr o hop) (by rw [hd]; exact hk)
theorem opc {R : World -> Prop} {i f : Nat} {d : Option Nat} {args : Array Operand} {ats : Array TypeId} {fn : Func} {c : Code} {T : Array Value} {rest : List Nat} (hK : Mu P R K) (hb : b.kind ≠ .early) (h : (ops[i]?).map (fun o => (o.dst, o.op, o.guard)) = some (d, .call { callee := .value (.func f), args, argTypes := ats }, none)) (hf : P.funcs[f]? = some fn) (hname : (fn.name == "runtime.NumGoroutine") = false) (hbd : fn.body = some c)
   (hk : ((ops[i]?).bind (·.dst)) = d -> K (G (Frame.enter P f (args.map (Act.eval ⟨T,[]⟩)) .normal) (b.at ⟨T,[]⟩ (.inRegion ops (i :: rest) :: k) :: cs))) : K (G (b.at ⟨T,[]⟩ (.inRegion ops (i :: rest) :: k)) cs):=by
 obtain ⟨o,ho,hd,hop,hg⟩:=opat h
 refine mu_call hK ho (wanted_none hg) hb hop hf hname hbd ?_
 rw [← enter_at (P:=P) _ hf hbd]
 exact hk (by rw [ho]; exact hd)
end
section
variable {P : Program} {main : Bool} {Z : Cuts} {Stop : Goroutine -> World -> Prop} {V : World} {g g' : Goroutine}
theorem lin_oneA {md : Region.Mode} {ops : Array Oper} {t n i : Nat} {listed : Array Bool} (h : Region.ready md ops listed = [i]) : Region.linearise.go md ops (n + 1) t listed [] = i :: Region.linearise.go md ops n (t / 1) (listed.setIfInBounds i true) []:=by
 simp only [Region.linearise.go]
 change (match (Region.ready md ops listed)[t % (Region.ready md ops listed).length]? with
     | some i=>Region.linearise.go md ops n (t / (Region.ready md ops listed).length) (listed.setIfInBounds i true) [i]
     | none=>[].reverse) = _
 rw [h]
 simp only [List.length_singleton,Nat.mod_one,List.getElem?_cons_zero]
 rw [linearise_go_acc,List.reverse_singleton,List.singleton_append]
theorem lin_nilA {md : Region.Mode} {ops : Array Oper} {t : Nat} {listed : Array Bool} : Region.linearise.go md ops 0 t listed [] = []:=rfl
end
section
variable {main : Bool} {Z : Cuts} {Stop : Goroutine -> World -> Prop} {V : World} {b : Frame} {a : Act} {ops : Array Oper} {i : Nat} {rest : List Nat} {k : List Item} {cs : List Frame} {o : Oper} {ats : Array TypeId}
end
section
variable {main : Bool} {Z : Cuts} {KK : Nat -> Goroutine -> World -> Prop} {d : Nat} {V : World} {bQ : Frame} {aQ : Act} {opsQ : Array Oper} {iQ : Nat} {restQ : List Nat} {kQ : List Item} {cs0 cs : List Frame} {ob o : Nat}
end
def ropsO : Code -> Array Oper | .region _ ops _=>ops | _=>#[]
section
variable {main : Bool} {Z : Cuts} {KK : Nat -> Goroutine -> World -> Prop} {d : Nat} {V : World} {b bQ fr : Frame} {aQ : Act} {opsQ : Array Oper} {iQ : Nat} {restQ : List Nat} {kQ kt : List Item} {cs0 cs : List Frame} {ob o : Nat} {T : Array Value}
def O86 (ob o : Nat) (T : Array Value) : Prop:=T.size = 10 /\ T[0]? = some (.pointer (some ⟨ob,o,none⟩)) /\ T[1]? = some (.bool true)
theorem O86.put {d : Nat} {v : Value} (h : O86 ob o T) (hd : 2 <= d) : O86 ob o (T.setIfInBounds d v):=⟨by rw [Array.size_setIfInBounds]; exact h.1,by rw [Array.getElem?_setIfInBounds_ne (by omega)]; exact h.2.1,by rw [Array.getElem?_setIfInBounds_ne (by omega)]; exact h.2.2⟩
end
end Go.Proofs.Ytibcdikfbhmheaa
