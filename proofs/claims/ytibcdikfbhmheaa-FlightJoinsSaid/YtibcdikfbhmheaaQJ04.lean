import Derived.Test.YtibcdikfbhmheaaQJ03
import Derived.Test.YtibcdikfbhmheaaB22
import Derived.Test.YtibcdikfbhmheaaQJ01
set_option linter.unusedSimpArgs false
set_option linter.unusedVariables false
set_option maxRecDepth 100000
set_option maxHeartbeats 4000000
namespace Go.Proofs.Ytibcdikfbhmheaa
open Go Go.Conc Go.Proofs
noncomputable section
theorem isAgg3M : ∀ w,(isAgg 3).run Try.prog w = .ok false w:=fun w=>by
 unfold isAgg
 rw [Sem.run_bind,run_underlying Try.underlying3 w]
 rfl
theorem size3M : ∀ w,(sizeOf 3).run Try.prog w = .ok 1 w:=fun w=>by
 have h : (Try.prog.info? 3).map (·.size) = some 1:=by kernel_rfl
 unfold sizeOf typeInfo
 cases e : Try.prog.info? 3 with
 | none=>rw [e] at h; cases h
 | some i=>rw [e] at h; simp [Sem.run_bind,e]; simpa using h
def kv (k : Int × Int) : Value:=.agg #[.int .i64 k.1,.int .i64 k.2]
theorem eq139 (a b c d : Int) (w : World) : (Op.equalIn 10000 139 (.agg #[.int .i64 a,.int .i64 b]) (.agg #[.int .i64 c,.int .i64 d])).run Try.prog w = .ok (a == c && b == d) w:=by
 have u3:=Try.underlying3
 have a3:=isAgg3M
 have z3:=size3M
 have hS : Try.prog.underlying 139 = some (.struct (Try.prog.fieldsOf 139)):=by kernel_rfl
 have hp : Try.prog.stoodInHeld 139 = false:=by kernel_rfl
 rw [show (10000 : Nat) = 9999 + 1 from rfl,run_equalIn_agg w 9999 139 _ _ hS hp]
 simp only [Program.fieldsOf,Try.underlying139]
 go_simp
 by_cases h1 : a = c <;> by_cases h2 : b = d <;> simp [h1,h2]
theorem eqkv (j k : Int × Int) (w : World) : (Op.equal 139 (kv j) (kv k)).run Try.prog w = .ok (j == k) w:=by
 obtain ⟨a,b⟩:=j
 obtain ⟨c,d⟩:=k
 exact eq139 a b c d w
def Mp (es : Array MapEntry) (m : List ((Int × Int) × Nat)) : Prop:=es.toList.map (fun e=>(e.key,e.val)) = m.map fun x=>(kv x.1,Value.pointer (some ⟨x.2,0,none⟩))
def kpos (k : Int × Int) : List ((Int × Int) × Nat) -> Nat -> Option (Nat × Nat)
 | [],_=>none
 | x :: m,i=>if k == x.1 then some (i,x.2) else kpos k m (i + 1)
theorem run_findAsking (k : Int × Int) (w : World) : ∀ (es : List MapEntry) (m : List ((Int × Int) × Nat)) (i : Nat),es.map (fun e=>(e.key,e.val)) = m.map (fun x=>(kv x.1,Value.pointer (some ⟨x.2,0,none⟩))) ->
   (Instr.findAsking 139 (kv k) es i).run Try.prog w = .ok ((kpos k m i).map fun x=>(x.1,Value.pointer (some ⟨x.2,0,none⟩))) w
 | [],m,i,h=>by
   cases m with
   | nil=>rfl
   | cons x m=>cases h
 | e :: es,m,i,h=>by
   cases m with
   | nil=>cases h
   | cons x m =>
     rw [List.map_cons,List.map_cons] at h
     obtain ⟨h1,h2⟩:=List.cons.inj h
     obtain ⟨h3,h4⟩:=Prod.mk.inj h1
     unfold Instr.findAsking
     rw [Sem.run_bind,h3,eqkv]
     simp only [Result.andThen,kpos]
     cases hk : k == x.1 with
     | true=>simp [h4]
     | false =>
       simp only [Bool.false_eq_true,if_false]
       exact run_findAsking k w es m (i + 1) h2
theorem findNow_kv (k : Int × Int) (f : Array Field) (es : List MapEntry) (i : Nat) (h : es ≠ []) : Instr.findNow (.struct f) (kv k) es i = none:=by
 cases es with
 | nil=>exact absurd rfl h
 | cons e es=>simp [Instr.findNow,Instr.sameNow]
theorem run_findKey {es : Array MapEntry} {m : List ((Int × Int) × Nat)} (h : Mp es m) (k : Int × Int) (w : World) : (Instr.findKey 139 (kv k) es.toList).run Try.prog w = .ok ((kpos k m 0).map fun x=>(x.1,Value.pointer (some ⟨x.2,0,none⟩))) w:=by
 have hS : Try.prog.underlying 139 = some (.struct (Try.prog.fieldsOf 139)):=by kernel_rfl
 unfold Instr.findKey
 rw [Sem.run_bind,run_underlying hS w]
 simp only [Result.andThen]
 by_cases hn : es.toList = []
 . unfold Mp at h
   rw [hn] at h ⊢
   cases m with
   | nil=>rfl
   | cons x m=>cases h
 . rw [findNow_kv _ _ _ _ hn]
   exact run_findAsking k w _ m 0 h
theorem run_checkKey3 (b : Bool) (n : Nat) (x : Int) (w : World) : (Instr.checkKey b (n + 1) 3 (.int .i64 x)).run Try.prog w = .ok () w:=by
 unfold Instr.checkKey
 rw [Sem.run_bind,run_underlying Try.underlying3 w]
 rfl
theorem run_checkKey (b : Bool) (k : Int × Int) (w : World) : (Instr.checkKey b 10000 139 (kv k)).run Try.prog w = .ok () w:=by
 have u3:=Try.underlying3
 have a3:=isAgg3M
 have z3:=size3M
 have c3:=fun (x : Int) w=>run_checkKey3 b 9998 x w
 have hS : Try.prog.underlying 139 = some (.struct (Try.prog.fieldsOf 139)):=by kernel_rfl
 rw [show (10000 : Nat) = 9999 + 1 from rfl]
 unfold Instr.checkKey
 rw [Sem.run_bind,run_underlying hS w]
 simp only [Result.andThen,kv,Program.fieldsOf,Try.underlying139]
 go_simp
theorem run_zero197 (w : World) : (zeroValue 197).run Try.prog w = .ok (.pointer none) w:=by
 have h : (Try.prog.info? 197).map (fun i=>i.zero) = some (some (.pointer none)):=by kernel_rfl
 unfold zeroValue typeInfo
 cases e : Try.prog.info? 197 with
 | none=>rw [e] at h; cases h
 | some i=>rw [e] at h; simp [Sem.run_bind,e]; simp at h; simp [h]
def kptr (m : List ((Int × Int) × Nat)) (k : Int × Int) : Value:=match kpos k m 0 with | some x=>.pointer (some ⟨x.2,0,none⟩) | none=>.pointer none
def setM (w : World) (r : Nat) (o : Obj) : World:={ w with heap:=w.heap.setIfInBounds r o }
theorem setM_norm {V : World} (hn : norm V = V) (r : Nat) (o : Obj) : norm (setM V r o) = setM V r o:=by
 have h:=congrArg (fun W : World=>setM W r o) hn
 exact h
theorem setM_get (w : World) (r b : Nat) (o : Obj) (h : b ≠ r) : (setM w r o).heap[b]? = w.heap[b]?:=by
 show (w.heap.setIfInBounds r o)[b]? = _
 rw [Array.getElem?_setIfInBounds_ne (fun e=>h e.symm)]
theorem setM_self {w : World} {r : Nat} {x : Obj} (o : Obj) (h : w.heap[r]? = some x) : (setM w r o).heap[r]? = some o:=by
 show (w.heap.setIfInBounds r o)[r]? = _
 rw [Array.getElem?_setIfInBounds_self_of_lt (Array.getElem?_eq_some_iff.1 h).1]
theorem setM_size (w : World) (r : Nat) (o : Obj) : (setM w r o).heap.size = w.heap.size:=by simp [setM]
section
variable {w : World} {rb clk : Nat} {es : Array MapEntry} {m : List ((Int × Int) × Nat)}
theorem run_getM (h : w.heap[rb]? = some (.map es clk)) : (getObj rb).run Try.prog w = .ok (.map es clk) w:=by
 show Sem.run Try.prog (.getObj rb .pure) w = _
 simp only [Sem.run,h]
theorem run_setM {o : Obj} (h : w.heap[rb]? = some (.map es clk)) : (setObj rb o).run Try.prog w = .ok () (setM w rb o):=by
 show Sem.run Try.prog (.setObj rb o (.pure ())) w = _
 simp only [Sem.run,h,setM]
theorem run_lookup (h : w.heap[rb]? = some (.map es clk)) (hm : Mp es m) (k : Int × Int) : (Instr.lookup 188 (.map (some rb)) (kv k) false).run Try.prog w = .ok (kptr m k) w:=by
 have h1:=run_getM h
 have h2:=run_checkKey es.isEmpty k w
 have h3:=run_findKey hm k w
 have h4:=run_zero197 w
 unfold Instr.lookup
 rw [Sem.run_bind,run_underlying Try.underlying188 w]
 simp only [Result.andThen]
 unfold kptr
 cases hk : kpos k m 0 with
 | none =>
   rw [hk] at h3
   simp [Sem.run_bind,h1,h2,h3,h4,Result.andThen]
 | some x =>
   rw [hk] at h3
   simp [Sem.run_bind,h1,h2,h3,Result.andThen]
theorem run_mapUpdate (h : w.heap[rb]? = some (.map es clk)) (hm : Mp es m) {k : Int × Int} (hk : kpos k m 0 = none) (v : Value) : (Instr.mapUpdate 188 (.map (some rb)) (kv k) v).run Try.prog w = .ok () (setM w rb (.map (es.push { key:=kv k,val:=v,born:=clk }) (clk + 1))):=by
 have h1:=run_getM h
 have h2:=run_checkKey false k w
 have h3:=run_findKey hm k w
 have h4:=run_setM (o:=.map (es.push { key:=kv k,val:=v,born:=clk }) (clk + 1)) h
 unfold Instr.mapUpdate
 rw [Sem.run_bind,run_underlying Try.underlying188 w]
 simp only [Result.andThen]
 rw [hk] at h3
 simp [Sem.run_bind,h1,h2,h3,h4,Result.andThen]
theorem run_delete (h : w.heap[rb]? = some (.map es clk)) (hm : Mp es m) {k : Int × Int} {i b : Nat} (hk : kpos k m 0 = some (i,b)) (t : TypeId) : (Builtin.delete_ #[188,139] t #[.map (some rb),kv k]).run Try.prog w = .ok (.tuple #[]) (setM w rb (.map (es.eraseIdxIfInBounds i) clk)):=by
 have h1:=run_getM h
 have h2:=run_checkKey es.isEmpty k w
 have h3:=run_findKey hm k w
 have h4:=run_setM (o:=.map (es.eraseIdxIfInBounds i) clk) h
 unfold Builtin.delete_
 simp only [List.getElem?_toArray,List.getElem?_cons_zero,List.getElem?_cons_succ]
 rw [Sem.run_bind,run_underlying Try.underlying188 w]
 simp only [Result.andThen]
 rw [hk] at h3
 simp [Sem.run_bind,h1,h2,h3,h4,Result.andThen]
end
theorem Mp.nil : Mp #[] []:=rfl
theorem Mp.push {es : Array MapEntry} {m : List ((Int × Int) × Nat)} (h : Mp es m) (k : Int × Int) (b c : Nat) : Mp (es.push { key:=kv k,val:=.pointer (some ⟨b,0,none⟩),born:=c }) (m ++ [(k,b)]):=by
 unfold Mp at *
 rw [Array.toList_push,List.map_append,List.map_append,h]
 rfl
theorem map_erase {α β : Type} (f : α -> β) : ∀ (l : List α) (i : Nat),(l.eraseIdx i).map f = (l.map f).eraseIdx i
 | [],i=>by simp
 | x :: l,0=>rfl
 | x :: l,i + 1=>by simp [map_erase f l i]
theorem Mp.erase {es : Array MapEntry} {m : List ((Int × Int) × Nat)} (h : Mp es m) (i : Nat) : Mp (es.eraseIdxIfInBounds i) (m.eraseIdx i):=by
 unfold Mp at *
 rw [Array.toList_eraseIdxIfInBounds,map_erase,map_erase,h]
section
variable {P : Program} {K : Array Bool -> Goroutine -> Prop} {b : Frame} {k : List Item} {cs : List Frame} {ops : Array Oper}
theorem order3_K {j N : Nat} (hN : ops.size = N) (hback : ((List.range N).all fun i=>(ops[i]?).any fun o=>o.after.all fun e=>decide (e.on < i)) = true)
   (hlast : ((List.range N).all fun i=>i == j || reach .any ops i N j) = true) (hj0 : j < N) (Inv : Array Bool -> Act -> Prop)
   (hstep : ∀ listed a i,Inv listed a -> listed.size = N -> i < N -> i ≠ j -> i ∈ Region.ready .any ops listed -> ∃ a',Inv (listed.setIfInBounds i true) a' /\ ∀ rest,K (listed.setIfInBounds i true) (G (b.at a' (.inRegion ops rest :: k)) cs) -> K listed (G (b.at a (.inRegion ops (i :: rest) :: k)) cs))
   (hend : ∀ listed a,Inv listed a -> (∀ i,i < N -> i ≠ j -> listed.getD i false = true) -> K listed (G (b.at a (.inRegion ops [j] :: k)) cs)) :
   ∀ (n t : Nat) (listed : Array Bool) (a : Act),Cl .any ops listed -> unl listed = n -> listed.size = N -> listed.getD j true = false -> Inv listed a -> K listed (G (b.at a (.inRegion ops (Region.linearise.go .any ops n t listed []) :: k)) cs):=by
 intro n
 induction n with
 | zero =>
   intro t listed a hc hu hs hj _
   exfalso
   have:=unl_set (by omega) hj
   omega
 | succ n ih =>
   intro t listed a hc hu hs hj hI
   have hjs : j < listed.size:=by omega
   have hjf : listed.getD j false = false:=by
     simp [Array.getD_eq_getD_getElem?,Array.getElem?_eq_getElem hjs] at hj ⊢; exact hj
   obtain ⟨i0,hi0⟩:=ready_some hN hback hs ⟨j,by omega,hjf⟩
   simp only [Region.linearise.go]
   change K listed (G (b.at a (.inRegion ops (match (Region.ready .any ops listed)[t % (Region.ready .any ops listed).length]? with
     | some i=>Region.linearise.go .any ops n (t / (Region.ready .any ops listed).length) (listed.setIfInBounds i true) [i]
     | none=>[].reverse) :: k)) cs)
   cases hi : (Region.ready .any ops listed)[t % (Region.ready .any ops listed).length]? with
   | none =>
     exfalso
     cases hr : Region.ready .any ops listed with
     | nil=>rw [hr] at hi0; cases hi0
     | cons x xs =>
       rw [hr] at hi
       have hlt : t % (x :: xs).length < (x :: xs).length:=Nat.mod_lt _ (by simp)
       simp at hi
       simp at hlt
       omega
   | some i =>
     simp only []
     rw [linearise_go_acc,List.reverse_singleton,List.singleton_append]
     have hr:=List.mem_of_getElem? hi
     obtain ⟨h1,o,ho,hall⟩:=mem_ready.1 hr
     have hiN : i < N:=by rw [← hN]; exact (Array.getElem?_eq_some_iff.1 ho).1
     by_cases e : i = j
     . subst e
       have hl : ∀ i',i' < N -> i' ≠ i -> listed.getD i' false = true:=fun i' h' hne=>by
         have h2:=List.all_eq_true.1 hlast i' (List.mem_range.2 h')
         simp only [Bool.or_eq_true,beq_iff_eq] at h2
         cases hv : listed.getD i' false with
         | true=>rfl
         | false =>
           rcases h2 with h2 | h2
           . exact absurd h2 hne
           . exact absurd hr (reach_off hc hv h2).2
       have hn0 : n = 0:=by
         have h2:=unl_set (by omega) h1
         have h3 : unl (listed.setIfInBounds i true) = 0:=by
           unfold unl
           rw [List.countP_eq_zero]
           intro x hx
           obtain ⟨m,hm,hmx⟩:=List.getElem_of_mem hx
           have hm' : m < listed.size:=by simpa using hm
           by_cases e : m = i
           . subst e
             have : x = true:=by rw [← hmx]; simp
             rw [this]; decide
           . have h5:=hl m (by omega) e
             have : x = true:=by
               rw [← hmx]
               simp [Array.getD_eq_getD_getElem?,Array.getElem?_eq_getElem hm'] at h5
               simp [Array.getElem_setIfInBounds,h5,Ne.symm e]
             rw [this]; decide
         omega
       subst hn0
       exact hend listed a hI hl
     . obtain ⟨a',hI',hk⟩:=hstep listed a i hI hs hiN e hr
       refine hk _ (ih _ _ _ (hc.set hr) ?_ (by simp [hs]) ?_ hI')
       . have:=unl_set (by omega) h1
         omega
       . rw [getD_set_ne true e]; exact hj
theorem order3_go {j N : Nat} {id : Nat} {a : Act} (hD : MuD P (K (Array.replicate N false))) (hN : ops.size = N) (hback : ((List.range N).all fun i=>(ops[i]?).any fun o=>o.after.all fun e=>decide (e.on < i)) = true)
   (hlast : ((List.range N).all fun i=>i == j || reach .any ops i N j) = true) (hj0 : j < N) (Inv : Array Bool -> Act -> Prop) (h0 : Inv (Array.replicate N false) a)
   (hstep : ∀ listed a i,Inv listed a -> listed.size = N -> i < N -> i ≠ j -> i ∈ Region.ready .any ops listed -> ∃ a',Inv (listed.setIfInBounds i true) a' /\ ∀ rest,K (listed.setIfInBounds i true) (G (b.at a' (.inRegion ops rest :: k)) cs) -> K listed (G (b.at a (.inRegion ops (i :: rest) :: k)) cs))
   (hend : ∀ listed a,Inv listed a -> (∀ i,i < N -> i ≠ j -> listed.getD i false = true) -> K listed (G (b.at a (.inRegion ops [j] :: k)) cs)) (hd : Region.departs ops = false:=by kernel_rfl) (hcl : clB .any ops (Array.replicate N false) = true:=by kernel_rfl) :
   K (Array.replicate N false) (G (b.at a (.code (.region id ops true) :: k)) cs):=by
 refine hD b a k cs id ops fun t=>?_
 unfold Region.schedule Region.linearise
 rw [hd]
 simp only [Bool.not_false,Bool.or_true,if_true]
 rw [hN]
 refine order3_K hN hback hlast hj0 Inv hstep hend N t _ a (cl_of hcl) ?_ (by simp) ?_ h0
 . unfold unl
   rw [Array.toList_replicate,List.countP_replicate]
   simp
 . simp [Array.getD_eq_getD_getElem?,hj0]
end
noncomputable def r106o : Array Oper:=ropsO (nvb (nvb (Try.f106.body.getD .skip)) |> nva)
section
variable {main : Bool} {Z : Cuts} {KK : Nat -> Goroutine -> World -> Prop} {d : Nat} {V : World} {bQ fr : Frame} {aQ : Act} {opsQ : Array Oper} {iQ : Nat} {restQ : List Nat} {kQ kt : List Item} {cs0 cs : List Frame} {gb rb clk : Nat} {es : Array MapEntry} {m : List ((Int × Int) × Nat)} {k : Int × Int}
def r106deps : Nat -> List Nat:=fun i=>match i with | 1=>[0] | 2=>[1] | 3=>[2] | 5=>[3,4] | _=>[]
def r106val (gb rb kb : Nat) (k : Int × Int) (r : Value) : Nat -> Value:=fun i=>match i with | 0=>.pointer (some ⟨gb,0,none⟩) | 1=>.pointer (some ⟨gb,0,none⟩) | 2=>.pointer (some ⟨gb,0,none⟩) | 3=>.map (some rb) | 4=>kv k | 5=>r | _=>undef
def r106T (gb rb kb : Nat) (k : Int × Int) (r : Value) (T : Array Value) : Prop:=T.size = 13 /\ T[0]? = some (.pointer (some ⟨gb,0,none⟩)) /\ T[3]? = some (.pointer (some ⟨kb,0,none⟩))
theorem r106T.put {gb rb kb : Nat} {k : Int × Int} {r : Value} {T : Array Value} {d : Nat} {v : Value} (h : r106T gb rb kb k r T) (hd : 7 <= d) : r106T gb rb kb k r (T.setIfInBounds d v):=by
 obtain ⟨h0,h1,h2⟩:=h
 exact ⟨by rw [Array.size_setIfInBounds]; exact h0,by rw [Array.getElem?_setIfInBounds_ne (by omega)]; exact h1,by rw [Array.getElem?_setIfInBounds_ne (by omega)]; exact h2⟩
def r106I (gb rb kb : Nat) (k : Int × Int) (r : Value) (listed : Array Bool) (a : Act) : Prop:=a.defers = [] /\ r106T gb rb kb k r a.tmps /\ ∀ i,i < 6 -> listed.getD i false = true -> a.tmps[7 + i]? = some (r106val gb rb kb k r i)
theorem r106_deps : ∀ i,i < 6 -> ∃ p,r106o[i]? = some p /\ p.dst = some (7 + i) /\ ∀ d ∈ r106deps i,d < i /\ ∃ e ∈ p.after,e.on = d /\ Region.binds .any e = true:=by
 have key : ((List.range 6).all fun i=>(r106o[i]?).any fun o=>o.dst == some (7 + i) && (r106deps i).all fun d=>d < i && o.after.any fun e=>e.on == d && Region.binds .any e) = true:=by kernel_rfl
 intro i hi
 have h:=List.all_eq_true.1 key i (List.mem_range.2 hi)
 rcases ho : r106o[i]? with _ | o
 . rw [ho] at h; cases h
 . rw [ho] at h
   simp only [Option.any_some,Bool.and_eq_true,beq_iff_eq,List.all_eq_true,decide_eq_true_eq,Array.any_eq_true'] at h
   refine ⟨o,rfl,h.1,fun d hd=>⟨(h.2 d hd).1,?_⟩⟩
   obtain ⟨e,he,h1,h2⟩:=(h.2 d hd).2
   exact ⟨e,he,h1,h2⟩
theorem r106_step {gb rb kb : Nat} {k : Int × Int} {r : Value} {W : World} (hM : MarkK Try.prog main Z KK) (hn : norm W = W) (hg : ∀ τ,(re W τ 0).cell? ⟨gb,0,none⟩ = some (.map (some rb))) (hk1 : ∀ τ,(re W τ 0).cell? ⟨kb,0,none⟩ = some (.int .i64 k.1)) (hk2 : ∀ τ,(re W τ 0).cell? ⟨kb,1,none⟩ = some (.int .i64 k.2)) (hlk : ∀ τ,(Instr.lookup 188 (.map (some rb)) (kv k) false).run Try.prog (re W τ 0) = .ok r (re W τ 0)) {b : Frame} (hb : b.kind = .normal ∨ b.kind = .deferred) {T : Array Value} (hT : r106T gb rb kb k r T) (j : Nat) (hj : j < 6) (hd : ∀ d ∈ r106deps j,T[7 + d]? = some (r106val gb rb kb k r d)) {rest : List Nat}
   (h : KK d (G (b.at (Act.put ⟨T,[]⟩ (some (7 + j)) (r106val gb rb kb k r j)) (.inRegion r106o rest :: kt)) cs) W) : KK d (G (b.at ⟨T,[]⟩ (.inRegion r106o (j :: rest) :: kt)) cs) W:=by
 obtain ⟨hs,t0,t3⟩:=hT
 rcases (show j = 0 ∨ j = 1 ∨ j = 2 ∨ j = 3 ∨ j = 4 ∨ j = 5 by omega) with rfl | rfl | rfl | rfl | rfl | rfl
 . refine opv (K:=fun g=>KK d g W) (L:=Lone) (hM.muv hn) hb (i:=0) (d:=7) (op:=.move (.tmp 0)) (by kernel_rfl) (by kernel_rfl) (fun o ho τ=>?_) h
   simp only [execOp,ho,r106val]
   clear hs hd h
   go_simp
   try rfl
 . have t7:=hd 0 (by decide)
   simp only [r106val,Nat.reduceAdd,Nat.add_zero] at t7
   refine opv (K:=fun g=>KK d g W) (L:=Lone) (hM.muv hn) hb (i:=1) (d:=8) (op:=.nilCheck (.tmp 7)) (by kernel_rfl) (by kernel_rfl) (fun o ho τ=>?_) h
   simp only [execOp,ho,r106val]
   clear hs hd h
   go_simp
   try rfl
 . have t8:=hd 1 (by decide)
   simp only [r106val,Nat.reduceAdd,Nat.add_zero] at t8
   refine opv (K:=fun g=>KK d g W) (L:=Lone) (hM.muv hn) hb (i:=2) (d:=9) (op:=.fieldAddr 190 (.tmp 8) 0) (by kernel_rfl) (by kernel_rfl) (fun o ho τ=>?_) h
   simp only [execOp,ho,r106val]
   clear hs hd h
   go_simp
   try rfl
 . have t9:=hd 2 (by decide)
   simp only [r106val,Nat.reduceAdd,Nat.add_zero] at t9
   refine opv (K:=fun g=>KK d g W) (L:=Lone) (hM.muv hn) hb (i:=3) (d:=10) (op:=.load 188 (.tmp 9)) (by kernel_rfl) (by kernel_rfl) (fun o ho τ=>?_) h
   simp only [execOp,ho,r106val]
   clear hs hd h
   go_simp
   try rfl
 . refine opv (K:=fun g=>KK d g W) (L:=Lone) (hM.muv hn) hb (i:=4) (d:=11) (op:=.load 139 (.tmp 3)) (by kernel_rfl) (by kernel_rfl) (fun o ho τ=>?_) h
   simp only [execOp,ho,r106val]
   clear hs hd h
   go_simp
   try rfl
 . have t10:=hd 3 (by decide)
   simp only [r106val,Nat.reduceAdd,Nat.add_zero] at t10
   have t11:=hd 4 (by decide)
   simp only [r106val,Nat.reduceAdd,Nat.add_zero] at t11
   refine opv (K:=fun g=>KK d g W) (L:=Lone) (hM.muv hn) hb (i:=5) (d:=12) (op:=.lookup 188 (.tmp 10) (.tmp 11) false) (by kernel_rfl) (by kernel_rfl) (fun o ho τ=>?_) h
   simp only [execOp,ho,r106val]
   clear hs hd h
   go_simp
   try rfl
theorem r106_go {kb : Nat} {r : Value} (hM : MarkK Try.prog main Z KK) (hn : norm V = V) (hg : ∀ τ,(re V τ 0).cell? ⟨gb,0,none⟩ = some (.map (some rb))) (hk1 : ∀ τ,(re V τ 0).cell? ⟨kb,0,none⟩ = some (.int .i64 k.1)) (hk2 : ∀ τ,(re V τ 0).cell? ⟨kb,1,none⟩ = some (.int .i64 k.2)) (hlk : ∀ τ,(Instr.lookup 188 (.map (some rb)) (kv k) false).run Try.prog (re V τ 0) = .ok r (re V τ 0)) {b : Frame} (hb : b.kind = .normal ∨ b.kind = .deferred) {T : Array Value} (hT : r106T gb rb kb k r T)
   (h : ∀ T',T'.size = 13 -> T'[4]? = some r -> KK d (G (b.at ⟨T',[]⟩ kt) cs) V) : KK d (G (b.at ⟨T,[]⟩ (.code (.region 3 r106o true) :: kt)) cs) V:=by
 have hne : b.kind ≠ .early:=by rcases hb with h | h <;> rw [h] <;> decide
 refine order3_go (P:=Try.prog) (K:=fun _ g=>KK d g V) (j:=6) (N:=7) (hM.mud (V:=V)) (by kernel_rfl) (by kernel_rfl) (by kernel_rfl) (by decide) (r106I gb rb kb k r) ⟨rfl,hT,fun j hj h=>by
   rw [show (Array.replicate 7 false).getD j false = false by rw [Array.getD_eq_getD_getElem?,Array.getElem?_replicate]; split <;> rfl] at h
   cases h⟩ (fun listed a j hI hl hj hne' hr=>?_) fun listed a hI hall=>?_
 . obtain ⟨T,df⟩:=a
   obtain ⟨hdf,hN,hv⟩:=hI
   obtain rfl : df = []:=hdf
   have hj2 : j < 6:=by omega
   obtain ⟨o',ho,hdst,hdp⟩:=r106_deps j hj2
   have hdep : ∀ dd ∈ r106deps j,T[7 + dd]? = some (r106val gb rb kb k r dd):=fun dd hdd=>by
     obtain ⟨h1,e,he,h2,h3⟩:=hdp dd hdd
     obtain ⟨_,o'',ho',hall⟩:=mem_ready.1 hr
     rw [ho] at ho'
     obtain rfl:=Option.some.inj ho'
     have:=hall e he h3
     rw [h2] at this
     exact hv dd (by omega) this
   refine ⟨Act.put ⟨T,[]⟩ (some (7 + j)) (r106val gb rb kb k r j),⟨rfl,hN.put (d:=7 + j) (v:=r106val gb rb kb k r j) (by omega),fun i' hi' hl'=>?_⟩,fun rest hk=>?_⟩
   . show (T.setIfInBounds (7 + j) (r106val gb rb kb k r j))[7 + i']? = _
     by_cases e : i' = j
     . subst e
       rw [Array.getElem?_setIfInBounds_self_of_lt (by rw [hN.1]; omega)]
     . rw [Array.getElem?_setIfInBounds_ne (by omega)]
       refine hv i' hi' ?_
       rw [getD_set_ne false (Ne.symm e)] at hl'
       exact hl'
   . exact r106_step hM hn hg hk1 hk2 hlk hb hN j hj2 hdep hk
 . obtain ⟨T,df⟩:=a
   obtain ⟨hdf,hN,hv⟩:=hI
   obtain rfl : df = []:=hdf
   have hall2 : ∀ i,i < 6 -> T[7 + i]? = some (r106val gb rb kb k r i):=fun i hi=>hv i hi (hall i (by omega) (by omega))
   have t12:=hall2 5 (by omega)
   simp only [r106val,Nat.reduceAdd] at t12
   refine opv (K:=fun g=>KK d g V) (L:=Lone) (hM.muv hn) hb (i:=6) (d:=4) (op:=.assign (.tmp 12)) (v:=r) (by kernel_rfl) (by kernel_rfl) (fun o ho τ=>?_) ?_
   . simp only [execOp,ho]
     go_simp
   . refine mu_region_end (K:=fun g=>KK d g V) hM.mu ?_
     refine h _ (by simp [Act.put,hN.1]) ?_
     show (T.setIfInBounds 4 r)[4]? = _
     rw [Array.getElem?_setIfInBounds_self_of_lt (by rw [hN.1]; omega)]
theorem b106_eq : Try.f106.body = some (.seq (nva (Try.f106.body.getD .skip)) (.seq (nva (nvb (Try.f106.body.getD .skip))) (.seq (.region 3 r106o true) .ret))):=by kernel_rfl
theorem find_go (hM : MarkK Try.prog main Z KK) (hn : norm V = V) (e_g : V.heap[gb]? = some (.cells #[.map (some rb)] 190 (0,0))) (e_m : V.heap[rb]? = some (.map es clk)) (hm : Mp es m)
   (h : ∀ V2,norm V2 = V2 -> Kp V V2 -> KK d (G (bQ.at (aQ.put ((opsQ[iQ]?).bind (·.dst)) (kptr m k)) (.inRegion opsQ restQ :: kQ)) cs0) V2) : KK d (G (Frame.enter Try.prog 106 #[.pointer (some ⟨gb,0,none⟩),kv k] .normal) (bQ.at aQ (.inRegion opsQ (iQ :: restQ) :: kQ) :: cs0)) V:=by
 have l_g:=(glt e_g)
 have l_m:=(glt e_m)
 rw [enter_at (P:=Try.prog) _ Try.func106 b106_eq]
 refine (fun (hh : ∀ X Y R,X = nva (Try.f106.body.getD .skip) -> Y = nva (nvb (Try.f106.body.getD .skip)) -> R = Code.region 3 r106o true -> KK d (G ((base 106).at _ [.code (.seq X (.seq Y (.seq R .ret)))]) (bQ.at aQ (.inRegion opsQ (iQ :: restQ) :: kQ) :: cs0)) V)=>hh _ _ _ rfl rfl rfl) ?_
 intro X Y R hX hY hR
 simp only [Try.f106,Option.getD_some,nva,nvb] at hX hY
 subst hX hY
 have hnt : Try.f106.ntmps = 13:=rfl
 rw [hnt]
 clear hnt
 simp only [kv]
 walk_nrm
 have kp : Kp V V:=⟨Nat.le_refl _,fun _ _=>rfl⟩
 refine wM hM hn fun kk hkk=>?_
 refine hM.al hn #[.int .i64 k.1,.int .i64 k.2] 139 (.pointer (some ⟨V.heap.size,0,none⟩)) rfl rfl fun W1 hnW1 kW1 l0 Bk=>?_
 have lW1 : V.heap.size < W1.heap.size:=by omega
 clear l0
 have tW1 : V.heap.size < W1.heap.size /\ V.heap.size <= V.heap.size:=⟨lW1,Nat.le_refl _⟩
 generalize hbW1 : V.heap.size = b_Bk at Bk ⊢
 have l_b_Bk : V.heap.size <= b_Bk /\ b_Bk < W1.heap.size:=by omega
 clear hbW1 tW1
 replace kp:=kp.upA (Nat.le_of_lt lW1) kW1
 clear kW1
 walk_nrm
 have r_Bk_0:=qc 0 Bk rfl
 have r_Bk_1:=qc 1 Bk rfl
 refine wM hM hnW1 fun kk hkk=>?_
 subst hR
 have e_g2:=(kp.keep _ l_g).trans e_g
 have e_m2:=(kp.keep _ l_m).trans e_m
 refine r106_go (gb:=gb) (rb:=rb) (k:=k) (kb:=b_Bk) (r:=kptr m k) hM hnW1 (fun τ=>cell_of e_g2 (by simp)) r_Bk_0 r_Bk_1 (fun τ=>run_lookup (w:=re W1 τ 0) e_m2 hm k) (.inl rfl) ⟨rfl,rfl,rfl⟩ fun T' hs h4=>?_
 refine mu_ret (K:=fun g=>KK d g W1) hM.mu ?_
 refine mu_leave1 (K:=fun g=>KK d g W1) hM.mu rfl rfl Try.func106 rfl ?_
 rw [show T'.getD 4 undef = kptr m k by simp [Array.getD_eq_getD_getElem?,h4]]
 exact h W1 hnW1 kp
theorem new_go (hM : MarkK Try.prog main Z KK) (hn : norm V = V) (h : ∀ V2,norm V2 = V2 -> Kp V V2 -> V2.heap.size = V.heap.size + 2 -> V2.heap[V.heap.size]? = some (.map #[] 0) -> V2.heap[V.heap.size + 1]? = some (.cells #[.map (some V.heap.size)] 190 (0,0)) -> KK d (G (bQ.at (aQ.put ((opsQ[iQ]?).bind (·.dst)) (.pointer (some ⟨(V.heap.size + 1),0,none⟩))) (.inRegion opsQ restQ :: kQ)) cs0) V2) : KK d (G (Frame.enter Try.prog 60 #[] .normal) (bQ.at aQ (.inRegion opsQ (iQ :: restQ) :: kQ) :: cs0)) V:=by
 rw [enter_at (P:=Try.prog) _ Try.func60 rfl]
 simp only [Try.f60]
 walk_nrm
 refine wM hM hn fun kk hkk=>?_
 have hn1 : norm (V.alloc (.map #[] 0)) = V.alloc (.map #[] 0):=norm_al hn _
 refine mua_put (L:=Lone) (v:=.map (some V.heap.size)) (hM.mua hn1) (K:=fun g=>KK d g V) (K':=fun g=>KK d g (V.alloc (.map #[] 0))) rfl (.inl rfl) rfl (by kernel_rfl) (fun τ=>?_) ?_
 . go_simp
   try rfl
 have s1 : (V.alloc (.map #[] 0)).heap.size = V.heap.size + 1:=by rw [al_size]
 have e1:=al_at V (.map #[] 0)
 have k1 : Kp V (V.alloc (.map #[] 0)):=⟨by rw [s1]; omega,fun b hb=>by rw [al_get,if_neg (by omega)]⟩
 generalize V.alloc (.map #[] 0) = V1 at *
 walk_nrm
 refine wM hM hn1 fun kk hkk=>?_
 have hn2 : norm (V1.alloc (.cells #[.map (some V.heap.size)] 190)) = V1.alloc (.cells #[.map (some V.heap.size)] 190):=norm_al hn1 _
 refine mua_put (L:=Lone) (v:=.pointer (some ⟨V1.heap.size,0,none⟩)) (hM.mua hn2) (K:=fun g=>KK d g V1) (K':=fun g=>KK d g (V1.alloc (.cells #[.map (some V.heap.size)] 190))) rfl (.inl rfl) rfl (by kernel_rfl) (fun τ=>?_) ?_
 . go_simp
   first | exact ⟨by first | rfl | assumption | (simp only [re]; omega),rfl⟩ | rfl | (simp; done)
 have s2 : (V1.alloc (.cells #[.map (some V.heap.size)] 190)).heap.size = V1.heap.size + 1:=by rw [al_size]
 have e2:=al_at V1 (.cells #[.map (some V.heap.size)] 190)
 have k2 : Kp V1 (V1.alloc (.cells #[.map (some V.heap.size)] 190)):=⟨by rw [s2]; omega,fun b hb=>by rw [al_get,if_neg (by omega)]⟩
 generalize V1.alloc (.cells #[.map (some V.heap.size)] 190) = V2 at *
 walk_nrm
 refine wM hM hn2 fun kk hkk=>?_
 refine mu_leave1 (K:=fun g=>KK d g V2) hM.mu rfl rfl Try.func60 rfl ?_
 rw [s1] at e2 ⊢
 exact h V2 hn2 (k1.trans k2) (by omega) ((k2.keep _ (by omega)).trans e1) e2
end
noncomputable def r67o : Array Oper:=ropsO (nvb (nvb (Try.f67.body.getD .skip)) |> nva)
section
variable {main : Bool} {Z : Cuts} {KK : Nat -> Goroutine -> World -> Prop} {d : Nat} {V : World} {bQ fr : Frame} {aQ : Act} {opsQ : Array Oper} {iQ : Nat} {restQ : List Nat} {kQ kt : List Item} {cs0 cs : List Frame} {gb rb clk : Nat} {es : Array MapEntry} {m : List ((Int × Int) × Nat)} {k : Int × Int}
def r67deps : Nat -> List Nat:=fun i=>match i with | 1=>[0] | 2=>[1] | 3=>[2] | 6=>[5] | _=>[]
def r67val (gb rb kb nb : Nat) (k : Int × Int) : Nat -> Value:=fun i=>match i with | 0=>.pointer (some ⟨gb,0,none⟩) | 1=>.pointer (some ⟨gb,0,none⟩) | 2=>.pointer (some ⟨gb,0,none⟩) | 3=>.map (some rb) | 4=>kv k | 5=>.agg #[.slice none 0 0,.bool false,.int .i64 0,.int .i64 0] | 6=>.pointer (some ⟨nb,0,none⟩) | _=>undef
def r67T (gb rb kb nb : Nat) (k : Int × Int) (T : Array Value) : Prop:=T.size = 20 /\ T[0]? = some (.pointer (some ⟨gb,0,none⟩)) /\ T[3]? = some (.pointer (some ⟨kb,0,none⟩))
theorem r67T.put {gb rb kb nb : Nat} {k : Int × Int} {T : Array Value} {d : Nat} {v : Value} (h : r67T gb rb kb nb k T) (hd : 13 <= d) : r67T gb rb kb nb k (T.setIfInBounds d v):=by
 obtain ⟨h0,h1,h2⟩:=h
 exact ⟨by rw [Array.size_setIfInBounds]; exact h0,by rw [Array.getElem?_setIfInBounds_ne (by omega)]; exact h1,by rw [Array.getElem?_setIfInBounds_ne (by omega)]; exact h2⟩
def r67I (gb rb kb nb : Nat) (k : Int × Int) (listed : Array Bool) (a : Act) : Prop:=a.defers = [] /\ r67T gb rb kb nb k a.tmps /\ ∀ i,i < 7 -> listed.getD i false = true -> a.tmps[13 + i]? = some (r67val gb rb kb nb k i)
theorem r67_deps : ∀ i,i < 7 -> ∃ p,r67o[i]? = some p /\ p.dst = some (13 + i) /\ ∀ d ∈ r67deps i,d < i /\ ∃ e ∈ p.after,e.on = d /\ Region.binds .any e = true:=by
 have key : ((List.range 7).all fun i=>(r67o[i]?).any fun o=>o.dst == some (13 + i) && (r67deps i).all fun d=>d < i && o.after.any fun e=>e.on == d && Region.binds .any e) = true:=by kernel_rfl
 intro i hi
 have h:=List.all_eq_true.1 key i (List.mem_range.2 hi)
 rcases ho : r67o[i]? with _ | o
 . rw [ho] at h; cases h
 . rw [ho] at h
   simp only [Option.any_some,Bool.and_eq_true,beq_iff_eq,List.all_eq_true,decide_eq_true_eq,Array.any_eq_true'] at h
   refine ⟨o,rfl,h.1,fun d hd=>⟨(h.2 d hd).1,?_⟩⟩
   obtain ⟨e,he,h1,h2⟩:=(h.2 d hd).2
   exact ⟨e,he,h1,h2⟩
theorem r67_step {gb rb kb nb : Nat} {k : Int × Int} {W : World} (hM : MarkK Try.prog main Z KK) (hn : norm W = W) (hg : ∀ τ,(re W τ 0).cell? ⟨gb,0,none⟩ = some (.map (some rb))) (hk1 : ∀ τ,(re W τ 0).cell? ⟨kb,0,none⟩ = some (.int .i64 k.1)) (hk2 : ∀ τ,(re W τ 0).cell? ⟨kb,1,none⟩ = some (.int .i64 k.2)) {b : Frame} (hb : b.kind = .normal ∨ b.kind = .deferred) {T : Array Value} (hT : r67T gb rb kb nb k T) (j : Nat) (hj : j < 7) (hci : j ≠ 6) (hd : ∀ d ∈ r67deps j,T[13 + d]? = some (r67val gb rb kb nb k d)) {rest : List Nat}
   (h : KK d (G (b.at (Act.put ⟨T,[]⟩ (some (13 + j)) (r67val gb rb kb nb k j)) (.inRegion r67o rest :: kt)) cs) W) : KK d (G (b.at ⟨T,[]⟩ (.inRegion r67o (j :: rest) :: kt)) cs) W:=by
 obtain ⟨hs,t0,t3⟩:=hT
 rcases (show j = 0 ∨ j = 1 ∨ j = 2 ∨ j = 3 ∨ j = 4 ∨ j = 5 by omega) with rfl | rfl | rfl | rfl | rfl | rfl
 . refine opv (K:=fun g=>KK d g W) (L:=Lone) (hM.muv hn) hb (i:=0) (d:=13) (op:=.move (.tmp 0)) (by kernel_rfl) (by kernel_rfl) (fun o ho τ=>?_) h
   simp only [execOp,ho,r67val]
   clear hs hd h
   go_simp
   try rfl
 . have t13:=hd 0 (by decide)
   simp only [r67val,Nat.reduceAdd,Nat.add_zero] at t13
   refine opv (K:=fun g=>KK d g W) (L:=Lone) (hM.muv hn) hb (i:=1) (d:=14) (op:=.nilCheck (.tmp 13)) (by kernel_rfl) (by kernel_rfl) (fun o ho τ=>?_) h
   simp only [execOp,ho,r67val]
   clear hs hd h
   go_simp
   try rfl
 . have t14:=hd 1 (by decide)
   simp only [r67val,Nat.reduceAdd,Nat.add_zero] at t14
   refine opv (K:=fun g=>KK d g W) (L:=Lone) (hM.muv hn) hb (i:=2) (d:=15) (op:=.fieldAddr 190 (.tmp 14) 0) (by kernel_rfl) (by kernel_rfl) (fun o ho τ=>?_) h
   simp only [execOp,ho,r67val]
   clear hs hd h
   go_simp
   try rfl
 . have t15:=hd 2 (by decide)
   simp only [r67val,Nat.reduceAdd,Nat.add_zero] at t15
   refine opv (K:=fun g=>KK d g W) (L:=Lone) (hM.muv hn) hb (i:=3) (d:=16) (op:=.load 188 (.tmp 15)) (by kernel_rfl) (by kernel_rfl) (fun o ho τ=>?_) h
   simp only [execOp,ho,r67val]
   clear hs hd h
   go_simp
   try rfl
 . refine opv (K:=fun g=>KK d g W) (L:=Lone) (hM.muv hn) hb (i:=4) (d:=17) (op:=.load 139 (.tmp 3)) (by kernel_rfl) (by kernel_rfl) (fun o ho τ=>?_) h
   simp only [execOp,ho,r67val]
   clear hs hd h
   go_simp
   try rfl
 . refine opv (K:=fun g=>KK d g W) (L:=Lone) (hM.muv hn) hb (i:=5) (d:=18) (op:=.build 201 #[]) (by kernel_rfl) (by kernel_rfl) (fun o ho τ=>?_) h
   simp only [execOp,ho,r67val]
   clear hs hd h
   go_simp
   try rfl
theorem r67_chg {kb : Nat} (hM : MarkK Try.prog main Z KK) (hn : norm V = V) {b : Frame} (hb : b.kind = .normal ∨ b.kind = .deferred) {T : Array Value} (hT : r67T gb rb kb V.heap.size k T) (hd : ∀ d ∈ r67deps 6,T[13 + d]? = some (r67val gb rb kb V.heap.size k d)) {rest : List Nat}
   (h : KK d (G (b.at (Act.put ⟨T,[]⟩ (some (13 + 6)) (r67val gb rb kb V.heap.size k 6)) (.inRegion r67o rest :: kt)) cs) (V.alloc (.cells #[.slice none 0 0,.bool false,.int .i64 0,.int .i64 0] 201))) : KK d (G (b.at ⟨T,[]⟩ (.inRegion r67o (6 :: rest) :: kt)) cs) V:=by
 have t18:=hd 5 (by decide)
 simp only [r67val,Nat.reduceAdd] at t18 h
 obtain ⟨p,hp,hd,hop,hg⟩:=opat (ops:=r67o) (i:=6) (d:=some 19) (op:=.box 201 (.tmp 18)) (by kernel_rfl)
 rw [← hd] at h
 refine mua_put (L:=Lone) (v:=.pointer (some ⟨V.heap.size,0,none⟩)) (hM.mua (norm_al hn _)) (K:=fun g=>KK d g V) (K':=fun g=>KK d g (V.alloc (.cells #[.slice none 0 0,.bool false,.int .i64 0,.int .i64 0] 201))) hp hb (wanted_none hg) (by rw [hop]; kernel_rfl) (fun τ=>?_) h
 clear h hT
 simp only [execOp,hop]
 go_simp
 first | exact ⟨by first | rfl | assumption | (simp only [re]; omega),rfl⟩ | rfl | (simp; done)
theorem r67_go {kb : Nat} (hM : MarkK Try.prog main Z KK) (hn : norm V = V) (e_g : V.heap[gb]? = some (.cells #[.map (some rb)] 190 (0,0))) (e_m : V.heap[rb]? = some (.map es clk)) (hm : Mp es m) (e_k : V.heap[kb]? = some (.cells #[.int .i64 k.1,.int .i64 k.2] 139 (0,0))) (habs : kpos k m 0 = none) {b : Frame} (hb : b.kind = .normal ∨ b.kind = .deferred) {T : Array Value} (hT : r67T gb rb kb V.heap.size k T)
   (h : ∀ T',T'.size = 20 -> KK d (G (b.at ⟨T',[]⟩ kt) cs) (setM (V.alloc (.cells #[.slice none 0 0,.bool false,.int .i64 0,.int .i64 0] 201)) rb (.map (es.push { key:=kv k,val:=.pointer (some ⟨V.heap.size,0,none⟩),born:=clk }) (clk + 1)))) : KK d (G (b.at ⟨T,[]⟩ (.code (.region 3 r67o true) :: kt)) cs) V:=by
 have hg:=fun τ=>cell_of (w:=re V τ 0) (k:=0) (v:=.map (some rb)) e_g (by simp)
 have hk1:=fun τ=>cell_of (w:=re V τ 0) (k:=0) (v:=.int .i64 k.1) e_k (by simp)
 have hk2:=fun τ=>cell_of (w:=re V τ 0) (k:=1) (v:=.int .i64 k.2) e_k (by simp)
 have hnA:=norm_al hn (.cells #[.slice none 0 0,.bool false,.int .i64 0,.int .i64 0] 201)
 have kA : ∀ b,b < V.heap.size -> (V.alloc (.cells #[.slice none 0 0,.bool false,.int .i64 0,.int .i64 0] 201)).heap[b]? = V.heap[b]?:=fun b hb=>by rw [al_get,if_neg (by omega)]
 have aG:=(kA _ (glt e_g)).trans e_g
 have aK:=(kA _ (glt e_k)).trans e_k
 have aM:=(kA _ (glt e_m)).trans e_m
 have hgA:=fun τ=>cell_of (w:=re (V.alloc (.cells #[.slice none 0 0,.bool false,.int .i64 0,.int .i64 0] 201)) τ 0) (k:=0) (v:=.map (some rb)) aG (by simp)
 have hkA1:=fun τ=>cell_of (w:=re (V.alloc (.cells #[.slice none 0 0,.bool false,.int .i64 0,.int .i64 0] 201)) τ 0) (k:=0) (v:=.int .i64 k.1) aK (by simp)
 have hkA2:=fun τ=>cell_of (w:=re (V.alloc (.cells #[.slice none 0 0,.bool false,.int .i64 0,.int .i64 0] 201)) τ 0) (k:=1) (v:=.int .i64 k.2) aK (by simp)
 have hne : b.kind ≠ .early:=by rcases hb with h | h <;> rw [h] <;> decide
 refine order3_go (P:=Try.prog) (K:=fun listed g=>if listed.getD 6 false = true then KK d g (V.alloc (.cells #[.slice none 0 0,.bool false,.int .i64 0,.int .i64 0] 201)) else KK d g V) (j:=7) (N:=8) (hM.mud (V:=V)) (by kernel_rfl) (by kernel_rfl) (by kernel_rfl) (by decide) (r67I gb rb kb V.heap.size k) ⟨rfl,hT,fun j hj h=>by
   rw [show (Array.replicate 8 false).getD j false = false by rw [Array.getD_eq_getD_getElem?,Array.getElem?_replicate]; split <;> rfl] at h
   cases h⟩ (fun listed a j hI hl hj hne' hr=>?_) fun listed a hI hall=>?_
 . obtain ⟨T,df⟩:=a
   obtain ⟨hdf,hN,hv⟩:=hI
   obtain rfl : df = []:=hdf
   have hj2 : j < 7:=by omega
   obtain ⟨o',ho,hdst,hdp⟩:=r67_deps j hj2
   have hdep : ∀ dd ∈ r67deps j,T[13 + dd]? = some (r67val gb rb kb V.heap.size k dd):=fun dd hdd=>by
     obtain ⟨h1,e,he,h2,h3⟩:=hdp dd hdd
     obtain ⟨_,o'',ho',hall⟩:=mem_ready.1 hr
     rw [ho] at ho'
     obtain rfl:=Option.some.inj ho'
     have:=hall e he h3
     rw [h2] at this
     exact hv dd (by omega) this
   refine ⟨Act.put ⟨T,[]⟩ (some (13 + j)) (r67val gb rb kb V.heap.size k j),⟨rfl,hN.put (d:=13 + j) (v:=r67val gb rb kb V.heap.size k j) (by omega),fun i' hi' hl'=>?_⟩,fun rest hk=>?_⟩
   . show (T.setIfInBounds (13 + j) (r67val gb rb kb V.heap.size k j))[13 + i']? = _
     by_cases e : i' = j
     . subst e
       rw [Array.getElem?_setIfInBounds_self_of_lt (by rw [hN.1]; omega)]
     . rw [Array.getElem?_setIfInBounds_ne (by omega)]
       refine hv i' hi' ?_
       rw [getD_set_ne false (Ne.symm e)] at hl'
       exact hl'
   . by_cases hci : j = 6
     . subst hci
       have hl6 : listed.getD 6 false = false:=by
         have:=(mem_ready.1 hr).1
         simp only [Array.getD_eq_getD_getElem?] at this ⊢
         rw [Array.getElem?_eq_getElem (by omega)] at this ⊢
         simpa using this
       have hs6 : (listed.setIfInBounds 6 true).getD 6 false = true:=by
         rw [Array.getD_eq_getD_getElem?,Array.getElem?_setIfInBounds_self_of_lt (by omega)]
         rfl
       simp only [hl6,hs6,Bool.false_eq_true,if_false,if_true] at hk ⊢
       exact r67_chg hM hn hb hN hdep hk
     . rw [getD_set_ne false (fun e=>hci e)] at hk
       by_cases h6 : listed.getD 6 false = true
       . simp only [h6,if_true] at hk ⊢
         exact r67_step hM hnA hgA hkA1 hkA2 hb hN j hj2 hci hdep hk
       . simp only [h6,if_false,Bool.false_eq_true] at hk ⊢
         exact r67_step hM hn hg hk1 hk2 hb hN j hj2 hci hdep hk
 . obtain ⟨T,df⟩:=a
   obtain ⟨hdf,hN,hv⟩:=hI
   obtain rfl : df = []:=hdf
   have hall2 : ∀ i,i < 7 -> T[13 + i]? = some (r67val gb rb kb V.heap.size k i):=fun i hi=>hv i hi (hall i (by omega) (by omega))
   have h6:=hall 6 (by omega) (by omega)
   simp only [h6,if_true]
   have t16:=hall2 3 (by omega)
   have t17:=hall2 4 (by omega)
   have t19:=hall2 6 (by omega)
   simp only [r67val,Nat.reduceAdd] at t16 t17 t19
   obtain ⟨p,hp,hd,hop,hgu⟩:=opat (ops:=r67o) (i:=7) (d:=none) (op:=.mapUpdate 188 (.tmp 16) (.tmp 17) (.tmp 19)) (by kernel_rfl)
   have hmu:=fun τ=>run_mapUpdate (w:=re (V.alloc (.cells #[.slice none 0 0,.bool false,.int .i64 0,.int .i64 0] 201)) τ 0) aM hm habs (.pointer (some ⟨V.heap.size,0,none⟩))
   refine mus_put (L:=Lone) (V':=setM (V.alloc (.cells #[.slice none 0 0,.bool false,.int .i64 0,.int .i64 0] 201)) rb (.map (es.push { key:=kv k,val:=.pointer (some ⟨V.heap.size,0,none⟩),born:=clk }) (clk + 1))) (hM.mus (setM_norm hnA _ _)) (K:=fun g=>KK d g (V.alloc (.cells #[.slice none 0 0,.bool false,.int .i64 0,.int .i64 0] 201))) (K':=fun g=>KK d g (setM (V.alloc (.cells #[.slice none 0 0,.bool false,.int .i64 0,.int .i64 0] 201)) rb (.map (es.push { key:=kv k,val:=.pointer (some ⟨V.heap.size,0,none⟩),born:=clk }) (clk + 1)))) hp hb (wanted_none hgu) (by rw [hop]; kernel_rfl) (fun τ=>?_) ?_
   . have hmu:=hmu τ
     simp only [execOp,hop]
     clear h hall2 hall hv hN
     go_simp
     try rfl
   . rw [hd]
     refine mu_region_end (K:=fun g=>KK d g (setM (V.alloc (.cells #[.slice none 0 0,.bool false,.int .i64 0,.int .i64 0] 201)) rb (.map (es.push { key:=kv k,val:=.pointer (some ⟨V.heap.size,0,none⟩),born:=clk }) (clk + 1)))) hM.mu ?_
     exact h _ hN.1
end
theorem b67_eq : Try.f67.body = some (.seq (nva (Try.f67.body.getD .skip)) (.seq (nva (nvb (Try.f67.body.getD .skip))) (.seq (.region 3 r67o true) (nvb (nvb (nvb (Try.f67.body.getD .skip))))))):=by kernel_rfl
theorem array20f (T : Array Value) (h : T.size = 20) : ∃ f : Nat -> Value,(∀ i v,T[i]? = some v -> f i = v) /\ T = #[f 0,f 1,f 2,f 3,f 4,f 5,f 6,f 7,f 8,f 9,f 10,f 11,f 12,f 13,f 14,f 15,f 16,f 17,f 18,f 19]:=arrg T h
section
variable {main : Bool} {Z : Cuts} {KK : Nat -> Goroutine -> World -> Prop} {d : Nat} {V : World} {bQ fr : Frame} {aQ : Act} {opsQ : Array Oper} {iQ : Nat} {restQ : List Nat} {kQ kt : List Item} {cs0 cs : List Frame} {gb rb clk : Nat} {es : Array MapEntry} {m : List ((Int × Int) × Nat)} {k : Int × Int}
theorem begin_on (hM : MarkK Try.prog main Z KK) (hn : norm V = V) (e_g : V.heap[gb]? = some (.cells #[.map (some rb)] 190 (0,0))) (e_m : V.heap[rb]? = some (.map es clk)) (hm : Mp es m) {x : Nat × Nat} (hk : kpos k m 0 = some x) (hgr : gb ≠ rb)
   (h : ∀ V2,norm V2 = V2 -> Kp V V2 -> KK d (G (bQ.at (aQ.put ((opsQ[iQ]?).bind (·.dst)) (.bool false)) (.inRegion opsQ restQ :: kQ)) cs0) V2) : KK d (G (Frame.enter Try.prog 67 #[.pointer (some ⟨gb,0,none⟩),kv k] .normal) (bQ.at aQ (.inRegion opsQ (iQ :: restQ) :: kQ) :: cs0)) V:=by
 have l_g:=(glt e_g)
 have l_m:=(glt e_m)
 have kp : Kp V V:=⟨Nat.le_refl _,fun _ _=>rfl⟩
 rw [enter_at (P:=Try.prog) _ Try.func67 b67_eq]
 refine (fun (hh : ∀ X Y R W,X = nva (Try.f67.body.getD .skip) -> Y = nva (nvb (Try.f67.body.getD .skip)) -> R = Code.region 3 r67o true -> W = nvb (nvb (nvb (Try.f67.body.getD .skip))) -> KK d (G ((base 67).at _ [.code (.seq X (.seq Y (.seq R W)))]) (bQ.at aQ (.inRegion opsQ (iQ :: restQ) :: kQ) :: cs0)) V)=>hh _ _ _ _ rfl rfl rfl rfl) ?_
 intro X Y R W hX hY hR hW
 simp only [Try.f67,Option.getD_some,nva,nvb] at hX hY hW
 subst hX hY hW
 have hnt : Try.f67.ntmps = 20:=rfl
 rw [hnt]
 clear hnt
 simp only [kv]
 walk_nrm
 refine wM hM hn fun kk hkk=>?_
 refine hM.al hn #[.int .i64 k.1,.int .i64 k.2] 139 (.pointer (some ⟨V.heap.size,0,none⟩)) rfl rfl fun W1 hnW1 kW1 l0 Bk=>?_
 have lW1 : V.heap.size < W1.heap.size:=by omega
 clear l0
 have tW1 : V.heap.size < W1.heap.size /\ V.heap.size <= V.heap.size:=⟨lW1,Nat.le_refl _⟩
 generalize hbW1 : V.heap.size = b_Bk at Bk ⊢
 have l_b_Bk : V.heap.size <= b_Bk /\ b_Bk < W1.heap.size:=by omega
 clear hbW1 tW1
 replace kp:=kp.upA (Nat.le_of_lt lW1) kW1
 clear kW1
 walk_nrm
 have r_Bk_0:=qc 0 Bk rfl
 have r_Bk_1:=qc 1 Bk rfl
 refine wM hM hnW1 fun kk hkk=>?_
 refine hM.cl rfl rfl rfl Try.func106 rfl ?_
 walk_nrm
 have e_g2:=(kp.keep _ l_g).trans e_g
 have e_m2:=(kp.keep _ l_m).trans e_m
 have hkp : kptr m k = .pointer (some ⟨x.2,0,none⟩):=by unfold kptr; rw [hk]
 refine find_go (k:=k) hM hnW1 e_g2 e_m2 hm fun V3 hn3 k3=>?_
 rw [hkp]
 clear hkp
 have kp3:=kp.trans k3
 walk_nrm
 refine wM hM hn3 fun kk hkk=>?_
 refine mu_leave1 (K:=fun g=>KK d g V3) hM.mu rfl rfl Try.func67 rfl ?_
 exact h V3 hn3 kp3
theorem begin_off (hM : MarkK Try.prog main Z KK) (hn : norm V = V) (e_g : V.heap[gb]? = some (.cells #[.map (some rb)] 190 (0,0))) (e_m : V.heap[rb]? = some (.map es clk)) (hm : Mp es m) (hk : kpos k m 0 = none) (hgr : gb ≠ rb)
   (h : ∀ V2,norm V2 = V2 -> V.heap.size <= V2.heap.size -> (∃ ob,V.heap.size <= ob /\ ob < V2.heap.size /\ V2.heap[ob]? = some (.cells #[.slice none 0 0,.bool false,.int .i64 0,.int .i64 0] 201 (0,0)) /\ V2.heap[rb]? = some (.map (es.push { key:=kv k,val:=.pointer (some ⟨ob,0,none⟩),born:=clk }) (clk + 1))) -> (∀ b,b < V.heap.size -> b ≠ rb -> V2.heap[b]? = V.heap[b]?) -> KK d (G (bQ.at (aQ.put ((opsQ[iQ]?).bind (·.dst)) (.bool true)) (.inRegion opsQ restQ :: kQ)) cs0) V2) : KK d (G (Frame.enter Try.prog 67 #[.pointer (some ⟨gb,0,none⟩),kv k] .normal) (bQ.at aQ (.inRegion opsQ (iQ :: restQ) :: kQ) :: cs0)) V:=by
 have l_g:=(glt e_g)
 have l_m:=(glt e_m)
 have kp : Kp V V:=⟨Nat.le_refl _,fun _ _=>rfl⟩
 rw [enter_at (P:=Try.prog) _ Try.func67 b67_eq]
 refine (fun (hh : ∀ X Y R W,X = nva (Try.f67.body.getD .skip) -> Y = nva (nvb (Try.f67.body.getD .skip)) -> R = Code.region 3 r67o true -> W = nvb (nvb (nvb (Try.f67.body.getD .skip))) -> KK d (G ((base 67).at _ [.code (.seq X (.seq Y (.seq R W)))]) (bQ.at aQ (.inRegion opsQ (iQ :: restQ) :: kQ) :: cs0)) V)=>hh _ _ _ _ rfl rfl rfl rfl) ?_
 intro X Y R W hX hY hR hW
 simp only [Try.f67,Option.getD_some,nva,nvb] at hX hY hW
 subst hX hY hW
 have hnt : Try.f67.ntmps = 20:=rfl
 rw [hnt]
 clear hnt
 simp only [kv]
 walk_nrm
 refine wM hM hn fun kk hkk=>?_
 refine hM.al hn #[.int .i64 k.1,.int .i64 k.2] 139 (.pointer (some ⟨V.heap.size,0,none⟩)) rfl rfl fun W1 hnW1 kW1 l0 Bk=>?_
 have lW1 : V.heap.size < W1.heap.size:=by omega
 clear l0
 have tW1 : V.heap.size < W1.heap.size /\ V.heap.size <= V.heap.size:=⟨lW1,Nat.le_refl _⟩
 generalize hbW1 : V.heap.size = b_Bk at Bk ⊢
 have l_b_Bk : V.heap.size <= b_Bk /\ b_Bk < W1.heap.size:=by omega
 clear hbW1 tW1
 replace kp:=kp.upA (Nat.le_of_lt lW1) kW1
 clear kW1
 walk_nrm
 have r_Bk_0:=qc 0 Bk rfl
 have r_Bk_1:=qc 1 Bk rfl
 refine wM hM hnW1 fun kk hkk=>?_
 refine hM.cl rfl rfl rfl Try.func106 rfl ?_
 walk_nrm
 have e_g2:=(kp.keep _ l_g).trans e_g
 have e_m2:=(kp.keep _ l_m).trans e_m
 have hkp : kptr m k = .pointer none:=by unfold kptr; rw [hk]
 refine find_go (k:=k) hM hnW1 e_g2 e_m2 hm fun V3 hn3 k3=>?_
 rw [hkp]
 clear hkp
 have kp3:=kp.trans k3
 walk_nrm
 refine wM hM hn3 fun kk hkk=>?_
 subst hR
 have e_k3:=(k3.keep _ l_b_Bk.2).trans Bk
 have e_g3:=(kp3.keep _ l_g).trans e_g
 have e_m3:=(kp3.keep _ l_m).trans e_m
 refine r67_go (kb:=b_Bk) hM hn3 e_g3 e_m3 hm e_k3 hk (.inl rfl) ⟨rfl,rfl,rfl⟩ fun T' hs=>?_
 have hn5 : norm (setM (V3.alloc (.cells #[.slice none 0 0,.bool false,.int .i64 0,.int .i64 0] 201)) rb (.map (es.push { key:=kv k,val:=.pointer (some ⟨V3.heap.size,0,none⟩),born:=clk }) (clk + 1))) = setM (V3.alloc (.cells #[.slice none 0 0,.bool false,.int .i64 0,.int .i64 0] 201)) rb (.map (es.push { key:=kv k,val:=.pointer (some ⟨V3.heap.size,0,none⟩),born:=clk }) (clk + 1)):=setM_norm (norm_al hn3 _) _ _
 have l3:=kp3.size
 have aM : (V3.alloc (.cells #[.slice none 0 0,.bool false,.int .i64 0,.int .i64 0] 201)).heap[rb]? = some (.map es clk):=by rw [al_get,if_neg (by omega)]; exact e_m3
 have e5:=setM_self (.map (es.push { key:=kv k,val:=.pointer (some ⟨V3.heap.size,0,none⟩),born:=clk }) (clk + 1)) aM
 have o5 : (setM (V3.alloc (.cells #[.slice none 0 0,.bool false,.int .i64 0,.int .i64 0] 201)) rb (.map (es.push { key:=kv k,val:=.pointer (some ⟨V3.heap.size,0,none⟩),born:=clk }) (clk + 1))).heap[V3.heap.size]? = some (.cells #[.slice none 0 0,.bool false,.int .i64 0,.int .i64 0] 201 (0,0)):=by
   rw [setM_get _ _ _ _ (by omega),al_get,if_pos rfl]
 have k5 : ∀ b,b < V.heap.size -> b ≠ rb -> (setM (V3.alloc (.cells #[.slice none 0 0,.bool false,.int .i64 0,.int .i64 0] 201)) rb (.map (es.push { key:=kv k,val:=.pointer (some ⟨V3.heap.size,0,none⟩),born:=clk }) (clk + 1))).heap[b]? = V.heap[b]?:=fun b hb hne=>by
   rw [setM_get _ _ _ _ hne,al_get,if_neg (by omega)]
   exact kp3.keep b hb
 have s5 : (setM (V3.alloc (.cells #[.slice none 0 0,.bool false,.int .i64 0,.int .i64 0] 201)) rb (.map (es.push { key:=kv k,val:=.pointer (some ⟨V3.heap.size,0,none⟩),born:=clk }) (clk + 1))).heap.size = V3.heap.size + 1:=by rw [setM_size,al_size]
 generalize setM (V3.alloc (.cells #[.slice none 0 0,.bool false,.int .i64 0,.int .i64 0] 201)) rb (.map (es.push { key:=kv k,val:=.pointer (some ⟨V3.heap.size,0,none⟩),born:=clk }) (clk + 1)) = V5 at *
 refine (fun (hh : ∀ T : Array Value,T.size = 20 -> KK d (G ((base 67).at ⟨T,[]⟩ _) (bQ.at aQ (.inRegion opsQ (iQ :: restQ) :: kQ) :: cs0)) V5)=>hh T' hs) ?_
 intro T hs
 have hK0:=h
 clear h
 obtain ⟨f,-,hT⟩:=array20f T hs
 subst hT
 clear hs
 refine wM hM hn5 fun kk hkk=>?_
 refine mu_leave1 (K:=fun g=>KK d g V5) hM.mu rfl rfl Try.func67 rfl ?_
 exact hK0 V5 hn5 (by omega) ⟨V3.heap.size,l3,by omega,o5,e5⟩ k5
end
end
end Go.Proofs.Ytibcdikfbhmheaa
