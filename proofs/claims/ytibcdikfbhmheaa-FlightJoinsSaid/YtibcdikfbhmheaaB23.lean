import Derived.Test.YtibcdikfbhmheaaB22
import Derived.Test.YtibcdikfbhmheaaB15
import Derived.Test.YtibcdikfbhmheaaB14
import Derived.Test.YtibcdikfbhmheaaB16
import Derived.Test.YtibcdikfbhmheaaB13
set_option linter.unusedSimpArgs false
set_option linter.unusedVariables false
set_option maxRecDepth 100000
set_option maxHeartbeats 4000000
namespace Go.Proofs.Ytibcdikfbhmheaa
open Go Go.Conc Go.Proofs
open Go.ConcN (sumTo upd sumTo_upd upd_ne upd_same)
def nvc : Code -> Code | .cond _ x _=>x | c=>c
noncomputable def B45 : Code:=Try.f45.body.getD .skip
noncomputable def ops45 : Array Oper:=rops (nva (nvb (nvb B45)))
noncomputable def A45 : Code:=nvb (nvb (nvb B45))
noncomputable def ops45r : Array Oper:=rops (nvc (nvb (nva A45)))
noncomputable def E45 : Code:=nvb A45
noncomputable def B92 : Code:=Try.f92.body.getD .skip
noncomputable def X92 : Code:=nvl (nvk B92)
noncomputable def ops92 : Array Oper:=rops (nvk (nvb X92))
def LkY (mb mo : Nat) (tp : Value) (f : Frame) : Prop:=∃ T,T.size = 26 /\ T[0]? = some (.pointer (some ⟨mb,mo,none⟩)) /\ T[1]? = some tp /\ f = (base 45).at ⟨T,[]⟩ [.inRegion ops45 [1],.code A45]
def LkR (f : Frame) : Prop:=∃ T,T.size = 26 /\ f = (base 45).at ⟨T,[]⟩ [.inRegion ops45r [2],.code E45]
def RsP (mb mo : Nat) (tp : Value) (f : Frame) : Prop:=∃ T,T.size = 10 /\ T[0]? = some (.pointer (some ⟨mb,mo,none⟩)) /\ T[1]? = some tp /\ f = (base 92).at ⟨T,[]⟩ [.inRegion ops92 [1],.inBlock 1,.inLoop X92,.inBlock 0]
theorem array26 (T : Array Value) (h : T.size = 26) : ∃ v0 v1 v2 v3 v4 v5 v6 v7 v8 v9 v10 v11 v12 v13 v14 v15 v16 v17 v18 v19 v20 v21 v22 v23 v24 v25 : Value,T = #[v0,v1,v2,v3,v4,v5,v6,v7,v8,v9,v10,v11,v12,v13,v14,v15,v16,v17,v18,v19,v20,v21,v22,v23,v24,v25]:=by
 obtain ⟨f,_,e⟩:=arrg T h
 exact ⟨_,_,_,_,_,_,_,_,_,_,_,_,_,_,_,_,_,_,_,_,_,_,_,_,_,_,e⟩
theorem array10 (T : Array Value) (h : T.size = 10) : ∃ v0 v1 v2 v3 v4 v5 v6 v7 v8 v9 : Value,T = #[v0,v1,v2,v3,v4,v5,v6,v7,v8,v9]:=by
 obtain ⟨f,_,e⟩:=arrg T h
 exact ⟨_,_,_,_,_,_,_,_,_,_,e⟩
section
variable {C : Cw} {main : Bool} {Z : Cuts} {Stop : Goroutine -> World -> Prop} {V : World} {st : Nat -> Int} {i mb mo : Nat} {c : Frame} {cs : List Frame} {bQ : Frame} {aQ : Act} {opsQ : Array Oper} {iQ : Nat} {restQ : List Nat} {kQ : List Item}
theorem will_has (hn : norm V = V) {ow : Int} (hi : i < C.n) (hn1 : C.n < 1000) (H : CwAt C false st V) (ho : V.cell? ⟨mb,mo + 1,none⟩ = some (.int .i64 ow)) (K : Will Try.prog main Z Stop (G (c.finish (.bool (ow == (i : Int) + 1))) cs) V) : Will Try.prog main Z Stop (G (Frame.enter Try.prog 90 #[.pointer (some ⟨mb,mo,none⟩),C.tp i] .normal) (c :: cs)) V :=
 will_call (R:=fun v V'=>v = .bool (ow == (i : Int) + 1) /\ V' = V) calm (by decide) (fun τ=>(has90 mb mo (C.tb i) i ow (re V τ 0) (by omega) ho (H.t0 hi)).mono fun e w' h=>by
   obtain ⟨rfl,m,rfl⟩:=h
   exact ⟨rfl,hn⟩) fun v V' h=>by
   obtain ⟨rfl,rfl⟩:=h
   exact K
theorem lock_in (hn : norm V = V) {ow : Nat} (hi : i < C.n) (hn1 : C.n < 1000) (H : CwAt C false st V) (ho : V.cell? ⟨mb,mo + 1,none⟩ = some (.int .i64 (ow : Int))) (hne : ow ≠ i + 1)
   (K0 : ∀ f,LkY mb mo (C.tp i) f -> Will Try.prog main Z Stop (G (Frame.enter Try.prog 24 #[C.tp i] .normal) (f :: c :: cs)) V) :
   Will Try.prog main Z Stop (G (Frame.enter Try.prog 45 #[.pointer (some ⟨mb,mo,none⟩),C.tp i] .normal) (c :: cs)) V:=by
 have e1 : ((ow : Int) == (i : Int) + 1) = false:=by simp; omega
 have HAS:=fun (d : Frame) (ds : List Frame)=>will_has (main:=main) (Z:=Z) (Stop:=Stop) (c:=d) (cs:=ds) hn hi hn1 H ho
 rw [e1] at HAS
 simp only [Cw.tp] at HAS K0 ⊢
 clear H ho e1
 rw [enter_at (P:=Try.prog) _ Try.func45 rfl]
 simp only [Try.f45]
 walk_nrm
 obtain ⟨K,hK,hV,key,yek⟩:=kKV (L:=Lone) (J:=fun g=>Will Try.prog main Z Stop g V) mu_will (muv_will hn)
 refine key _ ?_
 refine wA fun kk hkk=>?_
 refine hK.cl rfl rfl rfl Try.func90 rfl ?_
 walk_nrm
 refine yek _ ?_
 clear hK hV key yek K
 refine HAS _ _ ?_
 rw [Frame.finish_at]
 walk_nrm
 obtain ⟨K,hK,hV,key,yek⟩:=kKV (L:=Lone) (J:=fun g=>Will Try.prog main Z Stop g V) mu_will (muv_will hn)
 refine key _ ?_
 refine wA fun kk hkk=>?_
 refine hK.cl rfl rfl rfl Try.func24 rfl ?_
 walk_nrm
 refine yek _ ?_
 clear hK hV key yek K
 try subst hkk
 refine K0 _ ⟨_,?_,?_,?_,by simp only [ops45,A45,B45,nva,nvb,rops,Try.f45,Option.getD_some]; rfl⟩ <;> rfl
theorem will_id (hn : norm V = V) (hi : i < C.n) (H : CwAt C false st V) (K : Will Try.prog main Z Stop (G (c.finish (.int .i64 (i : Int))) cs) V) : Will Try.prog main Z Stop (G (Frame.enter Try.prog 27 #[C.tp i] .normal) (c :: cs)) V :=
 will_call (R:=fun v V'=>v = .int .i64 (i : Int) /\ V' = V) calm (by decide) (fun τ=>(idn27 (C.tb i) i (re V τ 0) (H.t0 hi)).mono fun e w' h=>by
   obtain ⟨rfl,rfl⟩:=h
   exact ⟨rfl,hn⟩) fun v V' h=>by
   obtain ⟨rfl,rfl⟩:=h
   exact K
structure Pu (V : World) (mb mo : Nat) (v : Value) (n : Nat) (q : List Value) (x : Nat) (V' : World) (v' : Value) : Prop where
 nrm : norm V' = V'
 c : V'.cell? ⟨mb,mo,none⟩ = some v'
 qu : Qu V' 3 1 v' (n + 1) (q ++ [.int .i64 (x : Int)])
 sz : V.heap.size <= V'.heap.size
 keep : ∀ b,b < V.heap.size -> b ≠ mb -> v.ownBlock ≠ some b -> V'.heap[b]? = V.heap[b]?
 mb : V'.heap[mb]? = (V.setCell ⟨mb,mo,none⟩ v').heap[mb]?
 own : v'.ownBlock = v.ownBlock ∨ ∃ b,v'.ownBlock = some b /\ V.heap.size <= b
theorem set_at {w : World} {b k : Nat} {u v : Value} (h : w.cell? ⟨b,k,none⟩ = some u) (hz : w.frozen? ⟨b,k,none⟩ = false) : (w.setCell ⟨b,k,none⟩ v).cell? ⟨b,k,none⟩ = some v:=by
 unfold World.cell? at *
 simp only at *
 rw [setCell_heap,if_pos rfl]
 rcases ho : w.heap[b]? with _ | o
 . rw [ho] at h; cases h
 . rw [ho] at h
   cases o with
   | cells c e f =>
     simp only at h
     have:=(Array.getElem?_eq_some_iff.1 h).1
     simp [this]
   | _=>cases h
theorem pu_of {mb mo : Nat} {v v' : Value} {n x : Nat} {q : List Value} {w1 w' : World} {τ : Nat -> Question -> Nat} (hw : w' = w1.setCell ⟨mb,mo,none⟩ v') (hc : V.cell? ⟨mb,mo,none⟩ = some v) (hz : V.frozen? ⟨mb,mo,none⟩ = false) (hmv : v.ownBlock ≠ some mb) (h1 : Qu w1 3 1 v' (n + 1) (q ++ [.int .i64 (x : Int)])) (h2 : (re V τ 0).heap.size <= w1.heap.size) (h3 : ∀ b,b < (re V τ 0).heap.size -> v.ownBlock ≠ some b -> w1.heap[b]? = (re V τ 0).heap[b]?) (h4 : v'.ownBlock = v.ownBlock ∨ ∃ b,v'.ownBlock = some b /\ (re V τ 0).heap.size <= b) : Pu V mb mo v n q x (norm w') v':=by
 subst hw
 have hlt : mb < V.heap.size:=cell_lk hc
 have hmv' : v'.ownBlock ≠ some mb:=by
   rcases h4 with h | ⟨b,h,hb⟩
   . rw [h]; exact hmv
   . rw [h]; intro e; have:=Option.some.inj e; have hb' : V.heap.size <= b:=hb; omega
 have e1 : w1.heap[mb]? = V.heap[mb]?:=h3 mb hlt hmv
 refine ⟨rfl,?_,?_,?_,fun b hb hne hv=>?_,?_,h4⟩
 . exact set_at (w:=w1) (cell_kept hc e1) (froz_kept hz e1)
 . exact h1.keep fun b hb=>set_off _ _ (fun e=>hmv' (e ▸ hb))
 . have : (w1.setCell ⟨mb,mo,none⟩ v').heap.size = w1.heap.size:=by simp [World.setCell]
   show V.heap.size <= (w1.setCell ⟨mb,mo,none⟩ v').heap.size
   rw [this]; exact h2
 . exact (set_off _ _ hne).trans (h3 b hb hv)
 . show (w1.setCell ⟨mb,mo,none⟩ v').heap[mb]? = _
   rw [setCell_heap,setCell_heap,if_pos rfl,if_pos rfl,e1]
theorem will_ask (hn : norm V = V) (hi : i < C.n) (hn1 : C.n < 1000) {vb : Option Addr} {n vc : Nat} {ow : Int} {q : List Value} (hc : V.cell? ⟨mb,mo,none⟩ = some (.slice vb n vc)) (hf : V.frozen? ⟨mb,mo,none⟩ = false) (ho : V.cell? ⟨mb,mo + 1,none⟩ = some (.int .i64 ow)) (hfo : V.frozen? ⟨mb,mo + 1,none⟩ = false) (h : Qu V 3 1 (.slice vb n vc) n q) (hlen : n < 1000000000) (hmv : (Value.slice vb n vc).ownBlock ≠ some mb)
   (K1 : ow = 0 /\ n = 0 -> Will Try.prog main Z Stop (G (c.finish (.bool true)) cs) (V.setCell ⟨mb,mo + 1,none⟩ (.int .i64 (i + 1 : Nat))))
   (K2 : ¬ (ow = 0 /\ n = 0) -> ∀ V' v',Pu V mb mo (.slice vb n vc) n q i V' v' -> Will Try.prog main Z Stop (G (c.finish (.bool false)) cs) V') :
   Will Try.prog main Z Stop (G (Frame.enter Try.prog 91 #[.pointer (some ⟨mb,mo,none⟩),.int .i64 (i : Int)] .normal) (c :: cs)) V :=
 will_call (R:=fun v V'=>(ow = 0 /\ n = 0 /\ v = .bool true /\ V' = V.setCell ⟨mb,mo + 1,none⟩ (.int .i64 (i + 1 : Nat))) ∨ (¬ (ow = 0 /\ n = 0) /\ v = .bool false /\ ∃ v',Pu V mb mo (.slice vb n vc) n q i V' v')) calm (by decide) (fun τ=>(ask91 mb mo i (re V τ 0) vb n vc ow q hc hf ho hfo (h.keep fun _ _=>rfl) hlen (by omega) hmv).mono fun e w' h=>by
   rcases h with ⟨h1,h2,rfl,rfl⟩ | ⟨h1,rfl,v',w1,hw,h2,h3,h4,h5⟩
   . exact .inl ⟨h1,h2,rfl,norm_set hn _ _⟩
   . exact .inr ⟨h1,rfl,v',pu_of hw hc hf hmv h2 h3 h4 h5⟩) fun v V' h=>by
   rcases h with ⟨h1,h2,rfl,rfl⟩ | ⟨h1,rfl,v',h2⟩
   . exact K1 ⟨h1,h2⟩
   . exact K2 h1 V' v' h2
theorem rest_loop (hn : norm V = V) {ow : Nat} (hi : i < C.n) (hn1 : C.n < 1000) (H : CwAt C false st V) (ho : V.cell? ⟨mb,mo + 1,none⟩ = some (.int .i64 (ow : Int)))
   (K1 : ow = i + 1 -> Will Try.prog main Z Stop (G (bQ.at (aQ.put ((opsQ[iQ]?).bind (·.dst)) (.tuple #[])) (.inRegion opsQ restQ :: kQ)) cs) V)
   (K0 : ow ≠ i + 1 -> ∀ f,RsP mb mo (C.tp i) f -> Will Try.prog main Z Stop (G (Frame.enter Try.prog 25 #[C.tp i] .normal) (f :: bQ.at aQ (.inRegion opsQ (iQ :: restQ) :: kQ) :: cs)) V)
   (T : Array Value) (hs : T.size = 10) (t0 : T[0]? = some (.pointer (some ⟨mb,mo,none⟩))) (t1 : T[1]? = some (C.tp i)) :
   Will Try.prog main Z Stop (G ((base 92).at ⟨T,[]⟩ [.code X92,.inLoop X92,.inBlock 0]) (bQ.at aQ (.inRegion opsQ (iQ :: restQ) :: kQ) :: cs)) V:=by
 have HAS:=fun (d : Frame) (ds : List Frame)=>will_has (main:=main) (Z:=Z) (Stop:=Stop) (c:=d) (cs:=ds) hn hi hn1 H ho
 simp only [Cw.tp] at HAS K0 t1 ⊢
 clear H ho
 by_cases hx : ow = i + 1
 . have e1 : ((ow : Int) == (i : Int) + 1) = true:=by simp; omega
   rw [e1] at HAS
   clear K0
   obtain ⟨v0,v1,v2,v3,v4,v5,v6,v7,v8,v9,rfl⟩:=array10 T hs
   simp only [List.getElem?_toArray,List.getElem?_cons_zero,List.getElem?_cons_succ,Option.some.injEq] at t0 t1
   subst t0 t1
   refine (fun (h : ∀ X0,X0 = X92 -> Will Try.prog main Z Stop (G ((base 92).at ⟨_,[]⟩ [.code X0,.inLoop X92,.inBlock 0]) (bQ.at aQ (.inRegion opsQ (iQ :: restQ) :: kQ) :: cs)) V)=>h X92 rfl) ?_
   intro X0 hX0
   simp only [X92,ops92,B92,nva,nvb,nvk,nvl,rops,Try.f92,Option.getD_some] at hX0
   subst hX0
   obtain ⟨K,hK,hV,key,yek⟩:=kKV (L:=Lone) (J:=fun g=>Will Try.prog main Z Stop g V) mu_will (muv_will hn)
   refine key _ ?_
   refine wA fun kk hkk=>?_
   refine hK.cl rfl rfl rfl Try.func90 rfl ?_
   walk_nrm
   refine yek _ ?_
   clear hK hV key yek K
   refine HAS _ _ ?_
   rw [Frame.finish_at]
   walk_nrm
   obtain ⟨K,hK,hV,key,yek⟩:=kKV (L:=Lone) (J:=fun g=>Will Try.prog main Z Stop g V) mu_will (muv_will hn)
   refine key _ ?_
   refine wA fun kk hkk=>?_
   refine mu_leave0 hK rfl rfl Try.func92 rfl ?_
   walk_nrm
   refine yek _ ?_
   clear hK hV key yek K
   exact K1 hx
 . have e1 : ((ow : Int) == (i : Int) + 1) = false:=by simp; omega
   rw [e1] at HAS
   clear K1
   obtain ⟨v0,v1,v2,v3,v4,v5,v6,v7,v8,v9,rfl⟩:=array10 T hs
   simp only [List.getElem?_toArray,List.getElem?_cons_zero,List.getElem?_cons_succ,Option.some.injEq] at t0 t1
   subst t0 t1
   refine (fun (h : ∀ X0,X0 = X92 -> Will Try.prog main Z Stop (G ((base 92).at ⟨_,[]⟩ [.code X0,.inLoop X92,.inBlock 0]) (bQ.at aQ (.inRegion opsQ (iQ :: restQ) :: kQ) :: cs)) V)=>h X92 rfl) ?_
   intro X0 hX0
   simp only [X92,ops92,B92,nva,nvb,nvk,nvl,rops,Try.f92,Option.getD_some] at hX0
   subst hX0
   obtain ⟨K,hK,hV,key,yek⟩:=kKV (L:=Lone) (J:=fun g=>Will Try.prog main Z Stop g V) mu_will (muv_will hn)
   refine key _ ?_
   refine wA fun kk hkk=>?_
   refine hK.cl rfl rfl rfl Try.func90 rfl ?_
   walk_nrm
   refine yek _ ?_
   clear hK hV key yek K
   refine HAS _ _ ?_
   rw [Frame.finish_at]
   walk_nrm
   obtain ⟨K,hK,hV,key,yek⟩:=kKV (L:=Lone) (J:=fun g=>Will Try.prog main Z Stop g V) mu_will (muv_will hn)
   refine key _ ?_
   refine wA fun kk hkk=>?_
   refine hK.cl rfl rfl rfl Try.func25 rfl ?_
   walk_nrm
   refine yek _ ?_
   clear hK hV key yek K
   try subst hkk
   refine K0 hx _ ⟨_,?_,?_,?_,by simp only [X92,ops92,B92,nva,nvb,nvk,nvl,rops,Try.f92,Option.getD_some]; rfl⟩ <;> rfl
theorem rest_in (hn : norm V = V) {ow : Nat} (hi : i < C.n) (hn1 : C.n < 1000) (H : CwAt C false st V) (ho : V.cell? ⟨mb,mo + 1,none⟩ = some (.int .i64 (ow : Int)))
   (K1 : ow = i + 1 -> Will Try.prog main Z Stop (G (bQ.at (aQ.put ((opsQ[iQ]?).bind (·.dst)) (.tuple #[])) (.inRegion opsQ restQ :: kQ)) cs) V)
   (K0 : ow ≠ i + 1 -> ∀ f,RsP mb mo (C.tp i) f -> Will Try.prog main Z Stop (G (Frame.enter Try.prog 25 #[C.tp i] .normal) (f :: bQ.at aQ (.inRegion opsQ (iQ :: restQ) :: kQ) :: cs)) V) :
   Will Try.prog main Z Stop (G (Frame.enter Try.prog 92 #[.pointer (some ⟨mb,mo,none⟩),C.tp i] .normal) (bQ.at aQ (.inRegion opsQ (iQ :: restQ) :: kQ) :: cs)) V:=by
 have L:=rest_loop hn hi hn1 H ho K1 K0
 clear H ho K1 K0
 rw [enter_at (P:=Try.prog) _ Try.func92 rfl]
 simp only [Try.f92]
 walk_nrm
 obtain ⟨K,hK,hV,key,yek⟩:=kKV (L:=Lone) (J:=fun g=>Will Try.prog main Z Stop g V) mu_will (muv_will hn)
 refine key _ ?_
 refine wA fun kk hkk=>?_
 refine mu_loop hK ?_
 refine yek _ ?_
 clear hK hV key yek K
 refine (fun (h : ∀ Y,X92 = Y -> Will Try.prog main Z Stop (G ((base 92).at _ [.code Y,.inLoop Y,.inBlock 0]) (bQ.at aQ (.inRegion opsQ (iQ :: restQ) :: kQ) :: cs)) V)=>h _ (by simp only [X92,ops92,B92,nva,nvb,nvk,nvl,rops,Try.f92,Option.getD_some])) ?_
 intro Y hY
 subst hY
 exact L _ rfl rfl rfl
theorem rest_back (hn : norm V = V) {ow : Nat} (hi : i < C.n) (hn1 : C.n < 1000) (H : CwAt C false st V) (ho : V.cell? ⟨mb,mo + 1,none⟩ = some (.int .i64 (ow : Int)))
   (K1 : ow = i + 1 -> Will Try.prog main Z Stop (G (bQ.at (aQ.put ((opsQ[iQ]?).bind (·.dst)) (.tuple #[])) (.inRegion opsQ restQ :: kQ)) cs) V)
   (K0 : ow ≠ i + 1 -> ∀ f,RsP mb mo (C.tp i) f -> Will Try.prog main Z Stop (G (Frame.enter Try.prog 25 #[C.tp i] .normal) (f :: bQ.at aQ (.inRegion opsQ (iQ :: restQ) :: kQ) :: cs)) V)
   {b : Frame} {a : Act} {ops : Array Oper} {j : Nat} {rest : List Nat} {k : List Item} (hf : RsP mb mo (C.tp i) (b.at a (.inRegion ops (j :: rest) :: k))) :
   Will Try.prog main Z Stop (G (b.at (a.put ((ops[j]?).bind (·.dst)) (.tuple #[])) (.inRegion ops rest :: k)) (bQ.at aQ (.inRegion opsQ (iQ :: restQ) :: kQ) :: cs)) V:=by
 obtain ⟨T,hs,t0,t1,e⟩:=hf
 obtain ⟨rfl,e2,e3⟩:=at_inj e
 obtain ⟨rfl,e4,rfl⟩:=item_inj e2
 obtain ⟨rfl,rfl⟩:=List.cons.inj e4
 rw [e3]
 have L:=rest_loop hn hi hn1 H ho K1 K0
 clear H ho K1 K0 e e2 e3 e4
 simp only [Cw.tp] at L t1
 obtain ⟨v0,v1,v2,v3,v4,v5,v6,v7,v8,v9,rfl⟩:=array10 T hs
 simp only [List.getElem?_toArray,List.getElem?_cons_zero,List.getElem?_cons_succ,Option.some.injEq] at t0 t1
 subst t0 t1
 have hd : ((ops92[1]?).bind (·.dst)) = some 9:=by simp only [X92,ops92,B92,nva,nvb,nvk,nvl,rops,Try.f92,Option.getD_some]; rfl
 rw [hd]
 walk_nrm
 obtain ⟨K,hK,hV,key,yek⟩:=kKV (L:=Lone) (J:=fun g=>Will Try.prog main Z Stop g V) mu_will (muv_will hn)
 refine key _ ?_
 refine mu_region_end hK ?_
 refine mu_inBlock hK ?_
 refine mu_inLoop hK ?_
 refine yek _ ?_
 clear hK hV key yek K
 exact L _ rfl rfl rfl
theorem Pu.o1 {v v' : Value} {n x : Nat} {q : List Value} {V' : World} (P : Pu V mb mo v n q x V' v') {u : Value} (ho : V.cell? ⟨mb,mo + 1,none⟩ = some u) : V'.cell? ⟨mb,mo + 1,none⟩ = some u:=by
 have h : (V.setCell ⟨mb,mo,none⟩ v').cell? ⟨mb,mo + 1,none⟩ = some u:=by rw [cell_set_ne _ _ (by omega)]; exact ho
 exact cell_kept h P.mb
theorem Pu.off {v v' : Value} {n x : Nat} {q : List Value} {V' : World} (P : Pu V mb mo v n q x V' v') (hmb : ¬ C.has mb) (hq : ∀ b,v.ownBlock = some b -> ¬ C.has b) (hlt : ∀ b,C.has b -> b < V.heap.size) : ∀ b,C.has b -> V'.heap[b]? = V.heap[b]?:=fun b hb=>P.keep b (hlt b hb) (fun e=>hmb (e ▸ hb)) (fun e=>hq b e hb)
theorem has_lt (H : CwAt C false st V) (L : LsV C V) (h0 : 0 < C.n) : ∀ b,C.has b -> b < V.heap.size:=fun b hb=>by
 rcases hb with rfl | rfl | ⟨j,hj,rfl⟩
 . exact cell_lt H.c2
 . exact cell_lt (L.at_ 0 h0)
 . exact cell_lt (H.t0 hj)
theorem lock_back (hn : norm V = V) {vb : Option Addr} {n vc : Nat} {ow : Nat} {q : List Value} (hi : i < C.n) (hn1 : C.n < 1000) (H : CwAt C false st V) (L : LsV C V) (hc : V.cell? ⟨mb,mo,none⟩ = some (.slice vb n vc)) (hf : V.frozen? ⟨mb,mo,none⟩ = false) (ho : V.cell? ⟨mb,mo + 1,none⟩ = some (.int .i64 (ow : Int))) (hfo : V.frozen? ⟨mb,mo + 1,none⟩ = false) (h : Qu V 3 1 (.slice vb n vc) n q) (hlen : n < 1000000000) (hmv : (Value.slice vb n vc).ownBlock ≠ some mb)
   (hmb : ¬ C.has mb) (hq : ∀ b,(Value.slice vb n vc).ownBlock = some b -> ¬ C.has b) (hne : ow ≠ i + 1)
   (K1 : ow = 0 /\ n = 0 -> Will Try.prog main Z Stop (G (bQ.at (aQ.put ((opsQ[iQ]?).bind (·.dst)) (.int .i64 0)) (.inRegion opsQ restQ :: kQ)) cs) (V.setCell ⟨mb,mo + 1,none⟩ (.int .i64 (i + 1 : Nat))))
   (K2 : ¬ (ow = 0 /\ n = 0) -> ∀ V' v' f1 f2,Pu V mb mo (.slice vb n vc) n q i V' v' -> RsP mb mo (C.tp i) f1 -> LkR f2 -> Will Try.prog main Z Stop (G (Frame.enter Try.prog 25 #[C.tp i] .normal) (f1 :: f2 :: bQ.at aQ (.inRegion opsQ (iQ :: restQ) :: kQ) :: cs)) V')
   {b : Frame} {a : Act} {ops : Array Oper} {j : Nat} {rest : List Nat} {k : List Item} (hfr : LkY mb mo (C.tp i) (b.at a (.inRegion ops (j :: rest) :: k))) :
   Will Try.prog main Z Stop (G (b.at (a.put ((ops[j]?).bind (·.dst)) (.tuple #[])) (.inRegion ops rest :: k)) (bQ.at aQ (.inRegion opsQ (iQ :: restQ) :: kQ) :: cs)) V:=by
 obtain ⟨T,hs,t0,t1,e⟩:=hfr
 obtain ⟨rfl,e2,e3⟩:=at_inj e
 obtain ⟨rfl,e4,rfl⟩:=item_inj e2
 obtain ⟨rfl,rfl⟩:=List.cons.inj e4
 rw [e3]
 have hlt:=has_lt H L (by omega)
 have ID:=fun (d : Frame) (ds : List Frame)=>will_id (main:=main) (Z:=Z) (Stop:=Stop) (c:=d) (cs:=ds) hn hi H
 have ASK:=fun (d : Frame) (ds : List Frame)=>will_ask (main:=main) (Z:=Z) (Stop:=Stop) (c:=d) (cs:=ds) hn hi hn1 hc hf ho hfo h hlen hmv
 have hcast : ∀ {P : Prop},(((ow : Int) = 0 /\ n = 0) -> P) -> (ow = 0 /\ n = 0 -> P):=fun h ⟨h1,h2⟩=>h ⟨by omega,h2⟩
 have REST:=fun (V' : World) (v' : Value) (Q : Pu V mb mo (.slice vb n vc) n q i V' v') (d : Frame) (ad : Act) (opd : Array Oper) (jd : Nat) (rd : List Nat) (kd : List Item) (ds : List Frame) (K1 : ow = i + 1 -> _)=>rest_in (main:=main) (Z:=Z) (Stop:=Stop) (bQ:=d) (aQ:=ad) (opsQ:=opd) (iQ:=jd) (restQ:=rd) (kQ:=kd) (cs:=ds) Q.nrm hi hn1 (H.off (Q.off hmb hq hlt)) (Q.o1 ho) K1
 have hnV1 : norm (V.setCell ⟨mb,mo + 1,none⟩ (.int .i64 (i + 1 : Nat))) = (V.setCell ⟨mb,mo + 1,none⟩ (.int .i64 (i + 1 : Nat))):=norm_set hn _ _
 generalize V.setCell ⟨mb,mo + 1,none⟩ (.int .i64 (i + 1 : Nat)) = V1 at *
 have hd : ((ops45[1]?).bind (·.dst)) = some 17:=by simp only [ops45,ops45r,A45,E45,B45,nva,nvb,nvc,rops,Try.f45,Option.getD_some]; rfl
 rw [hd]
 clear H L hc hf ho hfo h hq hmb hlt e e2 e3 e4 hd
 simp only [Cw.tp] at ID REST K2 t1
 rw [show A45 = nvb (nvb (nvb B45)) from rfl]
 simp only [B45,nvb,Try.f45,Option.getD_some]
 obtain ⟨v0,v1,v2,v3,v4,v5,v6,v7,v8,v9,v10,v11,v12,v13,v14,v15,v16,v17,v18,v19,v20,v21,v22,v23,v24,v25,rfl⟩:=array26 T hs
 simp only [List.getElem?_toArray,List.getElem?_cons_zero,List.getElem?_cons_succ,Option.some.injEq] at t0 t1
 subst t0 t1
 walk_nrm
 obtain ⟨K,hK,hV,key,yek⟩:=kKV (L:=Lone) (J:=fun g=>Will Try.prog main Z Stop g V) mu_will (muv_will hn)
 refine key _ ?_
 refine wA fun kk hkk=>?_
 refine hK.cl rfl rfl rfl Try.func27 rfl ?_
 walk_nrm
 refine yek _ ?_
 clear hK hV key yek K
 refine ID _ _ ?_
 rw [Frame.finish_at]
 walk_nrm
 obtain ⟨K,hK,hV,key,yek⟩:=kKV (L:=Lone) (J:=fun g=>Will Try.prog main Z Stop g V) mu_will (muv_will hn)
 refine key _ ?_
 refine wA fun kk hkk=>?_
 refine hK.cl rfl rfl rfl Try.func91 rfl ?_
 walk_nrm
 refine yek _ ?_
 clear hK hV key yek K
 refine ASK _ _ (fun hx=>?_) fun hx V' v' Q=>?_
 . skip
   have K1':=K1 ⟨by omega,hx.2⟩
   clear K1 K2 ID ASK REST hcast
   rw [Frame.finish_at]
   walk_nrm
   obtain ⟨K,hK,hV,key,yek⟩:=kKV (L:=Lone) (J:=fun g=>Will Try.prog main Z Stop g V1) mu_will (muv_will hnV1)
   refine key _ ?_
   refine wA fun kk hkk=>?_
   refine mu_leave1 hK rfl rfl Try.func45 rfl ?_
   walk_nrm
   refine yek _ ?_
   clear hK hV key yek K
   exact K1'
 . skip
   have R2:=REST V' v' Q
   have K2':=K2 (fun hy=>hx ⟨by omega,hy.2⟩) V' v'
   have hnV':=Q.nrm
   clear K1 K2 ID ASK REST hcast
   rw [Frame.finish_at]
   walk_nrm
   obtain ⟨K,hK,hV,key,yek⟩:=kKV (L:=Lone) (J:=fun g=>Will Try.prog main Z Stop g V') mu_will (muv_will hnV')
   refine key _ ?_
   refine wA fun kk hkk=>?_
   refine hK.cl rfl rfl rfl Try.func92 rfl ?_
   walk_nrm
   refine yek _ ?_
   clear hK hV key yek K
   try subst hkk
   refine R2 _ _ _ _ _ _ _ (fun h=>absurd h hne) fun _ f1 hf1=>?_
   refine K2' f1 _ Q hf1 ⟨_,?_,by simp only [ops45,ops45r,A45,E45,B45,nva,nvb,nvc,rops,Try.f45,Option.getD_some]; rfl⟩
   rfl
theorem lock_ret (hn : norm V = V) (K1 : Will Try.prog main Z Stop (G (bQ.at (aQ.put ((opsQ[iQ]?).bind (·.dst)) (.int .i64 0)) (.inRegion opsQ restQ :: kQ)) cs) V)
   {b : Frame} {a : Act} {ops : Array Oper} {j : Nat} {rest : List Nat} {k : List Item} (hfr : LkR (b.at a (.inRegion ops (j :: rest) :: k))) :
   Will Try.prog main Z Stop (G (b.at (a.put ((ops[j]?).bind (·.dst)) (.tuple #[])) (.inRegion ops rest :: k)) (bQ.at aQ (.inRegion opsQ (iQ :: restQ) :: kQ) :: cs)) V:=by
 obtain ⟨T,hs,e⟩:=hfr
 obtain ⟨rfl,e2,e3⟩:=at_inj e
 obtain ⟨rfl,e4,rfl⟩:=item_inj e2
 obtain ⟨rfl,rfl⟩:=List.cons.inj e4
 rw [e3]
 have hd : ((ops45r[2]?).bind (·.dst)) = some 25:=by simp only [ops45,ops45r,A45,E45,B45,nva,nvb,nvc,rops,Try.f45,Option.getD_some]; rfl
 rw [hd]
 clear e e2 e3 e4 hd
 rw [show E45 = nvb (nvb (nvb (nvb B45))) from rfl]
 simp only [B45,nvb,Try.f45,Option.getD_some]
 obtain ⟨v0,v1,v2,v3,v4,v5,v6,v7,v8,v9,v10,v11,v12,v13,v14,v15,v16,v17,v18,v19,v20,v21,v22,v23,v24,v25,rfl⟩:=array26 T hs
 walk_nrm
 obtain ⟨K,hK,hV,key,yek⟩:=kKV (L:=Lone) (J:=fun g=>Will Try.prog main Z Stop g V) mu_will (muv_will hn)
 refine key _ ?_
 refine wA fun kk hkk=>?_
 refine mu_leave1 hK rfl rfl Try.func45 rfl ?_
 walk_nrm
 refine yek _ ?_
 clear hK hV key yek K
 exact K1
end
structure Ls where
 pc : Nat -> Nat
 ow : Nat
 q : List Nat
 inn : Nat
 most : Nat
 fin : List Nat
namespace Ls
def unlock (s : Ls) (i : Nat) : Ls:={ s with ow:=match s.q with | []=>0 | x :: _=>x + 1,q:=s.q.tail,inn:=s.inn - 1,fin:=s.fin ++ [i] }
def adv (y : Nat -> Nat) (s : Ls) (i p : Nat) : Ls:=if p = 3 + y i then unlock { s with pc:=upd s.pc i p } i else { s with pc:=upd s.pc i p }
def come (s : Ls) (i : Nat) : Ls:={ s with ow:=i + 1,inn:=s.inn + 1,most:=max s.most (s.inn + 1) }
def go (y : Nat -> Nat) (s : Ls) (i : Nat) : Ls :=
 if s.pc i = 0 then { s with pc:=upd s.pc i 1 }
 else if s.pc i = 1 then (if s.ow = 0 /\ s.q = [] then adv y (come s i) i 3 else { s with pc:=upd s.pc i 2,q:=s.q ++ [i] })
 else if s.pc i = 2 then adv y (come s i) i 3
 else adv y s i (s.pc i + 1)
def st (y : Nat -> Nat) (s : Ls) (i : Nat) : Int :=
 if s.pc i = 0 then 0 else if s.pc i = 1 then 1 else if s.pc i = 2 then (if s.ow = i + 1 then 1 else 2) else if s.pc i < 3 + y i then 1 else 3
def zero : Ls:=⟨fun _=>0,0,[],0,0,[]⟩
section
variable {n i : Nat} {y : Nat -> Nat} {s : Ls}
end
end Ls
namespace Ls
section
variable {n i : Nat} {y : Nat -> Nat} {s : Ls}
theorem qc (q : List Nat) : q = [] ∨ ∃ z l,q = z :: l:=by
 cases q with
 | nil=>exact .inl rfl
 | cons z l=>exact .inr ⟨z,l,rfl⟩
theorem st0 : st y s i = 0 ↔ s.pc i = 0:=by
 unfold st
 constructor
 . intro h; repeat' split at h
   all_goals omega
 . intro h; rw [if_pos h]
end
end Ls
theorem nd_len : ∀ (n : Nat) (l : List Nat),l.Nodup -> (∀ x ∈ l,x < n) -> l.length <= n:=by
 intro n
 induction n with
 | zero =>
   intro l _ h
   cases l with
   | nil=>simp
   | cons a l=>exact absurd (h a List.mem_cons_self) (by omega)
 | succ n ih =>
   intro l hn h
   have h1:=ih (l.erase n) (hn.sublist (List.erase_sublist)) fun x hx=>by
     have h2:=h x (List.mem_of_mem_erase hx)
     have h3 : x ≠ n:=fun e=>by
       subst e
       exact (List.Nodup.not_mem_erase hn) hx
     omega
   by_cases hm : n ∈ l
   . have:=List.length_erase_of_mem hm
     omega
   . rw [List.erase_of_not_mem hm] at h1
     omega
structure MuI (V : World) (own : Nat -> Prop) (mb mo ow : Nat) (q : List Nat) (qv : Value) : Prop where
 c0 : V.cell? ⟨mb,mo,none⟩ = some qv
 z0 : V.frozen? ⟨mb,mo,none⟩ = false
 c1 : V.cell? ⟨mb,mo + 1,none⟩ = some (.int .i64 (ow : Int))
 z1 : V.frozen? ⟨mb,mo + 1,none⟩ = false
 qu : Qu V 3 1 qv q.length (ints q)
 qown : ∀ b,qv.ownBlock = some b -> own b
 qmb : qv.ownBlock ≠ some mb
 mown : own mb
section
variable {V V' : World} {own own' : Nat -> Prop} {mb mo ow : Nat} {q : List Nat} {qv : Value}
theorem MuI.keep (h : MuI V own mb mo ow q qv) (hk : ∀ b,own b -> V'.heap[b]? = V.heap[b]?) : MuI V' own mb mo ow q qv :=
 ⟨cell_kept h.c0 (hk _ h.mown),froz_kept h.z0 (hk _ h.mown),cell_kept h.c1 (hk _ h.mown),froz_kept h.z1 (hk _ h.mown),h.qu.keep fun b hb=>hk b (h.qown b hb),h.qown,h.qmb,h.mown⟩
theorem MuI.grow (h : MuI V own mb mo ow q qv) (ho : ∀ b,own b -> b < V.heap.size -> own' b) : MuI V own' mb mo ow q qv :=
 ⟨h.c0,h.z0,h.c1,h.z1,h.qu,fun b hb=>ho b (h.qown b hb) (h.qu.at_ hb),h.qmb,ho _ h.mown (cell_lk h.c0)⟩
theorem MuI.keep2 (h : MuI V own mb mo ow q qv) (hm : V'.heap[mb]? = V.heap[mb]?) (hq : ∀ b,qv.ownBlock = some b -> V'.heap[b]? = V.heap[b]?) : MuI V' own mb mo ow q qv :=
 ⟨cell_kept h.c0 hm,froz_kept h.z0 hm,cell_kept h.c1 hm,froz_kept h.z1 hm,h.qu.keep hq,h.qown,h.qmb,h.mown⟩
theorem MuI.take (h : MuI V own mb mo ow q qv) (x : Nat) : MuI (V.setCell ⟨mb,mo + 1,none⟩ (.int .i64 (x : Int))) own mb mo x q qv :=
 ⟨by rw [cell_set_ne _ _ (by omega)]; exact h.c0,by rw [froz_set]; exact h.z0,set_at h.c1 h.z1,by rw [froz_set]; exact h.z1,h.qu.keep fun b hb=>set_off _ _ (fun e=>h.qmb (e ▸ hb)),h.qown,h.qmb,h.mown⟩
theorem MuI.pop {x : Nat} (h : MuI V own mb mo ow (x :: q) qv) : MuI (V.setCell ⟨mb,mo,none⟩ (cdr 1 qv)) own mb mo ow q (cdr 1 qv):=by
 obtain ⟨g,o,cap,e,_,_,h1,h2⟩:=Qu.pop (x:=[.int .i64 (x : Int)]) (q:=ints q) (n:=q.length) (sz:=1) h.qu rfl (by decide)
 refine ⟨set_at h.c0 h.z0,by rw [froz_set]; exact h.z0,by rw [cell_set_ne _ _ (by omega)]; exact h.c1,by rw [froz_set]; exact h.z1,h1.keep fun b hb=>set_off _ _ (fun e=>h.qmb ?_),fun b hb=>h.qown b (h2 ▸ hb),by rw [h2]; exact h.qmb,h.mown⟩
 rw [← h2,← e]; exact hb
theorem MuI.push (h : MuI V own mb mo ow q qv) {x : Nat} {v' : Value} (P : Pu V mb mo qv q.length (ints q) x V' v') (ho : ∀ b,own b -> own' b) (hnew : ∀ b,V.heap.size <= b -> b < V'.heap.size -> own' b) : MuI V' own' mb mo ow (q ++ [x]) v':=by
 have hlt : mb < V.heap.size:=cell_lk h.c0
 have e1 : ints q ++ [.int .i64 (x : Int)] = ints (q ++ [x]):=by simp [ints]
 have hq:=P.qu
 rw [e1] at hq
 refine ⟨P.c,?_,P.o1 h.c1,?_,by rw [List.length_append,List.length_singleton]; exact hq,fun b hb=>?_,fun e=>?_,ho _ h.mown⟩
 . exact froz_kept (w:=V.setCell ⟨mb,mo,none⟩ v') (by rw [froz_set]; exact h.z0) P.mb
 . exact froz_kept (w:=V.setCell ⟨mb,mo,none⟩ v') (by rw [froz_set]; exact h.z1) P.mb
 . rcases P.own with h1 | ⟨b',h1,h2⟩
   . exact ho b (h.qown b (h1 ▸ hb))
   . rw [h1] at hb
     obtain rfl:=Option.some.inj hb
     exact hnew _ h2 (hq.at_ h1)
 . rcases P.own with h1 | ⟨b',h1,h2⟩
   . exact h.qmb (h1 ▸ e)
   . rw [h1] at e
     have:=Option.some.inj e
     omega
end
def wk (st : Nat -> Int) (x : Nat) : Nat -> Int:=if st x = 2 then upd st x 1 else st
theorem CwAt.congr {C : Cw} {e : Bool} {st st' : Nat -> Int} {V : World} (H : CwAt C e st V) (h : ∀ j,j < C.n -> st j = st' j) : CwAt C e st' V:=⟨H.crew,fun i hi=>by rw [← h i hi]; exact H.thr i hi⟩
section
variable {C : Cw} {main : Bool} {Z : Cuts} {Stop : Goroutine -> World -> Prop} {V : World} {st : Nat -> Int} {i mb mo : Nat} {c : Frame} {cs : List Frame} {own : Nat -> Prop} {qv : Value}
theorem cw_wk {x : Nat} (hO : ∀ a b,a < C.n -> b < C.n -> C.tb a = C.tb b -> a = b) (hcb : ∀ a,a < C.n -> C.tb a ≠ C.cb) (hx : x < C.n) (H : CwAt C false st V) : CwAt C false (wk st x) (wkW C st x V):=by
 unfold wk wkW
 by_cases h2 : st x = 2
 . rw [if_pos h2,if_pos h2]
   refine ⟨by rw [set_off _ _ (fun e=>hcb x hx e.symm)]; exact H.crew,fun j hj=>?_⟩
   by_cases e : j = x
   . subst e
     rw [setCell_heap,if_pos rfl,H.thr j hj,upd_same]
     simp
   . rw [set_off _ _ (fun e2=>e (hO j x hj hx e2)),upd_ne _ _ e]
     exact H.thr j hj
 . rw [if_neg h2,if_neg h2]; exact H
theorem wk_off {x b : Nat} (hb : ∀ j,j < C.n -> b ≠ C.tb j) (hx : x < C.n) : (wkW C st x V).heap[b]? = V.heap[b]?:=by
 unfold wkW
 split
 . exact set_off _ _ (hb x hx)
 . rfl
theorem wk_norm {x : Nat} (hn : norm V = V) : norm (wkW C st x V) = wkW C st x V:=by
 unfold wkW
 split
 . exact norm_set hn _ _
 . exact hn
theorem wk_size {x : Nat} : (wkW C st x V).heap.size = V.heap.size:=by
 unfold wkW
 split
 . simp [World.setCell]
 . rfl
def unSt (st : Nat -> Int) : List Nat -> Nat -> Int | []=>st | x :: _=>wk st x
def unOw : List Nat -> Nat | []=>0 | x :: _=>x + 1
structure UnP (C : Cw) (st : Nat -> Int) (V : World) (own : Nat -> Prop) (mb mo : Nat) (q : List Nat) (qv : Value) (V' : World) (qv' : Value) : Prop where
 nrm : norm V' = V'
 sz : V'.heap.size = V.heap.size
 mu : MuI V' own mb mo (unOw q) q.tail qv'
 cw : CwAt C false (unSt st q) V'
 ls : LsV C V'
 keep : ∀ b,b ≠ mb -> (∀ j,j < C.n -> b ≠ C.tb j) -> V'.heap[b]? = V.heap[b]?
 qo : qv'.ownBlock = qv.ownBlock
 mbk : ∀ k,k ≠ mo -> k ≠ mo + 1 -> V'.cell? ⟨mb,k,none⟩ = V.cell? ⟨mb,k,none⟩
theorem mu_nil {ow : Nat} (h : MuI V own mb mo ow [] qv) : ∃ b c,qv = .slice b 0 c:=h.qu.sl
theorem un_nil {ow : Nat} (hn : norm V = V) (H : CwAt C false st V) (L : LsV C V) (h : MuI V own mb mo ow [] qv) (hmb : ¬ C.has mb) : UnP C st V own mb mo [] qv (V.setCell ⟨mb,mo + 1,none⟩ (.int .i64 0)) qv :=
 ⟨norm_set hn _ _,by simp [World.setCell],h.take 0,H.off fun b hb=>set_off _ _ (fun e=>hmb (e ▸ hb)),L.off fun b hb=>set_off _ _ (fun e=>hmb (e ▸ hb)),fun b hb _=>set_off _ _ hb,rfl,fun k h1 h2=>cell_set_ne _ _ (fun e=>h2 e.symm)⟩
theorem un_cons {ow x : Nat} {q : List Nat} (hn : norm V = V) (hO : ∀ a b,a < C.n -> b < C.n -> C.tb a = C.tb b -> a = b) (hcb : ∀ a,a < C.n -> C.tb a ≠ C.cb) (hx : x < C.n) (H : CwAt C false st V) (L : LsV C V) (h : MuI V own mb mo ow (x :: q) qv) (hmb : ¬ C.has mb) (hqo : ∀ b,own b -> ¬ C.has b) : UnP C st V own mb mo (x :: q) qv (wkW C st x ((V.setCell ⟨mb,mo,none⟩ (cdr 1 qv)).setCell ⟨mb,mo + 1,none⟩ (.int .i64 (x + 1 : Nat)))) (cdr 1 qv):=by
 have hm:=h.pop.take (x + 1)
 have hoff : ∀ b,b ≠ mb -> ((V.setCell ⟨mb,mo,none⟩ (cdr 1 qv)).setCell ⟨mb,mo + 1,none⟩ (.int .i64 (x + 1 : Nat))).heap[b]? = V.heap[b]?:=fun b hb=>by rw [set_off _ _ hb,set_off _ _ hb]
 have H2 : CwAt C false st ((V.setCell ⟨mb,mo,none⟩ (cdr 1 qv)).setCell ⟨mb,mo + 1,none⟩ (.int .i64 (x + 1 : Nat))):=H.off fun b hb=>hoff b (fun e=>hmb (e ▸ hb))
 have L2 : LsV C ((V.setCell ⟨mb,mo,none⟩ (cdr 1 qv)).setCell ⟨mb,mo + 1,none⟩ (.int .i64 (x + 1 : Nat))):=L.off fun b hb=>hoff b (fun e=>hmb (e ▸ hb))
 refine ⟨wk_norm (norm_set (norm_set hn _ _) _ _),by rw [wk_size]; simp [World.setCell],hm.keep fun b hb=>wk_off (fun j hj e=>hqo b hb (.inr (.inr ⟨j,hj,e⟩))) hx,cw_wk hO hcb hx H2,L2.keep (wk_off (fun j hj e=>L.ne j hj e) hx),fun b hb ht=>(wk_off ht hx).trans (hoff b hb),(Qu.pop (x:=[.int .i64 (x : Int)]) (q:=ints q) (n:=q.length) (sz:=1) h.qu rfl (by decide)).elim fun g hg=>hg.elim fun o ho=>ho.elim fun cap hc=>hc.2.2.2.2,fun k h1 h2=>?_⟩
 have e : (wkW C st x ((V.setCell ⟨mb,mo,none⟩ (cdr 1 qv)).setCell ⟨mb,mo + 1,none⟩ (.int .i64 (x + 1 : Nat)))).cell? ⟨mb,k,none⟩ = ((V.setCell ⟨mb,mo,none⟩ (cdr 1 qv)).setCell ⟨mb,mo + 1,none⟩ (.int .i64 (x + 1 : Nat))).cell? ⟨mb,k,none⟩:=by
   unfold World.cell?
   simp only
   rw [wk_off (fun j hj e=>hmb (.inr (.inr ⟨j,hj,e⟩))) hx]
 rw [e,cell_set_ne _ _ (fun e=>h2 e.symm),cell_set_ne _ _ (fun e=>h1 e.symm)]
theorem will_unlock (hn : norm V = V) {q : List Nat} (hO : ∀ a b,a < C.n -> b < C.n -> C.tb a = C.tb b -> a = b) (hcb : ∀ a,a < C.n -> C.tb a ≠ C.cb) (hi : i < C.n) (hn1 : C.n < 1000) (H : CwAt C false st V) (L : LsV C V) (h : MuI V own mb mo (i + 1) q qv) (hq : ∀ x ∈ q,x < C.n) (hqo : ∀ b,own b -> ¬ C.has b)
   (K : ∀ V' qv',UnP C st V own mb mo q qv V' qv' -> Will Try.prog main Z Stop (G (c.finish (.int .i64 0)) cs) V') : Will Try.prog main Z Stop (G (Frame.enter Try.prog 46 #[.pointer (some ⟨mb,mo,none⟩),C.tp i] .normal) (c :: cs)) V:=by
 have hmb : ¬ C.has mb:=hqo _ h.mown
 cases q with
 | nil =>
   obtain ⟨vb,vc,rfl⟩:=mu_nil h
   refine will_call (R:=fun v V'=>v = .int .i64 0 /\ V' = V.setCell ⟨mb,mo + 1,none⟩ (.int .i64 0)) calm (by decide) (fun τ=>(unlock46n (w:=re V τ 0) (C:=C) (st:=st) mb mo vb vc hi hn1 (H.off fun _ _=>rfl) h.c0 h.c1 h.z1).mono fun e w' hh=>?_) fun v V' hh=>?_
   . obtain ⟨rfl,m,rfl⟩:=hh
     exact ⟨rfl,norm_set hn _ _⟩
   . obtain ⟨rfl,rfl⟩:=hh
     exact K _ _ (un_nil hn H L h hmb)
 | cons x q =>
   have hx:=hq x List.mem_cons_self
   refine will_call (R:=fun v V'=>v = .int .i64 0 /\ V' = wkW C st x ((V.setCell ⟨mb,mo,none⟩ (cdr 1 qv)).setCell ⟨mb,mo + 1,none⟩ (.int .i64 (x + 1 : Nat)))) calm (by decide) (fun τ=>(unlock46 (w:=re V τ 0) (C:=C) (st:=st) mb mo qv q.length (ints q) hi hx hn1 (H.off fun _ _=>rfl) (L.off fun _ _=>rfl) hmb h.c0 h.z0 h.c1 h.z1 (h.qu.keep fun _ _=>rfl)).mono fun e w' hh=>?_) fun v V' hh=>?_
   . obtain ⟨rfl,m,rfl⟩:=hh
     refine ⟨rfl,?_⟩
     have hs : norm ((((re V τ 0).drewN m).setCell ⟨mb,mo,none⟩ (cdr 1 qv)).setCell ⟨mb,mo + 1,none⟩ (.int .i64 (x + 1 : Nat))) = (V.setCell ⟨mb,mo,none⟩ (cdr 1 qv)).setCell ⟨mb,mo + 1,none⟩ (.int .i64 (x + 1 : Nat)):=norm_set (norm_set hn _ _) _ _
     unfold wkW
     split
     . exact norm_set (norm_set (norm_set hn _ _) _ _) _ _
     . exact hs
   . obtain ⟨rfl,rfl⟩:=hh
     exact K _ _ (un_cons hn hO hcb hx H L h hmb hqo)
end
end Go.Proofs.Ytibcdikfbhmheaa
