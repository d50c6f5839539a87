import Derived.Test.YtibcdikfbhmheaaQJ04
import Derived.Test.YtibcdikfbhmheaaQJ05
set_option linter.unusedSimpArgs false
set_option linter.unusedVariables false
set_option maxRecDepth 100000
set_option maxHeartbeats 4000000
namespace Go.Proofs.Ytibcdikfbhmheaa
open Go Go.Conc Go.Proofs
theorem mu_leave2 {P : Program} {R : World -> Prop} {K : Goroutine -> Prop} {b : Frame} {a : Act} {k : List Item} {cs : List Frame} (hK : Mu P R K) {bQ : Frame} {aQ : Act} {ops : Array Oper} {i : Nat} {rest : List Nat} {fn : Func} {todo : List Item} {t u : Tmp} (hn : b.kind = .normal) (hd : a.defers = []) (hf : P.funcs[b.fn]? = some fn) (hr : fn.results = #[.tmp t,.tmp u])
   (h : K (G (bQ.at (aQ.put ((ops[i]?).bind (·.dst)) (.tuple #[a.tmps.getD t undef,a.tmps.getD u undef])) (.inRegion ops rest :: k)) cs)) : K (G { b.at a todo with mode:=.returning } (bQ.at aQ (.inRegion ops (i :: rest) :: k) :: cs)) :=
 mu_step hK rfl (fun main w=>by rw [stepG_leave hn hd hf (show (results fn a.tmps).run P w = .ok (.tuple #[a.tmps.getD t undef,a.tmps.getD u undef]) w by simp [results,hr]) (events_results_tmp2 hr _ _),Frame.finish_at]) h
noncomputable def r69o : Array Oper:=ropsO (nva (nvb (nvb (nvb (nvb (nvb (Try.f69.body.getD .skip)))))))
noncomputable def b69 : Code:=Try.f69.body.getD .skip
theorem b69_eq : Try.f69.body = some (.seq (nva b69) (.seq (nva (nvb b69)) (.seq (nva (nvb (nvb b69))) (.seq (nva (nvb (nvb (nvb b69)))) (.seq (nva (nvb (nvb (nvb (nvb b69))))) (.seq (.region 7 r69o true) (nvb (nvb (nvb (nvb (nvb (nvb b69)))))))))))):=by kernel_rfl
theorem array44f (T : Array Value) (h : T.size = 44) : ∃ f : Nat -> Value,(∀ i v,T[i]? = some v -> f i = v) /\ T = #[f 0,f 1,f 2,f 3,f 4,f 5,f 6,f 7,f 8,f 9,f 10,f 11,f 12,f 13,f 14,f 15,f 16,f 17,f 18,f 19,f 20,f 21,f 22,f 23,f 24,f 25,f 26,f 27,f 28,f 29,f 30,f 31,f 32,f 33,f 34,f 35,f 36,f 37,f 38,f 39,f 40,f 41,f 42,f 43]:=arrg T h
section
variable {main : Bool} {Z : Cuts} {KK : Nat -> Goroutine -> World -> Prop} {d : Nat} {V : World} {bQ fr : Frame} {aQ : Act} {opsQ : Array Oper} {iQ : Nat} {restQ : List Nat} {kQ kt : List Item} {cs0 cs : List Frame} {gb rb clk : Nat} {es : Array MapEntry} {m : List ((Int × Int) × Nat)} {k : Int × Int} {tp : Value} {v e : Int} {ob i : Nat} {cv xa xb xc : Value}
end
section
variable {main : Bool} {Z : Cuts} {KK : Nat -> Goroutine -> World -> Prop} {d : Nat} {V : World} {bQ fr : Frame} {aQ : Act} {opsQ : Array Oper} {iQ : Nat} {restQ : List Nat} {kQ kt : List Item} {cs0 cs : List Frame} {gb rb clk : Nat} {es : Array MapEntry} {m : List ((Int × Int) × Nat)} {k : Int × Int} {tp : Value} {v e : Int} {ob i tb : Nat} {cv xa xb xc : Value}
noncomputable def r69deps : Nat -> List Nat:=fun i=>match i with | 1=>[0] | 2=>[1] | 3=>[2] | _=>[]
def r69val (gb rb kb : Nat) (k : Int × Int) : Nat -> Value:=fun i=>match i with | 0=>.pointer (some ⟨gb,0,none⟩) | 1=>.pointer (some ⟨gb,0,none⟩) | 2=>.pointer (some ⟨gb,0,none⟩) | 3=>.map (some rb) | 4=>kv k | _=>undef
def r69T (gb rb kb : Nat) (k : Int × Int) (T : Array Value) : Prop:=T.size = 44 /\ T[0]? = some (.pointer (some ⟨gb,0,none⟩)) /\ T[7]? = some (.pointer (some ⟨kb,0,none⟩))
theorem r69T.put {gb rb kb : Nat} {k : Int × Int} {T : Array Value} {d : Nat} {v : Value} (h : r69T gb rb kb k T) (hd : 34 <= d) : r69T gb rb kb k (T.setIfInBounds d v):=by
 obtain ⟨h0,h1,h2⟩:=h
 exact ⟨by rw [Array.size_setIfInBounds]; exact h0,by rw [Array.getElem?_setIfInBounds_ne (by omega)]; exact h1,by rw [Array.getElem?_setIfInBounds_ne (by omega)]; exact h2⟩
def r69I (gb rb kb : Nat) (k : Int × Int) (listed : Array Bool) (a : Act) : Prop:=a.defers = [] /\ r69T gb rb kb k a.tmps /\ ∀ i,i < 5 -> listed.getD i false = true -> a.tmps[34 + i]? = some (r69val gb rb kb k i)
theorem r69_deps : ∀ i,i < 5 -> ∃ p,r69o[i]? = some p /\ p.dst = some (34 + i) /\ ∀ d ∈ r69deps i,d < i /\ ∃ e ∈ p.after,e.on = d /\ Region.binds .any e = true:=by
 have key : ((List.range 5).all fun i=>(r69o[i]?).any fun o=>o.dst == some (34 + i) && (r69deps i).all fun d=>d < i && o.after.any fun e=>e.on == d && Region.binds .any e) = true:=by kernel_rfl
 intro i hi
 have h:=List.all_eq_true.1 key i (List.mem_range.2 hi)
 rcases ho : r69o[i]? with _ | o
 . rw [ho] at h; cases h
 . rw [ho] at h
   simp only [Option.any_some,Bool.and_eq_true,beq_iff_eq,List.all_eq_true,decide_eq_true_eq,Array.any_eq_true'] at h
   refine ⟨o,rfl,h.1,fun d hd=>⟨(h.2 d hd).1,?_⟩⟩
   obtain ⟨e,he,h1,h2⟩:=(h.2 d hd).2
   exact ⟨e,he,h1,h2⟩
theorem r69_step {gb rb kb : Nat} {k : Int × Int} {W : World} (hM : MarkK Try.prog main Z KK) (hn : norm W = W) (hg : ∀ τ,(re W τ 0).cell? ⟨gb,0,none⟩ = some (.map (some rb))) (hk1 : ∀ τ,(re W τ 0).cell? ⟨kb,0,none⟩ = some (.int .i64 k.1)) (hk2 : ∀ τ,(re W τ 0).cell? ⟨kb,1,none⟩ = some (.int .i64 k.2)) {b : Frame} (hb : b.kind = .normal ∨ b.kind = .deferred) {T : Array Value} (hT : r69T gb rb kb k T) (j : Nat) (hj : j < 5) (hd : ∀ d ∈ r69deps j,T[34 + d]? = some (r69val gb rb kb k d)) {rest : List Nat}
   (h : KK d (G (b.at (Act.put ⟨T,[]⟩ (some (34 + j)) (r69val gb rb kb k j)) (.inRegion r69o rest :: kt)) cs) W) : KK d (G (b.at ⟨T,[]⟩ (.inRegion r69o (j :: rest) :: kt)) cs) W:=by
 obtain ⟨hs,t0,t7⟩:=hT
 rcases (show j = 0 ∨ j = 1 ∨ j = 2 ∨ j = 3 ∨ j = 4 by omega) with rfl | rfl | rfl | rfl | rfl
 . refine opv (K:=fun g=>KK d g W) (L:=Lone) (hM.muv hn) hb (i:=0) (d:=34) (op:=.move (.tmp 0)) (by kernel_rfl) (by kernel_rfl) (fun o ho τ=>?_) h
   simp only [execOp,ho,r69val]
   clear hs hd h
   go_simp
   try rfl
 . have t34:=hd 0 (by decide)
   simp only [r69val,Nat.reduceAdd,Nat.add_zero] at t34
   refine opv (K:=fun g=>KK d g W) (L:=Lone) (hM.muv hn) hb (i:=1) (d:=35) (op:=.nilCheck (.tmp 34)) (by kernel_rfl) (by kernel_rfl) (fun o ho τ=>?_) h
   simp only [execOp,ho,r69val]
   clear hs hd h
   go_simp
   try rfl
 . have t35:=hd 1 (by decide)
   simp only [r69val,Nat.reduceAdd,Nat.add_zero] at t35
   refine opv (K:=fun g=>KK d g W) (L:=Lone) (hM.muv hn) hb (i:=2) (d:=36) (op:=.fieldAddr 190 (.tmp 35) 0) (by kernel_rfl) (by kernel_rfl) (fun o ho τ=>?_) h
   simp only [execOp,ho,r69val]
   clear hs hd h
   go_simp
   try rfl
 . have t36:=hd 2 (by decide)
   simp only [r69val,Nat.reduceAdd,Nat.add_zero] at t36
   refine opv (K:=fun g=>KK d g W) (L:=Lone) (hM.muv hn) hb (i:=3) (d:=37) (op:=.load 188 (.tmp 36)) (by kernel_rfl) (by kernel_rfl) (fun o ho τ=>?_) h
   simp only [execOp,ho,r69val]
   clear hs hd h
   go_simp
   try rfl
 . refine opv (K:=fun g=>KK d g W) (L:=Lone) (hM.muv hn) hb (i:=4) (d:=38) (op:=.load 139 (.tmp 7)) (by kernel_rfl) (by kernel_rfl) (fun o ho τ=>?_) h
   simp only [execOp,ho,r69val]
   clear hs hd h
   go_simp
   try rfl
theorem r69_go {kb : Nat} (hM : MarkK Try.prog main Z KK) (hn : norm V = V) (e_g : V.heap[gb]? = some (.cells #[.map (some rb)] 190 (0,0))) (e_m : V.heap[rb]? = some (.map es clk)) (hm : Mp es m) (e_k : V.heap[kb]? = some (.cells #[.int .i64 k.1,.int .i64 k.2] 139 (0,0))) (hki : kpos k m 0 = some (i,ob)) {b : Frame} (hb : b.kind = .normal ∨ b.kind = .deferred) {T : Array Value} {x1 x11 : Value} (hT : r69T gb rb kb k T /\ T[1]? = some x1 /\ T[11]? = some x11)
   (h : ∀ T',T'.size = 44 -> T'[1]? = some x1 -> T'[11]? = some x11 -> KK d (G (b.at ⟨T',[]⟩ kt) cs) (setM V rb (.map (es.eraseIdxIfInBounds i) clk))) : KK d (G (b.at ⟨T,[]⟩ (.code (.region 7 r69o true) :: kt)) cs) V:=by
 have hg:=fun τ=>cell_of (w:=re V τ 0) (k:=0) (v:=.map (some rb)) e_g (by simp)
 have hk1:=fun τ=>cell_of (w:=re V τ 0) (k:=0) (v:=.int .i64 k.1) e_k (by simp)
 have hk2:=fun τ=>cell_of (w:=re V τ 0) (k:=1) (v:=.int .i64 k.2) e_k (by simp)
 have hne : b.kind ≠ .early:=by rcases hb with h | h <;> rw [h] <;> decide
 refine order3_go (P:=Try.prog) (K:=fun _ g=>KK d g V) (j:=5) (N:=6) (hM.mud (V:=V)) (by kernel_rfl) (by kernel_rfl) (by kernel_rfl) (by decide) (fun listed a=>r69I gb rb kb k listed a /\ a.tmps[1]? = some x1 /\ a.tmps[11]? = some x11) ⟨⟨rfl,hT.1,fun j hj h=>by
   rw [show (Array.replicate 6 false).getD j false = false by rw [Array.getD_eq_getD_getElem?,Array.getElem?_replicate]; split <;> rfl] at h
   cases h⟩,hT.2.1,hT.2.2⟩ (fun listed a j hI hl hj hne' hr=>?_) fun listed a hI hall=>?_
 . obtain ⟨T,df⟩:=a
   obtain ⟨⟨hdf,hN,hv⟩,hx1,hx11⟩:=hI
   obtain rfl : df = []:=hdf
   have hj2 : j < 5:=by omega
   obtain ⟨o',ho,hdst,hdp⟩:=r69_deps j hj2
   have hdep : ∀ dd ∈ r69deps j,T[34 + dd]? = some (r69val gb rb kb k dd):=fun dd hdd=>by
     obtain ⟨h1,e,he,h2,h3⟩:=hdp dd hdd
     obtain ⟨_,o'',ho',hall⟩:=mem_ready.1 hr
     rw [ho] at ho'
     obtain rfl:=Option.some.inj ho'
     have:=hall e he h3
     rw [h2] at this
     exact hv dd (by omega) this
   refine ⟨Act.put ⟨T,[]⟩ (some (34 + j)) (r69val gb rb kb k j),⟨⟨rfl,hN.put (d:=34 + j) (v:=r69val gb rb kb k j) (by omega),fun i' hi' hl'=>?_⟩,?_,?_⟩,fun rest hk=>?_⟩
   . show (T.setIfInBounds (34 + j) (r69val gb rb kb k j))[34 + i']? = _
     by_cases e : i' = j
     . subst e
       rw [Array.getElem?_setIfInBounds_self_of_lt (by rw [hN.1]; omega)]
     . rw [Array.getElem?_setIfInBounds_ne (by omega)]
       refine hv i' hi' ?_
       rw [getD_set_ne false (Ne.symm e)] at hl'
       exact hl'
   . show (T.setIfInBounds (34 + j) (r69val gb rb kb k j))[1]? = _
     rw [Array.getElem?_setIfInBounds_ne (by omega)]; exact hx1
   . show (T.setIfInBounds (34 + j) (r69val gb rb kb k j))[11]? = _
     rw [Array.getElem?_setIfInBounds_ne (by omega)]; exact hx11
   . exact r69_step hM hn hg hk1 hk2 hb hN j hj2 hdep hk
 . obtain ⟨T,df⟩:=a
   obtain ⟨⟨hdf,hN,hv⟩,hx1,hx11⟩:=hI
   obtain rfl : df = []:=hdf
   have hall2 : ∀ i,i < 5 -> T[34 + i]? = some (r69val gb rb kb k i):=fun i hi=>hv i hi (hall i (by omega) (by omega))
   have t37:=hall2 3 (by omega)
   have t38:=hall2 4 (by omega)
   simp only [r69val,Nat.reduceAdd] at t37 t38
   obtain ⟨p,hp,hd,hop,hgu⟩:=opat (ops:=r69o) (i:=5) (d:=none) (op:=.call { callee:=.builtin .delete,args:=#[.tmp 37,.tmp 38],argTypes:=#[188,139] }) (by kernel_rfl)
   have hdl:=fun τ t=>run_delete (w:=re V τ 0) e_m hm hki t
   have hnS:=setM_norm hn rb (.map (es.eraseIdxIfInBounds i) clk)
   refine mua_put (L:=Lone) (v:=.tuple #[]) (V':=(setM V rb (.map (es.eraseIdxIfInBounds i) clk))) (hM.mua hnS) (K:=fun g=>KK d g V) (K':=fun g=>KK d g (setM V rb (.map (es.eraseIdxIfInBounds i) clk))) hp hb (wanted_none hgu) (by rw [hop]; kernel_rfl) (fun τ=>?_) ?_
   . have hdl:=hdl τ
     simp only [execOp,hop]
     clear h hall2 hall hv hN
     go_simp
     try rfl
   . rw [hd]
     refine mu_region_end (K:=fun g=>KK d g (setM V rb (.map (es.eraseIdxIfInBounds i) clk))) hM.mu ?_
     exact h _ hN.1 hx1 hx11
theorem end_on (hM : MarkK Try.prog main Z KK) (hn : norm V = V) (e_g : V.heap[gb]? = some (.cells #[.map (some rb)] 190 (0,0))) (e_m : V.heap[rb]? = some (.map es clk)) (hm : Mp es m) (hk : kpos k m 0 = some (i,ob)) (hgr : gb ≠ rb) (e_o : V.heap[ob]? = some (.cells #[cv,xa,xb,xc] 201 (0,0))) (hor : ob ≠ rb) (hog : ob ≠ gb) (Q : World -> World -> Prop)
   (hB : ∀ (V5 : World) (bY : Frame) (aY : Act) (opsY : Array Oper) (iY : Nat) (restY : List Nat) (kY : List Item) (cs1 : List Frame),norm V5 = V5 -> V.heap.size <= V5.heap.size -> V5.heap[ob]? = some (.cells #[cv,.bool true,.int .i64 v,.int .i64 e] 201 (0,0)) -> V5.heap[rb]? = some (.map (es.eraseIdxIfInBounds i) clk) -> (∀ b,b < V.heap.size -> b ≠ ob -> b ≠ rb -> V5.heap[b]? = V.heap[b]?) ->
     (∀ V6,norm V6 = V6 -> Q V5 V6 -> KK d (G (bY.at (aY.put ((opsY[iY]?).bind (·.dst)) (.int .i64 0)) (.inRegion opsY restY :: kY)) cs1) V6) -> KK d (G (Frame.enter Try.prog 51 #[.pointer (some ⟨ob,0,none⟩),.pointer (some ⟨tb,0,none⟩)] .normal) (bY.at aY (.inRegion opsY (iY :: restY) :: kY) :: cs1)) V5)
   (h : ∀ V5 V6,V.heap.size <= V5.heap.size -> V5.heap[ob]? = some (.cells #[cv,.bool true,.int .i64 v,.int .i64 e] 201 (0,0)) -> V5.heap[rb]? = some (.map (es.eraseIdxIfInBounds i) clk) -> (∀ b,b < V.heap.size -> b ≠ ob -> b ≠ rb -> V5.heap[b]? = V.heap[b]?) -> norm V6 = V6 -> Q V5 V6 -> KK d (G (bQ.at (aQ.put ((opsQ[iQ]?).bind (·.dst)) (.int .i64 0)) (.inRegion opsQ restQ :: kQ)) cs0) V6) : KK d (G (Frame.enter Try.prog 69 #[.pointer (some ⟨gb,0,none⟩),.pointer (some ⟨tb,0,none⟩),kv k,.int .i64 v,.int .i64 e] .normal) (bQ.at aQ (.inRegion opsQ (iQ :: restQ) :: kQ) :: cs0)) V:=by
 have l_g:=(glt e_g)
 have l_m:=(glt e_m)
 have l_o:=(glt e_o)
 have kp : Kp V V:=⟨Nat.le_refl _,fun _ _=>rfl⟩
 rw [enter_at (P:=Try.prog) _ Try.func69 b69_eq]
 refine (fun (hh : ∀ X0 X1 X3 X4 X6 R E,X0 = nva b69 -> X1 = nva (nvb b69) -> X3 = nva (nvb (nvb b69)) -> X4 = nva (nvb (nvb (nvb b69))) -> X6 = nva (nvb (nvb (nvb (nvb b69)))) -> R = Code.region 7 r69o true -> E = nvb (nvb (nvb (nvb (nvb (nvb b69))))) -> KK d (G ((base 69).at _ [.code (.seq X0 (.seq X1 (.seq X3 (.seq X4 (.seq X6 (.seq R E))))))]) (bQ.at aQ (.inRegion opsQ (iQ :: restQ) :: kQ) :: cs0)) V)=>hh _ _ _ _ _ _ _ rfl rfl rfl rfl rfl rfl rfl) ?_
 intro X0 X1 X3 X4 X6 R E h0 h1 h3 h4 h6 hR hE
 simp only [b69,Try.f69,Option.getD_some,nva,nvb] at h0 h1 h3 h4 h6 hE
 subst h0 h1 h3 h4 h6 hE
 have hnt : Try.f69.ntmps = 44:=rfl
 rw [hnt]
 clear hnt
 simp only [kv]
 walk_nrm
 refine wM hM hn fun kk hkk=>?_
 refine hM.al hn #[.int .i64 k.1,.int .i64 k.2] 139 (.pointer (some ⟨V.heap.size,0,none⟩)) rfl rfl fun W1 hnW1 kW1 l0 Bk=>?_
 have lW1 : V.heap.size < W1.heap.size:=by omega
 clear l0
 have tW1 : V.heap.size < W1.heap.size /\ V.heap.size <= V.heap.size:=⟨lW1,Nat.le_refl _⟩
 generalize hbW1 : V.heap.size = b_Bk at Bk ⊢
 have l_b_Bk : V.heap.size <= b_Bk /\ b_Bk < W1.heap.size:=by omega
 clear hbW1 tW1
 replace kp:=kp.upA (Nat.le_of_lt lW1) kW1
 clear kW1
 walk_nrm
 have r_Bk_0:=qc 0 Bk rfl
 have r_Bk_1:=qc 1 Bk rfl
 refine wM hM hnW1 fun kk hkk=>?_
 refine hM.cl rfl rfl rfl Try.func106 rfl ?_
 walk_nrm
 have e_g2:=(kp.keep _ l_g).trans e_g
 have e_m2:=(kp.keep _ l_m).trans e_m
 have hkp : kptr m k = .pointer (some ⟨ob,0,none⟩):=by unfold kptr; rw [hk]
 refine find_go (k:=k) hM hnW1 e_g2 e_m2 hm fun V3 hn3 k3=>?_
 rw [hkp]
 clear hkp
 have kp3:=kp.trans k3
 have e_g3:=(kp3.keep _ l_g).trans e_g
 have e_m3:=(kp3.keep _ l_m).trans e_m
 have O:=(kp3.keep _ l_o).trans e_o
 have e_k3:=(k3.keep _ l_b_Bk.2).trans Bk
 have l3:=kp3.size
 have l3k:=k3.size
 clear e_g2 e_m2 Bk
 have kq : ∀ b,b < V.heap.size -> b ≠ ob -> V3.heap[b]? = V.heap[b]?:=fun b hb _=>kp3.keep b hb
 have sq : V.heap.size <= V3.heap.size /\ V3.heap.size = V3.heap.size:=⟨l3,rfl⟩
 have l_r3 : rb < V3.heap.size:=by omega
 clear kp kp3 k3
 walk_nrm
 obtain ⟨K,hK,hV,key,yek⟩:=kKV (L:=Lone) (J:=fun g=>KK d g V3) hM.mu (hM.muv hn3)
 refine key _ ?_
 refine wA fun kk hkk=>?_
 have r_O_0:=qc 0 O rfl
 have r_O_1:=qc 1 O rfl
 have r_O_2:=qc 2 O rfl
 have r_O_3:=qc 3 O rfl
 have z_O_0:=qz 0 O
 have z_O_1:=qz 1 O
 have z_O_2:=qz 2 O
 have z_O_3:=qz 3 O
 refine yek _ ?_
 clear hK hV key yek K
 have hnY1:=norm_set hn3 ⟨ob,1,none⟩ (.bool true)
 refine mus_put (L:=Lone) (hM.mus hnY1) (K:=fun g=>KK d g V3) (K':=fun g=>KK d g (V3.setCell ⟨ob,1,none⟩ (.bool true))) rfl (.inl rfl) rfl (by kernel_rfl) (fun τ=>?_) ?_
 . go_simp
   try rfl
 have kY1:=sc_kp V3 ob 1 (.bool true)
 have lY1:=sc_le V3 ob 1 (.bool true)
 have eY1 : (V3.setCell ⟨ob,1,none⟩ (.bool true)).heap[ob]? = some (.cells #[cv,.bool true,xb,xc] 201 (0,0)):=by
   rw [setCell_heap,if_pos rfl,O]
   simp
 generalize (V3.setCell ⟨ob,1,none⟩ (.bool true)) = Y1 at *
 replace O:=eY1
 clear eY1
 clear r_O_0 r_O_1 r_O_2 r_O_3 z_O_0 z_O_1 z_O_2 z_O_3
 replace e_g3:=(kY1 _ (glt e_g3) (by omega)).trans e_g3
 replace e_k3:=(kY1 _ (glt e_k3) (by omega)).trans e_k3
 replace e_m3 : Y1.heap[rb]? = some (.map es clk):=(kY1 _ (by first | exact (glt e_m3) | omega) (by omega)).trans e_m3
 replace kq : ∀ b,b < V.heap.size -> b ≠ ob -> Y1.heap[b]? = V.heap[b]?:=fun b hb hne=>(kY1 b (by have:=sq; omega) hne).trans (kq b hb hne)
 replace sq : V.heap.size <= Y1.heap.size /\ Y1.heap.size = Y1.heap.size:=⟨Nat.le_trans sq.1 lY1,rfl⟩
 clear kY1
 walk_nrm
 obtain ⟨K,hK,hV,key,yek⟩:=kKV (L:=Lone) (J:=fun g=>KK d g Y1) hM.mu (hM.muv hnY1)
 refine key _ ?_
 refine wA fun kk hkk=>?_
 have r_O_0:=qc 0 O rfl
 have r_O_1:=qc 1 O rfl
 have r_O_2:=qc 2 O rfl
 have r_O_3:=qc 3 O rfl
 have z_O_0:=qz 0 O
 have z_O_1:=qz 1 O
 have z_O_2:=qz 2 O
 have z_O_3:=qz 3 O
 refine yek _ ?_
 clear hK hV key yek K
 have hnY2:=norm_set hnY1 ⟨ob,2,none⟩ (.int .i64 v)
 refine mus_put (L:=Lone) (hM.mus hnY2) (K:=fun g=>KK d g Y1) (K':=fun g=>KK d g (Y1.setCell ⟨ob,2,none⟩ (.int .i64 v))) rfl (.inl rfl) rfl (by kernel_rfl) (fun τ=>?_) ?_
 . go_simp
   try rfl
 have kY2:=sc_kp Y1 ob 2 (.int .i64 v)
 have lY2:=sc_le Y1 ob 2 (.int .i64 v)
 have eY2 : (Y1.setCell ⟨ob,2,none⟩ (.int .i64 v)).heap[ob]? = some (.cells #[cv,.bool true,.int .i64 v,xc] 201 (0,0)):=by
   rw [setCell_heap,if_pos rfl,O]
   simp
 generalize (Y1.setCell ⟨ob,2,none⟩ (.int .i64 v)) = Y2 at *
 replace O:=eY2
 clear eY2
 clear r_O_0 r_O_1 r_O_2 r_O_3 z_O_0 z_O_1 z_O_2 z_O_3
 replace e_g3:=(kY2 _ (glt e_g3) (by omega)).trans e_g3
 replace e_k3:=(kY2 _ (glt e_k3) (by omega)).trans e_k3
 replace e_m3 : Y2.heap[rb]? = some (.map es clk):=(kY2 _ (by first | exact (glt e_m3) | omega) (by omega)).trans e_m3
 replace kq : ∀ b,b < V.heap.size -> b ≠ ob -> Y2.heap[b]? = V.heap[b]?:=fun b hb hne=>(kY2 b (by have:=sq; omega) hne).trans (kq b hb hne)
 replace sq : V.heap.size <= Y2.heap.size /\ Y2.heap.size = Y2.heap.size:=⟨Nat.le_trans sq.1 lY2,rfl⟩
 clear kY2
 walk_nrm
 obtain ⟨K,hK,hV,key,yek⟩:=kKV (L:=Lone) (J:=fun g=>KK d g Y2) hM.mu (hM.muv hnY2)
 refine key _ ?_
 refine wA fun kk hkk=>?_
 have r_O_0:=qc 0 O rfl
 have r_O_1:=qc 1 O rfl
 have r_O_2:=qc 2 O rfl
 have r_O_3:=qc 3 O rfl
 have z_O_0:=qz 0 O
 have z_O_1:=qz 1 O
 have z_O_2:=qz 2 O
 have z_O_3:=qz 3 O
 refine yek _ ?_
 clear hK hV key yek K
 have hnY3:=norm_set hnY2 ⟨ob,3,none⟩ (.int .i64 e)
 refine mus_put (L:=Lone) (hM.mus hnY3) (K:=fun g=>KK d g Y2) (K':=fun g=>KK d g (Y2.setCell ⟨ob,3,none⟩ (.int .i64 e))) rfl (.inl rfl) rfl (by kernel_rfl) (fun τ=>?_) ?_
 . go_simp
   try rfl
 have kY3:=sc_kp Y2 ob 3 (.int .i64 e)
 have lY3:=sc_le Y2 ob 3 (.int .i64 e)
 have eY3 : (Y2.setCell ⟨ob,3,none⟩ (.int .i64 e)).heap[ob]? = some (.cells #[cv,.bool true,.int .i64 v,.int .i64 e] 201 (0,0)):=by
   rw [setCell_heap,if_pos rfl,O]
   simp
 generalize (Y2.setCell ⟨ob,3,none⟩ (.int .i64 e)) = Y3 at *
 replace O:=eY3
 clear eY3
 clear r_O_0 r_O_1 r_O_2 r_O_3 z_O_0 z_O_1 z_O_2 z_O_3
 replace e_g3:=(kY3 _ (glt e_g3) (by omega)).trans e_g3
 replace e_k3:=(kY3 _ (glt e_k3) (by omega)).trans e_k3
 replace e_m3 : Y3.heap[rb]? = some (.map es clk):=(kY3 _ (by first | exact (glt e_m3) | omega) (by omega)).trans e_m3
 replace kq : ∀ b,b < V.heap.size -> b ≠ ob -> Y3.heap[b]? = V.heap[b]?:=fun b hb hne=>(kY3 b (by have:=sq; omega) hne).trans (kq b hb hne)
 replace sq : V.heap.size <= Y3.heap.size /\ Y3.heap.size = Y3.heap.size:=⟨Nat.le_trans sq.1 lY3,rfl⟩
 clear kY3
 walk_nrm
 refine wM hM hnY3 fun kk hkk=>?_
 subst hR
 refine r69_go (gb:=gb) (rb:=rb) (kb:=b_Bk) (k:=k) (ob:=ob) (i:=i) (x1:=.pointer (some ⟨tb,0,none⟩)) (x11:=.pointer (some ⟨ob,0,none⟩)) hM hnY3 e_g3 e_m3 hm e_k3 hk (.inl rfl) ⟨⟨rfl,rfl,rfl⟩,rfl,rfl⟩ fun T' hs t1 t11=>?_
 have hn5:=setM_norm hnY3 rb (.map (es.eraseIdxIfInBounds i) clk)
 have e5:=setM_self (.map (es.eraseIdxIfInBounds i) clk) e_m3
 have o5:=(setM_get Y3 rb ob (.map (es.eraseIdxIfInBounds i) clk) hor).trans O
 have k5 : ∀ b,b < V.heap.size -> b ≠ ob -> b ≠ rb -> (setM Y3 rb (.map (es.eraseIdxIfInBounds i) clk)).heap[b]? = V.heap[b]?:=fun b hb h1 h2=>(setM_get _ _ _ _ h2).trans (kq b hb h1)
 have s5 : V.heap.size <= (setM Y3 rb (.map (es.eraseIdxIfInBounds i) clk)).heap.size:=by rw [setM_size]; exact sq.1
 generalize setM Y3 rb (.map (es.eraseIdxIfInBounds i) clk) = V5 at *
 refine (fun (hh : ∀ T : Array Value,T.size = 44 -> T[1]? = some (.pointer (some ⟨tb,0,none⟩)) -> T[11]? = some (.pointer (some ⟨ob,0,none⟩)) -> KK d (G ((base 69).at ⟨T,[]⟩ _) (bQ.at aQ (.inRegion opsQ (iQ :: restQ) :: kQ) :: cs0)) V5)=>hh T' hs t1 t11) ?_
 intro T hs t1 t11
 have hK0:=h
 have hB0:=hB
 clear h hB
 obtain ⟨f,hf,hT⟩:=array44f T hs
 rw [hT]
 simp only [hf _ _ t1,hf _ _ t11]
 clear hf hs t1 t11
 subst hT
 refine wM hM hn5 fun kk hkk=>?_
 refine hM.cl rfl rfl rfl Try.func51 rfl ?_
 walk_nrm
 refine hB0 V5 _ _ _ _ _ _ _ hn5 s5 o5 e5 k5 fun V6 hn6 q6=>?_
 walk_nrm
 refine wM hM hn6 fun kk hkk=>?_
 refine mu_leave1 (K:=fun g=>KK d g V6) hM.mu rfl rfl Try.func69 rfl ?_
 exact hK0 V5 V6 s5 o5 e5 k5 hn6 q6
end
end Go.Proofs.Ytibcdikfbhmheaa
