import Derived.Test.YtibcdikfbhmheaaQJ15
set_option linter.unusedSimpArgs false
set_option linter.unusedVariables false
set_option maxRecDepth 100000
set_option maxHeartbeats 4000000
namespace Go.Proofs.Ytibcdikfbhmheaa
open Go Go.Conc Go.Proofs
open Go.ConcN (sumTo upd sumTo_upd upd_ne upd_same)
noncomputable section
theorem anyP_twoJ {P : Program} {L : List FuncId} {V : World} {md : Region.Mode} {ops : Array Oper} {j : Nat} {X : Nat -> Array Bool -> Act -> Prop} {Q : Act -> Prop} {i : Nat} {oi : Oper} {n : Nat} {listed : Array Bool} {a : Act} (hi : ops[i]? = some oi) (hij : i ≠ j) (hr : Region.ready md ops listed = [j,i]) (hw : Region.wanted oi (yielded ops a.tmps) = true) (hok : opOk P L oi.op = true)
   (h1 : X n (listed.setIfInBounds j true) a) (h : ∀ J : ((Nat -> Question -> Nat) -> Result Next) -> Prop,(∀ v,AnyP P L md ops V j X Q n (listed.setIfInBounds i true) (a.put oi.dst v) -> J (fun τ=>.ok (.value v) (re V τ 0))) -> J (fun τ=>(execOp a.eval oi).run P (re V τ 0))) : AnyP P L md ops V j X Q (n + 1) listed a :=
 h (fun f=>(∀ τ,(execOp a.eval oi).run P (re V τ 0) = f τ) -> AnyP P L md ops V j X Q (n + 1) listed a) (fun v hv hrun=>⟨fun h=>(by rw [hr] at h; cases h),fun m hm=>by
   rw [hr] at hm
   rcases List.mem_cons.1 hm with rfl | hm
   . exact ⟨fun _=>h1,fun e=>absurd rfl e⟩
   . obtain rfl : m = i:=by simpa using hm
     exact ⟨fun e=>absurd e hij,fun _=>⟨oi,v,hi,.inl ⟨hw,hok,hrun⟩,hv⟩⟩⟩) (fun _=>rfl)
theorem lin_two {md : Region.Mode} {ops : Array Oper} {t n i i' : Nat} {listed : Array Bool} (h : Region.ready md ops listed = [i,i']) : Region.linearise.go md ops (n + 1) t listed [] = i :: Region.linearise.go md ops n (t / 2) (listed.setIfInBounds i true) [] ∨ Region.linearise.go md ops (n + 1) t listed [] = i' :: Region.linearise.go md ops n (t / 2) (listed.setIfInBounds i' true) []:=by
 have e : Region.linearise.go md ops (n + 1) t listed [] = (match (Region.ready md ops listed)[t % (Region.ready md ops listed).length]? with
     | some i=>Region.linearise.go md ops n (t / (Region.ready md ops listed).length) (listed.setIfInBounds i true) [i]
     | none=>[].reverse):=by
   simp only [Region.linearise.go]
   rfl
 rw [e,h]
 simp only [List.length_cons,List.length_nil,Nat.zero_add,Nat.reduceAdd]
 rcases Nat.mod_two_eq_zero_or_one t with h0 | h0
 . left
   rw [h0]
   simp only [List.getElem?_cons_zero]
   rw [linearise_go_acc,List.reverse_singleton,List.singleton_append]
 . right
   rw [h0]
   simp only [List.getElem?_cons_succ,List.getElem?_cons_zero]
   rw [linearise_go_acc,List.reverse_singleton,List.singleton_append]
section
variable {main : Bool} {Z : Cuts} {KK : Nat -> Goroutine -> World -> Prop} {d : Nat} {V : World} {bQ fr : Frame} {aQ : Act} {opsQ : Array Oper} {iQ : Nat} {restQ : List Nat} {kQ kt : List Item} {cs0 cs : List Frame} {gb rb clk : Nat} {es : Array MapEntry} {m : List ((Int × Int) × Nat)} {k : Int × Int} {ob i n : Nat} {vb : Option Addr} {vc : Nat} {xa xb xc : Value}
theorem size96 (hM : MarkK Try.prog main Z KK) (hn : norm V = V) (e_o : V.heap[ob]? = some (.cells #[.slice vb n vc,xa,xb,xc] 201 (0,0))) (h : KK d (G (bQ.at (aQ.put ((opsQ[iQ]?).bind (·.dst)) (.int .i64 (n : Int))) (.inRegion opsQ restQ :: kQ)) cs0) V) : KK d (G (Frame.enter Try.prog 96 #[.pointer (some ⟨ob,0,none⟩)] .normal) (bQ.at aQ (.inRegion opsQ (iQ :: restQ) :: kQ) :: cs0)) V:=by
 rw [enter_at (P:=Try.prog) _ Try.func96 rfl]
 simp only [Try.f96]
 walk_nrm
 have r_e_o_0:=qc 0 e_o rfl
 have r_e_o_1:=qc 1 e_o rfl
 have r_e_o_2:=qc 2 e_o rfl
 have r_e_o_3:=qc 3 e_o rfl
 refine wM hM hn fun kk hkk=>?_
 clear r_e_o_0 r_e_o_1 r_e_o_2 r_e_o_3
 refine mu_leave1 (K:=fun g=>KK d g V) hM.mu rfl rfl Try.func96 rfl ?_
 exact h
theorem waiting52 (hM : MarkK Try.prog main Z KK) (hn : norm V = V) (e_o : V.heap[ob]? = some (.cells #[.slice vb n vc,xa,xb,xc] 201 (0,0))) (h : KK d (G (bQ.at (aQ.put ((opsQ[iQ]?).bind (·.dst)) (.int .i64 (n : Int))) (.inRegion opsQ restQ :: kQ)) cs0) V) : KK d (G (Frame.enter Try.prog 52 #[.pointer (some ⟨ob,0,none⟩)] .normal) (bQ.at aQ (.inRegion opsQ (iQ :: restQ) :: kQ) :: cs0)) V:=by
 rw [enter_at (P:=Try.prog) _ Try.func52 rfl]
 simp only [Try.f52]
 walk_nrm
 refine wM hM hn fun kk hkk=>?_
 refine hM.cl rfl rfl rfl Try.func96 rfl ?_
 walk_nrm
 refine size96 hM hn e_o ?_
 walk_nrm
 refine wM hM hn fun kk hkk=>?_
 refine mu_leave1 (K:=fun g=>KK d g V) hM.mu rfl rfl Try.func52 rfl ?_
 exact h
theorem joined_none (hM : MarkK Try.prog main Z KK) (hn : norm V = V) (e_g : V.heap[gb]? = some (.cells #[.map (some rb)] 190 (0,0))) (e_m : V.heap[rb]? = some (.map es clk)) (hm : Mp es m) (hk : kpos k m 0 = none) (h : ∀ V2,norm V2 = V2 -> Kp V V2 -> KK d (G (bQ.at (aQ.put ((opsQ[iQ]?).bind (·.dst)) (.int .i64 0)) (.inRegion opsQ restQ :: kQ)) cs0) V2) : KK d (G (Frame.enter Try.prog 68 #[.pointer (some ⟨gb,0,none⟩),kv k] .normal) (bQ.at aQ (.inRegion opsQ (iQ :: restQ) :: kQ) :: cs0)) V:=by
 have l_g:=(Array.getElem?_eq_some_iff.1 e_g).1
 have l_m:=(Array.getElem?_eq_some_iff.1 e_m).1
 have kp : Kp V V:=⟨Nat.le_refl _,fun _ _=>rfl⟩
 simp only [kv]
 rw [enter_at (P:=Try.prog) _ Try.func68 rfl]
 simp only [Try.f68]
 walk_nrm
 refine wM hM hn fun kk hkk=>?_
 refine hM.al hn #[.int .i64 k.1,.int .i64 k.2] 139 (.pointer (some ⟨V.heap.size,0,none⟩)) rfl rfl fun W1 hnW1 kW1 l0 Bk=>?_
 have lW1 : V.heap.size < W1.heap.size:=by omega
 clear l0
 have tW1 : V.heap.size < W1.heap.size /\ V.heap.size <= V.heap.size:=⟨lW1,Nat.le_refl _⟩
 generalize hbW1 : V.heap.size = b_Bk at Bk ⊢
 have l_b_Bk : V.heap.size <= b_Bk /\ b_Bk < W1.heap.size:=by omega
 clear hbW1 tW1
 replace kp:=kp.upA (Nat.le_of_lt lW1) kW1
 clear kW1
 walk_nrm
 have r_Bk_0:=qc 0 Bk rfl
 have r_Bk_1:=qc 1 Bk rfl
 refine wM hM hnW1 fun kk hkk=>?_
 refine hM.cl rfl rfl rfl Try.func106 rfl ?_
 walk_nrm
 have e_g2:=(kp.keep _ l_g).trans e_g
 have e_m2:=(kp.keep _ l_m).trans e_m
 have hkp : kptr m k = .pointer none:=by unfold kptr; rw [hk]
 refine find_go (k:=k) hM hnW1 e_g2 e_m2 hm fun V3 hn3 k3=>?_
 rw [hkp]
 clear hkp
 have kp3:=kp.trans k3
 walk_nrm
 refine wM hM hn3 fun kk hkk=>?_
 refine mu_leave1 (K:=fun g=>KK d g V3) hM.mu rfl rfl Try.func68 rfl ?_
 exact h V3 hn3 kp3
theorem joined_on (hM : MarkK Try.prog main Z KK) (hn : norm V = V) (e_g : V.heap[gb]? = some (.cells #[.map (some rb)] 190 (0,0))) (e_m : V.heap[rb]? = some (.map es clk)) (hm : Mp es m) (hk : kpos k m 0 = some (i,ob)) (e_o : V.heap[ob]? = some (.cells #[.slice vb n vc,xa,xb,xc] 201 (0,0))) (h : ∀ V2,norm V2 = V2 -> Kp V V2 -> KK d (G (bQ.at (aQ.put ((opsQ[iQ]?).bind (·.dst)) (.int .i64 (n : Int))) (.inRegion opsQ restQ :: kQ)) cs0) V2) : KK d (G (Frame.enter Try.prog 68 #[.pointer (some ⟨gb,0,none⟩),kv k] .normal) (bQ.at aQ (.inRegion opsQ (iQ :: restQ) :: kQ) :: cs0)) V:=by
 have l_g:=(Array.getElem?_eq_some_iff.1 e_g).1
 have l_m:=(Array.getElem?_eq_some_iff.1 e_m).1
 have l_o:=(Array.getElem?_eq_some_iff.1 e_o).1
 have kp : Kp V V:=⟨Nat.le_refl _,fun _ _=>rfl⟩
 simp only [kv]
 rw [enter_at (P:=Try.prog) _ Try.func68 rfl]
 simp only [Try.f68]
 walk_nrm
 refine wM hM hn fun kk hkk=>?_
 refine hM.al hn #[.int .i64 k.1,.int .i64 k.2] 139 (.pointer (some ⟨V.heap.size,0,none⟩)) rfl rfl fun W1 hnW1 kW1 l0 Bk=>?_
 have lW1 : V.heap.size < W1.heap.size:=by omega
 clear l0
 have tW1 : V.heap.size < W1.heap.size /\ V.heap.size <= V.heap.size:=⟨lW1,Nat.le_refl _⟩
 generalize hbW1 : V.heap.size = b_Bk at Bk ⊢
 have l_b_Bk : V.heap.size <= b_Bk /\ b_Bk < W1.heap.size:=by omega
 clear hbW1 tW1
 replace kp:=kp.upA (Nat.le_of_lt lW1) kW1
 clear kW1
 walk_nrm
 have r_Bk_0:=qc 0 Bk rfl
 have r_Bk_1:=qc 1 Bk rfl
 refine wM hM hnW1 fun kk hkk=>?_
 refine hM.cl rfl rfl rfl Try.func106 rfl ?_
 walk_nrm
 have e_g2:=(kp.keep _ l_g).trans e_g
 have e_m2:=(kp.keep _ l_m).trans e_m
 have hkp : kptr m k = .pointer (some ⟨ob,0,none⟩):=by unfold kptr; rw [hk]
 refine find_go (k:=k) hM hnW1 e_g2 e_m2 hm fun V3 hn3 k3=>?_
 rw [hkp]
 clear hkp
 have kp3:=kp.trans k3
 have e_o3:=(kp3.keep _ l_o).trans e_o
 walk_nrm
 refine wM hM hn3 fun kk hkk=>?_
 refine hM.cl rfl rfl rfl Try.func52 rfl ?_
 walk_nrm
 refine waiting52 hM hn3 e_o3 ?_
 walk_nrm
 refine wM hM hn3 fun kk hkk=>?_
 refine mu_leave1 (K:=fun g=>KK d g V3) hM.mu rfl rfl Try.func68 rfl ?_
 exact h V3 hn3 kp3
end
def lR12 : Code:=nva aX12
def aX13 : Code:=nvb aX12
def lR13 : Code:=nva aX13
def lR14 : Code:=nvb aX13
def lc13o : Array Oper:=ropsO lR13
def lc14o : Array Oper:=rops lR14
theorem aX12_eq : aX12 = .seq lR12 (.seq lR13 lR14):=by kernel_rfl
section
variable {main : Bool} {Z : Cuts} {KK : Nat -> Goroutine -> World -> Prop} {d : Nat} {V : World} {kt : List Item} {cs : List Frame} {D : Jd} {bg sm wt : Int} {un tp : Value} {i : Nat} {T : Array Value} {es : Array MapEntry} {clk ix ob nw vc : Nat} {m : List ((Int × Int) × Nat)} {vb : Option Addr} {xa xb xc : Value}
theorem foQJ1653 {l : List (Nat × Value)} {T : Array Value} (hT : Fg 53 l T) {A : Prop} {B : (Nat -> Value) -> Prop} (h : ∀ f,B f) (w : Hd (∀ f,B f) -> A:=by
 intro k
 have hs:=And.left hT
 have h2:=And.right hT
 obtain ⟨f,hf,e⟩:=array53f T hs
 rw [e]
 repeat (obtain ⟨h1,h2⟩:=h2;simp only [hf _ _ h1];clear h1)
 exact k.h f) : A:=w ⟨h⟩
def PQJ160 (tp : Value) (D : Jd) : Array Value -> Prop:=Fg 53 [(0,tp),(1,.pointer (some ⟨D.r + 5,0,none⟩)),(2,.pointer (some ⟨D.r,0,none⟩)),(3,.pointer (some ⟨D.r + 4,0,none⟩)),(4,.pointer (some ⟨D.r + 6,0,none⟩)),(5,.pointer (some ⟨D.r + 8,0,none⟩)),(6,.pointer (some ⟨D.r + 9,0,none⟩)),(7,.pointer (some ⟨D.r + 1,0,none⟩))]
theorem l_r12 (hM : MarkK Try.prog main Z KK) (hn : norm V = V) (A : JM D bg sm wt un V) (hkr : D.kg < D.r) (hl1 : 1 <= D.ks.length) (hl5 : D.ks.length <= 5) (hfix : ∀ b,D.fix b -> b < V.heap.size) (e_m : V.heap[D.r + 2]? = some (.map es clk)) (hm : Mp es m) (hmb : MBn es clk) (hmd : (m.map (·.1)).Nodup) (hm1 : 1 <= m.length) (hm5 : m.length <= 5) (hk : kpos D.k0 m 0 = some (ix,ob)) (e_o : V.heap[ob]? = some (.cells #[.slice vb nw vc,xa,xb,xc] 201 (0,0))) (hT : (PQJ160 tp D) T)
   (K : ∀ T' W g c (ks : List (Int × Int)),norm W = W -> V.heap.size <= W.heap.size -> (∀ b,b < V.heap.size -> b ≠ D.r + 8 -> b ≠ D.r + 9 -> W.heap[b]? = V.heap[b]?) -> JM D bg sm (nw : Int) (.slice (some ⟨g,0,none⟩) ks.length c) W -> V.heap.size <= g -> RowK W g c ks -> ks.length = m.length -> Asc ks -> (PQJ160 tp D) T' -> KK d (G ((base 66).at ⟨T',[]⟩ (kt)) cs) W) : KK d (G ((base 66).at ⟨T,[]⟩ (.code lR12 :: kt)) cs) V:=by
 have hK0:=K
 clear K
 have q_x:=qc 0 A.x rfl
 have q_k:=qc 0 A.k rfl
 obtain ⟨c1,c2⟩:=A.ky 0 (by omega)
 simp only [Nat.zero_mul,Nat.add_zero] at c1 c2
 have q_1 : ∀ τ,(re V τ 0).cell? ⟨D.kg,D.ko,none⟩ = some (.int .i64 (kat D.ks 0).1):=fun τ=>c1
 have q_2 : ∀ τ,(re V τ 0).cell? ⟨D.kg,D.ko + 1,none⟩ = some (.int .i64 (kat D.ks 0).2):=fun τ=>c2
 clear c1 c2
 have p2 : ¬ ((D.ks.length : Int) <= 0):=by omega
 have p3 : 0 < D.ks.length:=by omega
 have lm:=(Array.getElem?_eq_some_iff.1 e_m).1
 have hrk : kv (kat D.ks 0) = kv D.k0:=rfl
 have l4 : D.r + 4 < V.heap.size:=hfix _ (.inr ⟨by omega,by omega,by omega,by omega⟩)
 have l8 : D.r + 8 < V.heap.size:=hfix _ (.inr ⟨by omega,by omega,by omega,by omega⟩)
 have l9 : D.r + 9 < V.heap.size:=hfix _ (.inr ⟨by omega,by omega,by omega,by omega⟩)
 refine foQJ1653 hT fun f=>?_
 generalize hX0 : lR12 = X0
 simp only [lR12,aX12,aX11,aX7,aX6,aX1,lwB,nva,nvb,Try.f66,Option.getD_some] at hX0
 subst hX0
 obtain ⟨K,hK,hV,key,yek⟩:=kKV (L:=Lone) (J:=fun g=>KK d g V) hM.mu (hM.muv hn)
 refine key _ ?_
 have hD : MuD Try.prog K:=fun b a k cs id ops h=>yek _ (hM.mud b a k cs id ops fun t=>key _ (h t))
 refine mu_drawM 4 hK hV hD (.inl rfl) ?_
 refine wS ?_
 refine anyQ 0 20 rfl ?_
 refine anyQ 1 20 rfl ?_
 refine anyQ 2 20 rfl ?_
 refine anyQ 3 20 rfl ?_
 refine anyP_twoJ (i:=5) rfl (by decide) (by kernel_rfl) rfl (by kernel_rfl) (fun t=>?_) (fun J hJ=>?_)
 . rw [lin_oneA (i:=5) (by kernel_rfl),lin_oneA (i:=6) (by kernel_rfl),lin_oneA (i:=7) (by kernel_rfl),lin_oneA (i:=8) (by kernel_rfl),lin_nilA]
   refine hK.cl rfl rfl rfl Try.func68 rfl ?_
   walk_nrm
   refine yek _ ?_
   clear hK hV hD key yek K
   refine joined_on (k:=D.k0) hM hn A.g e_m hm hk e_o fun V1 hn1 k1=>?_
   have A1 : JM D bg sm wt un V1:=A.keep fun b hb=>k1.keep b (hfix b hb)
   have e_m1:=(k1.keep _ lm).trans e_m
   clear q_x q_k q_1 q_2
   have q_x:=qc 0 A1.x rfl
   walk_nrm
   refine wM hM hn1 fun kk hkk=>?_
   refine hM.cl rfl rfl rfl Try.func64 rfl ?_
   walk_nrm
   refine keys_go hM hn1 A1.g e_m1 hm hmb hmd hm1 hm5 fun V2 gk c ks hn2 k2 hg hR hl hA=>?_
   have A2 : JM D bg sm wt un V2:=A1.keep fun b hb=>k2.keep b (Nat.lt_of_lt_of_le (hfix b hb) k1.size)
   have z1:=k1.size
   have z2:=k2.size
   have k12 : ∀ b,b < V.heap.size -> V2.heap[b]? = V.heap[b]?:=fun b hb=>(k2.keep b (by omega)).trans (k1.keep b hb)
   clear q_x
   walk_nrm
   refine wM hM hn2 fun kk hkk=>?_
   have z_s:=qz 0 A2.w
   have q_s:=qc 0 A2.w rfl
   have hnV3:=norm_set hn2 ⟨D.r + 8,0,none⟩ (.int .i64 (nw : Int))
   refine mus_put (L:=Lone) (hM.mus hnV3) (K:=fun g=>KK d g V2) (K':=fun g=>KK d g (V2.setCell ⟨D.r + 8,0,none⟩ (.int .i64 (nw : Int)))) rfl (.inl rfl) rfl (by kernel_rfl) (fun τ=>?_) ?_
   . go_simp
     try rfl
   have kV3 : ∀ b,b ≠ D.r + 8 -> (V2.setCell ⟨D.r + 8,0,none⟩ (.int .i64 (nw : Int))).heap[b]? = V2.heap[b]?:=fun b hb=>by rw [setCell_heap,if_neg hb]
   have sV3 : (V2.setCell ⟨D.r + 8,0,none⟩ (.int .i64 (nw : Int))).heap.size = V2.heap.size:=by simp [World.setCell]
   have A3:=A2.setw hkr (nw : Int)
   clear q_s z_s
   generalize V2.setCell ⟨D.r + 8,0,none⟩ (.int .i64 (nw : Int)) = V3 at *
   try walk_nrm
   refine wM hM hnV3 fun kk hkk=>?_
   have z_s:=qz 0 A3.u
   have q_s:=qc 0 A3.u rfl
   have hnV4:=norm_set hnV3 ⟨D.r + 9,0,none⟩ (.slice (some ⟨gk,0,none⟩) ks.length c)
   refine mus_put (L:=Lone) (hM.mus hnV4) (K:=fun g=>KK d g V3) (K':=fun g=>KK d g (V3.setCell ⟨D.r + 9,0,none⟩ (.slice (some ⟨gk,0,none⟩) ks.length c))) rfl (.inl rfl) rfl (by kernel_rfl) (fun τ=>?_) ?_
   . go_simp
     try rfl
   have kV4 : ∀ b,b ≠ D.r + 9 -> (V3.setCell ⟨D.r + 9,0,none⟩ (.slice (some ⟨gk,0,none⟩) ks.length c)).heap[b]? = V3.heap[b]?:=fun b hb=>by rw [setCell_heap,if_neg hb]
   have sV4 : (V3.setCell ⟨D.r + 9,0,none⟩ (.slice (some ⟨gk,0,none⟩) ks.length c)).heap.size = V3.heap.size:=by simp [World.setCell]
   have A4:=A3.setu hkr (.slice (some ⟨gk,0,none⟩) ks.length c)
   clear q_s z_s
   generalize V3.setCell ⟨D.r + 9,0,none⟩ (.slice (some ⟨gk,0,none⟩) ks.length c) = V4 at *
   try walk_nrm
   refine wM hM hnV4 fun kk hkk=>?_
   try subst hkk
   refine hK0 _ V4 gk c ks hnV4 (by omega) (fun b h1 h2 h3=>((kV4 b h3).trans (kV3 b h2)).trans (k12 b h1)) A4 (by omega) (hR.keep ((kV4 gk (by omega)).trans (kV3 gk (by omega)))) hl hA fgm
 . go_simp
   with_reducible refine hJ _ ?_
   clear hJ J
   walk_nrm
   refine anyP_last (by kernel_rfl) (fun t=>?_)
   rw [lin_oneA (i:=6) (by kernel_rfl),lin_oneA (i:=7) (by kernel_rfl),lin_oneA (i:=8) (by kernel_rfl),lin_nilA]
   refine hK.cl rfl rfl rfl Try.func68 rfl ?_
   walk_nrm
   refine yek _ ?_
   clear hK hV hD key yek K
   refine joined_on (k:=D.k0) hM hn A.g e_m hm hk e_o fun V1 hn1 k1=>?_
   have A1 : JM D bg sm wt un V1:=A.keep fun b hb=>k1.keep b (hfix b hb)
   have e_m1:=(k1.keep _ lm).trans e_m
   clear q_x q_k q_1 q_2
   have q_x:=qc 0 A1.x rfl
   walk_nrm
   refine wM hM hn1 fun kk hkk=>?_
   refine hM.cl rfl rfl rfl Try.func64 rfl ?_
   walk_nrm
   refine keys_go hM hn1 A1.g e_m1 hm hmb hmd hm1 hm5 fun V2 gk c ks hn2 k2 hg hR hl hA=>?_
   have A2 : JM D bg sm wt un V2:=A1.keep fun b hb=>k2.keep b (Nat.lt_of_lt_of_le (hfix b hb) k1.size)
   have z1:=k1.size
   have z2:=k2.size
   have k12 : ∀ b,b < V.heap.size -> V2.heap[b]? = V.heap[b]?:=fun b hb=>(k2.keep b (by omega)).trans (k1.keep b hb)
   clear q_x
   walk_nrm
   refine wM hM hn2 fun kk hkk=>?_
   have z_s:=qz 0 A2.w
   have q_s:=qc 0 A2.w rfl
   have hnV3:=norm_set hn2 ⟨D.r + 8,0,none⟩ (.int .i64 (nw : Int))
   refine mus_put (L:=Lone) (hM.mus hnV3) (K:=fun g=>KK d g V2) (K':=fun g=>KK d g (V2.setCell ⟨D.r + 8,0,none⟩ (.int .i64 (nw : Int)))) rfl (.inl rfl) rfl (by kernel_rfl) (fun τ=>?_) ?_
   . go_simp
     try rfl
   have kV3 : ∀ b,b ≠ D.r + 8 -> (V2.setCell ⟨D.r + 8,0,none⟩ (.int .i64 (nw : Int))).heap[b]? = V2.heap[b]?:=fun b hb=>by rw [setCell_heap,if_neg hb]
   have sV3 : (V2.setCell ⟨D.r + 8,0,none⟩ (.int .i64 (nw : Int))).heap.size = V2.heap.size:=by simp [World.setCell]
   have A3:=A2.setw hkr (nw : Int)
   clear q_s z_s
   generalize V2.setCell ⟨D.r + 8,0,none⟩ (.int .i64 (nw : Int)) = V3 at *
   try walk_nrm
   refine wM hM hnV3 fun kk hkk=>?_
   have z_s:=qz 0 A3.u
   have q_s:=qc 0 A3.u rfl
   have hnV4:=norm_set hnV3 ⟨D.r + 9,0,none⟩ (.slice (some ⟨gk,0,none⟩) ks.length c)
   refine mus_put (L:=Lone) (hM.mus hnV4) (K:=fun g=>KK d g V3) (K':=fun g=>KK d g (V3.setCell ⟨D.r + 9,0,none⟩ (.slice (some ⟨gk,0,none⟩) ks.length c))) rfl (.inl rfl) rfl (by kernel_rfl) (fun τ=>?_) ?_
   . go_simp
     try rfl
   have kV4 : ∀ b,b ≠ D.r + 9 -> (V3.setCell ⟨D.r + 9,0,none⟩ (.slice (some ⟨gk,0,none⟩) ks.length c)).heap[b]? = V3.heap[b]?:=fun b hb=>by rw [setCell_heap,if_neg hb]
   have sV4 : (V3.setCell ⟨D.r + 9,0,none⟩ (.slice (some ⟨gk,0,none⟩) ks.length c)).heap.size = V3.heap.size:=by simp [World.setCell]
   have A4:=A3.setu hkr (.slice (some ⟨gk,0,none⟩) ks.length c)
   clear q_s z_s
   generalize V3.setCell ⟨D.r + 9,0,none⟩ (.slice (some ⟨gk,0,none⟩) ks.length c) = V4 at *
   try walk_nrm
   refine wM hM hnV4 fun kk hkk=>?_
   try subst hkk
   refine hK0 _ V4 gk c ks hnV4 (by omega) (fun b h1 h2 h3=>((kV4 b h3).trans (kV3 b h2)).trans (k12 b h1)) A4 (by omega) (hR.keep ((kV4 gk (by omega)).trans (kV3 gk (by omega)))) hl hA fgm
theorem l_r13 (hM : MarkK Try.prog main Z KK) (hn : norm V = V) (A : JM D bg sm wt un V) (hl1 : 1 <= D.ks.length) (hl5 : D.ks.length <= 5) (hT : (PQJ160 tp D) T) (K : ∀ T',(PQJ160 tp D) T' -> KK d (G (Frame.enter Try.prog 69 #[.pointer (some ⟨D.r + 3,0,none⟩),tp,kv D.k0,.int .i64 D.v,.int .i64 0] .normal) ((base 66).at ⟨T',[]⟩ (.inRegion lc13o [6] :: kt) :: cs)) V) : KK d (G ((base 66).at ⟨T,[]⟩ (.code lR13 :: kt)) cs) V:=by
 have hK0:=K
 clear K
 have q_x:=qc 0 A.x rfl
 have q_k:=qc 0 A.k rfl
 obtain ⟨c1,c2⟩:=A.ky 0 (by omega)
 simp only [Nat.zero_mul,Nat.add_zero] at c1 c2
 have q_1 : ∀ τ,(re V τ 0).cell? ⟨D.kg,D.ko,none⟩ = some (.int .i64 (kat D.ks 0).1):=fun τ=>c1
 have q_2 : ∀ τ,(re V τ 0).cell? ⟨D.kg,D.ko + 1,none⟩ = some (.int .i64 (kat D.ks 0).2):=fun τ=>c2
 clear c1 c2
 have q_v:=qc 0 A.v rfl
 have p2 : ¬ ((D.ks.length : Int) <= 0):=by omega
 have p3 : 0 < D.ks.length:=by omega
 refine foQJ1653 hT fun f=>?_
 generalize hX0 : lR13 = X0
 simp only [lR13,aX13,aX12,aX11,aX7,aX6,aX1,lwB,nva,nvb,Try.f66,Option.getD_some] at hX0
 subst hX0
 obtain ⟨K,hK,hV,key,yek⟩:=kKV (L:=Lone) (J:=fun g=>KK d g V) hM.mu (hM.muv hn)
 refine key _ ?_
 have hD : MuD Try.prog K:=fun b a k cs id ops h=>yek _ (hM.mud b a k cs id ops fun t=>key _ (h t))
 refine mu_drawM 6 hK hV hD (.inl rfl) ?_
 refine wS ?_
 refine anyQ 0 20 rfl ?_
 refine anyQ 1 20 rfl ?_
 refine anyQ 2 20 rfl ?_
 refine anyQ 3 20 rfl ?_
 refine anyQ 4 20 rfl ?_
 refine anyQ 5 20 rfl ?_
 refine anyP_last (by kernel_rfl) (fun t=>?_)
 rw [lin_nilA]
 refine hK.cl rfl rfl rfl Try.func69 rfl ?_
 walk_nrm
 refine yek _ ?_
 clear hK hV hD key yek K
 exact hK0 _ fgm
theorem l_r14 (hM : MarkK Try.prog main Z KK) (hn : norm V = V) (hT : (PQJ160 tp D) T) (K : ∀ T',KK d (G (Frame.enter Try.prog 46 #[.pointer (some ⟨D.r + 5,0,none⟩),tp] .normal) ((base 66).at ⟨T',[]⟩ (.inRegion lc14o [1] :: kt) :: cs)) V) : KK d (G ((base 66).at ⟨T,[]⟩ (.code lR14 :: kt)) cs) V:=by
 have hK0:=K
 clear K
 refine foQJ1653 hT fun f=>?_
 generalize hX0 : lR14 = X0
 simp only [lR14,aX13,aX12,aX11,aX7,aX6,aX1,lwB,nvb,Try.f66,Option.getD_some] at hX0
 subst hX0
 refine wM hM hn fun kk hkk=>?_
 try subst hkk
 refine hM.cl rfl rfl rfl Try.func46 rfl ?_
 walk_nrm
 exact hK0 _
end
theorem qu_off {w : World} {e e' : TypeId} {sz n : Nat} {v : Value} {q : List Value} {b : Nat} {cur : Array Value} (h : Qu w e sz v n q) (hc : w.heap[b]? = some (.cells cur e' (0,0))) (hne : e ≠ e') : v.ownBlock ≠ some b:=fun hb=>by
 obtain ⟨_,⟨rfl,_⟩ | ⟨g,o,c,cur',rfl,hg,_⟩⟩:=h
 . cases hb
 . obtain rfl : g = b:=by simpa [Value.ownBlock] using hb
   rw [hg] at hc
   have:=Option.some.inj hc
   injection this with _ h2 _
   exact hne h2
theorem rowk_qu {w : World} {g c n sz : Nat} {e : TypeId} {v : Value} {q : List Value} {ks : List (Int × Int)} (h : RowK w g c ks) (hq : Qu w e sz v n q) (hne : e ≠ 139) : v.ownBlock ≠ some g:=by
 obtain ⟨cur',h1,_⟩:=h.block
 exact qu_off hq h1 hne
theorem un_hdo (q : List Nat) : unOw q = hdo q:=by cases q <;> rfl
theorem st_un {s s' : Js} {i : Nat} {q : List Nat} {f : Nat -> Nat} (hq : ∀ x ∈ q,1 <= x /\ x ≠ i /\ (s.j x = 4 ∨ s.j x = 5)) (hf : ∀ x,x ≠ i -> f x = s.j x) (hj : s'.j = hdj f q) (hp : i ≠ 0 -> s'.p = s.p) : ∀ j,unSt (upd (Js.st s) i 1) q j = upd (Js.st s') i 1 j:=fun j=>by
 cases q with
 | nil =>
   show upd (Js.st s) i 1 j = _
   by_cases e : j = i
   . subst e; rw [upd_same,upd_same]
   . rw [upd_ne _ _ e,upd_ne _ _ e]
     unfold Js.st
     by_cases h0 : j = 0
     . rw [if_pos h0,if_pos h0,hp (by omega)]
     . rw [if_neg h0,if_neg h0,hj]
       show _ = Js.stj (f j)
       rw [hf j e]
 | cons x q =>
   obtain ⟨x1,x2,x3⟩:=hq x (List.mem_cons_self ..)
   have e2 : upd (Js.st s) i 1 x = 2:=by
     rw [upd_ne _ _ x2]
     unfold Js.st
     rw [if_neg (by omega)]
     rcases x3 with h | h <;> rw [h] <;> rfl
   show wk (upd (Js.st s) i 1) x j = _
   unfold wk
   rw [if_pos e2]
   by_cases e : j = i
   . subst e
     rw [upd_ne _ _ (fun e=>x2 e.symm),upd_same,upd_same]
   . rw [upd_ne (Js.st s') (1 : Int) e]
     by_cases ex : j = x
     . subst ex
       rw [upd_same]
       unfold Js.st
       rw [if_neg (by omega),hj]
       show 1 = Js.stj (upd f j (jwk (f j)) j)
       rw [upd_same,hf j e,stj_jwk x3]
     . rw [upd_ne _ _ ex,upd_ne _ _ e]
       unfold Js.st
       by_cases h0 : j = 0
       . rw [if_pos h0,if_pos h0,hp (by omega)]
       . rw [if_neg h0,if_neg h0,hj]
         show _ = Js.stj (upd f x (jwk (f x)) j)
         rw [upd_ne _ _ ex,hf j e]
theorem Jn.far2 {E : Env} {C : Cw} {D : Jd} {s : Js} {i : Nat} {own : Nat -> Prop} {V W : World} (t : Jn E C D s i own V) (h : Gk C own V W) : ∀ b,gOw own V W b -> ¬ C.has b:=fun b hb hc=>by
 rcases hb with hb | hb
 . exact t.far b hb hc
 . have:=has_lt t.H t.L (by have:=t.hin; omega) b hc
   omega
section
variable {D : Jd} {C : Cw} {E : Env} {s : Js} {i : Nat} {own : Nat -> Prop} {V : World} {T : Array Value} {aY : Act} {opsY : Array Oper} {iY : Nat} {restY : List Nat} {kY : List Item} {b : Frame} {a : Act} {ops : Array Oper} {j : Nat} {rest : List Nat} {k : List Item}
theorem jl42 (t : Jn E C D s 0 own V) (hp : s.p = 42) (hT : AF D (C.tp 0) T) {jj : Nat} (hfr : LkY (D.r + 5) 0 (C.tp 0) (b.at a (.inRegion ops (jj :: rest) :: k))) : WillM Try.prog false E.Z (TEndM C (Ufj D C) s 0 own V ((baseD 141).at aY (.inRegion opsY (iY :: restY) :: kY))) 0 (G (b.at (a.put ((ops[jj]?).bind (·.dst)) (.tuple #[])) (.inRegion ops rest :: k)) [(base 66).at ⟨T,[]⟩ [.inRegion ac11 [1],.code aX12],((baseD 141).at aY (.inRegion opsY (iY :: restY) :: kY)),rootF]) V:=by
 intro KK hM hS
 have hn7:=t.n7
 have hin:=t.hin
 obtain ⟨qv,M,hqr⟩:=t.I.mu
 obtain ⟨ho,hlt,hr5,hr9,hkr,hl1,hl5⟩:=t.owz
 obtain ⟨un,A,-⟩:=t.I.jm
 obtain ⟨es,clk,mm,y0,hm,hmb,hmk,hmo⟩:=t.I.mp
 obtain ⟨ob,m',cv,em,oob,gob,yo,hQ,hcv⟩:=hmo ⟨by omega,by omega⟩
 have ho0:=t.I.ok.o0 (by omega)
 have hq0:=t.I.ok.q0 ho0
 rw [ho0,hq0] at M
 obtain ⟨vb,vc,rfl⟩:=M.qu.sl
 refine hM.walk _ _ _ (lock_back (C:=C) (i:=0) (mo:=0) (ow:=0) t.hn hin (by omega) t.H t.L M.c0 M.z0 M.c1 M.z1 M.qu (by simp) M.qmb (t.far _ M.mown) (fun b hb=>t.far b (M.qown b hb)) (by omega) (fun _=>.stop ?_) (fun h=>absurd ⟨rfl,rfl⟩ h) hfr)
 have M1:=M.take (0 + 1)
 have k1 : ∀ b,b ≠ D.r + 5 -> (V.setCell ⟨D.r + 5,0 + 1,none⟩ (.int .i64 (0 + 1 : Nat))).heap[b]? = V.heap[b]?:=fun b hb=>set_off _ _ hb
 have s1 : (V.setCell ⟨D.r + 5,0 + 1,none⟩ (.int .i64 (0 + 1 : Nat))).heap.size = V.heap.size:=by simp [World.setCell]
 have hn1:=norm_set t.hn ⟨D.r + 5,0 + 1,none⟩ (.int .i64 (0 + 1 : Nat))
 generalize V.setCell ⟨D.r + 5,0 + 1,none⟩ (.int .i64 (0 + 1 : Nat)) = V1 at *
 have hturn : s.turn 0 = { s with p:=43,t:=(s.w.length : Int),q:=s.w.tail,w:=[],o:=hdo s.w,j:=hdj s.j s.w }:=by
   unfold Js.turn
   rw [if_pos rfl,if_pos hp]
   unfold Js.hand
   simp only [hq0,List.nil_append]
 obtain ⟨wb,wc,rfl⟩:=hQ.sl
 have hkk : jkeys D s.p = ded D.ks:=by
   unfold jkeys
   rw [if_neg (by omega),if_pos (by omega)]
 rw [hkk] at hmk
 have hmd : (mm.map (·.1)).Nodup:=by rw [hmk]; exact ded_nodup _
 have hml : mm.length = (ded D.ks).length:=by rw [← hmk,List.length_map]
 have hm1 : 1 <= mm.length:=by rw [em]; simp
 have hm5 : mm.length <= 5:=by have:=ded_len D.ks; omega
 have ek : kpos D.k0 mm 0 = some (0,ob):=by rw [em]; simp [kpos]
 have lob:=t.lt _ oob
 have hqob : (Value.slice vb ([] : List Nat).length vc).ownBlock ≠ some ob:=qu_off M.qu yo (by decide)
 have hcob : (Value.slice wb s.w.length wc).ownBlock ≠ some ob:=qu_off hQ yo (by decide)
 have hwx : ∀ x ∈ s.w,1 <= x /\ x < C.n /\ s.j x = 4:=t.I.ok.wj
 have hwl:=nd_len C.n s.w t.I.ok.wd fun x hx=>(hwx x hx).2.1
 have A1 : JM D (bgn D s.p) (jsm D s.a s.z) s.t un V1:=A.keep fun b hb=>k1 b (by rcases hb with rfl | hb <;> omega)
 have yo1:=(k1 ob (by omega)).trans yo
 have y01:=(k1 (D.r + 2) (by omega)).trans y0
 have hd : ((ac11[1]?).bind (·.dst)) = some 36:=by kernel_rfl
 rw [hd]
 refine mu_region_end (K:=fun g=>KK 0 g V1) hM.mu ?_
 rw [aX12_eq]
 refine mu_seq hM.mu ?_
 refine l_r12 (nw:=s.w.length) hM hn1 A1 hkr hl1 hl5 (fun b hb=>by rw [s1]; exact t.lt b (t.I.fo b hb)) y01 hm hmb hmd hm1 hm5 ek yo1 (hT.put (by omega)).fg fun T2 W g c ks hnW sW kW AW hg hR hl hA hT2=>?_
 refine mu_seq hM.mu ?_
 refine l_r13 hM hnW AW hl1 hl5 hT2 fun T3 hT3=>?_
 have yoW:=(kW ob (by omega) (by omega) (by omega)).trans yo1
 have y0W:=(kW (D.r + 2) (by omega) (by omega) (by omega)).trans y01
 have MW:=M1.keep2 (kW _ (by omega) (by omega) (by omega)) (fun b hb=>kW b (M1.qu.at_ hb) (by have:=hqr b hb; omega) (by have:=hqr b hb; omega))
 have kVW : ∀ b,b < V.heap.size -> b ≠ D.r + 5 -> b ≠ D.r + 8 -> b ≠ D.r + 9 -> W.heap[b]? = V.heap[b]?:=fun b h1 h2 h3 h4=>(kW b (by omega) h3 h4).trans (k1 b h2)
 refine end_on (k:=D.k0) (i:=0) (ob:=ob) hM hnW AW.g y0W hm ek (by omega) yoW (by omega) (by omega) (fun V5 V6=>∃ qv6 cv6,BcI V5 (.slice vb ([] : List Nat).length vc) (.slice wb s.w.length wc) (.bool true) (.int .i64 D.v) (.int .i64 0) (D.r + 5) ob 1 s.w qv6 [] cv6 V6) (fun V5 bY aY opsY iY restY kY cs1 hn5 s5 x5 m5 k5 hK=>?_) fun V5 V6 s5 x5 m5 k5 hn6 ⟨qv6,cv6,B⟩=>?_
 . have M5:=MW.keep2 (k5 _ (by omega) (by omega) (by omega)) (fun b hb=>k5 b (MW.qu.at_ hb) (fun e=>hqob (e ▸ hb)) (by have:=hqr b hb; omega))
   have hcu : Qu V5 183 2 (.slice wb s.w.length wc) s.w.length (wts (D.r + 5) s.w):=hQ.keep fun b hb=>by
     obtain ⟨h1,h2⟩:=hcv b hb
     have h3:=t.lt b h1
     exact (k5 b (by omega) (fun e=>hcob (e ▸ hb)) (by omega)).trans (kVW b h3 (by omega) (by omega) (by omega))
   refine hM.walk _ _ _ (will_bc (ow:=1) (q:=[]) (cq:=s.w) (mb:=D.r + 5) hn5 (by omega) ⟨M5.c0,M5.z0,M5.c1,M5.z1,M5.qu,cell_of (k:=0) x5 (by simp),by simp [World.frozen?,x5],hcu,by omega,M.qmb,hqob,fun e=>by have:=(hcv _ e).2; omega,hcob,Nat.le_refl _,fun _ _ _ _ _=>rfl,.inl rfl,rfl,x5⟩ (fun x hx=>by have:=(hwx x hx).2.1; omega) (by show 0 + s.w.length < _; omega) fun V6 qv6 cv6 hn6 B=>.stop (hK V6 hn6 ⟨qv6,cv6,by rw [List.nil_append] at B; exact B⟩))
 have s6:=B.sz
 have hqV : ∀ b,(Value.slice vb ([] : List Nat).length vc).ownBlock = some b -> own b /\ b < V.heap.size:=fun b hb=>⟨M.qown b hb,M.qu.at_ hb⟩
 have hbk : ∀ b,b < V5.heap.size -> b ≠ D.r + 5 -> b ≠ ob -> (Value.slice vb ([] : List Nat).length vc).ownBlock ≠ some b -> V6.heap[b]? = V5.heap[b]?:=fun b h1 h2 h3 h4=>B.keep b h1 h2 h3 h4
 have hfq : ∀ b,b <= D.r + 9 -> (Value.slice vb ([] : List Nat).length vc).ownBlock ≠ some b:=fun b h1 h2=>by have:=hqr b h2; omega
 have A6 : JM D (bgn D s.p) (jsm D s.a s.z) (s.w.length : Int) (.slice (some ⟨g,0,none⟩) ks.length c) V6:=AW.keep fun b hb=>by
   have h1:=t.lt b (t.I.fo b hb)
   rcases hb with rfl | hb
   . exact (hbk _ (by omega) (by omega) (by omega) (hfq _ (by omega))).trans (k5 _ (by omega) (by omega) (by omega))
   . exact (hbk b (by omega) (by omega) (by omega) (hfq _ (by omega))).trans (k5 b (by omega) (by omega) (by omega))
 have y06:=(hbk (D.r + 2) (by omega) (by omega) (by omega) (hfq _ (by omega))).trans m5
 have yo6:=B.ec
 have hgl:=hR.lt
 have R6 : RowK V6 g c ks:=hR.keep ((hbk g (by omega) (by omega) (by omega) (fun e=>by have:=(hqV g e).2; omega)).trans (k5 g (by omega) (by omega) (by omega)))
 have kV6 : ∀ b,b < V.heap.size -> b ≠ D.r + 5 -> b ≠ D.r + 8 -> b ≠ D.r + 9 -> b ≠ D.r + 2 -> b ≠ ob -> (Value.slice vb ([] : List Nat).length vc).ownBlock ≠ some b -> V6.heap[b]? = V.heap[b]?:=fun b h1 h2 h3 h4 h5 h6 h7=>((hbk b (by omega) h2 h6 h7).trans (k5 b (by omega) h6 h5)).trans (kVW b h1 h2 h3 h4)
 have sz6 : V.heap.size <= V6.heap.size:=by omega
 have K6 : Gk C own V V6:=⟨hn6,sz6,fun b h1 h2=>kV6 b h1 (fun e=>h2 (e ▸ hr5)) (fun e=>h2 (e ▸ ho 8 (by omega))) (fun e=>h2 (e ▸ ho 9 (by omega))) (fun e=>h2 (e ▸ ho 2 (by omega))) (fun e=>h2 (e ▸ oob)) (fun e=>h2 (hqV b e).1)⟩
 have hq6 : ∀ b,qv6.ownBlock = some b -> (own b /\ D.r + 9 < b) ∨ V.heap.size <= b:=fun b hb=>by
   rcases B.qo with h | ⟨b',h,hge⟩
   . rw [h] at hb
     exact .inl ⟨(hqV b hb).1,hqr b hb⟩
   . rw [h] at hb
     obtain rfl:=Option.some.inj hb
     exact .inr (by omega)
 have M6 : MuI V6 (gOw own V V6) (D.r + 5) 0 1 s.w qv6:=⟨B.c0,B.z0,B.c1,B.z1,B.qu,fun b hb=>(hq6 b hb).imp (·.1) fun h=>⟨h,B.qu.at_ hb⟩,B.qm,.inl hr5⟩
 have hd3 : ((lc13o[6]?).bind (·.dst)) = some 50:=by kernel_rfl
 rw [hd3]
 refine mu_region_end (K:=fun g=>KK 0 g V6) hM.mu ?_
 refine l_r14 hM hn6 ((af_of hT3).put (by omega)).fg fun T4=>?_
 have kh : ∀ b,C.has b -> V6.heap[b]? = V.heap[b]?:=t.has K6
 refine hM.walk _ _ _ (will_unlock (C:=C) (i:=0) (mo:=0) (q:=s.w) hn6 t.hO.tbi (fun a ha=>t.hO.cbt ha) hin (by omega) (t.H.off kh) (t.L.off kh) M6 (fun x hx=>(hwx x hx).2.1) (t.far2 K6) fun V7 qv7 U=>.stop ?_)
 rw [Frame.finish_at]
 have hd4 : ((lc14o[1]?).bind (·.dst)) = some 52:=by kernel_rfl
 rw [hd4]
 refine mu_region_end (K:=fun g=>KK 0 g V7) hM.mu ?_
 refine mu_end (K:=fun g=>KK 0 g V7) hM.mu ?_
 refine mu_leave0 (K:=fun g=>KK 0 g V7) hM.mu rfl rfl Try.func66 rfl ?_
 have ku : ∀ b,own b -> b ≠ D.r + 5 -> V7.heap[b]? = V6.heap[b]?:=fun b hb hne=>U.keep b hne (t.tb hb)
 have su : V.heap.size <= V7.heap.size:=by rw [U.sz]; exact sz6
 have hgw : ∀ b,gOw own V V6 b -> gOw own V V7 b:=fun b h=>h.imp id fun h=>⟨h.1,by rw [U.sz]; exact h.2⟩
 have hgtb : ∀ j,j < C.n -> g ≠ C.tb j:=fun j hj e=>by
   have:=has_lt t.H t.L (by omega) _ (.inr (.inr ⟨j,hj,rfl⟩) : C.has (C.tb j))
   omega
 refine hS _ _ (jt U.nrm su (fun b h1 h2 h3=>(U.keep b (fun e=>h2 (e ▸ hr5)) h3).trans (K6.keep b h1 h2)) t.lt (U.cw.congr fun j _=>?_) ?_ (fun cs hc=>?_) ?_)
 . rw [hturn]
   exact st_un (s:=s) (f:=s.j) (fun x hx=>⟨(hwx x hx).1,by have:=(hwx x hx).1; omega,.inl (hwx x hx).2.2⟩) (fun x _=>rfl) rfl (fun h=>absurd rfl h) j
 . rw [hturn]
   refine ⟨?_,fun b h1 h2=>.inl (t.I.ow b h1 h2),.inl t.I.ok2,hkr,hl1,hl5,⟨_,?_,fun _=>⟨g,c,ks,rfl,.inr ⟨by omega,by rw [U.sz]; omega⟩,by omega,R6.keep (U.keep g (by omega) hgtb),by omega,hA⟩⟩,⟨qv7,?_,fun b hb=>?_⟩,?_⟩
   . have h:=t.I.ok.end_ hp
     rw [hturn] at h
     exact h
   . have eb : bgn D 43 = bgn D s.p:=by
       unfold bgn
       rw [if_neg (by omega),if_neg (by omega)]
     show JM D (bgn D 43) (jsm D s.a s.z) (s.w.length : Int) _ V7
     rw [eb]
     exact A6.keep fun b hb=>ku b (t.I.fo b hb) (by rcases hb with rfl | hb <;> omega)
   . show MuI V7 _ (D.r + 5) 0 (hdo s.w) s.w.tail qv7
     rw [← un_hdo]
     exact U.mu.grow fun b hb _=>hgw b hb
   . rcases hq6 b (U.qo.symm.trans hb) with h | h
     . exact h.2
     . omega
   . refine ⟨_,_,_,(ku _ (ho 2 (by omega)) (by omega)).trans y06,hm.erase 0,hmb.erase 0,?_,fun h=>absurd h.2 (by show ¬ (43 : Nat) <= 42; omega)⟩
     show _ = jkeys D 43
     unfold jkeys
     rw [if_neg (by omega),if_neg (by omega),← hmk,em]
     rfl
 . intro f hf ob' tp mp hjn
   obtain ⟨h1,h2,h3,h4⟩:=hc f hf ob' tp mp hjn
   refine ⟨.inl h1,.inl h2,h3,.inr ?_⟩
   rcases h4 with ⟨es',clk',m2,h5,h6⟩ | ⟨cv',h5⟩
   . rw [y0] at h5
     obtain ⟨rfl,rfl⟩ : es = es' /\ clk = clk':=by have:=Option.some.inj h5; injection this with a b; exact ⟨a,b⟩
     have e:=hm.inj h6
     rw [em] at e
     injection e with e _
     injection e with _ e
     subst e
     exact ⟨_,(ku _ oob (by omega)).trans yo6⟩
   . have hne : ob' ≠ ob:=fun e=>by
       rw [e,yo] at h5
       simp at h5
     exact ⟨cv',((ku ob' h1 (by omega)).trans (kV6 ob' (t.lt _ h1) (by omega) (by omega) (by omega) (by omega) hne (qu_off M.qu h5 (by decide)))).trans h5⟩
 . rw [hturn]; rfl
end
end
end Go.Proofs.Ytibcdikfbhmheaa
