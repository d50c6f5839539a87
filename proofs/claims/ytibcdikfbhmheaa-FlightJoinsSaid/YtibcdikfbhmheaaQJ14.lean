import Derived.Test.YtibcdikfbhmheaaQJ13
import Derived.Test.YtibcdikfbhmheaaQJ11
import Derived.Test.YtibcdikfbhmheaaQJ12
set_option linter.unusedSimpArgs false
set_option linter.unusedVariables false
set_option maxRecDepth 100000
set_option maxHeartbeats 4000000
namespace Go.Proofs.Ytibcdikfbhmheaa
open Go Go.Conc Go.Proofs
open Go.ConcN (sumTo upd sumTo_upd upd_ne upd_same)
noncomputable section
theorem array17f (T : Array Value) (h : T.size = 17) : ∃ f : Nat -> Value,(∀ i v,T[i]? = some v -> f i = v) /\ T = #[f 0,f 1,f 2,f 3,f 4,f 5,f 6,f 7,f 8,f 9,f 10,f 11,f 12,f 13,f 14,f 15,f 16]:=arrg T h
section
variable {r : Nat} {C : Cw} {E : Env} {s : Gs} {own : Nat -> Prop} {V : World} {T : Array Value} {aY : Act} {opsY : Array Oper} {iY : Nat} {restY : List Nat} {kY : List Item} {b : Frame} {a : Act} {ops : Array Oper} {j : Nat} {rest : List Nat} {k : List Item}
theorem join0 (t : Gn E C r s 1 own V) (hj0 : s.j = 0) : WillM Try.prog false E.Z (TEndM C (Ufl r C) s 1 own V ((baseD 141).at aY (.inRegion opsY (iY :: restY) :: kY))) 0 (G (Frame.enter Try.prog 101 #[C.tp 1,.pointer (some ⟨(r + 3),0,none⟩),.pointer (some ⟨(r + 2),0,none⟩),.pointer (some ⟨(r + 4),0,none⟩),.pointer (some ⟨(r + 5),0,none⟩)] .normal) [((baseD 141).at aY (.inRegion opsY (iY :: restY) :: kY)),rootF]) V:=by
 intro KK hM hS
 have hn2:=t.n2
 obtain ⟨hp6,hj4,hj2,hj3,hg⟩:=t.I.ok
 have y2:=t.I.x
 have y1:=t.I.gg
 have y4:=t.I.kk
 have y5:=t.I.v
 have y6:=t.I.f
 have y7:=t.I.se
 obtain ⟨o0,o1,o2,o3,o4,o5,o6,o7⟩:=t.os
 obtain ⟨l0,l1,l2,l3,l4,l5,l6,l7⟩:=t.ls
 obtain ⟨qv,M,hqv,hqr⟩:=t.I.mu
 rw [if_neg (by omega)] at M
 have hturn : s.turn 1 = { s with j:=1 }:=by unfold Gs.turn; rw [if_neg (by omega),if_neg (by omega),if_neg (by omega),hj0]
 rw [enter_at (P:=Try.prog) _ Try.func101 rfl]
 simp only [Try.f101,Cw.tp]
 walk_nrm
 refine wM hM t.hn fun kk hkk=>?_
 try subst hkk
 refine hM.cl rfl rfl rfl Try.func45 rfl ?_
 walk_nrm
 refine hM.walk _ _ _ (lock_in (C:=C) (i:=1) (mo:=0) (ow:=0) t.hn (by omega) (by omega) t.H M.c1 (by omega) fun f hf=>.stop ?_)
 refine hS _ _ (gy (fr:=f) (cs:=[_]) t.hn (Nat.le_refl _) (fun _ _ _ _=>rfl) t.lt (t.H.congr fun j hjl=>?_) ?_ (GMem.still rfl fun _ _ _ _ _=>rfl) ?_ ?_ ?_)
 . rw [hturn]
   have hj01 : j = 0 ∨ j = 1:=by omega
   rcases hj01 with rfl | rfl
   . rw [upd_ne _ _ (by omega),upd_ne _ _ (by omega)]; rfl
   . rw [upd_same,upd_same]
 . rw [hturn]
   have e0 : gOw own V V = own:=by funext b; exact propext ⟨fun h=>h.elim id fun h=>by omega,.inl⟩
   rw [e0]
   refine ⟨⟨hp6,by show 1 <= 4; omega,fun h=>by have : (1 : Nat) = 2:=h; omega,fun h=>by have : (1 : Nat) = 3:=h; omega,fun _=>hg (by omega)⟩,t.I.ow,y2,y1,y4,y5,y6,y7,⟨qv,by rw [if_neg (show ¬ (1 : Nat) = 3 by omega)]; exact M,hqv,hqr⟩,t.I.mp0,fun h=>?_⟩
   obtain ⟨es,clk,ob,cv,h1,h2,h3,h4,h5,h6,h7⟩:=t.I.mp1 h
   exact ⟨es,clk,ob,cv,h1,h2,h3,h4,h5,fun h=>by (have : (1 : Nat) = 2:=h); omega,fun _=>h7 (by omega)⟩
 . rw [hturn]; rfl
 . rw [hturn]
   exact ⟨fun h=>by omega,fun _=>⟨rfl,fun _=>⟨f,_,hf,⟨rfl,rfl,rfl,rfl,rfl,rfl⟩,rfl⟩,(fun h=>by rcases h with h | h <;> cases h),by show 1 <= 1; omega,by show 1 <= 3; omega⟩⟩
 . exact GMem.none fun g hg=>by
     rcases List.mem_cons.1 hg with rfl | hg
     . exact lky_fn hf
     . obtain rfl : g = _:=by simpa using hg
       exact fun e=>by cases e
theorem join1n (t : Gn E C r s 1 own V) (hj1 : s.j = 1) (hpn : ¬ (2 <= s.p /\ s.p <= 5)) (hT : IF1 r (C.tp 1) T) {jj : Nat} (hfr : LkY (r + 3) 0 (C.tp 1) (b.at a (.inRegion ops (jj :: rest) :: k))) : WillM Try.prog false E.Z (TEndM C (Ufl r C) s 1 own V ((baseD 141).at aY (.inRegion opsY (iY :: restY) :: kY))) 0 (G (b.at (a.put ((ops[jj]?).bind (·.dst)) (.tuple #[])) (.inRegion ops rest :: k)) [(base 101).at ⟨T,[]⟩ [.inRegion ic0 [1],.code iX1],((baseD 141).at aY (.inRegion opsY (iY :: restY) :: kY)),rootF]) V:=by
 intro KK hM hS
 have hn2:=t.n2
 obtain ⟨hp6,hj4,hj2,hj3,hg⟩:=t.I.ok
 have y2:=t.I.x
 have y1:=t.I.gg
 have y4:=t.I.kk
 have y5:=t.I.v
 have y6:=t.I.f
 have y7:=t.I.se
 obtain ⟨o0,o1,o2,o3,o4,o5,o6,o7⟩:=t.os
 obtain ⟨l0,l1,l2,l3,l4,l5,l6,l7⟩:=t.ls
 obtain ⟨qv,M,hqv,hqr⟩:=t.I.mu
 have hturn : s.turn 1 = { s with j:=4 }:=by unfold Gs.turn; rw [if_neg (by omega),if_pos hj1,if_neg hpn]
 obtain ⟨es,clk,y0,hm⟩:=t.I.mp0 hpn
 have y00:=y0
 rw [hg (by omega),if_neg (by simp)] at y5
 have sz : V.heap.size <= V.heap.size:=Nat.le_refl _
 have kz : ∀ b,b < V.heap.size -> ¬ (r <= b /\ b <= r + 7) -> V.heap[b]? = V.heap[b]?:=fun _ _ _=>rfl
 rw [if_neg (by omega)] at M
 obtain ⟨vb,vc,rfl⟩:=M.qu.sl
 refine hM.walk _ _ _ (lock_back (C:=C) (i:=1) (mo:=0) (ow:=0) t.hn (by omega) (by omega) t.H t.L M.c0 M.z0 M.c1 M.z1 M.qu (by simp) M.qmb (t.far _ M.mown) (fun b hb=>t.far b (M.qown b hb)) (by omega) (fun _=>.stop ?_) (fun h=>absurd ⟨rfl,rfl⟩ h) hfr)
 have M1:=M.take (1 + 1)
 have k1 : ∀ b,b ≠ r + 3 -> (V.setCell ⟨r + 3,0 + 1,none⟩ (.int .i64 (1 + 1 : Nat))).heap[b]? = V.heap[b]?:=fun b hb=>set_off _ _ hb
 have s1 : (V.setCell ⟨r + 3,0 + 1,none⟩ (.int .i64 (1 + 1 : Nat))).heap.size = V.heap.size:=by simp [World.setCell]
 have hn1:=norm_set t.hn ⟨r + 3,0 + 1,none⟩ (.int .i64 (1 + 1 : Nat))
 generalize V.setCell ⟨r + 3,0 + 1,none⟩ (.int .i64 (1 + 1 : Nat)) = V1 at *
 replace y0:=(k1 _ (by omega)).trans y0
 replace y1:=(k1 _ (by omega)).trans y1
 replace y2:=(k1 _ (by omega)).trans y2
 replace y4:=(k1 _ (by omega)).trans y4
 replace y5:=(k1 _ (by omega)).trans y5
 replace y6:=(k1 _ (by omega)).trans y6
 replace y7:=(k1 _ (by omega)).trans y7
 replace M:=M1
 replace kz : ∀ b,b < V.heap.size -> ¬ (r <= b /\ b <= r + 7) -> V1.heap[b]? = V.heap[b]?:=fun b h1 h2=>(k1 b (by omega)).trans (kz b h1 h2)
 replace sz : V.heap.size <= V1.heap.size:=by omega
 obtain ⟨hs,t0,t1,t2,t3,t4⟩:=hT
 obtain ⟨f,hf,hT⟩:=array17f T hs
 rw [hT]
 simp only [hf _ _ t0,hf _ _ t1,hf _ _ t2,hf _ _ t3,hf _ _ t4]
 clear hf hs t0 t1 t2 t3 t4
 subst hT
 refine (fun (h : ∀ X Y,X = ic0 -> Y = iX1 -> KK 0 (G ((base 101).at (Act.put ⟨_,[]⟩ ((X[1]?).bind (·.dst)) (.int .i64 0)) [.inRegion X [],.code Y]) [((baseD 141).at aY (.inRegion opsY (iY :: restY) :: kY)),rootF]) V1)=>h ic0 iX1 rfl rfl) ?_
 intro X Y hX hY
 simp only [ic0,iX1,iB,rops,nva,nvb,Try.f101,Option.getD_some] at hX hY
 subst hX hY
 simp only [Cw.tp]
 walk_nrm
 have q_2_0:=qc 0 y2 rfl
 have q_4_0:=qc 0 y4 rfl
 have q_4_1:=qc 1 y4 rfl
 refine wM hM hn1 fun kk hkk=>?_
 refine hM.cl rfl rfl rfl Try.func71 rfl ?_
 walk_nrm
 clear q_2_0 q_4_0 q_4_1
 refine join_none (k:=k8) hM hn1 y1 y0 hm rfl fun V2 hn2 k2=>?_
 have s2:=k2.size
 replace y0:=(k2.keep _ (by omega)).trans y0
 replace y1:=(k2.keep _ (by omega)).trans y1
 replace y2:=(k2.keep _ (by omega)).trans y2
 replace y4:=(k2.keep _ (by omega)).trans y4
 replace y5:=(k2.keep _ (by omega)).trans y5
 replace y6:=(k2.keep _ (by omega)).trans y6
 replace y7:=(k2.keep _ (by omega)).trans y7
 replace M:=M.keep2 (k2.keep _ (by omega)) (fun b hb=>k2.keep b (M.qu.at_ hb))
 replace kz : ∀ b,b < V.heap.size -> ¬ (r <= b /\ b <= r + 7) -> V2.heap[b]? = V.heap[b]?:=fun b h1 h2=>(k2.keep b (by omega)).trans (kz b h1 h2)
 replace sz : V.heap.size <= V2.heap.size:=by omega
 walk_nrm
 refine wM hM hn2 fun kk hkk=>?_
 have q_s:=qc 0 y5 rfl
 have z_s:=qz 0 y5
 have hnX1:=norm_set hn2 ⟨r + 5,0,none⟩ (.int .i64 0)
 refine mus_put (L:=Lone) (hM.mus hnX1) (K:=fun g=>KK 0 g V2) (K':=fun g=>KK 0 g (V2.setCell ⟨r + 5,0,none⟩ (.int .i64 0))) rfl (.inl rfl) rfl (by kernel_rfl) (fun τ=>?_) ?_
 . go_simp
   try rfl
 have kX1 : ∀ b,b ≠ r + 5 -> (V2.setCell ⟨r + 5,0,none⟩ (.int .i64 0)).heap[b]? = V2.heap[b]?:=fun b hb=>by rw [setCell_heap,if_neg hb]
 have sX1 : (V2.setCell ⟨r + 5,0,none⟩ (.int .i64 0)).heap.size = V2.heap.size:=by simp [World.setCell]
 replace y5 : (V2.setCell ⟨r + 5,0,none⟩ (.int .i64 0)).heap[r + 5]? = some (.cells #[.int .i64 0] 3 (0,0)):=by
   rw [setCell_heap,if_pos rfl,y5]
   simp
 clear q_s z_s
 generalize V2.setCell ⟨r + 5,0,none⟩ (.int .i64 0) = X1 at *
 replace y0:=(kX1 _ (by omega)).trans y0
 replace y1:=(kX1 _ (by omega)).trans y1
 replace y2:=(kX1 _ (by omega)).trans y2
 replace y4:=(kX1 _ (by omega)).trans y4
 replace y6:=(kX1 _ (by omega)).trans y6
 replace y7:=(kX1 _ (by omega)).trans y7
 replace M:=M.keep2 (kX1 _ (by omega)) (fun b hb=>kX1 b (by have:=hqr b hb; omega))
 replace kz : ∀ b,b < V.heap.size -> ¬ (r <= b /\ b <= r + 7) -> X1.heap[b]? = V.heap[b]?:=fun b h1 h2=>(kX1 b (by omega)).trans (kz b h1 h2)
 replace sz : V.heap.size <= X1.heap.size:=by omega
 try walk_nrm
 refine wM hM hnX1 fun kk hkk=>?_
 refine hM.cl rfl rfl rfl Try.func46 rfl ?_
 walk_nrm
 have kh : ∀ b,C.has b -> X1.heap[b]? = V.heap[b]?:=fun b hb=>kz b (has_lt t.H t.L (by omega) b hb) fun h=>t.far b (t.I.ow b h.1 h.2) hb
 refine hM.walk _ _ _ (will_unlock (C:=C) (i:=1) (mo:=0) (q:=[]) hnX1 t.hO.tbi (fun a ha=>t.hO.cbt ha) (by omega) (by omega) (t.H.off kh) (t.L.off kh) M (fun x hx=>by cases hx) t.far fun X2 qv6 U=>.stop ?_)
 rw [Frame.finish_at]
 have ku : ∀ b,own b -> b ≠ r + 3 -> X2.heap[b]? = X1.heap[b]?:=fun b hb hne=>U.keep b hne fun j hj e=>t.far b hb (.inr (.inr ⟨j,hj,e⟩))
 replace y0:=(ku _ o0 (by omega)).trans y0
 replace y1:=(ku _ o1 (by omega)).trans y1
 replace y2:=(ku _ o2 (by omega)).trans y2
 replace y4:=(ku _ o4 (by omega)).trans y4
 replace y5:=(ku _ o5 (by omega)).trans y5
 replace y6:=(ku _ o6 (by omega)).trans y6
 replace y7:=(ku _ o7 (by omega)).trans y7
 have kw : ∀ b,b < V.heap.size -> ¬ (r <= b /\ b <= r + 7) -> (∀ j,j < C.n -> b ≠ C.tb j) -> X2.heap[b]? = V.heap[b]?:=fun b h1 h2 h3=>(U.keep b (by omega) h3).trans (kz b h1 h2)
 have su : V.heap.size <= X2.heap.size:=by rw [U.sz]; exact sz
 walk_nrm
 refine wM hM U.nrm fun kk hkk=>?_
 refine mu_leave0 (K:=fun g=>KK 0 g X2) hM.mu rfl rfl Try.func101 rfl ?_
 have hM6 : MuI X2 (gOw own V X2) (r + 3) 0 0 [] qv6:=U.mu.grow fun b hb _=>.inl hb
 refine hS _ _ (gt (fun b h1 h2 h3=>kw b h1 (fun h=>h2 (t.I.ow b h.1 h.2)) h3) U.nrm su t.lt (U.cw.congr fun j hjl=>?_) ?_ (fun cs hc=>?_) ?_)
 . rw [hturn]
   show upd (Gs.st s) 1 1 j = _
   have hj01 : j = 0 ∨ j = 1:=by omega
   rcases hj01 with rfl | rfl
   . rw [upd_ne _ _ (by omega),upd_ne _ _ (by omega)]; rfl
   . rw [upd_same,upd_same]
 . rw [hturn]
   refine ⟨⟨hp6,Nat.le_refl 4,fun h=>by have : (4 : Nat) = 2:=h; omega,fun h=>by have : (4 : Nat) = 3:=h; omega,fun h=>absurd rfl h⟩,fun b h1 h2=>.inl (t.I.ow b h1 h2),y2,y1,y4,by rw [hg (by omega),if_neg (by simp)]; exact y5,y6,y7,⟨qv6,by rw [if_neg (show ¬ (4 : Nat) = 3 by omega)]; exact hM6,fun h=>U.qo.trans (hqv h),fun b hb=>hqr b (U.qo.symm.trans hb)⟩,fun _=>⟨es,clk,y0,hm⟩,fun h=>absurd h hpn⟩
 . refine GMem.still (y0.trans y00.symm) (fun ob cv h1 h2 h3=>kw ob (t.lt _ h1) (by omega) fun j hj e=>t.far _ h1 (.inr (.inr ⟨j,hj,e⟩))) cs hc
 . rw [hturn]; rfl
theorem join1w (t : Gn E C r s 1 own V) (hj1 : s.j = 1) (hpn : 2 <= s.p /\ s.p <= 5) (hT : IF1 r (C.tp 1) T) {jj : Nat} (hfr : LkY (r + 3) 0 (C.tp 1) (b.at a (.inRegion ops (jj :: rest) :: k))) : WillM Try.prog false E.Z (TEndM C (Ufl r C) s 1 own V ((baseD 141).at aY (.inRegion opsY (iY :: restY) :: kY))) 0 (G (b.at (a.put ((ops[jj]?).bind (·.dst)) (.tuple #[])) (.inRegion ops rest :: k)) [(base 101).at ⟨T,[]⟩ [.inRegion ic0 [1],.code iX1],((baseD 141).at aY (.inRegion opsY (iY :: restY) :: kY)),rootF]) V:=by
 intro KK hM hS
 have hn2:=t.n2
 obtain ⟨hp6,hj4,hj2,hj3,hg⟩:=t.I.ok
 have y2:=t.I.x
 have y1:=t.I.gg
 have y4:=t.I.kk
 have y5:=t.I.v
 have y6:=t.I.f
 have y7:=t.I.se
 obtain ⟨o0,o1,o2,o3,o4,o5,o6,o7⟩:=t.os
 obtain ⟨l0,l1,l2,l3,l4,l5,l6,l7⟩:=t.ls
 obtain ⟨qv,M,hqv,hqr⟩:=t.I.mu
 have hturn : s.turn 1 = { s with j:=2 }:=by unfold Gs.turn; rw [if_neg (by omega),if_pos hj1,if_pos hpn]
 obtain ⟨es,clk,ob,cv,y0,hm,oob,gob,yo,-,hc2⟩:=t.I.mp1 hpn
 obtain rfl:=hc2 (by omega)
 have y00:=y0
 have yo0:=yo
 have lob:=t.lt _ oob
 have ek : kpos k8 [(k8,ob)] 0 = some (0,ob):=by simp [kpos]
 have sz : V.heap.size <= V.heap.size:=Nat.le_refl _
 have kz : ∀ b,b < V.heap.size -> ¬ (r <= b /\ b <= r + 7) -> V.heap[b]? = V.heap[b]?:=fun _ _ _=>rfl
 rw [if_neg (by omega)] at M
 obtain ⟨vb,vc,rfl⟩:=M.qu.sl
 refine hM.walk _ _ _ (lock_back (C:=C) (i:=1) (mo:=0) (ow:=0) t.hn (by omega) (by omega) t.H t.L M.c0 M.z0 M.c1 M.z1 M.qu (by simp) M.qmb (t.far _ M.mown) (fun b hb=>t.far b (M.qown b hb)) (by omega) (fun _=>.stop ?_) (fun h=>absurd ⟨rfl,rfl⟩ h) hfr)
 have M1:=M.take (1 + 1)
 have k1 : ∀ b,b ≠ r + 3 -> (V.setCell ⟨r + 3,0 + 1,none⟩ (.int .i64 (1 + 1 : Nat))).heap[b]? = V.heap[b]?:=fun b hb=>set_off _ _ hb
 have s1 : (V.setCell ⟨r + 3,0 + 1,none⟩ (.int .i64 (1 + 1 : Nat))).heap.size = V.heap.size:=by simp [World.setCell]
 have hn1:=norm_set t.hn ⟨r + 3,0 + 1,none⟩ (.int .i64 (1 + 1 : Nat))
 generalize V.setCell ⟨r + 3,0 + 1,none⟩ (.int .i64 (1 + 1 : Nat)) = V1 at *
 have hq0:=hqv (by omega)
 replace yo:=(k1 _ (by omega)).trans yo
 replace y0:=(k1 _ (by omega)).trans y0
 replace y1:=(k1 _ (by omega)).trans y1
 replace y2:=(k1 _ (by omega)).trans y2
 replace y4:=(k1 _ (by omega)).trans y4
 replace y5:=(k1 _ (by omega)).trans y5
 replace y6:=(k1 _ (by omega)).trans y6
 replace y7:=(k1 _ (by omega)).trans y7
 replace M:=M1
 replace kz : ∀ b,b < V.heap.size -> ¬ (r <= b /\ b <= r + 7) -> V1.heap[b]? = V.heap[b]?:=fun b h1 h2=>(k1 b (by omega)).trans (kz b h1 h2)
 replace sz : V.heap.size <= V1.heap.size:=by omega
 obtain ⟨hs,t0,t1,t2,t3,t4⟩:=hT
 obtain ⟨f,hf,hT⟩:=array17f T hs
 rw [hT]
 simp only [hf _ _ t0,hf _ _ t1,hf _ _ t2,hf _ _ t3,hf _ _ t4]
 clear hf hs t0 t1 t2 t3 t4
 subst hT
 refine (fun (h : ∀ X Y,X = ic0 -> Y = iX1 -> KK 0 (G ((base 101).at (Act.put ⟨_,[]⟩ ((X[1]?).bind (·.dst)) (.int .i64 0)) [.inRegion X [],.code Y]) [((baseD 141).at aY (.inRegion opsY (iY :: restY) :: kY)),rootF]) V1)=>h ic0 iX1 rfl rfl) ?_
 intro X Y hX hY
 simp only [ic0,iX1,iB,rops,nva,nvb,Try.f101,Option.getD_some] at hX hY
 subst hX hY
 simp only [Cw.tp]
 walk_nrm
 have q_2_0:=qc 0 y2 rfl
 have q_4_0:=qc 0 y4 rfl
 have q_4_1:=qc 1 y4 rfl
 refine wM hM hn1 fun kk hkk=>?_
 try subst hkk
 refine hM.cl rfl rfl rfl Try.func71 rfl ?_
 walk_nrm
 clear q_2_0 q_4_0 q_4_1
 refine join_in (k:=k8) hM hn1 y1 y0 hm ek yo fun V2 fw hn2 k2 hfw=>?_
 have s2:=k2.size
 replace yo:=(k2.keep _ (by omega)).trans yo
 replace y0:=(k2.keep _ (by omega)).trans y0
 replace y1:=(k2.keep _ (by omega)).trans y1
 replace y2:=(k2.keep _ (by omega)).trans y2
 replace y4:=(k2.keep _ (by omega)).trans y4
 replace y5:=(k2.keep _ (by omega)).trans y5
 replace y6:=(k2.keep _ (by omega)).trans y6
 replace y7:=(k2.keep _ (by omega)).trans y7
 replace M:=M.keep2 (k2.keep _ (by omega)) (fun b hb=>k2.keep b (M.qu.at_ hb))
 replace kz : ∀ b,b < V.heap.size -> ¬ (r <= b /\ b <= r + 7) -> V2.heap[b]? = V.heap[b]?:=fun b h1 h2=>(k2.keep b (by omega)).trans (kz b h1 h2)
 replace sz : V.heap.size <= V2.heap.size:=by omega
 have kh : ∀ b,C.has b -> V2.heap[b]? = V.heap[b]?:=fun b hb=>kz b (has_lt t.H t.L (by omega) b hb) fun h=>t.far b (t.I.ow b h.1 h.2) hb
 have hfw2:=hfw
 obtain ⟨Tw,w0,w1,w2,w3,w4,rfl⟩:=hfw
 refine hM.walk _ _ _ (wait_in (C:=C) (i:=1) (mb:=r + 3) (cb:=ob) (cv:=.slice none 0 0) (cq:=[]) (q:=[]) hn2 t.hO.tbi (fun a ha=>t.hO.cbt ha) (by omega) (by omega) (t.H.off kh) (t.L.off kh) M (fun x hx=>by cases hx) t.far yo oob (by omega) ⟨rfl,.inl ⟨rfl,rfl⟩⟩ (fun b hb=>by cases hb) (by simp [Value.ownBlock]) (by simp [Value.ownBlock]) (by rw [show (Value.slice vb ([] : List Nat).length vc).ownBlock = none from hq0]; simp) (by simp) fun V3 cv' V4 qv' f g P U hf hg'=>.stop ?_)
 have s3:=P.sz
 have ku : ∀ b,own b -> b ≠ r + 3 -> b ≠ ob -> V4.heap[b]? = V2.heap[b]?:=fun b hb h1 h2=>(U.keep b h1 fun j hj e=>t.far b hb (.inr (.inr ⟨j,hj,e⟩))).trans (P.keep b (by have:=t.lt b hb; omega) h2 (by simp [Value.ownBlock]))
 replace y0:=(ku _ o0 (by omega) (by omega)).trans y0
 replace y1:=(ku _ o1 (by omega) (by omega)).trans y1
 replace y2:=(ku _ o2 (by omega) (by omega)).trans y2
 replace y4:=(ku _ o4 (by omega) (by omega)).trans y4
 replace y5:=(ku _ o5 (by omega) (by omega)).trans y5
 replace y6:=(ku _ o6 (by omega) (by omega)).trans y6
 replace y7:=(ku _ o7 (by omega) (by omega)).trans y7
 have yo4 : V4.heap[ob]? = some (.cells #[cv',.bool false,.int .i64 0,.int .i64 0] 201 (0,0)):=(U.keep ob (by omega) fun j hj e=>t.far ob oob (.inr (.inr ⟨j,hj,e⟩))).trans P.c
 have su : V.heap.size <= V4.heap.size:=by rw [U.sz]; omega
 have kw : ∀ b,b < V.heap.size -> ¬ (r <= b /\ b <= r + 7) -> b ≠ ob -> (∀ j,j < C.n -> b ≠ C.tb j) -> V4.heap[b]? = V.heap[b]?:=fun b h1 h2 h3 h4=>((U.keep b (by omega) h4).trans (P.keep b (by omega) h3 (by simp [Value.ownBlock]))).trans (kz b h1 h2)
 have hcv : ∀ b,cv'.ownBlock = some b -> V.heap.size <= b /\ b < V4.heap.size:=fun b hb=>by
   have hlt:=P.qu.at_ hb
   rcases P.own with h | ⟨b',h,hge⟩
   . rw [h] at hb; cases hb
   . rw [h] at hb
     obtain rfl:=Option.some.inj hb
     exact ⟨by omega,by rw [U.sz]; exact hlt⟩
 have hQ : Qu V4 183 2 cv' 1 (wts (r + 3) [1]):=by
   have hq:=P.qu
   refine Qu.keep (w:=V3) hq fun b hb=>?_
   have:=hcv b hb
   refine U.keep b (by omega) fun j hj e=>?_
   have:=has_lt t.H t.L (by omega) _ (.inr (.inr ⟨j,hj,rfl⟩) : C.has (C.tb j))
   omega
 have hM4 : MuI V4 (gOw own V V4) (r + 3) 0 0 [] qv':=U.mu.grow fun b hb _=>.inl hb
 refine hS _ _ (gp (fr:=f) (cs:=[g,_,_]) U.nrm su (fun b h1 h2 h3=>kw b h1 (fun h=>h2 (t.I.ow b h.1 h.2)) (fun e=>h2 (e ▸ oob)) h3) t.lt (U.cw.congr fun j hjl=>?_) ?_ (fun cs hc=>?_) ?_ ?_ ?_)
 . rw [hturn]
   show upd (Gs.st s) 1 1 j = _
   have hj01 : j = 0 ∨ j = 1:=by omega
   rcases hj01 with rfl | rfl
   . rw [upd_ne _ _ (by omega),upd_ne _ _ (by omega)]; rfl
   . rw [upd_same,upd_same]
 . rw [hturn]
   refine ⟨⟨hp6,by show 2 <= 4; omega,fun _=>hpn,fun h=>by have : (2 : Nat) = 3:=h; omega,fun _=>hg (by omega)⟩,fun b h1 h2=>.inl (t.I.ow b h1 h2),y2,y1,y4,y5,y6,y7,⟨qv',by rw [if_neg (show ¬ (2 : Nat) = 3 by omega)]; exact hM4,fun h=>U.qo.trans hq0,fun b hb=>hqr b (U.qo.symm.trans hb)⟩,fun h=>absurd hpn h,fun _=>⟨es,clk,ob,cv',y0,hm,.inl oob,gob,yo4,fun _=>⟨hQ,fun b hb=>⟨.inr (hcv b hb),by have:=hcv b hb; omega,by have:=hcv b hb; omega⟩⟩,fun h=>absurd rfl h⟩⟩
 . refine GMem.still (y0.trans y00.symm) (fun ob' cv2 h1 h2 h3=>kw ob' (t.lt _ h1) (by omega) (fun e=>?_) fun j hj e=>t.far _ h1 (.inr (.inr ⟨j,hj,e⟩))) cs hc
   rw [e,yo0] at h3
   simp at h3
 . rw [hturn]; rfl
 . rw [hturn]
   exact ⟨fun h=>by omega,fun _=>⟨rfl,(fun h=>by cases h),fun _=>⟨f,g,_,ob,_,hf,hg',hfw2,⟨rfl,rfl,rfl,rfl,rfl,rfl⟩,rfl⟩,by show 1 <= 2; omega,by show 2 <= 3; omega⟩⟩
 . intro f0 hf0 ob' tp mp hjn
   simp only [List.mem_cons,List.not_mem_nil,or_false] at hf0
   rcases hf0 with rfl | rfl | rfl | rfl
   . exact absurd (jnr_fn hjn) (rsp_fn hf)
   . exact absurd (jnr_fn hjn) (wtr_fn hg')
   . obtain rfl:=jnr_ob hfw2 hjn
     exact ⟨.inl oob,.inl o0,gob,.inl ⟨es,clk,y0,hm⟩⟩
   . exact absurd (jnr_fn hjn) (fun e=>by cases e)
theorem join3 (t : Gn E C r s 1 own V) (hj1 : s.j = 3) {g h : Frame} {ob : Nat} (hgw : WtR g) (hjn : JnR ob (C.tp 1) (.pointer (some ⟨r + 3,0,none⟩)) h) (hT : IF1 r (C.tp 1) T) (hme : GMem r [h] own V) {jj : Nat} (hfr : RsP (r + 3) 0 (C.tp 1) (b.at a (.inRegion ops (jj :: rest) :: k))) : WillM Try.prog false E.Z (TEndM C (Ufl r C) s 1 own V ((baseD 141).at aY (.inRegion opsY (iY :: restY) :: kY))) 0 (G (b.at (a.put ((ops[jj]?).bind (·.dst)) (.tuple #[])) (.inRegion ops rest :: k)) [g,h,(base 101).at ⟨T,[]⟩ [.inRegion ic1 [3,4,5,6,7],.code iX2],((baseD 141).at aY (.inRegion opsY (iY :: restY) :: kY)),rootF]) V:=by
 intro KK hM hS
 have hn2:=t.n2
 obtain ⟨hp6,hj4,hj2,hj3,hg⟩:=t.I.ok
 have y2:=t.I.x
 have y1:=t.I.gg
 have y4:=t.I.kk
 have y5:=t.I.v
 have y6:=t.I.f
 have y7:=t.I.se
 obtain ⟨o0,o1,o2,o3,o4,o5,o6,o7⟩:=t.os
 obtain ⟨l0,l1,l2,l3,l4,l5,l6,l7⟩:=t.ls
 obtain ⟨qv,M,hqv,hqr⟩:=t.I.mu
 have hp:=hj3 hj1
 have hturn : s.turn 1 = { s with j:=4,g:=true }:=by unfold Gs.turn; rw [if_neg (by omega),if_neg (by omega),if_pos hj1]
 obtain ⟨es,clk,y0,hm⟩:=t.I.mp0 (by omega)
 have y00:=y0
 rw [if_pos hj1] at M
 rw [hg (by omega),if_neg (by simp)] at y5
 obtain ⟨h1,h2,h3,h4⟩:=hme h (by simp) ob _ _ hjn
 have lob:=t.lt _ h1
 obtain ⟨cv,yo⟩ : ∃ cv,V.heap[ob]? = some (.cells #[cv,.bool true,.int .i64 5,.int .i64 0] 201 (0,0)):=by
   rcases h4 with ⟨es',clk',h5,h6⟩ | h5
   . rw [y00] at h5
     obtain ⟨rfl,rfl⟩ : es = es' /\ clk = clk':=by have:=Option.some.inj h5; injection this with a b; exact ⟨a,b⟩
     cases hm.inj h6
   . exact h5
 have sz : V.heap.size <= V.heap.size:=Nat.le_refl _
 have kz : ∀ b,b < V.heap.size -> ¬ (r <= b /\ b <= r + 7) -> V.heap[b]? = V.heap[b]?:=fun _ _ _=>rfl
 obtain ⟨Tg,g0,eg⟩:=id hgw
 obtain ⟨Th,q0,q1,q2,q3,q4,eh⟩:=id hjn
 subst eg
 refine hM.walk _ _ _ (rest_back (C:=C) (i:=1) (mo:=0) (ow:=2) t.hn (by omega) (by omega) t.H M.c1 (fun _=>?_) (fun hx=>absurd rfl hx) hfr)
 subst eh
 refine wait_ret t.hn (.stop ?_) hgw
 refine join_b0 hM t.hn yo hjn ?_
 obtain ⟨hs,t0,t1,t2,t3,t4⟩:=hT
 obtain ⟨f,hf,hT⟩:=array17f T hs
 rw [hT]
 simp only [hf _ _ t0,hf _ _ t1,hf _ _ t2,hf _ _ t3,hf _ _ t4]
 clear hf hs t0 t1 t2 t3 t4
 subst hT
 refine (fun (h : ∀ X Y,X = ic1 -> Y = iX2 -> KK 0 (G ((base 101).at (Act.put ⟨_,[]⟩ ((X[3]?).bind (·.dst)) (.tuple #[.int .i64 5,.int .i64 0])) [.inRegion X [4,5,6,7],.code Y]) [((baseD 141).at aY (.inRegion opsY (iY :: restY) :: kY)),rootF]) V)=>h ic1 iX2 rfl rfl) ?_
 intro X Y hX hY
 simp only [ic1,iX2,iX1,iB,rops,nva,nvb,Try.f101,Option.getD_some] at hX hY
 subst hX hY
 simp only [Cw.tp]
 walk_nrm
 refine wM hM t.hn fun kk hkk=>?_
 have q_s:=qc 0 y5 rfl
 have z_s:=qz 0 y5
 have hnX1:=norm_set t.hn ⟨r + 5,0,none⟩ (.int .i64 5)
 refine mus_put (L:=Lone) (hM.mus hnX1) (K:=fun g=>KK 0 g V) (K':=fun g=>KK 0 g (V.setCell ⟨r + 5,0,none⟩ (.int .i64 5))) rfl (.inl rfl) rfl (by kernel_rfl) (fun τ=>?_) ?_
 . go_simp
   try rfl
 have kX1 : ∀ b,b ≠ r + 5 -> (V.setCell ⟨r + 5,0,none⟩ (.int .i64 5)).heap[b]? = V.heap[b]?:=fun b hb=>by rw [setCell_heap,if_neg hb]
 have sX1 : (V.setCell ⟨r + 5,0,none⟩ (.int .i64 5)).heap.size = V.heap.size:=by simp [World.setCell]
 replace y5 : (V.setCell ⟨r + 5,0,none⟩ (.int .i64 5)).heap[r + 5]? = some (.cells #[.int .i64 5] 3 (0,0)):=by
   rw [setCell_heap,if_pos rfl,y5]
   simp
 clear q_s z_s
 generalize V.setCell ⟨r + 5,0,none⟩ (.int .i64 5) = X1 at *
 replace y0:=(kX1 _ (by omega)).trans y0
 replace y1:=(kX1 _ (by omega)).trans y1
 replace y2:=(kX1 _ (by omega)).trans y2
 replace y4:=(kX1 _ (by omega)).trans y4
 replace y6:=(kX1 _ (by omega)).trans y6
 replace y7:=(kX1 _ (by omega)).trans y7
 replace M:=M.keep2 (kX1 _ (by omega)) (fun b hb=>kX1 b (by have:=hqr b hb; omega))
 replace kz : ∀ b,b < V.heap.size -> ¬ (r <= b /\ b <= r + 7) -> X1.heap[b]? = V.heap[b]?:=fun b h1 h2=>(kX1 b (by omega)).trans (kz b h1 h2)
 replace sz : V.heap.size <= X1.heap.size:=by omega
 try walk_nrm
 refine wM hM hnX1 fun kk hkk=>?_
 refine hM.cl rfl rfl rfl Try.func46 rfl ?_
 walk_nrm
 have kh : ∀ b,C.has b -> X1.heap[b]? = V.heap[b]?:=fun b hb=>kz b (has_lt t.H t.L (by omega) b hb) fun h=>t.far b (t.I.ow b h.1 h.2) hb
 refine hM.walk _ _ _ (will_unlock (C:=C) (i:=1) (mo:=0) (q:=[]) hnX1 t.hO.tbi (fun a ha=>t.hO.cbt ha) (by omega) (by omega) (t.H.off kh) (t.L.off kh) M (fun x hx=>by cases hx) t.far fun X2 qv6 U=>.stop ?_)
 rw [Frame.finish_at]
 have ku : ∀ b,own b -> b ≠ r + 3 -> X2.heap[b]? = X1.heap[b]?:=fun b hb hne=>U.keep b hne fun j hj e=>t.far b hb (.inr (.inr ⟨j,hj,e⟩))
 replace y0:=(ku _ o0 (by omega)).trans y0
 replace y1:=(ku _ o1 (by omega)).trans y1
 replace y2:=(ku _ o2 (by omega)).trans y2
 replace y4:=(ku _ o4 (by omega)).trans y4
 replace y5:=(ku _ o5 (by omega)).trans y5
 replace y6:=(ku _ o6 (by omega)).trans y6
 replace y7:=(ku _ o7 (by omega)).trans y7
 have kw : ∀ b,b < V.heap.size -> ¬ (r <= b /\ b <= r + 7) -> (∀ j,j < C.n -> b ≠ C.tb j) -> X2.heap[b]? = V.heap[b]?:=fun b h1 h2 h3=>(U.keep b (by omega) h3).trans (kz b h1 h2)
 have su : V.heap.size <= X2.heap.size:=by rw [U.sz]; exact sz
 walk_nrm
 refine wM hM U.nrm fun kk hkk=>?_
 refine mu_leave0 (K:=fun g=>KK 0 g X2) hM.mu rfl rfl Try.func101 rfl ?_
 have hM6 : MuI X2 (gOw own V X2) (r + 3) 0 0 [] qv6:=U.mu.grow fun b hb _=>.inl hb
 refine hS _ _ (gt (fun b h1 h2 h3=>kw b h1 (fun h=>h2 (t.I.ow b h.1 h.2)) h3) U.nrm su t.lt (U.cw.congr fun j hjl=>?_) ?_ (fun cs hc=>?_) ?_)
 . rw [hturn]
   show upd (Gs.st s) 1 1 j = _
   have hj01 : j = 0 ∨ j = 1:=by omega
   rcases hj01 with rfl | rfl
   . rw [upd_ne _ _ (by omega),upd_ne _ _ (by omega)]; rfl
   . rw [upd_same,upd_same]
 . rw [hturn]
   refine ⟨⟨hp6,Nat.le_refl 4,fun h=>by have : (4 : Nat) = 2:=h; omega,fun h=>by have : (4 : Nat) = 3:=h; omega,fun h=>absurd rfl h⟩,fun b h1 h2=>.inl (t.I.ow b h1 h2),y2,y1,y4,y5,y6,y7,⟨qv6,by rw [if_neg (show ¬ (4 : Nat) = 3 by omega)]; exact hM6,fun h=>U.qo.trans (hqv h),fun b hb=>hqr b (U.qo.symm.trans hb)⟩,fun _=>⟨es,clk,y0,hm⟩,fun h=>by have : 2 <= s.p /\ s.p <= 5:=h; omega⟩
 . refine GMem.still (y0.trans y00.symm) (fun ob cv h1 h2 h3=>kw ob (t.lt _ h1) (by omega) fun j hj e=>t.far _ h1 (.inr (.inr ⟨j,hj,e⟩))) cs hc
 . rw [hturn]; rfl
end
theorem far_ofM {C : Cw} {own : Nat -> Prop} {V : World} (hown : ∀ b,own b -> b < V.heap.size /\ b ≠ C.cb /\ ∀ j,j < C.n -> b ≠ C.tb j) (hlb : ∀ b,own b -> b ≠ C.lb) : ∀ b,own b -> ¬ C.has b:=fun b hb h=>by
 rcases h with h | h | ⟨j,hj,h⟩
 . exact (hown b hb).2.1 h
 . exact hlb b hb h
 . exact (hown b hb).2.2 j hj h
theorem uf_wtrF {f : Frame} (h : WtR f) : UF f:=by
 obtain ⟨T,_,rfl⟩:=h
 exact uf_at rfl rfl rfl ⟨_,Try.func49⟩
theorem uf_jnr {ob : Nat} {tp mp : Value} {f : Frame} (h : JnR ob tp mp f) : UF f:=by
 obtain ⟨T,_,_,_,_,_,rfl⟩:=h
 exact uf_at rfl rfl rfl ⟨_,Try.func71⟩
theorem Gs.stp_zero {p : Nat} (h : Gs.stp p = 0) : p = 0:=by
 unfold Gs.stp at h
 by_cases h0 : p = 0
 . exact h0
 . rw [if_neg h0] at h
   by_cases h5 : p <= 5
   . rw [if_pos h5] at h; omega
   . rw [if_neg h5] at h; omega
theorem Gs.stp_two (p : Nat) : Gs.stp p = 0 ∨ Gs.stp p = 1 ∨ Gs.stp p = 2 ∨ Gs.stp p = 3:=by
 unfold Gs.stp
 split
 . exact .inl rfl
 . split
   . exact .inr (.inl rfl)
   . exact .inr (.inr (.inr rfl))
theorem Gs.stj_one {j : Nat} (h : Gs.stj j = 1) : j = 1 ∨ j = 3:=by
 rcases j with _ | _ | _ | _ | j
 . exact absurd h (by decide)
 . exact .inl rfl
 . exact absurd h (by decide)
 . exact .inr rfl
 . exact absurd h (by show ¬ ((3 : Int) = 1); decide)
theorem Gs.stj_zero {j : Nat} (h : Gs.stj j = 0) : j = 0:=by
 rcases j with _ | _ | _ | _ | j
 . rfl
 . exact absurd h (by decide)
 . exact absurd h (by decide)
 . exact absurd h (by decide)
 . exact absurd h (by show ¬ ((3 : Int) = 0); decide)
theorem Gs.stj_two (j : Nat) : Gs.stj j = 0 ∨ Gs.stj j = 1 ∨ Gs.stj j = 2 ∨ Gs.stj j = 3:=by
 rcases j with _ | _ | _ | _ | j
 . exact .inl rfl
 . exact .inr (.inl rfl)
 . exact .inr (.inr (.inl rfl))
 . exact .inr (.inl rfl)
 . exact .inr (.inr (.inr rfl))
theorem Gs.turn_j (s : Gs) : (s.turn 0).j = s.j ∨ (s.j = 2 /\ (s.turn 0).j = 3):=by
 unfold Gs.turn
 rw [if_pos rfl]
 split
 . rename_i h; exact .inr ⟨h.2,rfl⟩
 . exact .inl rfl
theorem Gs.turn_p (s : Gs) {i : Nat} (hi : i ≠ 0) : (s.turn i).p = s.p:=by
 unfold Gs.turn
 rw [if_neg hi]
 split
 . split <;> rfl
 . split <;> rfl
variable {r : Nat} {C : Cw} {E : Env}
theorem ufl_ok (hO : CwOk E C) (hn2 : C.n = 2) (hf0 : C.f 0 = .func (.func 100) #[] #[bp (r + 3),bp (r + 2),bp (r + 4),bp (r + 6),bp (r + 7)]) (hf1 : C.f 1 = .func (.func 101) #[] #[bp (r + 3),bp (r + 2),bp (r + 4),bp (r + 5)]) : UOk E C (Ufl r C):=by
 refine ⟨fun σ own V V' A hk hsz=>GInv.frame A hk,fun cs own V V' A hk _=>GMem.frame A hk,fun σ i cs h=>?_,fun (σ : Gs) i j cs hi hs hj h=>?_,fun (σ : Gs) i j hi hs hj hji=>?_,fun (σ : Gs) i _=>?_,fun (σ : Gs) i hi h=>?_,fun (σ : Gs) i own V Rf bx hi hs hRf hn H A hown L hlb=>?_,fun (σ : Gs) i own V Rf bx b a ops iQ rest k cs hi hs hl hmm hRf hn H A hown L hlb=>?_⟩
 . obtain ⟨h0,h1⟩:=h
   intro f hf
   by_cases e : i = 0
   . obtain ⟨a1,a2,a3,a4,a5,b1,b2⟩:=h0 e
     have hp : σ.p = 1 ∨ σ.p = 2 ∨ σ.p = 3 ∨ σ.p = 4 ∨ σ.p = 5:=by omega
     rcases hp with hp | hp | hp | hp | hp
     . obtain ⟨g,T,q1,_,rfl⟩:=a1 hp
       simp only [List.mem_cons,List.not_mem_nil,or_false] at hf
       rcases hf with rfl | rfl
       . exact uf_lky q1
       . exact uf_at rfl rfl rfl ⟨_,Try.func100⟩
     . obtain ⟨T,_,rfl⟩:=a2 hp
       obtain rfl : f = _:=by simpa using hf
       exact uf_at rfl rfl rfl ⟨_,Try.func100⟩
     . obtain ⟨T,_,rfl⟩:=a3 hp
       obtain rfl : f = _:=by simpa using hf
       exact uf_at rfl rfl rfl ⟨_,Try.func100⟩
     . obtain ⟨T,_,rfl⟩:=a4 hp
       obtain rfl : f = _:=by simpa using hf
       exact uf_at rfl rfl rfl ⟨_,Try.func100⟩
     . obtain ⟨g,T,q1,_,rfl⟩:=a5 hp
       simp only [List.mem_cons,List.not_mem_nil,or_false] at hf
       rcases hf with rfl | rfl
       . exact uf_lky q1
       . exact uf_at rfl rfl rfl ⟨_,Try.func100⟩
   . obtain ⟨_,a1,a2,b1,b2⟩:=h1 e
     have hp : σ.j = 1 ∨ (σ.j = 2 ∨ σ.j = 3):=by omega
     rcases hp with hp | hp
     . obtain ⟨g,T,q1,_,rfl⟩:=a1 hp
       simp only [List.mem_cons,List.not_mem_nil,or_false] at hf
       rcases hf with rfl | rfl
       . exact uf_lky q1
       . exact uf_at rfl rfl rfl ⟨_,Try.func101⟩
     . obtain ⟨g1,g2,g3,ob,T,q1,q2,q3,_,rfl⟩:=a2 hp
       simp only [List.mem_cons,List.not_mem_nil,or_false] at hf
       rcases hf with rfl | rfl | rfl | rfl
       . exact uf_rsp q1
       . exact uf_wtrF q2
       . exact uf_jnr q3
       . exact uf_at rfl rfl rfl ⟨_,Try.func101⟩
 . obtain ⟨h0,h1⟩:=h
   show GLoc r C (σ.turn i) j cs
   by_cases e : i = 0
   . subst e
     refine ⟨fun e=>absurd e hj,fun e=>?_⟩
     obtain ⟨a0,a1,a2,b1,b2⟩:=h1 e
     rcases σ.turn_j with ej | ⟨ej,ej'⟩
     . rw [ej]; exact ⟨a0,a1,a2,b1,b2⟩
     . rw [ej']
       exact ⟨a0,fun h=>by omega,fun _=>a2 (.inl ej),by omega,by omega⟩
   . refine ⟨fun e2=>?_,fun e2=>by omega⟩
     rw [σ.turn_p e]
     exact h0 e2
 . show Gs.st (σ.turn i) j = Gs.st σ j ∨ (Gs.st σ j = 2 /\ Gs.st (σ.turn i) j = 1)
   unfold Gs.st
   by_cases e : j = 0
   . rw [if_pos e,if_pos e,σ.turn_p (by omega)]
     exact .inl rfl
   . rw [if_neg e,if_neg e]
     obtain rfl : i = 0:=by omega
     rcases σ.turn_j with ej | ⟨ej,ej'⟩
     . rw [ej]; exact .inl rfl
     . rw [ej,ej']; exact .inr ⟨rfl,rfl⟩
 . show Gs.st σ i = 0 ∨ Gs.st σ i = 1 ∨ Gs.st σ i = 2 ∨ Gs.st σ i = 3
   unfold Gs.st
   split
   . exact Gs.stp_two _
   . exact Gs.stj_two _
 . have hi01 : i = 0 ∨ i = 1:=by omega
   rcases hi01 with rfl | rfl
   . exact ⟨hf0,_,_,Try.func100,by kernel_rfl,rfl⟩
   . exact ⟨hf1,_,_,Try.func101,by kernel_rfl,rfl⟩
 . obtain ⟨aY,opsY,iY,restY,kY,eRf,-⟩:=hRf
   subst eRf
   have hs : Gs.st σ i = 0:=hs
   have t : Gn E C r σ i own V:=⟨hO,hn2,hn,A,H,L,fun b hb=>(hown b hb).1,far_ofM hown hlb⟩
   have hi01 : i = 0 ∨ i = 1:=by omega
   rcases hi01 with rfl | rfl
   . exact lead0 t (Gs.stp_zero hs)
   . exact join0 t (Gs.stj_zero hs)
 . obtain ⟨aY,opsY,iY,restY,kY,eRf,-⟩:=hRf
   subst eRf
   have hs : Gs.st σ i = 1:=hs
   have H' : CwAt C false (upd (Gs.st σ) i 1) V:=CwAt.congr H fun j hj=>by
     by_cases e : j = i
     . subst e; rw [upd_same]; exact hs
     . rw [upd_ne _ _ e]; rfl
   have t : Gn E C r σ i own V:=⟨hO,hn2,hn,A,H',L,fun b hb=>(hown b hb).1,far_ofM hown hlb⟩
   obtain ⟨h0,h1⟩ : GLoc r C σ i _:=hl
   have hi01 : i = 0 ∨ i = 1:=by omega
   rcases hi01 with rfl | rfl
   . obtain ⟨c1,c2,c3,c4,c5,b1,b2⟩:=h0 rfl
     have hp : σ.p = 1 ∨ σ.p = 2 ∨ σ.p = 3 ∨ σ.p = 4 ∨ σ.p = 5:=by omega
     rcases hp with hp | hp | hp | hp | hp
     . obtain ⟨f,T,hf,hT,e⟩:=c1 hp
       obtain ⟨rfl,rfl⟩:=List.cons.inj e
       exact lead1 t hp hT hf
     . obtain ⟨T,hT,e⟩:=c2 hp
       obtain ⟨e1,rfl⟩:=List.cons.inj e
       obtain ⟨rfl,e2,e3⟩:=at_inj e1
       obtain ⟨rfl,e4,rfl⟩:=item_inj e2
       obtain ⟨rfl,rfl⟩:=List.cons.inj e4
       rw [e3]
       exact lead2 t hp hT
     . obtain ⟨T,hT,e⟩:=c3 hp
       obtain ⟨e1,rfl⟩:=List.cons.inj e
       obtain ⟨rfl,e2,e3⟩:=at_inj e1
       obtain ⟨rfl,e4,rfl⟩:=item_inj e2
       obtain ⟨rfl,rfl⟩:=List.cons.inj e4
       rw [e3]
       exact lead3 t hp hT
     . obtain ⟨T,hT,e⟩:=c4 hp
       obtain ⟨e1,rfl⟩:=List.cons.inj e
       obtain ⟨rfl,e2,e3⟩:=at_inj e1
       obtain ⟨rfl,e4,rfl⟩:=item_inj e2
       obtain ⟨rfl,rfl⟩:=List.cons.inj e4
       rw [e3]
       exact lead4 t hp hT
     . obtain ⟨f,T,hf,hT,e⟩:=c5 hp
       obtain ⟨rfl,rfl⟩:=List.cons.inj e
       by_cases hj : σ.j = 2
       . exact lead5b t hp hj hT hf
       . exact lead5a t hp hj hT hf
   . obtain ⟨_,c1,c2,b1,b2⟩:=h1 (by omega)
     rcases Gs.stj_one hs with hp | hp
     . obtain ⟨f,T,hf,hT,e⟩:=c1 hp
       obtain ⟨rfl,rfl⟩:=List.cons.inj e
       by_cases hu : 2 <= σ.p /\ σ.p <= 5
       . exact join1w t hp hu hT hf
       . exact join1n t hp hu hT hf
     . obtain ⟨f,g,h,ob,T,hf,hg,hj,hT,e⟩:=c2 (.inr hp)
       obtain ⟨rfl,rfl⟩:=List.cons.inj e
       refine join3 t hp hg hj hT (fun f' hf'=>?_) hf
       obtain rfl : f' = h:=by simpa using hf'
       exact hmm f' (by simp)
structure Jd where
 r : Nat
 kg : Nat
 ko : Nat
 kc : Nat
 ks : List (Int × Int)
 v : Int
 kob : Obj
def Jd.k0 (D : Jd) : Int × Int:=kat D.ks 0
def dst (a : List (Int × Int)) (k : Int × Int) : List (Int × Int):=if k ∈ a then a else a ++ [k]
def ded (ks : List (Int × Int)) : List (Int × Int):=ks.foldl dst []
theorem ded_take {ks : List (Int × Int)} {i : Nat} (hi : i < ks.length) : ded (ks.take (i + 1)) = dst (ded (ks.take i)) (kat ks i):=by
 have e : kat ks i = ks[i]:=by simp [kat,List.getElem?_eq_getElem hi]
 rw [e,List.take_succ_eq_append_getElem hi]
 unfold ded
 rw [List.foldl_append]
 rfl
theorem dst_nodup {a : List (Int × Int)} {k : Int × Int} (h : a.Nodup) : (dst a k).Nodup:=by
 unfold dst
 split
 . exact h
 . rename_i hk
   exact List.nodup_append.2 ⟨h,by simp,fun x hx y hy e=>hk (by obtain rfl : y = k:=(by simpa using hy); exact e ▸ hx)⟩
theorem foldl_nodup : ∀ (ks a : List (Int × Int)),a.Nodup -> (ks.foldl dst a).Nodup
 | [],_,h=>h
 | k :: ks,a,h=>foldl_nodup ks _ (dst_nodup h)
theorem ded_nodup (ks : List (Int × Int)) : (ded ks).Nodup:=foldl_nodup ks [] List.nodup_nil
theorem foldl_len : ∀ (ks a : List (Int × Int)),(ks.foldl dst a).length <= a.length + ks.length
 | [],_=>Nat.le_refl _
 | k :: ks,a=>by
   refine Nat.le_trans (foldl_len ks (dst a k)) ?_
   have : (dst a k).length <= a.length + 1:=by
     unfold dst
     split
     . omega
     . simp
   rw [List.length_cons]
   omega
theorem ded_len (ks : List (Int × Int)) : (ded ks).length <= ks.length:=by simpa [ded] using foldl_len ks []
theorem foldl_head : ∀ (ks a : List (Int × Int)) (x : Int × Int),a.head? = some x -> (ks.foldl dst a).head? = some x
 | [],_,_,h=>h
 | k :: ks,a,x,h=>foldl_head ks (dst a k) x (by
   unfold dst
   split
   . exact h
   . cases a with
     | nil=>cases h
     | cons y a=>simpa using h)
theorem ded_head {ks : List (Int × Int)} (h : 1 <= ks.length) : ∃ l,ded ks = kat ks 0 :: l:=by
 cases ks with
 | nil=>simp at h
 | cons k ks =>
   have h1:=foldl_head ks [k] k rfl
   have h2 : ded (k :: ks) = ks.foldl dst [k]:=rfl
   rw [← h2] at h1
   cases h3 : ded (k :: ks) with
   | nil=>rw [h3] at h1; cases h1
   | cons y l =>
     rw [h3] at h1
     obtain rfl : y = k:=by simpa using h1
     exact ⟨l,rfl⟩
theorem kpos_no {k : Int × Int} : ∀ {m : List ((Int × Int) × Nat)} {i : Nat},k ∉ m.map (·.1) -> kpos k m i = none
 | [],_,_=>rfl
 | x :: m,i,h=>by
   rw [List.map_cons,List.mem_cons,not_or] at h
   unfold kpos
   rw [if_neg (by simpa using h.1)]
   exact kpos_no h.2
theorem kpos_yes {k : Int × Int} : ∀ {m : List ((Int × Int) × Nat)} {i : Nat},k ∈ m.map (·.1) -> ∃ x,kpos k m i = some x
 | x :: m,i,h=>by
   unfold kpos
   by_cases e : k = x.1
   . rw [if_pos (by simpa using e)]
     exact ⟨_,rfl⟩
   . rw [if_neg (by simpa using e)]
     rw [List.map_cons,List.mem_cons] at h
     exact kpos_yes (h.resolve_left e)
 | [],_,h=>by cases h
structure JM (D : Jd) (bg sm wt : Int) (un : Value) (V : World) : Prop where
 k : V.heap[D.r]? = some (.cells #[.slice (some ⟨D.kg,D.ko,none⟩) D.ks.length D.kc] 143 (0,0))
 v : V.heap[D.r + 1]? = some (.cells #[.int .i64 D.v] 3 (0,0))
 g : V.heap[D.r + 3]? = some (.cells #[.map (some (D.r + 2))] 190 (0,0))
 x : V.heap[D.r + 4]? = some (.cells #[.pointer (some ⟨D.r + 3,0,none⟩)] 130 (0,0))
 b : V.heap[D.r + 6]? = some (.cells #[.int .i64 bg] 3 (0,0))
 s : V.heap[D.r + 7]? = some (.cells #[.int .i64 sm] 3 (0,0))
 w : V.heap[D.r + 8]? = some (.cells #[.int .i64 wt] 3 (0,0))
 u : V.heap[D.r + 9]? = some (.cells #[un] 143 (0,0))
 ky : ∀ j,j < D.ks.length -> V.cell? ⟨D.kg,D.ko + j * 2,none⟩ = some (.int .i64 (kat D.ks j).1) /\ V.cell? ⟨D.kg,D.ko + j * 2 + 1,none⟩ = some (.int .i64 (kat D.ks j).2)
 kh : V.heap[D.kg]? = some D.kob
def Jd.fix (D : Jd) (b : Nat) : Prop:=b = D.kg ∨ (D.r <= b /\ b <= D.r + 9 /\ b ≠ D.r + 2 /\ b ≠ D.r + 5)
section
variable {D : Jd} {bg sm wt : Int} {un : Value} {V V' : World}
theorem JM.keep (A : JM D bg sm wt un V) (h : ∀ b,D.fix b -> V'.heap[b]? = V.heap[b]?) : JM D bg sm wt un V':=by
 have f : ∀ d,d <= 9 -> d ≠ 2 -> d ≠ 5 -> V'.heap[D.r + d]? = V.heap[D.r + d]?:=fun d h1 h2 h3=>h _ (.inr ⟨by omega,by omega,by omega,by omega⟩)
 exact ⟨(f 0 (by omega) (by omega) (by omega)).trans A.k,(f 1 (by omega) (by omega) (by omega)).trans A.v,(f 3 (by omega) (by omega) (by omega)).trans A.g,(f 4 (by omega) (by omega) (by omega)).trans A.x,(f 6 (by omega) (by omega) (by omega)).trans A.b,(f 7 (by omega) (by omega) (by omega)).trans A.s,(f 8 (by omega) (by omega) (by omega)).trans A.w,(f 9 (by omega) (by omega) (by omega)).trans A.u,fun j hj=>⟨cell_kept (A.ky j hj).1 (h _ (.inl rfl)),cell_kept (A.ky j hj).2 (h _ (.inl rfl))⟩,(h _ (.inl rfl)).trans A.kh⟩
theorem JM.setb (A : JM D bg sm wt un V) (hk : D.kg < D.r) (x : Int) : JM D x sm wt un (V.setCell ⟨D.r + 6,0,none⟩ (.int .i64 x)):=by
 have f : ∀ b,b ≠ D.r + 6 -> (V.setCell ⟨D.r + 6,0,none⟩ (.int .i64 x)).heap[b]? = V.heap[b]?:=fun b hb=>by rw [setCell_heap,if_neg hb]
 exact ⟨(f _ (by omega)).trans A.k,(f _ (by omega)).trans A.v,(f _ (by omega)).trans A.g,(f _ (by omega)).trans A.x,by rw [setCell_heap,if_pos rfl,A.b]; simp,(f _ (by omega)).trans A.s,(f _ (by omega)).trans A.w,(f _ (by omega)).trans A.u,fun j hj=>⟨cell_kept (A.ky j hj).1 (f _ (by show D.kg ≠ _; omega)),cell_kept (A.ky j hj).2 (f _ (by show D.kg ≠ _; omega))⟩,(f _ (by show D.kg ≠ _; omega)).trans A.kh⟩
theorem JM.sets (A : JM D bg sm wt un V) (hk : D.kg < D.r) (x : Int) : JM D bg x wt un (V.setCell ⟨D.r + 7,0,none⟩ (.int .i64 x)):=by
 have f : ∀ b,b ≠ D.r + 7 -> (V.setCell ⟨D.r + 7,0,none⟩ (.int .i64 x)).heap[b]? = V.heap[b]?:=fun b hb=>by rw [setCell_heap,if_neg hb]
 exact ⟨(f _ (by omega)).trans A.k,(f _ (by omega)).trans A.v,(f _ (by omega)).trans A.g,(f _ (by omega)).trans A.x,(f _ (by omega)).trans A.b,by rw [setCell_heap,if_pos rfl,A.s]; simp,(f _ (by omega)).trans A.w,(f _ (by omega)).trans A.u,fun j hj=>⟨cell_kept (A.ky j hj).1 (f _ (by show D.kg ≠ _; omega)),cell_kept (A.ky j hj).2 (f _ (by show D.kg ≠ _; omega))⟩,(f _ (by show D.kg ≠ _; omega)).trans A.kh⟩
theorem JM.setw (A : JM D bg sm wt un V) (hk : D.kg < D.r) (x : Int) : JM D bg sm x un (V.setCell ⟨D.r + 8,0,none⟩ (.int .i64 x)):=by
 have f : ∀ b,b ≠ D.r + 8 -> (V.setCell ⟨D.r + 8,0,none⟩ (.int .i64 x)).heap[b]? = V.heap[b]?:=fun b hb=>by rw [setCell_heap,if_neg hb]
 exact ⟨(f _ (by omega)).trans A.k,(f _ (by omega)).trans A.v,(f _ (by omega)).trans A.g,(f _ (by omega)).trans A.x,(f _ (by omega)).trans A.b,(f _ (by omega)).trans A.s,by rw [setCell_heap,if_pos rfl,A.w]; simp,(f _ (by omega)).trans A.u,fun j hj=>⟨cell_kept (A.ky j hj).1 (f _ (by show D.kg ≠ _; omega)),cell_kept (A.ky j hj).2 (f _ (by show D.kg ≠ _; omega))⟩,(f _ (by show D.kg ≠ _; omega)).trans A.kh⟩
theorem JM.setu (A : JM D bg sm wt un V) (hk : D.kg < D.r) (x : Value) : JM D bg sm wt x (V.setCell ⟨D.r + 9,0,none⟩ x):=by
 have f : ∀ b,b ≠ D.r + 9 -> (V.setCell ⟨D.r + 9,0,none⟩ x).heap[b]? = V.heap[b]?:=fun b hb=>by rw [setCell_heap,if_neg hb]
 exact ⟨(f _ (by omega)).trans A.k,(f _ (by omega)).trans A.v,(f _ (by omega)).trans A.g,(f _ (by omega)).trans A.x,(f _ (by omega)).trans A.b,(f _ (by omega)).trans A.s,(f _ (by omega)).trans A.w,by rw [setCell_heap,if_pos rfl,A.u]; simp,fun j hj=>⟨cell_kept (A.ky j hj).1 (f _ (by show D.kg ≠ _; omega)),cell_kept (A.ky j hj).2 (f _ (by show D.kg ≠ _; omega))⟩,(f _ (by show D.kg ≠ _; omega)).trans A.kh⟩
end
def bgn (D : Jd) (p : Nat) : Int:=if p < 2 then 0 else ((ded D.ks).length : Int)
def jsm (D : Jd) (a z : Nat) : Int:=IntKind.i64.wrap ((a : Int) + if D.v = 0 then (z : Int) else 0)
def jkeys (D : Jd) (p : Nat) : List (Int × Int):=if p < 2 then [] else if p <= 42 then ded D.ks else (ded D.ks).tail
def Und (D : Jd) (un : Value) (own : Nat -> Prop) (V : World) : Prop:=∃ g c ks,un = .slice (some ⟨g,0,none⟩) ks.length c /\ own g /\ D.r + 9 < g /\ RowK V g c ks /\ ks.length = (ded D.ks).length /\ Asc ks
def JMap (D : Jd) (p : Nat) (w : List Nat) (own : Nat -> Prop) (V : World) : Prop:=∃ es clk m,V.heap[D.r + 2]? = some (.map es clk) /\ Mp es m /\ MBn es clk /\ m.map (·.1) = jkeys D p /\
 (2 <= p /\ p <= 42 -> ∃ ob m' cv,m = (D.k0,ob) :: m' /\ own ob /\ D.r + 9 < ob /\ V.heap[ob]? = some (.cells #[cv,.bool false,.int .i64 0,.int .i64 0] 201 (0,0)) /\ Qu V 183 2 cv w.length (wts (D.r + 5) w) /\ ∀ b,cv.ownBlock = some b -> own b /\ D.r + 9 < b)
structure JInv (D : Jd) (n : Nat) (s : Js) (own : Nat -> Prop) (V : World) : Prop where
 ok : Jok n s
 ow : ∀ b,D.r <= b -> b <= D.r + 9 -> own b
 ok2 : own D.kg
 kr : D.kg < D.r
 l1 : 1 <= D.ks.length
 l5 : D.ks.length <= 5
 jm : ∃ un,JM D (bgn D s.p) (jsm D s.a s.z) s.t un V /\ (s.p = 43 -> Und D un own V)
 mu : ∃ qv,MuI V own (D.r + 5) 0 s.o s.q qv /\ ∀ b,qv.ownBlock = some b -> D.r + 9 < b
 mp : JMap D s.p s.w own V
def JMem (D : Jd) (cs : List Frame) (own : Nat -> Prop) (V : World) : Prop:=∀ f ∈ cs,∀ ob tp mp,JnR ob tp mp f -> own ob /\ own (D.r + 2) /\ D.r + 9 < ob /\
 ((∃ es clk m',V.heap[D.r + 2]? = some (.map es clk) /\ Mp es ((D.k0,ob) :: m')) ∨ ∃ cv,V.heap[ob]? = some (.cells #[cv,.bool true,.int .i64 D.v,.int .i64 0] 201 (0,0)))
section
variable {D : Jd} {n : Nat} {s : Js} {own : Nat -> Prop} {V V' : World}
theorem Und.keep {un : Value} (h : Und D un own V) (hk : ∀ b,own b -> D.r + 9 < b -> V'.heap[b]? = V.heap[b]?) : Und D un own V':=by
 obtain ⟨g,c,ks,h1,h2,h3,h4,h5⟩:=h
 exact ⟨g,c,ks,h1,h2,h3,h4.keep (hk g h2 h3),h5⟩
theorem JMap.keep {p : Nat} {w : List Nat} (h : JMap D p w own V) (h2 : V'.heap[D.r + 2]? = V.heap[D.r + 2]?) (hk : ∀ b,own b -> D.r + 9 < b -> V'.heap[b]? = V.heap[b]?) : JMap D p w own V':=by
 obtain ⟨es,clk,m,h3,h4,h5,h6,h7⟩:=h
 refine ⟨es,clk,m,h2.trans h3,h4,h5,h6,fun hp=>?_⟩
 obtain ⟨ob,m',cv,a1,a2,a3,a4,a5,a6⟩:=h7 hp
 exact ⟨ob,m',cv,a1,a2,a3,(hk ob a2 a3).trans a4,a5.keep fun b hb=>hk b (a6 b hb).1 (a6 b hb).2,a6⟩
theorem JInv.fo (A : JInv D n s own V) : ∀ b,D.fix b -> own b:=fun b h=>by
 rcases h with rfl | h
 . exact A.ok2
 . exact A.ow b h.1 h.2.1
theorem JInv.frame (A : JInv D n s own V) (hk : ∀ b,own b -> V'.heap[b]? = V.heap[b]?) : JInv D n s own V':=by
 refine ⟨A.ok,A.ow,A.ok2,A.kr,A.l1,A.l5,?_,?_,A.mp.keep (hk _ (A.ow _ (by omega) (by omega))) fun b hb _=>hk b hb⟩
 . obtain ⟨un,h1,h2⟩:=A.jm
   exact ⟨un,h1.keep fun b hb=>hk b (A.fo b hb),fun hp=>(h2 hp).keep fun b hb _=>hk b hb⟩
 . obtain ⟨qv,M,hq⟩:=A.mu
   exact ⟨qv,M.keep hk,hq⟩
theorem JMem.frame {cs : List Frame} (A : JMem D cs own V) (hk : ∀ b,own b -> V'.heap[b]? = V.heap[b]?) : JMem D cs own V':=fun f hf ob tp mp h=>by
 obtain ⟨h1,h2,h3,h4⟩:=A f hf ob tp mp h
 refine ⟨h1,h2,h3,?_⟩
 rw [hk _ h1,hk _ h2]
 exact h4
end
noncomputable def lwB : Code:=Try.f66.body.getD .skip
def ac0 : Array Oper:=rops (nva lwB)
def aX1 : Code:=nvb lwB
def lwA : Code:=nvl (nvk (nvb (nva aX1)))
def aX6 : Code:=nvb aX1
def aX7 : Code:=nvb aX6
def aL : Code:=nvl (nvk (nvb (nva aX7)))
def ac10 : Array Oper:=rops (nvk (nva (nvb aL)))
def aR9 : Code:=nvb (nvb aL)
def aX11 : Code:=nvb aX7
def ac11 : Array Oper:=rops (nva aX11)
def aX12 : Code:=nvb aX11
noncomputable def hB : Code:=Try.f70.body.getD .skip
def hc0 : Array Oper:=rops (nva hB)
def hX1 : Code:=nvb hB
def hc1 : Array Oper:=rops (nva hX1)
def hX2 : Code:=nvb hX1
def hc2 : Array Oper:=rops (nva hX2)
def hX3 : Code:=nvb hX2
def hc3 : Array Oper:=ropsO (nva hX3)
def hX4 : Code:=nvb hX3
def AF (D : Jd) (tp : Value) (T : Array Value) : Prop:=T.size = 53 /\ T[0]? = some tp /\ T[1]? = some (.pointer (some ⟨D.r + 5,0,none⟩)) /\ T[2]? = some (.pointer (some ⟨D.r,0,none⟩)) /\ T[3]? = some (.pointer (some ⟨D.r + 4,0,none⟩)) /\ T[4]? = some (.pointer (some ⟨D.r + 6,0,none⟩)) /\ T[5]? = some (.pointer (some ⟨D.r + 8,0,none⟩)) /\ T[6]? = some (.pointer (some ⟨D.r + 9,0,none⟩)) /\ T[7]? = some (.pointer (some ⟨D.r + 1,0,none⟩))
def HF (D : Jd) (tp : Value) (T : Array Value) : Prop:=T.size = 31 /\ T[0]? = some tp /\ T[1]? = some (.pointer (some ⟨D.r + 5,0,none⟩)) /\ T[2]? = some (.pointer (some ⟨D.r + 4,0,none⟩)) /\ T[3]? = some (.pointer (some ⟨D.r,0,none⟩)) /\ T[4]? = some (.pointer (some ⟨D.r + 1,0,none⟩)) /\ T[5]? = some (.pointer (some ⟨D.r + 7,0,none⟩))
def Rs3 (rest : List Nat) : Prop:=rest = [6,7,8,9,10] ∨ rest = [6,8,7,9,10] ∨ rest = [6,7,9,8,10]
def ALoc (D : Jd) (C : Cw) (p : Nat) (cs : List Frame) : Prop :=
 (p = 1 -> ∃ f T,LkY (D.r + 5) 0 (C.tp 0) f /\ AF D (C.tp 0) T /\ cs = [f,(base 66).at ⟨T,[]⟩ [.inRegion ac0 [1],.code aX1]]) /\
 (2 <= p /\ p <= 41 -> ∃ T,AF D (C.tp 0) T /\ T[10]? = some (.int .i64 ((p - 2 : Nat) : Int)) /\ cs = [(base 66).at ⟨T,[]⟩ [.inRegion ac10 [1],.inBlock 3,.code aR9,.inLoop aL,.inBlock 2,.code aX11]]) /\
 (p = 42 -> ∃ f T,LkY (D.r + 5) 0 (C.tp 0) f /\ AF D (C.tp 0) T /\ cs = [f,(base 66).at ⟨T,[]⟩ [.inRegion ac11 [1],.code aX12]]) /\ 1 <= p /\ p <= 42
def HLoc (D : Jd) (tp : Value) (x : Nat) (cs : List Frame) : Prop :=
 (x = 1 -> ∃ T,HF D tp T /\ cs = [(base 70).at ⟨T,[]⟩ [.inRegion hc0 [1],.code hX1]]) /\
 (x = 2 -> ∃ T,HF D tp T /\ cs = [(base 70).at ⟨T,[]⟩ [.inRegion hc1 [1],.code hX2]]) /\
 (x = 3 -> ∃ f T,LkY (D.r + 5) 0 tp f /\ HF D tp T /\ cs = [f,(base 70).at ⟨T,[]⟩ [.inRegion hc2 [1],.code hX3]]) /\
 (x = 5 ∨ x = 6 -> ∃ f g T,RsP (D.r + 5) 0 tp f /\ LkR g /\ HF D tp T /\ cs = [f,g,(base 70).at ⟨T,[]⟩ [.inRegion hc2 [1],.code hX3]]) /\
 (x = 4 ∨ x = 8 -> ∃ f g h ob T rest,RsP (D.r + 5) 0 tp f /\ WtR g /\ JnR ob tp (.pointer (some ⟨D.r + 5,0,none⟩)) h /\ HF D tp T /\ Rs3 rest /\ cs = [f,g,h,(base 70).at ⟨T,[]⟩ [.inRegion hc3 (5 :: rest),.code hX4]]) /\ 1 <= x /\ x <= 8 /\ x ≠ 7
def JLoc (D : Jd) (C : Cw) (s : Js) (i : Nat) (cs : List Frame) : Prop:=(i = 0 -> ALoc D C s.p cs) /\ (i ≠ 0 -> HLoc D (C.tp i) (s.j i) cs)
def Ufj (D : Jd) (C : Cw) : Usr:={ S:=Js,inv:=JInv D C.n,st:=Js.st,loc:=JLoc D C,turn:=Js.turn,fid:=fun i=>if i = 0 then 66 else 70,first:=fun _=>#[],caps:=fun i=>if i = 0 then #[bp (D.r + 5),bp D.r,bp (D.r + 4),bp (D.r + 6),bp (D.r + 8),bp (D.r + 9),bp (D.r + 1)] else #[bp (D.r + 5),bp (D.r + 4),bp D.r,bp (D.r + 1),bp (D.r + 7)],mem:=JMem D }
end
end Go.Proofs.Ytibcdikfbhmheaa
