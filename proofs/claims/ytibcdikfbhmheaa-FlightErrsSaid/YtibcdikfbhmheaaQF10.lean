import Derived.Test.YtibcdikfbhmheaaQF09
import Derived.Test.YtibcdikfbhmheaaQF06
set_option linter.unusedSimpArgs false
set_option linter.unusedVariables false
set_option maxRecDepth 100000
set_option maxHeartbeats 4000000
namespace Go.Proofs.Ytibcdikfbhmheaa
open Go Go.Conc Go.Proofs
open Go.ConcN (sumTo upd sumTo_upd upd_ne upd_same)
set_option linter.unusedVariables false
theorem arrg_QF10 {n : Nat} (T : Array Value) (h : T.size = n) : ∃ f : Nat → Value,(∀ i v,T[i]? = some v → f i = v) ∧ T = ((List.range n).map f).toArray:=by
 refine ⟨fun i=>T.getD i undef,fun i v hv=>by simp [Array.getD_eq_getD_getElem?,hv],?_⟩
 generalize hf : (fun i=>T.getD i undef) = f
 have e : T.toList = (List.range n).map f:=by
   apply List.ext_getElem?
   intro i
   rw [List.getElem?_map,Array.getElem?_toList]
   by_cases hi : i < n
   · rw [List.getElem?_range hi,Option.map_some,← hf]
     simp [Array.getD_eq_getD_getElem?,Array.getElem?_eq_getElem (show i < T.size by omega)]
   · rw [List.getElem?_eq_none (by simp; omega),Array.getElem?_eq_none (by omega)]
     rfl
 rw [← Array.toArray_toList (xs:=T),e]
theorem array17f (T : Array Value) (h : T.size = 17) : ∃ f : Nat → Value,(∀ i v,T[i]? = some v → f i = v) ∧ T = #[f 0,f 1,f 2,f 3,f 4,f 5,f 6,f 7,f 8,f 9,f 10,f 11,f 12,f 13,f 14,f 15,f 16]:=arrg_QF10 T h
section
variable {r : Nat} {C : Cw} {E : Env} {s : Gs} {own : Nat → Prop} {V : World} {T : Array Value} {a₁ : Act} {ops₁ : Array Oper} {i₁ : Nat} {rest₁ : List Nat} {k₁ : List Item} {b : Frame} {a : Act} {ops : Array Oper} {j : Nat} {rest : List Nat} {k : List Item}
theorem join0 (t : Gn E C r s 1 own V) (hj0 : s.j = 0) : WillM Try.prog false E.Z (TEndM C (Ufl r C) s 1 own V ((baseD 141).at a₁ (.inRegion ops₁ (i₁ :: rest₁) :: k₁))) 0 (G (Frame.enter Try.prog 101 #[C.tp 1,.pointer (some ⟨(r + 3),0,none⟩),.pointer (some ⟨(r + 2),0,none⟩),.pointer (some ⟨(r + 4),0,none⟩),.pointer (some ⟨(r + 5),0,none⟩)] .normal) [((baseD 141).at a₁ (.inRegion ops₁ (i₁ :: rest₁) :: k₁)),rootF]) V:=by
 intro KK hM hS
 have hn2:=t.n2
 obtain ⟨hp6,hj4,hj2,hj3,hg⟩:=t.I.ok
 have y2:=t.I.x
 have y1:=t.I.gg
 have y4:=t.I.kk
 have y5:=t.I.v
 have y6:=t.I.f
 have y7:=t.I.se
 obtain ⟨o0,o1,o2,o3,o4,o5,o6,o7⟩ : own r ∧ own (r + 1) ∧ own (r + 2) ∧ own (r + 3) ∧ own (r + 4) ∧ own (r + 5) ∧ own (r + 6) ∧ own (r + 7):=⟨t.I.ow _ (by omega) (by omega),t.I.ow _ (by omega) (by omega),t.I.ow _ (by omega) (by omega),t.I.ow _ (by omega) (by omega),t.I.ow _ (by omega) (by omega),t.I.ow _ (by omega) (by omega),t.I.ow _ (by omega) (by omega),t.I.ow _ (by omega) (by omega)⟩
 obtain ⟨l0,l1,l2,l3,l4,l5,l6,l7⟩ : r < V.heap.size ∧ r + 1 < V.heap.size ∧ r + 2 < V.heap.size ∧ r + 3 < V.heap.size ∧ r + 4 < V.heap.size ∧ r + 5 < V.heap.size ∧ r + 6 < V.heap.size ∧ r + 7 < V.heap.size:=⟨t.lt _ o0,t.lt _ o1,t.lt _ o2,t.lt _ o3,t.lt _ o4,t.lt _ o5,t.lt _ o6,t.lt _ o7⟩
 obtain ⟨qv,M,hqv,hqr⟩:=t.I.mu
 rw [if_neg (by omega)] at M
 have hturn : s.turn 1 = { s with j:=1 }:=by unfold Gs.turn; rw [if_neg (by omega),if_neg (by omega),if_neg (by omega),hj0]
 rw [enter_at (P:=Try.prog) _ Try.func101 rfl]
 simp only [Try.f101,Cw.tp]
 walk_nrm
 obtain ⟨K,hK,hV,key,yek⟩:=kKV (L:=Lone) (J:=fun g=>KK 0 g V) hM.mu (hM.muv t.hn)
 refine key _ ?_
 repeat (first|(with_reducible first|apply hK.sq|apply hK.sk|(apply hK.re;try subst hkk)|apply hK.bl|apply hK.ib|apply hK.rt|apply hK.nd)|refine hK.ex rfl ?_|(with_reducible refine hK.rg fun kk hkk=>?_;simp only [ix,Nat.reduceAdd])|(with_reducible first|refine hK.cf ?_|refine hK.ct ?_)|(refine hK.uw rfl rfl ?_;walk_nrm)|(refine hV.vl rfl rfl fun J hJ=>?_;go_simp;with_reducible refine hJ _ ?_;clear hJ J;walk_nrm))
 try subst hkk
 refine hK.cl rfl rfl rfl Try.func45 rfl ?_
 walk_nrm
 refine yek _ ?_
 clear hK hV key yek K
 refine hM.walk _ _ _ (lock_in (C:=C) (i:=1) (mo:=0) (ow:=0) t.hn (by omega) (by omega) t.H M.c1 (by omega) fun f hf=>.stop ?_)
 refine hS _ _ (gy (fr:=f) (cs:=[_]) t.hn (Nat.le_refl _) (fun _ _ _ _=>rfl) t.lt (t.H.congr fun j hjl=>?_) ?_ (GMem.still rfl fun _ _ _ _ _=>rfl) ?_ ?_ ?_)
 · rw [hturn]
   have hj01 : j = 0 ∨ j = 1:=by omega
   rcases hj01 with rfl | rfl
   · rw [upd_ne _ _ (by omega),upd_ne _ _ (by omega)]; rfl
   · rw [upd_same,upd_same]
 · rw [hturn]
   have e0 : gOw own V V = own:=by funext b; exact propext ⟨fun h=>h.elim id fun h=>by omega,.inl⟩
   rw [e0]
   refine ⟨⟨hp6,by show 1 ≤ 4; omega,fun h=>by have : (1 : Nat) = 2:=h; omega,fun h=>by have : (1 : Nat) = 3:=h; omega,fun _=>hg (by omega)⟩,t.I.ow,y2,y1,y4,y5,y6,y7,⟨qv,by rw [if_neg (show ¬ (1 : Nat) = 3 by omega)]; exact M,hqv,hqr⟩,t.I.mp0,fun h=>?_⟩
   obtain ⟨es,clk,ob,cv,h1,h2,h3,h4,h5,h6,h7⟩:=t.I.mp1 h
   exact ⟨es,clk,ob,cv,h1,h2,h3,h4,h5,fun h=>by (have : (1 : Nat) = 2:=h); omega,fun _=>h7 (by omega)⟩
 · rw [hturn]; rfl
 · rw [hturn]
   exact ⟨fun h=>by omega,fun _=>⟨rfl,fun _=>⟨f,_,hf,⟨rfl,rfl,rfl,rfl,rfl,rfl⟩,rfl⟩,(fun h=>by rcases h with h | h <;> cases h),by show 1 ≤ 1; omega,by show 1 ≤ 3; omega⟩⟩
 · exact GMem.none fun g hg=>by
     rcases List.mem_cons.1 hg with rfl | hg
     · exact lky_fn hf
     · obtain rfl : g = _:=by simpa using hg
       exact fun e=>by cases e
theorem join1n (t : Gn E C r s 1 own V) (hj1 : s.j = 1) (hpn : ¬ (2 ≤ s.p ∧ s.p ≤ 5)) (hT : IF1 r (C.tp 1) T) {jj : Nat} (hfr : LkY (r + 3) 0 (C.tp 1) (b.at a (.inRegion ops (jj :: rest) :: k))) : WillM Try.prog false E.Z (TEndM C (Ufl r C) s 1 own V ((baseD 141).at a₁ (.inRegion ops₁ (i₁ :: rest₁) :: k₁))) 0 (G (b.at (a.put ((ops[jj]?).bind (·.dst)) (.tuple #[])) (.inRegion ops rest :: k)) [(base 101).at ⟨T,[]⟩ [.inRegion ic0 [1],.code iX1],((baseD 141).at a₁ (.inRegion ops₁ (i₁ :: rest₁) :: k₁)),rootF]) V:=by
 intro KK hM hS
 have hn2:=t.n2
 obtain ⟨hp6,hj4,hj2,hj3,hg⟩:=t.I.ok
 have y2:=t.I.x
 have y1:=t.I.gg
 have y4:=t.I.kk
 have y5:=t.I.v
 have y6:=t.I.f
 have y7:=t.I.se
 obtain ⟨o0,o1,o2,o3,o4,o5,o6,o7⟩ : own r ∧ own (r + 1) ∧ own (r + 2) ∧ own (r + 3) ∧ own (r + 4) ∧ own (r + 5) ∧ own (r + 6) ∧ own (r + 7):=⟨t.I.ow _ (by omega) (by omega),t.I.ow _ (by omega) (by omega),t.I.ow _ (by omega) (by omega),t.I.ow _ (by omega) (by omega),t.I.ow _ (by omega) (by omega),t.I.ow _ (by omega) (by omega),t.I.ow _ (by omega) (by omega),t.I.ow _ (by omega) (by omega)⟩
 obtain ⟨l0,l1,l2,l3,l4,l5,l6,l7⟩ : r < V.heap.size ∧ r + 1 < V.heap.size ∧ r + 2 < V.heap.size ∧ r + 3 < V.heap.size ∧ r + 4 < V.heap.size ∧ r + 5 < V.heap.size ∧ r + 6 < V.heap.size ∧ r + 7 < V.heap.size:=⟨t.lt _ o0,t.lt _ o1,t.lt _ o2,t.lt _ o3,t.lt _ o4,t.lt _ o5,t.lt _ o6,t.lt _ o7⟩
 obtain ⟨qv,M,hqv,hqr⟩:=t.I.mu
 have hturn : s.turn 1 = { s with j:=4 }:=by unfold Gs.turn; rw [if_neg (by omega),if_pos hj1,if_neg hpn]
 obtain ⟨es,clk,y0,hm⟩:=t.I.mp0 hpn
 have y00:=y0
 rw [hg (by omega),if_neg (by simp)] at y5
 have sz : V.heap.size ≤ V.heap.size:=Nat.le_refl _
 have kz : ∀ b,b < V.heap.size → ¬ (r ≤ b ∧ b ≤ r + 7) → V.heap[b]? = V.heap[b]?:=fun _ _ _=>rfl
 rw [if_neg (by omega)] at M
 obtain ⟨vb,vc,rfl⟩:=M.qu.sl
 refine hM.walk _ _ _ (lock_back (C:=C) (i:=1) (mo:=0) (ow:=0) t.hn (by omega) (by omega) t.H t.L M.c0 M.z0 M.c1 M.z1 M.qu (by simp) M.qmb (t.far _ M.mown) (fun b hb=>t.far b (M.qown b hb)) (by omega) (fun _=>.stop ?_) (fun h=>absurd ⟨rfl,rfl⟩ h) hfr)
 have M1:=M.take (1 + 1)
 have k1 : ∀ b,b ≠ r + 3 → (V.setCell ⟨r + 3,0 + 1,none⟩ (.int .i64 (1 + 1 : Nat))).heap[b]? = V.heap[b]?:=fun b hb=>set_off _ _ hb
 have s1 : (V.setCell ⟨r + 3,0 + 1,none⟩ (.int .i64 (1 + 1 : Nat))).heap.size = V.heap.size:=by simp [World.setCell]
 have hn1:=norm_set t.hn ⟨r + 3,0 + 1,none⟩ (.int .i64 (1 + 1 : Nat))
 generalize V.setCell ⟨r + 3,0 + 1,none⟩ (.int .i64 (1 + 1 : Nat)) = V1 at *
 replace y0:=(k1 _ (by omega)).trans y0
 replace y1:=(k1 _ (by omega)).trans y1
 replace y2:=(k1 _ (by omega)).trans y2
 replace y4:=(k1 _ (by omega)).trans y4
 replace y5:=(k1 _ (by omega)).trans y5
 replace y6:=(k1 _ (by omega)).trans y6
 replace y7:=(k1 _ (by omega)).trans y7
 replace M:=M1
 replace kz : ∀ b,b < V.heap.size → ¬ (r ≤ b ∧ b ≤ r + 7) → V1.heap[b]? = V.heap[b]?:=fun b h1 h2=>(k1 b (by omega)).trans (kz b h1 h2)
 replace sz : V.heap.size ≤ V1.heap.size:=by omega
 obtain ⟨hs,t0,t1,t2,t3,t4⟩:=hT
 obtain ⟨f,hf,hT⟩:=array17f T hs
 rw [hT]
 simp only [hf _ _ t0,hf _ _ t1,hf _ _ t2,hf _ _ t3,hf _ _ t4]
 clear hf hs t0 t1 t2 t3 t4
 subst hT
 refine (fun (h : ∀ X Y,X = ic0 → Y = iX1 → KK 0 (G ((base 101).at (Act.put ⟨_,[]⟩ ((X[1]?).bind (·.dst)) (.int .i64 0)) [.inRegion X [],.code Y]) [((baseD 141).at a₁ (.inRegion ops₁ (i₁ :: rest₁) :: k₁)),rootF]) V1)=>h ic0 iX1 rfl rfl) ?_
 intro X Y hX hY
 simp only [ic0,iX1,iB,rops,nva,nvb,Try.f101,Option.getD_some] at hX hY
 subst hX hY
 simp only [Cw.tp]
 walk_nrm
 have q_2_0 : ∀ τ,(re V1 τ 0).cell? ⟨r + 2,0,none⟩ = some (.pointer (some ⟨(r + 1),0,none⟩)):=fun τ=>cell_of y2 (by simp)
 have q_4_0 : ∀ τ,(re V1 τ 0).cell? ⟨r + 4,0,none⟩ = some (.int .i64 8):=fun τ=>cell_of y4 (by simp)
 have q_4_1 : ∀ τ,(re V1 τ 0).cell? ⟨r + 4,1,none⟩ = some (.int .i64 0):=fun τ=>cell_of y4 (by simp)
 obtain ⟨K,hK,hV,key,yek⟩:=kKV (L:=Lone) (J:=fun g=>KK 0 g V1) hM.mu (hM.muv hn1)
 refine key _ ?_
 repeat (first|(with_reducible first|apply hK.sq|apply hK.sk|(apply hK.re;try subst hkk)|apply hK.bl|apply hK.ib|apply hK.rt|apply hK.nd)|refine hK.ex rfl ?_|(with_reducible refine hK.rg fun kk hkk=>?_;simp only [ix,Nat.reduceAdd])|(with_reducible first|refine hK.cf ?_|refine hK.ct ?_)|(refine hK.uw rfl rfl ?_;walk_nrm)|(refine hV.vl rfl rfl fun J hJ=>?_;go_simp;with_reducible refine hJ _ ?_;clear hJ J;walk_nrm))
 refine hK.cl rfl rfl rfl Try.func71 rfl ?_
 walk_nrm
 refine yek _ ?_
 clear hK hV key yek K
 clear q_2_0 q_4_0 q_4_1
 refine join_none (k:=k8) hM hn1 y1 y0 hm rfl fun V2 hn2 k2=>?_
 have s2:=k2.size
 replace y0:=(k2.keep _ (by omega)).trans y0
 replace y1:=(k2.keep _ (by omega)).trans y1
 replace y2:=(k2.keep _ (by omega)).trans y2
 replace y4:=(k2.keep _ (by omega)).trans y4
 replace y5:=(k2.keep _ (by omega)).trans y5
 replace y6:=(k2.keep _ (by omega)).trans y6
 replace y7:=(k2.keep _ (by omega)).trans y7
 replace M:=M.keep2 (k2.keep _ (by omega)) (fun b hb=>k2.keep b (M.qu.at_ hb))
 replace kz : ∀ b,b < V.heap.size → ¬ (r ≤ b ∧ b ≤ r + 7) → V2.heap[b]? = V.heap[b]?:=fun b h1 h2=>(k2.keep b (by omega)).trans (kz b h1 h2)
 replace sz : V.heap.size ≤ V2.heap.size:=by omega
 walk_nrm
 obtain ⟨K,hK,hV,key,yek⟩:=kKV (L:=Lone) (J:=fun g=>KK 0 g V2) hM.mu (hM.muv hn2)
 refine key _ ?_
 repeat (first|(with_reducible first|apply hK.sq|apply hK.sk|(apply hK.re;try subst hkk)|apply hK.bl|apply hK.ib|apply hK.rt|apply hK.nd)|refine hK.ex rfl ?_|(with_reducible refine hK.rg fun kk hkk=>?_;simp only [ix,Nat.reduceAdd])|(with_reducible first|refine hK.cf ?_|refine hK.ct ?_)|(refine hK.uw rfl rfl ?_;walk_nrm)|(refine hV.vl rfl rfl fun J hJ=>?_;go_simp;with_reducible refine hJ _ ?_;clear hJ J;walk_nrm))
 refine yek _ ?_
 clear hK hV key yek K
 have q_s : ∀ τ,(re V2 τ 0).cell? ⟨r + 5,0,none⟩ = some (.int .i64 0):=fun τ=>cell_of y5 (by simp)
 have z_s : ∀ τ,(re V2 τ 0).frozen? ⟨r + 5,0,none⟩ = false:=fun τ=>by simp [World.frozen?,re,y5]
 have hnX1:=norm_set hn2 ⟨r + 5,0,none⟩ (.int .i64 0)
 refine mus_put (L:=Lone) (hM.mus hnX1) (K:=fun g=>KK 0 g V2) (K':=fun g=>KK 0 g (V2.setCell ⟨r + 5,0,none⟩ (.int .i64 0))) rfl (.inl rfl) rfl (by kernel_rfl) (fun τ=>?_) ?_
 · go_simp
   try rfl
 have kX1 : ∀ b,b ≠ r + 5 → (V2.setCell ⟨r + 5,0,none⟩ (.int .i64 0)).heap[b]? = V2.heap[b]?:=fun b hb=>by rw [setCell_heap,if_neg hb]
 have sX1 : (V2.setCell ⟨r + 5,0,none⟩ (.int .i64 0)).heap.size = V2.heap.size:=by simp [World.setCell]
 replace y5 : (V2.setCell ⟨r + 5,0,none⟩ (.int .i64 0)).heap[r + 5]? = some (.cells #[.int .i64 0] 3 (0,0)):=by
   rw [setCell_heap,if_pos rfl,y5]
   simp
 clear q_s z_s
 generalize V2.setCell ⟨r + 5,0,none⟩ (.int .i64 0) = X1 at *
 replace y0:=(kX1 _ (by omega)).trans y0
 replace y1:=(kX1 _ (by omega)).trans y1
 replace y2:=(kX1 _ (by omega)).trans y2
 replace y4:=(kX1 _ (by omega)).trans y4
 replace y6:=(kX1 _ (by omega)).trans y6
 replace y7:=(kX1 _ (by omega)).trans y7
 replace M:=M.keep2 (kX1 _ (by omega)) (fun b hb=>kX1 b (by have:=hqr b hb; omega))
 replace kz : ∀ b,b < V.heap.size → ¬ (r ≤ b ∧ b ≤ r + 7) → X1.heap[b]? = V.heap[b]?:=fun b h1 h2=>(kX1 b (by omega)).trans (kz b h1 h2)
 replace sz : V.heap.size ≤ X1.heap.size:=by omega
 try walk_nrm
 obtain ⟨K,hK,hV,key,yek⟩:=kKV (L:=Lone) (J:=fun g=>KK 0 g X1) hM.mu (hM.muv hnX1)
 refine key _ ?_
 repeat (first|(with_reducible first|apply hK.sq|apply hK.sk|(apply hK.re;try subst hkk)|apply hK.bl|apply hK.ib|apply hK.rt|apply hK.nd)|refine hK.ex rfl ?_|(with_reducible refine hK.rg fun kk hkk=>?_;simp only [ix,Nat.reduceAdd])|(with_reducible first|refine hK.cf ?_|refine hK.ct ?_)|(refine hK.uw rfl rfl ?_;walk_nrm)|(refine hV.vl rfl rfl fun J hJ=>?_;go_simp;with_reducible refine hJ _ ?_;clear hJ J;walk_nrm))
 refine hK.cl rfl rfl rfl Try.func46 rfl ?_
 walk_nrm
 refine yek _ ?_
 clear hK hV key yek K
 have kh : ∀ b,C.has b → X1.heap[b]? = V.heap[b]?:=fun b hb=>kz b (has_lt t.H t.L (by omega) b hb) fun h=>t.far b (t.I.ow b h.1 h.2) hb
 refine hM.walk _ _ _ (will_unlock (C:=C) (i:=1) (mo:=0) (q:=[]) hnX1 t.hO.tbi (fun a ha=>t.hO.cbt ha) (by omega) (by omega) (t.H.off kh) (t.L.off kh) M (fun x hx=>by cases hx) t.far fun X2 qv6 U=>.stop ?_)
 rw [Frame.finish_at]
 have ku : ∀ b,own b → b ≠ r + 3 → X2.heap[b]? = X1.heap[b]?:=fun b hb hne=>U.keep b hne fun j hj e=>t.far b hb (.inr (.inr ⟨j,hj,e⟩))
 replace y0:=(ku _ o0 (by omega)).trans y0
 replace y1:=(ku _ o1 (by omega)).trans y1
 replace y2:=(ku _ o2 (by omega)).trans y2
 replace y4:=(ku _ o4 (by omega)).trans y4
 replace y5:=(ku _ o5 (by omega)).trans y5
 replace y6:=(ku _ o6 (by omega)).trans y6
 replace y7:=(ku _ o7 (by omega)).trans y7
 have kw : ∀ b,b < V.heap.size → ¬ (r ≤ b ∧ b ≤ r + 7) → (∀ j,j < C.n → b ≠ C.tb j) → X2.heap[b]? = V.heap[b]?:=fun b h1 h2 h3=>(U.keep b (by omega) h3).trans (kz b h1 h2)
 have su : V.heap.size ≤ X2.heap.size:=by rw [U.sz]; exact sz
 walk_nrm
 obtain ⟨K,hK,hV,key,yek⟩:=kKV (L:=Lone) (J:=fun g=>KK 0 g X2) hM.mu (hM.muv U.nrm)
 refine key _ ?_
 repeat (first|(with_reducible first|apply hK.sq|apply hK.sk|(apply hK.re;try subst hkk)|apply hK.bl|apply hK.ib|apply hK.rt|apply hK.nd)|refine hK.ex rfl ?_|(with_reducible refine hK.rg fun kk hkk=>?_;simp only [ix,Nat.reduceAdd])|(with_reducible first|refine hK.cf ?_|refine hK.ct ?_)|(refine hK.uw rfl rfl ?_;walk_nrm)|(refine hV.vl rfl rfl fun J hJ=>?_;go_simp;with_reducible refine hJ _ ?_;clear hJ J;walk_nrm))
 refine yek _ ?_
 clear hK hV key yek K
 refine mu_leave0 (K:=fun g=>KK 0 g X2) hM.mu rfl rfl Try.func101 rfl ?_
 have hM6 : MuI X2 (gOw own V X2) (r + 3) 0 0 [] qv6:=U.mu.grow fun b hb _=>.inl hb
 refine hS _ _ (gt (fun b h1 h2 h3=>kw b h1 (fun h=>h2 (t.I.ow b h.1 h.2)) h3) U.nrm su t.lt (U.cw.congr fun j hjl=>?_) ?_ (fun cs hc=>?_) ?_)
 · rw [hturn]
   show upd (Gs.st s) 1 1 j = _
   have hj01 : j = 0 ∨ j = 1:=by omega
   rcases hj01 with rfl | rfl
   · rw [upd_ne _ _ (by omega),upd_ne _ _ (by omega)]; rfl
   · rw [upd_same,upd_same]
 · rw [hturn]
   refine ⟨⟨hp6,Nat.le_refl 4,fun h=>by have : (4 : Nat) = 2:=h; omega,fun h=>by have : (4 : Nat) = 3:=h; omega,fun h=>absurd rfl h⟩,fun b h1 h2=>.inl (t.I.ow b h1 h2),y2,y1,y4,by rw [hg (by omega),if_neg (by simp)]; exact y5,y6,y7,⟨qv6,by rw [if_neg (show ¬ (4 : Nat) = 3 by omega)]; exact hM6,fun h=>U.qo.trans (hqv h),fun b hb=>hqr b (U.qo.symm.trans hb)⟩,fun _=>⟨es,clk,y0,hm⟩,fun h=>absurd h hpn⟩
 · refine GMem.still (y0.trans y00.symm) (fun ob cv h1 h2 h3=>kw ob (t.lt _ h1) (by omega) fun j hj e=>t.far _ h1 (.inr (.inr ⟨j,hj,e⟩))) cs hc
 · rw [hturn]; rfl
theorem join1w (t : Gn E C r s 1 own V) (hj1 : s.j = 1) (hpn : 2 ≤ s.p ∧ s.p ≤ 5) (hT : IF1 r (C.tp 1) T) {jj : Nat} (hfr : LkY (r + 3) 0 (C.tp 1) (b.at a (.inRegion ops (jj :: rest) :: k))) : WillM Try.prog false E.Z (TEndM C (Ufl r C) s 1 own V ((baseD 141).at a₁ (.inRegion ops₁ (i₁ :: rest₁) :: k₁))) 0 (G (b.at (a.put ((ops[jj]?).bind (·.dst)) (.tuple #[])) (.inRegion ops rest :: k)) [(base 101).at ⟨T,[]⟩ [.inRegion ic0 [1],.code iX1],((baseD 141).at a₁ (.inRegion ops₁ (i₁ :: rest₁) :: k₁)),rootF]) V:=by
 intro KK hM hS
 have hn2:=t.n2
 obtain ⟨hp6,hj4,hj2,hj3,hg⟩:=t.I.ok
 have y2:=t.I.x
 have y1:=t.I.gg
 have y4:=t.I.kk
 have y5:=t.I.v
 have y6:=t.I.f
 have y7:=t.I.se
 obtain ⟨o0,o1,o2,o3,o4,o5,o6,o7⟩ : own r ∧ own (r + 1) ∧ own (r + 2) ∧ own (r + 3) ∧ own (r + 4) ∧ own (r + 5) ∧ own (r + 6) ∧ own (r + 7):=⟨t.I.ow _ (by omega) (by omega),t.I.ow _ (by omega) (by omega),t.I.ow _ (by omega) (by omega),t.I.ow _ (by omega) (by omega),t.I.ow _ (by omega) (by omega),t.I.ow _ (by omega) (by omega),t.I.ow _ (by omega) (by omega),t.I.ow _ (by omega) (by omega)⟩
 obtain ⟨l0,l1,l2,l3,l4,l5,l6,l7⟩ : r < V.heap.size ∧ r + 1 < V.heap.size ∧ r + 2 < V.heap.size ∧ r + 3 < V.heap.size ∧ r + 4 < V.heap.size ∧ r + 5 < V.heap.size ∧ r + 6 < V.heap.size ∧ r + 7 < V.heap.size:=⟨t.lt _ o0,t.lt _ o1,t.lt _ o2,t.lt _ o3,t.lt _ o4,t.lt _ o5,t.lt _ o6,t.lt _ o7⟩
 obtain ⟨qv,M,hqv,hqr⟩:=t.I.mu
 have hturn : s.turn 1 = { s with j:=2 }:=by unfold Gs.turn; rw [if_neg (by omega),if_pos hj1,if_pos hpn]
 obtain ⟨es,clk,ob,cv,y0,hm,oob,gob,yo,-,hc2⟩:=t.I.mp1 hpn
 obtain rfl:=hc2 (by omega)
 have y00:=y0
 have yo0:=yo
 have lob:=t.lt _ oob
 have ek : kpos k8 [(k8,ob)] 0 = some (0,ob):=by simp [kpos]
 have sz : V.heap.size ≤ V.heap.size:=Nat.le_refl _
 have kz : ∀ b,b < V.heap.size → ¬ (r ≤ b ∧ b ≤ r + 7) → V.heap[b]? = V.heap[b]?:=fun _ _ _=>rfl
 rw [if_neg (by omega)] at M
 obtain ⟨vb,vc,rfl⟩:=M.qu.sl
 refine hM.walk _ _ _ (lock_back (C:=C) (i:=1) (mo:=0) (ow:=0) t.hn (by omega) (by omega) t.H t.L M.c0 M.z0 M.c1 M.z1 M.qu (by simp) M.qmb (t.far _ M.mown) (fun b hb=>t.far b (M.qown b hb)) (by omega) (fun _=>.stop ?_) (fun h=>absurd ⟨rfl,rfl⟩ h) hfr)
 have M1:=M.take (1 + 1)
 have k1 : ∀ b,b ≠ r + 3 → (V.setCell ⟨r + 3,0 + 1,none⟩ (.int .i64 (1 + 1 : Nat))).heap[b]? = V.heap[b]?:=fun b hb=>set_off _ _ hb
 have s1 : (V.setCell ⟨r + 3,0 + 1,none⟩ (.int .i64 (1 + 1 : Nat))).heap.size = V.heap.size:=by simp [World.setCell]
 have hn1:=norm_set t.hn ⟨r + 3,0 + 1,none⟩ (.int .i64 (1 + 1 : Nat))
 generalize V.setCell ⟨r + 3,0 + 1,none⟩ (.int .i64 (1 + 1 : Nat)) = V1 at *
 have hq0:=hqv (by omega)
 replace yo:=(k1 _ (by omega)).trans yo
 replace y0:=(k1 _ (by omega)).trans y0
 replace y1:=(k1 _ (by omega)).trans y1
 replace y2:=(k1 _ (by omega)).trans y2
 replace y4:=(k1 _ (by omega)).trans y4
 replace y5:=(k1 _ (by omega)).trans y5
 replace y6:=(k1 _ (by omega)).trans y6
 replace y7:=(k1 _ (by omega)).trans y7
 replace M:=M1
 replace kz : ∀ b,b < V.heap.size → ¬ (r ≤ b ∧ b ≤ r + 7) → V1.heap[b]? = V.heap[b]?:=fun b h1 h2=>(k1 b (by omega)).trans (kz b h1 h2)
 replace sz : V.heap.size ≤ V1.heap.size:=by omega
 obtain ⟨hs,t0,t1,t2,t3,t4⟩:=hT
 obtain ⟨f,hf,hT⟩:=array17f T hs
 rw [hT]
 simp only [hf _ _ t0,hf _ _ t1,hf _ _ t2,hf _ _ t3,hf _ _ t4]
 clear hf hs t0 t1 t2 t3 t4
 subst hT
 refine (fun (h : ∀ X Y,X = ic0 → Y = iX1 → KK 0 (G ((base 101).at (Act.put ⟨_,[]⟩ ((X[1]?).bind (·.dst)) (.int .i64 0)) [.inRegion X [],.code Y]) [((baseD 141).at a₁ (.inRegion ops₁ (i₁ :: rest₁) :: k₁)),rootF]) V1)=>h ic0 iX1 rfl rfl) ?_
 intro X Y hX hY
 simp only [ic0,iX1,iB,rops,nva,nvb,Try.f101,Option.getD_some] at hX hY
 subst hX hY
 simp only [Cw.tp]
 walk_nrm
 have q_2_0 : ∀ τ,(re V1 τ 0).cell? ⟨r + 2,0,none⟩ = some (.pointer (some ⟨(r + 1),0,none⟩)):=fun τ=>cell_of y2 (by simp)
 have q_4_0 : ∀ τ,(re V1 τ 0).cell? ⟨r + 4,0,none⟩ = some (.int .i64 8):=fun τ=>cell_of y4 (by simp)
 have q_4_1 : ∀ τ,(re V1 τ 0).cell? ⟨r + 4,1,none⟩ = some (.int .i64 0):=fun τ=>cell_of y4 (by simp)
 obtain ⟨K,hK,hV,key,yek⟩:=kKV (L:=Lone) (J:=fun g=>KK 0 g V1) hM.mu (hM.muv hn1)
 refine key _ ?_
 repeat (first|(with_reducible first|apply hK.sq|apply hK.sk|(apply hK.re;try subst hkk)|apply hK.bl|apply hK.ib|apply hK.rt|apply hK.nd)|refine hK.ex rfl ?_|(with_reducible refine hK.rg fun kk hkk=>?_;simp only [ix,Nat.reduceAdd])|(with_reducible first|refine hK.cf ?_|refine hK.ct ?_)|(refine hK.uw rfl rfl ?_;walk_nrm)|(refine hV.vl rfl rfl fun J hJ=>?_;go_simp;with_reducible refine hJ _ ?_;clear hJ J;walk_nrm))
 try subst hkk
 refine hK.cl rfl rfl rfl Try.func71 rfl ?_
 walk_nrm
 refine yek _ ?_
 clear hK hV key yek K
 clear q_2_0 q_4_0 q_4_1
 refine join_in (k:=k8) hM hn1 y1 y0 hm ek yo fun V2 fw hn2 k2 hfw=>?_
 have s2:=k2.size
 replace yo:=(k2.keep _ (by omega)).trans yo
 replace y0:=(k2.keep _ (by omega)).trans y0
 replace y1:=(k2.keep _ (by omega)).trans y1
 replace y2:=(k2.keep _ (by omega)).trans y2
 replace y4:=(k2.keep _ (by omega)).trans y4
 replace y5:=(k2.keep _ (by omega)).trans y5
 replace y6:=(k2.keep _ (by omega)).trans y6
 replace y7:=(k2.keep _ (by omega)).trans y7
 replace M:=M.keep2 (k2.keep _ (by omega)) (fun b hb=>k2.keep b (M.qu.at_ hb))
 replace kz : ∀ b,b < V.heap.size → ¬ (r ≤ b ∧ b ≤ r + 7) → V2.heap[b]? = V.heap[b]?:=fun b h1 h2=>(k2.keep b (by omega)).trans (kz b h1 h2)
 replace sz : V.heap.size ≤ V2.heap.size:=by omega
 have kh : ∀ b,C.has b → V2.heap[b]? = V.heap[b]?:=fun b hb=>kz b (has_lt t.H t.L (by omega) b hb) fun h=>t.far b (t.I.ow b h.1 h.2) hb
 have hfw2:=hfw
 obtain ⟨Tw,w0,w1,w2,w3,w4,rfl⟩:=hfw
 refine hM.walk _ _ _ (wait_in (C:=C) (i:=1) (mb:=r + 3) (cb:=ob) (cv:=.slice none 0 0) (cq:=[]) (q:=[]) hn2 t.hO.tbi (fun a ha=>t.hO.cbt ha) (by omega) (by omega) (t.H.off kh) (t.L.off kh) M (fun x hx=>by cases hx) t.far yo oob (by omega) ⟨rfl,.inl ⟨rfl,rfl⟩⟩ (fun b hb=>by cases hb) (by simp [Value.ownBlock]) (by simp [Value.ownBlock]) (by rw [show (Value.slice vb ([] : List Nat).length vc).ownBlock = none from hq0]; simp) (by simp) fun V3 cv' V4 qv' f g P U hf hg'=>.stop ?_)
 have s3:=P.sz
 have ku : ∀ b,own b → b ≠ r + 3 → b ≠ ob → V4.heap[b]? = V2.heap[b]?:=fun b hb h1 h2=>(U.keep b h1 fun j hj e=>t.far b hb (.inr (.inr ⟨j,hj,e⟩))).trans (P.keep b (by have:=t.lt b hb; omega) h2 (by simp [Value.ownBlock]))
 replace y0:=(ku _ o0 (by omega) (by omega)).trans y0
 replace y1:=(ku _ o1 (by omega) (by omega)).trans y1
 replace y2:=(ku _ o2 (by omega) (by omega)).trans y2
 replace y4:=(ku _ o4 (by omega) (by omega)).trans y4
 replace y5:=(ku _ o5 (by omega) (by omega)).trans y5
 replace y6:=(ku _ o6 (by omega) (by omega)).trans y6
 replace y7:=(ku _ o7 (by omega) (by omega)).trans y7
 have yo4 : V4.heap[ob]? = some (.cells #[cv',.bool false,.int .i64 0,.int .i64 0] 201 (0,0)):=(U.keep ob (by omega) fun j hj e=>t.far ob oob (.inr (.inr ⟨j,hj,e⟩))).trans P.c
 have su : V.heap.size ≤ V4.heap.size:=by rw [U.sz]; omega
 have kw : ∀ b,b < V.heap.size → ¬ (r ≤ b ∧ b ≤ r + 7) → b ≠ ob → (∀ j,j < C.n → b ≠ C.tb j) → V4.heap[b]? = V.heap[b]?:=fun b h1 h2 h3 h4=>((U.keep b (by omega) h4).trans (P.keep b (by omega) h3 (by simp [Value.ownBlock]))).trans (kz b h1 h2)
 have hcv : ∀ b,cv'.ownBlock = some b → V.heap.size ≤ b ∧ b < V4.heap.size:=fun b hb=>by
   have hlt:=P.qu.at_ hb
   rcases P.own with h | ⟨b',h,hge⟩
   · rw [h] at hb; cases hb
   · rw [h] at hb
     obtain rfl:=Option.some.inj hb
     exact ⟨by omega,by rw [U.sz]; exact hlt⟩
 have hQ : Qu V4 183 2 cv' 1 (wts (r + 3) [1]):=by
   have hq:=P.qu
   refine Qu.keep (w:=V3) hq fun b hb=>?_
   have:=hcv b hb
   refine U.keep b (by omega) fun j hj e=>?_
   have:=has_lt t.H t.L (by omega) _ (.inr (.inr ⟨j,hj,rfl⟩) : C.has (C.tb j))
   omega
 have hM4 : MuI V4 (gOw own V V4) (r + 3) 0 0 [] qv':=U.mu.grow fun b hb _=>.inl hb
 refine hS _ _ (gp (fr:=f) (cs:=[g,_,_]) U.nrm su (fun b h1 h2 h3=>kw b h1 (fun h=>h2 (t.I.ow b h.1 h.2)) (fun e=>h2 (e ▸ oob)) h3) t.lt (U.cw.congr fun j hjl=>?_) ?_ (fun cs hc=>?_) ?_ ?_ ?_)
 · rw [hturn]
   show upd (Gs.st s) 1 1 j = _
   have hj01 : j = 0 ∨ j = 1:=by omega
   rcases hj01 with rfl | rfl
   · rw [upd_ne _ _ (by omega),upd_ne _ _ (by omega)]; rfl
   · rw [upd_same,upd_same]
 · rw [hturn]
   refine ⟨⟨hp6,by show 2 ≤ 4; omega,fun _=>hpn,fun h=>by have : (2 : Nat) = 3:=h; omega,fun _=>hg (by omega)⟩,fun b h1 h2=>.inl (t.I.ow b h1 h2),y2,y1,y4,y5,y6,y7,⟨qv',by rw [if_neg (show ¬ (2 : Nat) = 3 by omega)]; exact hM4,fun h=>U.qo.trans hq0,fun b hb=>hqr b (U.qo.symm.trans hb)⟩,fun h=>absurd hpn h,fun _=>⟨es,clk,ob,cv',y0,hm,.inl oob,gob,yo4,fun _=>⟨hQ,fun b hb=>⟨.inr (hcv b hb),by have:=hcv b hb; omega,by have:=hcv b hb; omega⟩⟩,fun h=>absurd rfl h⟩⟩
 · refine GMem.still (y0.trans y00.symm) (fun ob' cv2 h1 h2 h3=>kw ob' (t.lt _ h1) (by omega) (fun e=>?_) fun j hj e=>t.far _ h1 (.inr (.inr ⟨j,hj,e⟩))) cs hc
   rw [e,yo0] at h3
   simp at h3
 · rw [hturn]; rfl
 · rw [hturn]
   exact ⟨fun h=>by omega,fun _=>⟨rfl,(fun h=>by cases h),fun _=>⟨f,g,_,ob,_,hf,hg',hfw2,⟨rfl,rfl,rfl,rfl,rfl,rfl⟩,rfl⟩,by show 1 ≤ 2; omega,by show 2 ≤ 3; omega⟩⟩
 · intro f0 hf0 ob' tp mp hjn
   simp only [List.mem_cons,List.not_mem_nil,or_false] at hf0
   rcases hf0 with rfl | rfl | rfl | rfl
   · exact absurd (jnr_fn hjn) (rsp_fn hf)
   · exact absurd (jnr_fn hjn) (wtr_fn hg')
   · obtain rfl:=jnr_ob hfw2 hjn
     exact ⟨.inl oob,.inl o0,gob,.inl ⟨es,clk,y0,hm⟩⟩
   · exact absurd (jnr_fn hjn) (fun e=>by cases e)
theorem join3 (t : Gn E C r s 1 own V) (hj1 : s.j = 3) {g h : Frame} {ob : Nat} (hgw : WtR g) (hjn : JnR ob (C.tp 1) (.pointer (some ⟨r + 3,0,none⟩)) h) (hT : IF1 r (C.tp 1) T) (hme : GMem r [h] own V) {jj : Nat} (hfr : RsP (r + 3) 0 (C.tp 1) (b.at a (.inRegion ops (jj :: rest) :: k))) : WillM Try.prog false E.Z (TEndM C (Ufl r C) s 1 own V ((baseD 141).at a₁ (.inRegion ops₁ (i₁ :: rest₁) :: k₁))) 0 (G (b.at (a.put ((ops[jj]?).bind (·.dst)) (.tuple #[])) (.inRegion ops rest :: k)) [g,h,(base 101).at ⟨T,[]⟩ [.inRegion ic1 [3,4,5,6,7],.code iX2],((baseD 141).at a₁ (.inRegion ops₁ (i₁ :: rest₁) :: k₁)),rootF]) V:=by
 intro KK hM hS
 have hn2:=t.n2
 obtain ⟨hp6,hj4,hj2,hj3,hg⟩:=t.I.ok
 have y2:=t.I.x
 have y1:=t.I.gg
 have y4:=t.I.kk
 have y5:=t.I.v
 have y6:=t.I.f
 have y7:=t.I.se
 obtain ⟨o0,o1,o2,o3,o4,o5,o6,o7⟩ : own r ∧ own (r + 1) ∧ own (r + 2) ∧ own (r + 3) ∧ own (r + 4) ∧ own (r + 5) ∧ own (r + 6) ∧ own (r + 7):=⟨t.I.ow _ (by omega) (by omega),t.I.ow _ (by omega) (by omega),t.I.ow _ (by omega) (by omega),t.I.ow _ (by omega) (by omega),t.I.ow _ (by omega) (by omega),t.I.ow _ (by omega) (by omega),t.I.ow _ (by omega) (by omega),t.I.ow _ (by omega) (by omega)⟩
 obtain ⟨l0,l1,l2,l3,l4,l5,l6,l7⟩ : r < V.heap.size ∧ r + 1 < V.heap.size ∧ r + 2 < V.heap.size ∧ r + 3 < V.heap.size ∧ r + 4 < V.heap.size ∧ r + 5 < V.heap.size ∧ r + 6 < V.heap.size ∧ r + 7 < V.heap.size:=⟨t.lt _ o0,t.lt _ o1,t.lt _ o2,t.lt _ o3,t.lt _ o4,t.lt _ o5,t.lt _ o6,t.lt _ o7⟩
 obtain ⟨qv,M,hqv,hqr⟩:=t.I.mu
 have hp:=hj3 hj1
 have hturn : s.turn 1 = { s with j:=4,g:=true }:=by unfold Gs.turn; rw [if_neg (by omega),if_neg (by omega),if_pos hj1]
 obtain ⟨es,clk,y0,hm⟩:=t.I.mp0 (by omega)
 have y00:=y0
 rw [if_pos hj1] at M
 rw [hg (by omega),if_neg (by simp)] at y5
 obtain ⟨h1,h2,h3,h4⟩:=hme h (by simp) ob _ _ hjn
 have lob:=t.lt _ h1
 obtain ⟨cv,yo⟩ : ∃ cv,V.heap[ob]? = some (.cells #[cv,.bool true,.int .i64 5,.int .i64 0] 201 (0,0)):=by
   rcases h4 with ⟨es',clk',h5,h6⟩ | h5
   · rw [y00] at h5
     obtain ⟨rfl,rfl⟩ : es = es' ∧ clk = clk':=by have:=Option.some.inj h5; injection this with a b; exact ⟨a,b⟩
     cases hm.inj h6
   · exact h5
 have sz : V.heap.size ≤ V.heap.size:=Nat.le_refl _
 have kz : ∀ b,b < V.heap.size → ¬ (r ≤ b ∧ b ≤ r + 7) → V.heap[b]? = V.heap[b]?:=fun _ _ _=>rfl
 obtain ⟨Tg,g0,eg⟩:=id hgw
 obtain ⟨Th,q0,q1,q2,q3,q4,eh⟩:=id hjn
 subst eg
 refine hM.walk _ _ _ (rest_back (C:=C) (i:=1) (mo:=0) (ow:=2) t.hn (by omega) (by omega) t.H M.c1 (fun _=>?_) (fun hx=>absurd rfl hx) hfr)
 subst eh
 refine wait_ret t.hn (.stop ?_) hgw
 refine join_b0 hM t.hn yo hjn ?_
 obtain ⟨hs,t0,t1,t2,t3,t4⟩:=hT
 obtain ⟨f,hf,hT⟩:=array17f T hs
 rw [hT]
 simp only [hf _ _ t0,hf _ _ t1,hf _ _ t2,hf _ _ t3,hf _ _ t4]
 clear hf hs t0 t1 t2 t3 t4
 subst hT
 refine (fun (h : ∀ X Y,X = ic1 → Y = iX2 → KK 0 (G ((base 101).at (Act.put ⟨_,[]⟩ ((X[3]?).bind (·.dst)) (.tuple #[.int .i64 5,.int .i64 0])) [.inRegion X [4,5,6,7],.code Y]) [((baseD 141).at a₁ (.inRegion ops₁ (i₁ :: rest₁) :: k₁)),rootF]) V)=>h ic1 iX2 rfl rfl) ?_
 intro X Y hX hY
 simp only [ic1,iX2,iX1,iB,rops,nva,nvb,Try.f101,Option.getD_some] at hX hY
 subst hX hY
 simp only [Cw.tp]
 walk_nrm
 obtain ⟨K,hK,hV,key,yek⟩:=kKV (L:=Lone) (J:=fun g=>KK 0 g V) hM.mu (hM.muv t.hn)
 refine key _ ?_
 repeat (first|(with_reducible first|apply hK.sq|apply hK.sk|(apply hK.re;try subst hkk)|apply hK.bl|apply hK.ib|apply hK.rt|apply hK.nd)|refine hK.ex rfl ?_|(with_reducible refine hK.rg fun kk hkk=>?_;simp only [ix,Nat.reduceAdd])|(with_reducible first|refine hK.cf ?_|refine hK.ct ?_)|(refine hK.uw rfl rfl ?_;walk_nrm)|(refine hV.vl rfl rfl fun J hJ=>?_;go_simp;with_reducible refine hJ _ ?_;clear hJ J;walk_nrm))
 refine yek _ ?_
 clear hK hV key yek K
 have q_s : ∀ τ,(re V τ 0).cell? ⟨r + 5,0,none⟩ = some (.int .i64 0):=fun τ=>cell_of y5 (by simp)
 have z_s : ∀ τ,(re V τ 0).frozen? ⟨r + 5,0,none⟩ = false:=fun τ=>by simp [World.frozen?,re,y5]
 have hnX1:=norm_set t.hn ⟨r + 5,0,none⟩ (.int .i64 5)
 refine mus_put (L:=Lone) (hM.mus hnX1) (K:=fun g=>KK 0 g V) (K':=fun g=>KK 0 g (V.setCell ⟨r + 5,0,none⟩ (.int .i64 5))) rfl (.inl rfl) rfl (by kernel_rfl) (fun τ=>?_) ?_
 · go_simp
   try rfl
 have kX1 : ∀ b,b ≠ r + 5 → (V.setCell ⟨r + 5,0,none⟩ (.int .i64 5)).heap[b]? = V.heap[b]?:=fun b hb=>by rw [setCell_heap,if_neg hb]
 have sX1 : (V.setCell ⟨r + 5,0,none⟩ (.int .i64 5)).heap.size = V.heap.size:=by simp [World.setCell]
 replace y5 : (V.setCell ⟨r + 5,0,none⟩ (.int .i64 5)).heap[r + 5]? = some (.cells #[.int .i64 5] 3 (0,0)):=by
   rw [setCell_heap,if_pos rfl,y5]
   simp
 clear q_s z_s
 generalize V.setCell ⟨r + 5,0,none⟩ (.int .i64 5) = X1 at *
 replace y0:=(kX1 _ (by omega)).trans y0
 replace y1:=(kX1 _ (by omega)).trans y1
 replace y2:=(kX1 _ (by omega)).trans y2
 replace y4:=(kX1 _ (by omega)).trans y4
 replace y6:=(kX1 _ (by omega)).trans y6
 replace y7:=(kX1 _ (by omega)).trans y7
 replace M:=M.keep2 (kX1 _ (by omega)) (fun b hb=>kX1 b (by have:=hqr b hb; omega))
 replace kz : ∀ b,b < V.heap.size → ¬ (r ≤ b ∧ b ≤ r + 7) → X1.heap[b]? = V.heap[b]?:=fun b h1 h2=>(kX1 b (by omega)).trans (kz b h1 h2)
 replace sz : V.heap.size ≤ X1.heap.size:=by omega
 try walk_nrm
 obtain ⟨K,hK,hV,key,yek⟩:=kKV (L:=Lone) (J:=fun g=>KK 0 g X1) hM.mu (hM.muv hnX1)
 refine key _ ?_
 repeat (first|(with_reducible first|apply hK.sq|apply hK.sk|(apply hK.re;try subst hkk)|apply hK.bl|apply hK.ib|apply hK.rt|apply hK.nd)|refine hK.ex rfl ?_|(with_reducible refine hK.rg fun kk hkk=>?_;simp only [ix,Nat.reduceAdd])|(with_reducible first|refine hK.cf ?_|refine hK.ct ?_)|(refine hK.uw rfl rfl ?_;walk_nrm)|(refine hV.vl rfl rfl fun J hJ=>?_;go_simp;with_reducible refine hJ _ ?_;clear hJ J;walk_nrm))
 refine hK.cl rfl rfl rfl Try.func46 rfl ?_
 walk_nrm
 refine yek _ ?_
 clear hK hV key yek K
 have kh : ∀ b,C.has b → X1.heap[b]? = V.heap[b]?:=fun b hb=>kz b (has_lt t.H t.L (by omega) b hb) fun h=>t.far b (t.I.ow b h.1 h.2) hb
 refine hM.walk _ _ _ (will_unlock (C:=C) (i:=1) (mo:=0) (q:=[]) hnX1 t.hO.tbi (fun a ha=>t.hO.cbt ha) (by omega) (by omega) (t.H.off kh) (t.L.off kh) M (fun x hx=>by cases hx) t.far fun X2 qv6 U=>.stop ?_)
 rw [Frame.finish_at]
 have ku : ∀ b,own b → b ≠ r + 3 → X2.heap[b]? = X1.heap[b]?:=fun b hb hne=>U.keep b hne fun j hj e=>t.far b hb (.inr (.inr ⟨j,hj,e⟩))
 replace y0:=(ku _ o0 (by omega)).trans y0
 replace y1:=(ku _ o1 (by omega)).trans y1
 replace y2:=(ku _ o2 (by omega)).trans y2
 replace y4:=(ku _ o4 (by omega)).trans y4
 replace y5:=(ku _ o5 (by omega)).trans y5
 replace y6:=(ku _ o6 (by omega)).trans y6
 replace y7:=(ku _ o7 (by omega)).trans y7
 have kw : ∀ b,b < V.heap.size → ¬ (r ≤ b ∧ b ≤ r + 7) → (∀ j,j < C.n → b ≠ C.tb j) → X2.heap[b]? = V.heap[b]?:=fun b h1 h2 h3=>(U.keep b (by omega) h3).trans (kz b h1 h2)
 have su : V.heap.size ≤ X2.heap.size:=by rw [U.sz]; exact sz
 walk_nrm
 obtain ⟨K,hK,hV,key,yek⟩:=kKV (L:=Lone) (J:=fun g=>KK 0 g X2) hM.mu (hM.muv U.nrm)
 refine key _ ?_
 repeat (first|(with_reducible first|apply hK.sq|apply hK.sk|(apply hK.re;try subst hkk)|apply hK.bl|apply hK.ib|apply hK.rt|apply hK.nd)|refine hK.ex rfl ?_|(with_reducible refine hK.rg fun kk hkk=>?_;simp only [ix,Nat.reduceAdd])|(with_reducible first|refine hK.cf ?_|refine hK.ct ?_)|(refine hK.uw rfl rfl ?_;walk_nrm)|(refine hV.vl rfl rfl fun J hJ=>?_;go_simp;with_reducible refine hJ _ ?_;clear hJ J;walk_nrm))
 refine yek _ ?_
 clear hK hV key yek K
 refine mu_leave0 (K:=fun g=>KK 0 g X2) hM.mu rfl rfl Try.func101 rfl ?_
 have hM6 : MuI X2 (gOw own V X2) (r + 3) 0 0 [] qv6:=U.mu.grow fun b hb _=>.inl hb
 refine hS _ _ (gt (fun b h1 h2 h3=>kw b h1 (fun h=>h2 (t.I.ow b h.1 h.2)) h3) U.nrm su t.lt (U.cw.congr fun j hjl=>?_) ?_ (fun cs hc=>?_) ?_)
 · rw [hturn]
   show upd (Gs.st s) 1 1 j = _
   have hj01 : j = 0 ∨ j = 1:=by omega
   rcases hj01 with rfl | rfl
   · rw [upd_ne _ _ (by omega),upd_ne _ _ (by omega)]; rfl
   · rw [upd_same,upd_same]
 · rw [hturn]
   refine ⟨⟨hp6,Nat.le_refl 4,fun h=>by have : (4 : Nat) = 2:=h; omega,fun h=>by have : (4 : Nat) = 3:=h; omega,fun h=>absurd rfl h⟩,fun b h1 h2=>.inl (t.I.ow b h1 h2),y2,y1,y4,y5,y6,y7,⟨qv6,by rw [if_neg (show ¬ (4 : Nat) = 3 by omega)]; exact hM6,fun h=>U.qo.trans (hqv h),fun b hb=>hqr b (U.qo.symm.trans hb)⟩,fun _=>⟨es,clk,y0,hm⟩,fun h=>by have : 2 ≤ s.p ∧ s.p ≤ 5:=h; omega⟩
 · refine GMem.still (y0.trans y00.symm) (fun ob cv h1 h2 h3=>kw ob (t.lt _ h1) (by omega) fun j hj e=>t.far _ h1 (.inr (.inr ⟨j,hj,e⟩))) cs hc
 · rw [hturn]; rfl
end
end Go.Proofs.Ytibcdikfbhmheaa

namespace Go.Proofs.Ytibcdikfbhmheaa
open Go Go.Conc Go.Proofs
open Go.ConcN (sumTo upd sumTo_upd upd_ne upd_same)
set_option linter.unusedVariables false
theorem far_ofM {C : Cw} {own : Nat → Prop} {V : World} (hown : ∀ b,own b → b < V.heap.size ∧ b ≠ C.cb ∧ ∀ j,j < C.n → b ≠ C.tb j) (hlb : ∀ b,own b → b ≠ C.lb) : ∀ b,own b → ¬ C.has b:=fun b hb h=>by
 rcases h with h | h | ⟨j,hj,h⟩
 · exact (hown b hb).2.1 h
 · exact hlb b hb h
 · exact (hown b hb).2.2 j hj h
theorem uf_wtrF {f : Frame} (h : WtR f) : UF f:=by
 obtain ⟨T,_,rfl⟩:=h
 exact uf_at rfl rfl rfl ⟨_,Try.func49⟩
theorem uf_jnr {ob : Nat} {tp mp : Value} {f : Frame} (h : JnR ob tp mp f) : UF f:=by
 obtain ⟨T,_,_,_,_,_,rfl⟩:=h
 exact uf_at rfl rfl rfl ⟨_,Try.func71⟩
theorem Gs.stp_zero {p : Nat} (h : Gs.stp p = 0) : p = 0:=by
 unfold Gs.stp at h
 by_cases h0 : p = 0
 · exact h0
 · rw [if_neg h0] at h
   by_cases h5 : p ≤ 5
   · rw [if_pos h5] at h; omega
   · rw [if_neg h5] at h; omega
theorem Gs.stp_two (p : Nat) : Gs.stp p = 0 ∨ Gs.stp p = 1 ∨ Gs.stp p = 2 ∨ Gs.stp p = 3:=by
 unfold Gs.stp
 split
 · exact .inl rfl
 · split
   · exact .inr (.inl rfl)
   · exact .inr (.inr (.inr rfl))
theorem Gs.stj_one {j : Nat} (h : Gs.stj j = 1) : j = 1 ∨ j = 3:=by
 rcases j with _ | _ | _ | _ | j
 · exact absurd h (by decide)
 · exact .inl rfl
 · exact absurd h (by decide)
 · exact .inr rfl
 · exact absurd h (by show ¬ ((3 : Int) = 1); decide)
theorem Gs.stj_zero {j : Nat} (h : Gs.stj j = 0) : j = 0:=by
 rcases j with _ | _ | _ | _ | j
 · rfl
 · exact absurd h (by decide)
 · exact absurd h (by decide)
 · exact absurd h (by decide)
 · exact absurd h (by show ¬ ((3 : Int) = 0); decide)
theorem Gs.stj_two (j : Nat) : Gs.stj j = 0 ∨ Gs.stj j = 1 ∨ Gs.stj j = 2 ∨ Gs.stj j = 3:=by
 rcases j with _ | _ | _ | _ | j
 · exact .inl rfl
 · exact .inr (.inl rfl)
 · exact .inr (.inr (.inl rfl))
 · exact .inr (.inl rfl)
 · exact .inr (.inr (.inr rfl))
theorem Gs.turn_j (s : Gs) : (s.turn 0).j = s.j ∨ (s.j = 2 ∧ (s.turn 0).j = 3):=by
 unfold Gs.turn
 rw [if_pos rfl]
 split
 · rename_i h; exact .inr ⟨h.2,rfl⟩
 · exact .inl rfl
theorem Gs.turn_p (s : Gs) {i : Nat} (hi : i ≠ 0) : (s.turn i).p = s.p:=by
 unfold Gs.turn
 rw [if_neg hi]
 split
 · split <;> rfl
 · split <;> rfl
variable {r : Nat} {C : Cw} {E : Env}
theorem ufl_ok (hO : CwOk E C) (hn2 : C.n = 2) (hf0 : C.f 0 = .func (.func 100) #[] #[bp (r + 3),bp (r + 2),bp (r + 4),bp (r + 6),bp (r + 7)]) (hf1 : C.f 1 = .func (.func 101) #[] #[bp (r + 3),bp (r + 2),bp (r + 4),bp (r + 5)]) : UOk E C (Ufl r C):=by
 refine ⟨fun σ own V V' A hk hsz=>GInv.frame A hk,fun cs own V V' A hk _=>GMem.frame A hk,fun σ i cs h=>?_,fun (σ : Gs) i j cs hi hs hj h=>?_,fun (σ : Gs) i j hi hs hj hji=>?_,fun (σ : Gs) i _=>?_,fun (σ : Gs) i hi h=>?_,fun (σ : Gs) i own V Rf bx hi hs hRf hn H A hown L hlb=>?_,fun (σ : Gs) i own V Rf bx b a ops i₀ rest k cs hi hs hl hmm hRf hn H A hown L hlb=>?_⟩
 · obtain ⟨h0,h1⟩:=h
   intro f hf
   by_cases e : i = 0
   · obtain ⟨a1,a2,a3,a4,a5,b1,b2⟩:=h0 e
     have hp : σ.p = 1 ∨ σ.p = 2 ∨ σ.p = 3 ∨ σ.p = 4 ∨ σ.p = 5:=by omega
     rcases hp with hp | hp | hp | hp | hp
     · obtain ⟨g,T,q1,_,rfl⟩:=a1 hp
       simp only [List.mem_cons,List.not_mem_nil,or_false] at hf
       rcases hf with rfl | rfl
       · exact uf_lky q1
       · exact uf_at rfl rfl rfl ⟨_,Try.func100⟩
     · obtain ⟨T,_,rfl⟩:=a2 hp
       obtain rfl : f = _:=by simpa using hf
       exact uf_at rfl rfl rfl ⟨_,Try.func100⟩
     · obtain ⟨T,_,rfl⟩:=a3 hp
       obtain rfl : f = _:=by simpa using hf
       exact uf_at rfl rfl rfl ⟨_,Try.func100⟩
     · obtain ⟨T,_,rfl⟩:=a4 hp
       obtain rfl : f = _:=by simpa using hf
       exact uf_at rfl rfl rfl ⟨_,Try.func100⟩
     · obtain ⟨g,T,q1,_,rfl⟩:=a5 hp
       simp only [List.mem_cons,List.not_mem_nil,or_false] at hf
       rcases hf with rfl | rfl
       · exact uf_lky q1
       · exact uf_at rfl rfl rfl ⟨_,Try.func100⟩
   · obtain ⟨_,a1,a2,b1,b2⟩:=h1 e
     have hp : σ.j = 1 ∨ (σ.j = 2 ∨ σ.j = 3):=by omega
     rcases hp with hp | hp
     · obtain ⟨g,T,q1,_,rfl⟩:=a1 hp
       simp only [List.mem_cons,List.not_mem_nil,or_false] at hf
       rcases hf with rfl | rfl
       · exact uf_lky q1
       · exact uf_at rfl rfl rfl ⟨_,Try.func101⟩
     · obtain ⟨g1,g2,g3,ob,T,q1,q2,q3,_,rfl⟩:=a2 hp
       simp only [List.mem_cons,List.not_mem_nil,or_false] at hf
       rcases hf with rfl | rfl | rfl | rfl
       · exact uf_rsp q1
       · exact uf_wtrF q2
       · exact uf_jnr q3
       · exact uf_at rfl rfl rfl ⟨_,Try.func101⟩
 · obtain ⟨h0,h1⟩:=h
   show GLoc r C (σ.turn i) j cs
   by_cases e : i = 0
   · subst e
     refine ⟨fun e=>absurd e hj,fun e=>?_⟩
     obtain ⟨a0,a1,a2,b1,b2⟩:=h1 e
     rcases σ.turn_j with ej | ⟨ej,ej'⟩
     · rw [ej]; exact ⟨a0,a1,a2,b1,b2⟩
     · rw [ej']
       exact ⟨a0,fun h=>by omega,fun _=>a2 (.inl ej),by omega,by omega⟩
   · refine ⟨fun e2=>?_,fun e2=>by omega⟩
     rw [σ.turn_p e]
     exact h0 e2
 · show Gs.st (σ.turn i) j = Gs.st σ j ∨ (Gs.st σ j = 2 ∧ Gs.st (σ.turn i) j = 1)
   unfold Gs.st
   by_cases e : j = 0
   · rw [if_pos e,if_pos e,σ.turn_p (by omega)]
     exact .inl rfl
   · rw [if_neg e,if_neg e]
     obtain rfl : i = 0:=by omega
     rcases σ.turn_j with ej | ⟨ej,ej'⟩
     · rw [ej]; exact .inl rfl
     · rw [ej,ej']; exact .inr ⟨rfl,rfl⟩
 · show Gs.st σ i = 0 ∨ Gs.st σ i = 1 ∨ Gs.st σ i = 2 ∨ Gs.st σ i = 3
   unfold Gs.st
   split
   · exact Gs.stp_two _
   · exact Gs.stj_two _
 · have hi01 : i = 0 ∨ i = 1:=by omega
   rcases hi01 with rfl | rfl
   · exact ⟨hf0,_,_,Try.func100,by kernel_rfl,rfl⟩
   · exact ⟨hf1,_,_,Try.func101,by kernel_rfl,rfl⟩
 · obtain ⟨a₁,ops₁,i₁,rest₁,k₁,eRf,-⟩:=hRf
   subst eRf
   have hs : Gs.st σ i = 0:=hs
   have t : Gn E C r σ i own V:=⟨hO,hn2,hn,A,H,L,fun b hb=>(hown b hb).1,far_ofM hown hlb⟩
   have hi01 : i = 0 ∨ i = 1:=by omega
   rcases hi01 with rfl | rfl
   · exact lead0 t (Gs.stp_zero hs)
   · exact join0 t (Gs.stj_zero hs)
 · obtain ⟨a₁,ops₁,i₁,rest₁,k₁,eRf,-⟩:=hRf
   subst eRf
   have hs : Gs.st σ i = 1:=hs
   have H' : CwAt C false (upd (Gs.st σ) i 1) V:=CwAt.congr H fun j hj=>by
     by_cases e : j = i
     · subst e; rw [upd_same]; exact hs
     · rw [upd_ne _ _ e]; rfl
   have t : Gn E C r σ i own V:=⟨hO,hn2,hn,A,H',L,fun b hb=>(hown b hb).1,far_ofM hown hlb⟩
   obtain ⟨h0,h1⟩ : GLoc r C σ i _:=hl
   have hi01 : i = 0 ∨ i = 1:=by omega
   rcases hi01 with rfl | rfl
   · obtain ⟨c1,c2,c3,c4,c5,b1,b2⟩:=h0 rfl
     have hp : σ.p = 1 ∨ σ.p = 2 ∨ σ.p = 3 ∨ σ.p = 4 ∨ σ.p = 5:=by omega
     rcases hp with hp | hp | hp | hp | hp
     · obtain ⟨f,T,hf,hT,e⟩:=c1 hp
       obtain ⟨rfl,rfl⟩:=List.cons.inj e
       exact lead1 t hp hT hf
     · obtain ⟨T,hT,e⟩:=c2 hp
       obtain ⟨e1,rfl⟩:=List.cons.inj e
       obtain ⟨rfl,e2,e3⟩:=at_inj e1
       obtain ⟨rfl,e4,rfl⟩:=item_inj e2
       obtain ⟨rfl,rfl⟩:=List.cons.inj e4
       rw [e3]
       exact lead2 t hp hT
     · obtain ⟨T,hT,e⟩:=c3 hp
       obtain ⟨e1,rfl⟩:=List.cons.inj e
       obtain ⟨rfl,e2,e3⟩:=at_inj e1
       obtain ⟨rfl,e4,rfl⟩:=item_inj e2
       obtain ⟨rfl,rfl⟩:=List.cons.inj e4
       rw [e3]
       exact lead3 t hp hT
     · obtain ⟨T,hT,e⟩:=c4 hp
       obtain ⟨e1,rfl⟩:=List.cons.inj e
       obtain ⟨rfl,e2,e3⟩:=at_inj e1
       obtain ⟨rfl,e4,rfl⟩:=item_inj e2
       obtain ⟨rfl,rfl⟩:=List.cons.inj e4
       rw [e3]
       exact lead4 t hp hT
     · obtain ⟨f,T,hf,hT,e⟩:=c5 hp
       obtain ⟨rfl,rfl⟩:=List.cons.inj e
       by_cases hj : σ.j = 2
       · exact lead5b t hp hj hT hf
       · exact lead5a t hp hj hT hf
   · obtain ⟨_,c1,c2,b1,b2⟩:=h1 (by omega)
     rcases Gs.stj_one hs with hp | hp
     · obtain ⟨f,T,hf,hT,e⟩:=c1 hp
       obtain ⟨rfl,rfl⟩:=List.cons.inj e
       by_cases hu : 2 ≤ σ.p ∧ σ.p ≤ 5
       · exact join1w t hp hu hT hf
       · exact join1n t hp hu hT hf
     · obtain ⟨f,g,h,ob,T,hf,hg,hj,hT,e⟩:=c2 (.inr hp)
       obtain ⟨rfl,rfl⟩:=List.cons.inj e
       refine join3 t hp hg hj hT (fun f' hf'=>?_) hf
       obtain rfl : f' = h:=by simpa using hf'
       exact hmm f' (by simp)
end Go.Proofs.Ytibcdikfbhmheaa

namespace Go.Proofs.Ytibcdikfbhmheaa
open Go Go.Conc Go.Proofs
open Go.ConcN (sumTo upd sumTo_upd upd_ne upd_same)
set_option linter.unusedVariables false
variable {D : Fd} {C : Cw} {E : Env}
theorem ufd_ok (hn1 : C.n = 1) (hf0 : C.f 0 = .func (.func 72) #[] #[bp D.nb,bp D.mb,bp D.kb,bp D.xb,bp D.okb]) : UOk E C (Ufd D C):=by
 refine ⟨fun σ own V V' A hk hsz=>FdV.frame A hk,fun cs own V V' A hk _=>trivial,fun σ i cs h=>absurd h id,fun σ i j cs hi hs hj h=>absurd h id,fun (σ : Bool) i j hi hs hj hji=>?_,fun (σ : Bool) i _=>?_,fun (σ : Bool) i hi h=>?_,fun (σ : Bool) i own V Rf bx hi hs hRf hn H A hown L hlb=>?_,fun (σ : Bool) i own V Rf bx b a ops i₀ rest k cs hi hs hl hmm hRf hn H A hown L hlb=>absurd hl id⟩
 · omega
 · cases σ with
   | true=>exact .inr (.inr (.inr rfl))
   | false=>exact .inl rfl
 · obtain rfl : i = 0:=by omega
   exact ⟨hf0,_,_,Try.func72,by kernel_rfl,rfl⟩
 · obtain ⟨a₁,ops₁,i₁,rest₁,k₁,eRf,-⟩:=hRf
   subst eRf
   obtain rfl : i = 0:=by omega
   cases σ with
   | true=>exact absurd (show (3 : Int) = 0 from hs) (by decide)
   | false =>
     have A : FdI D own V:=A
     refine ufd_start (st:=upd ((Ufd D C).st false) 0 1) (by omega) (by omega) hn H A hown fun V' v hn' hsz hk hE H'=>⟨hn',hsz,fun b hb ho _=>hk b hb ho,?_,own,hE,fun b hb=>⟨.inl hb,Nat.lt_of_lt_of_le (hown b hb).1 hsz⟩,fun _ _=>trivial,.inr (.inr ⟨rfl,.inl ⟨v,_,_,_,_,_,rfl,rfl⟩⟩)⟩
     refine CwAt.congr H' fun j hj=>?_
     obtain rfl : j = 0:=by omega
     rw [upd_same,upd_same]
theorem ufl_run (r : Nat) (C : Cw) (σ' : Gs) (xs' : List Nat) (h : (σ',xs') = rnds (Ufl r C) 2 30 (([] : List Int).foldl (pk (Ufl r C) 2) ((⟨0,0,false⟩ : Gs),[]))) : σ' = ⟨6,4,true⟩:=by
 have h1 : rnds (Ufl r C) 2 30 (([] : List Int).foldl (pk (Ufl r C) 2) ((⟨0,0,false⟩ : Gs),[])) = ((⟨6,4,true⟩ : Gs),[0,1,0,1,0,0,0,0,1]):=by kernel_rfl
 exact congrArg Prod.fst (h.trans h1)
theorem ufd_run (D : Fd) (C : Cw) (σ' : Bool) (xs' : List Nat) (h : (σ',xs') = rnds (Ufd D C) 1 30 (([] : List Int).foldl (pk (Ufd D C) 1) (false,[]))) : σ' = true:=by
 have h1 : rnds (Ufd D C) 1 30 (([] : List Int).foldl (pk (Ufd D C) 1) (false,[])) = (true,[0]):=by kernel_rfl
 exact congrArg Prod.fst (h.trans h1)
end Go.Proofs.Ytibcdikfbhmheaa

namespace Go.Proofs.Ytibcdikfbhmheaa
open Go Go.Conc Go.Proofs
open Go.ConcN (sumTo upd sumTo_upd upd_ne upd_same)
set_option linter.unusedVariables false
section
variable {P : Program} {main : Bool} {Z : Cuts} {KK : Nat → Goroutine → World → Prop} {d : Nat} {V V' : World} {b b₀ : Frame} {a a₀ : Act} {k k₀ : List Item} {cs : List Frame}
theorem markK_sem (hK : MarkK P main Z KK) {α : Type} {A : α → Prop} {s : Sem α} {v : α} {g g' : Goroutine} {fn : FuncId} (hs : SimOk P Z A s) (hn' : norm V' = V') (hr : ∀ τ,s.run P (re V τ 0) = .ok v (re V' τ 0)) (hg : g.status = .running)
   (hst : ∀ w w' es,s.runT P w #[] = (.ok v w',es) → stepG P main g w = .go g' w' (seen P fn es)) (h : KK d g' V') : KK d g V:=by
 refine hK.walk d g V ?_
 have step : ∀ w,pz Z w = V → Fit P Z w → ∃ w' es,stepG P main g w = .go g' w' es ∧ Hidden Z w w' ∧ Fit P Z w' ∧ (∀ e ∈ es,EvZ Z w'.heap.size e) ∧ pz Z w' = V':=fun w hV hf=>by
   subst hV
   have hsim:=hs (re (pz Z w) (glue (fun _ _=>0) 0 w) 0) w #[] rfl hf
   rw [hr] at hsim
   obtain ⟨hnx,hd,ht,hgo⟩:=hsim
   obtain ⟨w',es',e,o'⟩:=hgo glue_ag
   refine ⟨w',_,hst w w' es' e,o'.hid,o'.fit,fun e he=>?_,by rw [← o'.rl]; exact hn'⟩
   obtain ⟨u,hu,hu'⟩:=o'.evs
   have:=mem_seen he
   rw [hu] at this
   exact hu' e (by simpa using this)
 refine .step hg (fun w hV hf=>?_) fun w g1 w' es hV hf hst'=>?_
 · obtain ⟨w',es,e,h1,h2,h3,_⟩:=step w hV hf
   exact ⟨_,w',es,e,h1,h2,h3⟩
 · obtain ⟨w1,es1,e,h1,h2,h3,h4⟩:=step w hV hf
   rw [e] at hst'
   injection hst' with e1 e2 e3
   subst e1 e2
   rw [h4]; exact .stop h
def loopOf (f : FuncId) (T : Array Value) (ps : Array Tmp) (x y : Code) (D : Nat) (st : LoopState) : Obj:=.loop { state:=st,pending:=none,fn:=f,tmps:=T,params:=ps,assign:=x,body:=y,defers:=D }
theorem enterLoop_eq (f : FuncId) (T : Array Value) (ps : Array Tmp) (x y : Code) : Instr.enterLoop f T ps x y none = (newObj (.deferred (some [])) >>= fun r=>newObj (.loop { state:=.ready,pending:=none,fn:=f,tmps:=T,params:=ps,assign:=x,body:=y,defers:=r }) >>= fun l=>(pure (l,[({ target:=.collected r,args:=#[] } : Deferred)]) : Sem (Nat × List Deferred))):=by
 rfl
theorem sim_enterLoop {f : FuncId} {T : Array Value} {ps : Array Tmp} {x y : Code} : SimOk P Z (fun _=>True) (Instr.enterLoop f T ps x y none):=by
 rw [enterLoop_eq]
 exact sim_bind (A:=fun _=>True) (sim_newObj (by simp)) fun _ _=>sim_bind (A:=fun _=>True) (sim_newObj (by simp)) fun _ _=>sim_pure trivial
theorem apply_enterF {fr : Frame} {s : Sem Next} {w w' : World} {es : Array Event} {f : FuncId} {args : Array Value} {l : Nat} (hk : fr.kind = .normal) (ht : fr.todo = .inRangeFunc l :: k) (h : s.runT P w #[] = (.ok (.enter f args) w',es)) : stepG.apply P true fr cs none s w = .go (G (Frame.enter P f args .normal) (fr :: cs)) w' (seen P fr.fn es):=by
 simp [stepG.apply,h,hk,ht,GStep.after,G,-Sem.runT_eq]
theorem sim_endLoop {l : Nat} : SimOk P Z (fun _=>True) (Instr.endLoop l):=by
 unfold Instr.endLoop Instr.getLoop
 refine sim_bind (A:=fun _=>True) (sim_getObj (fun _ _=>⟨_,rfl⟩) fun o=>?_) fun r _=>?_
 · cases o <;> dsimp only <;> first | exact sim_pure trivial | exact sim_stuck
 · repeat' (first
     | with_reducible exact sim_pure trivial
     | with_reducible exact sim_runtimePanic
     | exact sim_setObj (by simp)
     | (with_reducible refine sim_bind (A:=fun _=>True) ?_ (fun _ _=>?_))
     | split
     | dsimp only)
theorem sim_takeDeferred {l : Nat} : SimOk P Z (fun _=>True) (Instr.takeDeferred l):=by
 unfold Instr.takeDeferred
 refine sim_getObj (fun _ _=>⟨_,rfl⟩) fun o=>?_
 repeat' (first
   | with_reducible exact sim_pure trivial
   | with_reducible exact sim_stuck
   | exact sim_setObj (by simp)
   | (with_reducible refine sim_bind (A:=fun _=>True) ?_ (fun _ _=>?_))
   | split
   | dsimp only)
theorem mk_range (hK : MarkK P main Z KK) (hn : norm V = V) {f : Operand} {F : FuncId} {fn : Func} {caps : Array Value} {ps : Array Tmp} {x y : Code} (hk : b.kind = .normal) (hf : a.eval f = .func (.func F) #[] caps) (hF : P.funcs[F]? = some fn) (hname : (fn.name == "runtime.NumGoroutine") = false) (hb : fn.body.isNone = false)
   (h : KK d (G (Frame.enter P F (#[.func (.yield (V.heap.size + 1)) #[] #[]] ++ caps) .normal) (b.at ⟨a.tmps,{ target:=.collected V.heap.size,args:=#[] } :: a.defers⟩ (.inRangeFunc (V.heap.size + 1) :: k) :: cs)) ((V.alloc (.deferred (some []))).alloc (loopOf b.fn a.tmps ps x y V.heap.size .ready))) :
   KK d (G (b.at a (.code (.rangeFunc f ps x y) :: k)) cs) V:=by
 refine markK_sem hK (s:=Instr.enterLoop b.fn a.tmps ps x y none) (v:=(V.heap.size + 1,[{ target:=.collected V.heap.size,args:=#[] }])) (fn:=b.fn) sim_enterLoop (norm_al (norm_al hn _) _) (fun τ=>?_) rfl (fun w w' es e=>?_) h
 · show Result.ok ((V.heap.push _).size,_) _ = _
   rw [Array.size_push]
   rfl
 · have h1 : (Instr.enterLoop b.fn a.tmps ps x y none).run P w = .ok (V.heap.size + 1,[{ target:=.collected V.heap.size,args:=#[] }]) w':=by rw [← Sem.runT_fst P _ w #[],e]
   have hq : ∀ ρ : Operand → Value,ρ f = .func (.func F) #[] caps → ∀ w',((do let d ← resolve ρ { callee:=.value f,args:=#[.const (.func (.yield (V.heap.size + 1)) #[] #[])],argTypes:=#[] } 0; invoke d.target d.args) : Sem Next).runT P w' #[] = (.ok (.enter F (#[ρ (.const (.func (.yield (V.heap.size + 1)) #[] #[]))] ++ caps)) w',#[]):=fun ρ hρ w'=>by
     have n1 : ¬ fn.name = "runtime.NumGoroutine" := by simpa using hname
     have n2 : ¬ fn.body = none:=fun h0=>by rw [h0] at hb; cases hb
     simp [resolve,hρ,Deferred.ofValue,invoke,callFunc,hF,n1,n2,Sem.runT]
   have hev:=Frame.eval_at b ⟨a.tmps,{ target:=.collected V.heap.size,args:=#[] } :: a.defers⟩ (.inRangeFunc (V.heap.size + 1) :: k)
   simp only [stepG,stepG.exec,Frame.at,G,e]
   have hh:=apply_enterF (cs:=cs) (fr:=b.at ⟨a.tmps,{ target:=.collected V.heap.size,args:=#[] } :: a.defers⟩ (.inRangeFunc (V.heap.size + 1) :: k)) hk rfl (hq _ ((hev f).trans hf) w')
   refine Eq.trans (congrArg (GStep.after (seen P b.fn es)) hh) ?_
   simp only [GStep.after,seen_none,Array.append_empty]
   rfl
theorem mk_endrange (hK : MarkK P main Z KK) (hn : norm V = V) {l D : Nat} {f : FuncId} {T : Array Value} {ps : Array Tmp} {x y : Code} {st : LoopState} (hl : V.heap[l]? = some (loopOf f T ps x y D st)) (hst : st ≠ .busy)
   (h : KK d (G (b.at a k) cs) (setM V l (loopOf f T ps x y D .exhausted))) : KK d (G (b.at a (.endRangeFunc l :: k)) cs) V:=by
 refine markK_sem hK (s:=Instr.endLoop l) (v:=none) (fn:=b.fn) sim_endLoop (setM_norm hn _ _) (fun τ=>?_) rfl (fun w w' es e=>?_) h
 · cases st <;> first | exact absurd rfl hst | simp [Instr.endLoop,Instr.getLoop,getObj,setObj,re,loopOf,Sem.run,hl,setM]
 · simp only [stepG,stepG.exec,Frame.at,G,e]
   simp [GStep.after]
theorem mk_collect (hK : MarkK P main Z KK) (hn : norm V = V) {l : Nat} {T : Array Value} {ds : List Deferred} {args : Array Value} (hl : V.heap[l]? = some (.deferred (some [])))
   (h : KK d (G { b.at ⟨T,ds⟩ k with mode:=.returning } cs) (setM V l (.deferred none))) : KK d (G { b.at ⟨T,{ target:=.collected l,args:=args } :: ds⟩ k with mode:=.returning } cs) V:=by
 refine markK_sem hK (s:=Instr.takeDeferred l) (v:=[]) (fn:=b.fn) sim_takeDeferred (setM_norm hn _ _) (fun τ=>?_) rfl (fun w w' es e=>?_) h
 · simp [Instr.takeDeferred,getObj,setObj,re,Sem.run,hl,setM]
 · simp only [stepG,unwind,Frame.at,G,e]
   simp [GStep.after]
end
end Go.Proofs.Ytibcdikfbhmheaa

namespace Go.Proofs.Ytibcdikfbhmheaa
open Go Go.Conc Go.Proofs
open Go.ConcN (sumTo upd sumTo_upd upd_ne upd_same)
set_option linter.unusedVariables false
section
variable {main : Bool} {Z : Cuts} {KK : Nat → Goroutine → World → Prop} {d : Nat} {V : World} {b₀ fr : Frame} {a₀ : Act} {ops₀ : Array Oper} {i₀ : Nat} {rest₀ : List Nat} {k₀ kt : List Item} {cs0 cs : List Frame} {gb rb clk : Nat} {es : Array MapEntry} {m : List ((Int × Int) × Nat)} {k : Int × Int}
theorem len64_0 (hM : MarkK Try.prog main Z KK) (hn : norm V = V) (h : KK d (G (b₀.at (a₀.put ((ops₀[i₀]?).bind (·.dst)) (.int .i64 0)) (.inRegion ops₀ rest₀ :: k₀)) cs0) V) : KK d (G (Frame.enter Try.prog 173 #[.int .u64 0] .normal) (b₀.at a₀ (.inRegion ops₀ (i₀ :: rest₀) :: k₀) :: cs0)) V:=by
 have w8 : IntKind.u8.wrap 0 = 0:=by decide
 have w9 : IntKind.i64.wrap 0 = 0:=by decide
 rw [enter_at (P:=Try.prog) _ Try.func173 rfl]
 simp only [Try.f173]
 walk_nrm
 obtain ⟨K,hK,hV,key,yek⟩:=kKV (L:=Lone) (J:=fun g=>KK d g V) hM.mu (hM.muv hn)
 refine key _ ?_
 repeat (first|(with_reducible first|apply hK.sq|apply hK.sk|(apply hK.re;try subst hkk)|apply hK.bl|apply hK.ib|apply hK.rt|apply hK.nd)|refine hK.ex rfl ?_|(with_reducible refine hK.rg fun kk hkk=>?_;simp only [ix,Nat.reduceAdd])|(with_reducible first|refine hK.cf ?_|refine hK.ct ?_)|(refine hK.uw rfl rfl ?_;walk_nrm)|(refine hV.vl rfl rfl fun J hJ=>?_;go_simp;with_reducible refine hJ _ ?_;clear hJ J;walk_nrm))
 refine yek _ ?_
 clear hK hV key yek K
 refine mu_leave1 (K:=fun g=>KK d g V) hM.mu rfl rfl Try.func173 rfl ?_
 exact h
theorem len_0 (hM : MarkK Try.prog main Z KK) (hn : norm V = V) (h : KK d (G (b₀.at (a₀.put ((ops₀[i₀]?).bind (·.dst)) (.int .i64 0)) (.inRegion ops₀ rest₀ :: k₀)) cs0) V) : KK d (G (Frame.enter Try.prog 150 #[.int .u64 0] .normal) (b₀.at a₀ (.inRegion ops₀ (i₀ :: rest₀) :: k₀) :: cs0)) V:=by
 rw [enter_at (P:=Try.prog) _ Try.func150 rfl]
 simp only [Try.f150]
 walk_nrm
 obtain ⟨K,hK,hV,key,yek⟩:=kKV (L:=Lone) (J:=fun g=>KK d g V) hM.mu (hM.muv hn)
 refine key _ ?_
 repeat (first|(with_reducible first|apply hK.sq|apply hK.sk|(apply hK.re;try subst hkk)|apply hK.bl|apply hK.ib|apply hK.rt|apply hK.nd)|refine hK.ex rfl ?_|(with_reducible refine hK.rg fun kk hkk=>?_;simp only [ix,Nat.reduceAdd])|(with_reducible first|refine hK.cf ?_|refine hK.ct ?_)|(refine hK.uw rfl rfl ?_;walk_nrm)|(refine hV.vl rfl rfl fun J hJ=>?_;go_simp;with_reducible refine hJ _ ?_;clear hJ J;walk_nrm))
 refine hK.cl rfl rfl rfl Try.func173 rfl ?_
 walk_nrm
 refine yek _ ?_
 clear hK hV key yek K
 refine len64_0 hM hn ?_
 walk_nrm
 obtain ⟨K,hK,hV,key,yek⟩:=kKV (L:=Lone) (J:=fun g=>KK d g V) hM.mu (hM.muv hn)
 refine key _ ?_
 repeat (first|(with_reducible first|apply hK.sq|apply hK.sk|(apply hK.re;try subst hkk)|apply hK.bl|apply hK.ib|apply hK.rt|apply hK.nd)|refine hK.ex rfl ?_|(with_reducible refine hK.rg fun kk hkk=>?_;simp only [ix,Nat.reduceAdd])|(with_reducible first|refine hK.cf ?_|refine hK.ct ?_)|(refine hK.uw rfl rfl ?_;walk_nrm)|(refine hV.vl rfl rfl fun J hJ=>?_;go_simp;with_reducible refine hJ _ ?_;clear hJ J;walk_nrm))
 refine yek _ ?_
 clear hK hV key yek K
 refine mu_leave1 (K:=fun g=>KK d g V) hM.mu rfl rfl Try.func150 rfl ?_
 exact h
theorem isort_nil {cv : Value} (hM : MarkK Try.prog main Z KK) (hn : norm V = V) (h : KK d (G (b₀.at (a₀.put ((ops₀[i₀]?).bind (·.dst)) (.tuple #[])) (.inRegion ops₀ rest₀ :: k₀)) cs0) V) : KK d (G (Frame.enter Try.prog 164 #[.slice none 0 0,.int .i64 0,.int .i64 0,cv] .normal) (b₀.at a₀ (.inRegion ops₀ (i₀ :: rest₀) :: k₀) :: cs0)) V:=by
 have w1 : IntKind.i64.wrap 1 = 1:=by decide
 rw [enter_at (P:=Try.prog) _ Try.func164 rfl]
 simp only [Try.f164]
 walk_nrm
 obtain ⟨K,hK,hV,key,yek⟩:=kKV (L:=Lone) (J:=fun g=>KK d g V) hM.mu (hM.muv hn)
 refine key _ ?_
 repeat (first|(with_reducible first|apply hK.sq|apply hK.sk|(apply hK.re;try subst hkk)|apply hK.bl|apply hK.ib|apply hK.rt|apply hK.nd)|refine hK.ex rfl ?_|(with_reducible refine hK.rg fun kk hkk=>?_;simp only [ix,Nat.reduceAdd])|(with_reducible first|refine hK.cf ?_|refine hK.ct ?_)|(refine hK.uw rfl rfl ?_;walk_nrm)|(refine hV.vl rfl rfl fun J hJ=>?_;go_simp;with_reducible refine hJ _ ?_;clear hJ J;walk_nrm))
 refine yek _ ?_
 clear hK hV key yek K
 refine mu_loop (K:=fun g=>KK d g V) hM.mu ?_
 obtain ⟨K,hK,hV,key,yek⟩:=kKV (L:=Lone) (J:=fun g=>KK d g V) hM.mu (hM.muv hn)
 refine key _ ?_
 repeat (first|(with_reducible first|apply hK.sq|apply hK.sk|(apply hK.re;try subst hkk)|apply hK.bl|apply hK.ib|apply hK.rt|apply hK.nd)|refine hK.ex rfl ?_|(with_reducible refine hK.rg fun kk hkk=>?_;simp only [ix,Nat.reduceAdd])|(with_reducible first|refine hK.cf ?_|refine hK.ct ?_)|(refine hK.uw rfl rfl ?_;walk_nrm)|(refine hV.vl rfl rfl fun J hJ=>?_;go_simp;with_reducible refine hJ _ ?_;clear hJ J;walk_nrm))
 refine yek _ ?_
 clear hK hV key yek K
 refine mu_leave0 (K:=fun g=>KK d g V) hM.mu rfl rfl Try.func164 rfl ?_
 exact h
theorem pdq_nil {cv lv : Value} (hM : MarkK Try.prog main Z KK) (hn : norm V = V) (h : KK d (G (b₀.at (a₀.put ((ops₀[i₀]?).bind (·.dst)) (.tuple #[])) (.inRegion ops₀ rest₀ :: k₀)) cs0) V) : KK d (G (Frame.enter Try.prog 149 #[.slice none 0 0,.int .i64 0,.int .i64 0,lv,cv] .normal) (b₀.at a₀ (.inRegion ops₀ (i₀ :: rest₀) :: k₀) :: cs0)) V:=by
 have w1 : IntKind.i64.wrap 0 = 0:=by decide
 rw [enter_at (P:=Try.prog) _ Try.func149 rfl]
 simp only [Try.f149]
 walk_nrm
 obtain ⟨K,hK,hV,key,yek⟩:=kKV (L:=Lone) (J:=fun g=>KK d g V) hM.mu (hM.muv hn)
 refine key _ ?_
 repeat (first|(with_reducible first|apply hK.sq|apply hK.sk|(apply hK.re;try subst hkk)|apply hK.bl|apply hK.ib|apply hK.rt|apply hK.nd)|refine hK.ex rfl ?_|(with_reducible refine hK.rg fun kk hkk=>?_;simp only [ix,Nat.reduceAdd])|(with_reducible first|refine hK.cf ?_|refine hK.ct ?_)|(refine hK.uw rfl rfl ?_;walk_nrm)|(refine hV.vl rfl rfl fun J hJ=>?_;go_simp;with_reducible refine hJ _ ?_;clear hJ J;walk_nrm))
 refine yek _ ?_
 clear hK hV key yek K
 refine mu_loop (K:=fun g=>KK d g V) hM.mu ?_
 obtain ⟨K,hK,hV,key,yek⟩:=kKV (L:=Lone) (J:=fun g=>KK d g V) hM.mu (hM.muv hn)
 refine key _ ?_
 repeat (first|(with_reducible first|apply hK.sq|apply hK.sk|(apply hK.re;try subst hkk)|apply hK.bl|apply hK.ib|apply hK.rt|apply hK.nd)|refine hK.ex rfl ?_|(with_reducible refine hK.rg fun kk hkk=>?_;simp only [ix,Nat.reduceAdd])|(with_reducible first|refine hK.cf ?_|refine hK.ct ?_)|(refine hK.uw rfl rfl ?_;walk_nrm)|(refine hV.vl rfl rfl fun J hJ=>?_;go_simp;with_reducible refine hJ _ ?_;clear hJ J;walk_nrm))
 refine hK.cl rfl rfl rfl Try.func164 rfl ?_
 walk_nrm
 refine yek _ ?_
 clear hK hV key yek K
 refine isort_nil hM hn ?_
 walk_nrm
 obtain ⟨K,hK,hV,key,yek⟩:=kKV (L:=Lone) (J:=fun g=>KK d g V) hM.mu (hM.muv hn)
 refine key _ ?_
 repeat (first|(with_reducible first|apply hK.sq|apply hK.sk|(apply hK.re;try subst hkk)|apply hK.bl|apply hK.ib|apply hK.rt|apply hK.nd)|refine hK.ex rfl ?_|(with_reducible refine hK.rg fun kk hkk=>?_;simp only [ix,Nat.reduceAdd])|(with_reducible first|refine hK.cf ?_|refine hK.ct ?_)|(refine hK.uw rfl rfl ?_;walk_nrm)|(refine hV.vl rfl rfl fun J hJ=>?_;go_simp;with_reducible refine hJ _ ?_;clear hJ J;walk_nrm))
 refine yek _ ?_
 clear hK hV key yek K
 refine mu_leave0 (K:=fun g=>KK d g V) hM.mu rfl rfl Try.func149 rfl ?_
 exact h
theorem sortF_nil {cv : Value} (hM : MarkK Try.prog main Z KK) (hn : norm V = V) (h : KK d (G (b₀.at (a₀.put ((ops₀[i₀]?).bind (·.dst)) (.tuple #[])) (.inRegion ops₀ rest₀ :: k₀)) cs0) V) : KK d (G (Frame.enter Try.prog 136 #[.slice none 0 0,cv] .normal) (b₀.at a₀ (.inRegion ops₀ (i₀ :: rest₀) :: k₀) :: cs0)) V:=by
 have w1 : IntKind.u64.wrap 0 = 0:=by decide
 rw [enter_at (P:=Try.prog) _ Try.func136 rfl]
 simp only [Try.f136]
 walk_nrm
 obtain ⟨K,hK,hV,key,yek⟩:=kKV (L:=Lone) (J:=fun g=>KK d g V) hM.mu (hM.muv hn)
 refine key _ ?_
 repeat (first|(with_reducible first|apply hK.sq|apply hK.sk|(apply hK.re;try subst hkk)|apply hK.bl|apply hK.ib|apply hK.rt|apply hK.nd)|refine hK.ex rfl ?_|(with_reducible refine hK.rg fun kk hkk=>?_;simp only [ix,Nat.reduceAdd])|(with_reducible first|refine hK.cf ?_|refine hK.ct ?_)|(refine hK.uw rfl rfl ?_;walk_nrm)|(refine hV.vl rfl rfl fun J hJ=>?_;go_simp;with_reducible refine hJ _ ?_;clear hJ J;walk_nrm))
 refine hK.cl rfl rfl rfl Try.func150 rfl ?_
 walk_nrm
 refine yek _ ?_
 clear hK hV key yek K
 refine len_0 hM hn ?_
 walk_nrm
 obtain ⟨K,hK,hV,key,yek⟩:=kKV (L:=Lone) (J:=fun g=>KK d g V) hM.mu (hM.muv hn)
 refine key _ ?_
 repeat (first|(with_reducible first|apply hK.sq|apply hK.sk|(apply hK.re;try subst hkk)|apply hK.bl|apply hK.ib|apply hK.rt|apply hK.nd)|refine hK.ex rfl ?_|(with_reducible refine hK.rg fun kk hkk=>?_;simp only [ix,Nat.reduceAdd])|(with_reducible first|refine hK.cf ?_|refine hK.ct ?_)|(refine hK.uw rfl rfl ?_;walk_nrm)|(refine hV.vl rfl rfl fun J hJ=>?_;go_simp;with_reducible refine hJ _ ?_;clear hJ J;walk_nrm))
 refine hK.cl rfl rfl rfl Try.func149 rfl ?_
 walk_nrm
 refine yek _ ?_
 clear hK hV key yek K
 refine pdq_nil hM hn ?_
 walk_nrm
 obtain ⟨K,hK,hV,key,yek⟩:=kKV (L:=Lone) (J:=fun g=>KK d g V) hM.mu (hM.muv hn)
 refine key _ ?_
 repeat (first|(with_reducible first|apply hK.sq|apply hK.sk|(apply hK.re;try subst hkk)|apply hK.bl|apply hK.ib|apply hK.rt|apply hK.nd)|refine hK.ex rfl ?_|(with_reducible refine hK.rg fun kk hkk=>?_;simp only [ix,Nat.reduceAdd])|(with_reducible first|refine hK.cf ?_|refine hK.ct ?_)|(refine hK.uw rfl rfl ?_;walk_nrm)|(refine hV.vl rfl rfl fun J hJ=>?_;go_simp;with_reducible refine hJ _ ?_;clear hJ J;walk_nrm))
 refine yek _ ?_
 clear hK hV key yek K
 refine mu_leave0 (K:=fun g=>KK d g V) hM.mu rfl rfl Try.func136 rfl ?_
 exact h
end
end Go.Proofs.Ytibcdikfbhmheaa
