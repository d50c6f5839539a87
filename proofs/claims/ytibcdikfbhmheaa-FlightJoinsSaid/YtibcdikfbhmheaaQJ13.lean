import Derived.Test.YtibcdikfbhmheaaQJ08
set_option linter.unusedSimpArgs false
set_option linter.unusedVariables false
set_option maxRecDepth 100000
set_option maxHeartbeats 4000000
namespace Go.Proofs.Ytibcdikfbhmheaa
open Go Go.Conc Go.Proofs
open Go.ConcN (sumTo upd sumTo_upd upd_ne upd_same)
section
variable {aY : Act} {opsY : Array Oper} {iY : Nat} {restY : List Nat} {kY : List Item}
structure Gn (E : Env) (C : Cw) (r : Nat) (s : Gs) (i : Nat) (own : Nat -> Prop) (V : World) : Prop where
 hO : CwOk E C
 n2 : C.n = 2
 hn : norm V = V
 I : GInv r s own V
 H : CwAt C false (upd (Gs.st s) i 1) V
 L : LsV C V
 lt : ∀ b,own b -> b < V.heap.size
 far : ∀ b,own b -> ¬ C.has b
def gOw (own : Nat -> Prop) (V V' : World) (b : Nat) : Prop:=own b ∨ (V.heap.size <= b /\ b < V'.heap.size)
structure Gk (C : Cw) (own : Nat -> Prop) (V W : World) : Prop where
 nrm : norm W = W
 sz : V.heap.size <= W.heap.size
 keep : ∀ b,b < V.heap.size -> ¬ own b -> W.heap[b]? = V.heap[b]?
theorem Gn.os {E : Env} {C : Cw} {r : Nat} {s : Gs} {i : Nat} {own : Nat -> Prop} {V : World} (t : Gn E C r s i own V) : own r /\ own (r + 1) /\ own (r + 2) /\ own (r + 3) /\ own (r + 4) /\ own (r + 5) /\ own (r + 6) /\ own (r + 7):=⟨t.I.ow _ (by omega) (by omega),t.I.ow _ (by omega) (by omega),t.I.ow _ (by omega) (by omega),t.I.ow _ (by omega) (by omega),t.I.ow _ (by omega) (by omega),t.I.ow _ (by omega) (by omega),t.I.ow _ (by omega) (by omega),t.I.ow _ (by omega) (by omega)⟩
theorem Gn.ls {E : Env} {C : Cw} {r : Nat} {s : Gs} {i : Nat} {own : Nat -> Prop} {V : World} (t : Gn E C r s i own V) : r < V.heap.size /\ r + 1 < V.heap.size /\ r + 2 < V.heap.size /\ r + 3 < V.heap.size /\ r + 4 < V.heap.size /\ r + 5 < V.heap.size /\ r + 6 < V.heap.size /\ r + 7 < V.heap.size:=by
 obtain ⟨o0,o1,o2,o3,o4,o5,o6,o7⟩:=t.os
 exact ⟨t.lt _ o0,t.lt _ o1,t.lt _ o2,t.lt _ o3,t.lt _ o4,t.lt _ o5,t.lt _ o6,t.lt _ o7⟩
theorem Gk.to {C : Cw} {own : Nat -> Prop} {V W W' : World} (h : Gk C own V W) (hn : norm W' = W') (hs : W.heap.size <= W'.heap.size) (hk : ∀ b,b < W.heap.size -> ¬ own b -> b < V.heap.size -> W'.heap[b]? = W.heap[b]?) : Gk C own V W' :=
 ⟨hn,Nat.le_trans h.sz hs,fun b hb ho=>(hk b (Nat.lt_of_lt_of_le hb h.sz) ho hb).trans (h.keep b hb ho)⟩
theorem Gn.has {E : Env} {C : Cw} {r : Nat} {s : Gs} {i : Nat} {own : Nat -> Prop} {V W : World} (t : Gn E C r s i own V) (h : Gk C own V W) : ∀ b,C.has b -> W.heap[b]? = V.heap[b]?:=fun b hb =>
 h.keep b (has_lt t.H t.L (by have:=t.n2; omega) b hb) fun ho=>t.far b ho hb
theorem Gn.far2 {E : Env} {C : Cw} {r : Nat} {s : Gs} {i : Nat} {own : Nat -> Prop} {V W : World} (t : Gn E C r s i own V) (h : Gk C own V W) : ∀ b,gOw own V W b -> ¬ C.has b:=fun b hb hc=>by
 rcases hb with hb | hb
 . exact t.far b hb hc
 . have:=has_lt t.H t.L (by have:=t.n2; omega) b hc
   omega
theorem gOw_lt {own : Nat -> Prop} {V W : World} (h : ∀ b,own b -> b < V.heap.size) (hs : V.heap.size <= W.heap.size) : ∀ b,gOw own V W b -> (own b ∨ V.heap.size <= b) /\ b < W.heap.size:=fun b hb=>by
 rcases hb with hb | hb
 . exact ⟨.inl hb,Nat.lt_of_lt_of_le (h b hb) hs⟩
 . exact ⟨.inr hb.1,hb.2⟩
theorem gy {r : Nat} {C : Cw} {s : Gs} {i : Nat} {own : Nat -> Prop} {V W : World} {Rf fr : Frame} {cs : List Frame} (hn : norm W = W) (hs : V.heap.size <= W.heap.size) (K : ∀ b,b < V.heap.size -> ¬ own b -> (∀ j,j < C.n -> b ≠ C.tb j) -> W.heap[b]? = V.heap[b]?) (hl : ∀ b,own b -> b < V.heap.size) (H : CwAt C false (upd (Gs.st (s.turn i)) i 1) W) (I : GInv r (s.turn i) (gOw own V W) W) (hm : ∀ cs,GMem r cs own V -> GMem r cs (gOw own V W) W) (hst : (s.turn i).st i = 1) (hloc : GLoc r C (s.turn i) i (fr :: cs)) (hmm : GMem r (fr :: cs) (gOw own V W) W) :
   TEndM C (Ufl r C) s i own V Rf (G (Frame.enter Try.prog 24 #[C.tp i] .normal) (fr :: cs ++ [Rf,rootF])) W :=
 ⟨hn,hs,K,H,_,I,gOw_lt hl hs,hm,.inl ⟨hst,fr,cs,rfl,hloc,hmm⟩⟩
theorem gp {r : Nat} {C : Cw} {s : Gs} {i : Nat} {own : Nat -> Prop} {V W : World} {Rf fr : Frame} {cs : List Frame} (hn : norm W = W) (hs : V.heap.size <= W.heap.size) (K : ∀ b,b < V.heap.size -> ¬ own b -> (∀ j,j < C.n -> b ≠ C.tb j) -> W.heap[b]? = V.heap[b]?) (hl : ∀ b,own b -> b < V.heap.size) (H : CwAt C false (upd (Gs.st (s.turn i)) i 1) W) (I : GInv r (s.turn i) (gOw own V W) W) (hm : ∀ cs,GMem r cs own V -> GMem r cs (gOw own V W) W) (hst : (s.turn i).st i = 2) (hloc : GLoc r C (s.turn i) i (fr :: cs)) (hmm : GMem r (fr :: cs) (gOw own V W) W) :
   TEndM C (Ufl r C) s i own V Rf (G (Frame.enter Try.prog 25 #[C.tp i] .normal) (fr :: cs ++ [Rf,rootF])) W :=
 ⟨hn,hs,K,H,_,I,gOw_lt hl hs,hm,.inr (.inl ⟨hst,fr,cs,rfl,hloc,hmm⟩)⟩
theorem gt {r : Nat} {C : Cw} {s : Gs} {i : Nat} {own : Nat -> Prop} {V W : World} {v : Value} (K : ∀ b,b < V.heap.size -> ¬ own b -> (∀ j,j < C.n -> b ≠ C.tb j) -> W.heap[b]? = V.heap[b]?) (hn : norm W = W) (hs : V.heap.size <= W.heap.size) (hl : ∀ b,own b -> b < V.heap.size) (H : CwAt C false (upd (Gs.st (s.turn i)) i 1) W) (I : GInv r (s.turn i) (gOw own V W) W) (hm : ∀ cs,GMem r cs own V -> GMem r cs (gOw own V W) W) (hst : (s.turn i).st i = 3) :
   TEndM C (Ufl r C) s i own V ((baseD 141).at aY (.inRegion opsY (iY :: restY) :: kY)) (G ((baseD 141).at (aY.put ((opsY[iY]?).bind (·.dst)) v) (.inRegion opsY restY :: kY)) [rootF]) W :=
 ⟨hn,hs,K,H,_,I,gOw_lt hl hs,hm,.inr (.inr ⟨hst,.inl ⟨v,aY,opsY,iY,restY,kY,rfl,rfl⟩⟩)⟩
theorem GMem.still {r : Nat} {own : Nat -> Prop} {V W : World} (hr : W.heap[r]? = V.heap[r]?) (ho : ∀ ob cv,own ob -> r + 7 < ob -> V.heap[ob]? = some (.cells #[cv,.bool true,.int .i64 5,.int .i64 0] 201 (0,0)) -> W.heap[ob]? = V.heap[ob]?) : ∀ cs,GMem r cs own V -> GMem r cs (gOw own V W) W:=fun cs h f hf ob tp mp hj=>by
 obtain ⟨h1,h2,h3,h4⟩:=h f hf ob tp mp hj
 refine ⟨.inl h1,.inl h2,h3,?_⟩
 rcases h4 with ⟨es,clk,h5,h6⟩ | ⟨cv,h5⟩
 . exact .inl ⟨es,clk,hr.trans h5,h6⟩
 . exact .inr ⟨cv,(ho ob cv h1 h3 h5).trans h5⟩
theorem jnr_fn {ob : Nat} {tp mp : Value} {f : Frame} (h : JnR ob tp mp f) : f.fn = 71:=by
 obtain ⟨T,_,_,_,_,_,rfl⟩:=h
 rfl
theorem GMem.none {r : Nat} {own : Nat -> Prop} {V : World} {cs : List Frame} (h : ∀ f ∈ cs,f.fn ≠ 71) : GMem r cs own V:=fun f hf ob tp mp hj=>absurd (jnr_fn hj) (h f hf)
theorem jnr_ob {ob ob' : Nat} {tp mp tp' mp' : Value} {f : Frame} (h : JnR ob tp mp f) (h' : JnR ob' tp' mp' f) : ob = ob':=by
 obtain ⟨T,_,_,_,_,e,rfl⟩:=h
 obtain ⟨T',_,_,_,_,e',e2⟩:=h'
 obtain ⟨e3,_,_⟩:=at_inj e2
 have e4 : T = T':=by injection e3
 rw [e4,e'] at e
 simpa using e.symm
theorem wtr_fn {f : Frame} (h : WtR f) : f.fn ≠ 71:=by
 obtain ⟨T,_,rfl⟩:=h
 exact fun e=>by cases e
theorem rsp_fn {mb mo : Nat} {tp : Value} {f : Frame} (h : RsP mb mo tp f) : f.fn ≠ 71:=by
 obtain ⟨T,_,_,_,rfl⟩:=h
 exact fun e=>by cases e
theorem lky_fn {mb mo : Nat} {tp : Value} {f : Frame} (h : LkY mb mo tp f) : f.fn ≠ 71:=by
 obtain ⟨T,_,_,_,rfl⟩:=h
 exact fun e=>by cases e
end
theorem array31f (T : Array Value) (h : T.size = 31) : ∃ f : Nat -> Value,(∀ i v,T[i]? = some v -> f i = v) /\ T = #[f 0,f 1,f 2,f 3,f 4,f 5,f 6,f 7,f 8,f 9,f 10,f 11,f 12,f 13,f 14,f 15,f 16,f 17,f 18,f 19,f 20,f 21,f 22,f 23,f 24,f 25,f 26,f 27,f 28,f 29,f 30]:=arrg T h
section
variable {r : Nat} {C : Cw} {E : Env} {s : Gs} {own : Nat -> Prop} {V : World} {T : Array Value} {aY : Act} {opsY : Array Oper} {iY : Nat} {restY : List Nat} {kY : List Item} {b : Frame} {a : Act} {ops : Array Oper} {j : Nat} {rest : List Nat} {k : List Item}
theorem lead0 (t : Gn E C r s 0 own V) (hp : s.p = 0) : WillM Try.prog false E.Z (TEndM C (Ufl r C) s 0 own V ((baseD 141).at aY (.inRegion opsY (iY :: restY) :: kY))) 0 (G (Frame.enter Try.prog 100 #[C.tp 0,.pointer (some ⟨(r + 3),0,none⟩),.pointer (some ⟨(r + 2),0,none⟩),.pointer (some ⟨(r + 4),0,none⟩),.pointer (some ⟨(r + 6),0,none⟩),.pointer (some ⟨(r + 7),0,none⟩)] .normal) [((baseD 141).at aY (.inRegion opsY (iY :: restY) :: kY)),rootF]) V:=by
 intro KK hM hS
 have hn2:=t.n2
 obtain ⟨hp6,hj4,hj2,hj3,hg⟩:=t.I.ok
 have y2:=t.I.x
 have y1:=t.I.gg
 have y4:=t.I.kk
 have y5:=t.I.v
 have y6:=t.I.f
 have y7:=t.I.se
 obtain ⟨o0,o1,o2,o3,o4,o5,o6,o7⟩:=t.os
 obtain ⟨l0,l1,l2,l3,l4,l5,l6,l7⟩:=t.ls
 obtain ⟨qv,M,hqv,hqr⟩:=t.I.mu
 rw [if_neg (by omega)] at M
 have hturn : s.turn 0 = { s with p:=1 }:=by unfold Gs.turn; rw [if_pos rfl,if_neg (by omega),hp]
 rw [enter_at (P:=Try.prog) _ Try.func100 rfl]
 simp only [Try.f100,Cw.tp]
 walk_nrm
 refine wM hM t.hn fun kk hkk=>?_
 try subst hkk
 refine hM.cl rfl rfl rfl Try.func45 rfl ?_
 walk_nrm
 refine hM.walk _ _ _ (lock_in (C:=C) (i:=0) (mo:=0) (ow:=0) t.hn (by omega) (by omega) t.H M.c1 (by omega) fun f hf=>.stop ?_)
 refine hS _ _ (gy (fr:=f) (cs:=[_]) t.hn (Nat.le_refl _) (fun _ _ _ _=>rfl) t.lt (t.H.congr fun j hj=>?_) ?_ (GMem.still rfl fun _ _ _ _ _=>rfl) ?_ ?_ ?_)
 . rw [hturn]
   by_cases e : j = 0
   . subst e; rw [upd_same,upd_same]
   . rw [upd_ne _ _ e,upd_ne _ _ e]; unfold Gs.st; rw [if_neg e,if_neg e]
 . rw [hturn]
   have e0 : gOw own V V = own:=by funext b; exact propext ⟨fun h=>h.elim id fun h=>by omega,.inl⟩
   rw [e0]
   refine ⟨⟨by show 1 <= 6; omega,hj4,fun h=>by have:=hj2 h; omega,fun h=>by have:=hj3 h; omega,hg⟩,t.I.ow,y2,y1,y4,y5,?_,?_,⟨qv,by rw [if_neg (show ¬ s.j = 3 by omega)]; exact M,fun _=>hqv (by omega),hqr⟩,fun _=>t.I.mp0 (by omega),fun h=>absurd h.1 (by show ¬ 2 <= 1; omega)⟩
   . show V.heap[r + 6]? = some (.cells #[.bool (decide (2 <= 1))] 4 (0,0))
     rw [hp] at y6; exact y6
   . show V.heap[r + 7]? = some (.cells #[.bool (decide (1 < 2))] 4 (0,0))
     rw [hp] at y7; exact y7
 . rw [hturn]; rfl
 . rw [hturn]
   exact ⟨fun _=>⟨fun _=>⟨f,_,hf,⟨rfl,rfl,rfl,rfl,rfl,rfl,rfl⟩,rfl⟩,(fun h=>by cases h),(fun h=>by cases h),(fun h=>by cases h),(fun h=>by cases h),by show 1 <= 1; omega,by show 1 <= 5; omega⟩,fun h=>absurd rfl h⟩
 . exact GMem.none fun g hg=>by
     rcases List.mem_cons.1 hg with rfl | hg
     . exact lky_fn hf
     . obtain rfl : g = _:=by simpa using hg
       exact fun e=>by cases e
theorem lead2 (t : Gn E C r s 0 own V) (hp : s.p = 2) (hT : LF1 r (C.tp 0) T) : WillM Try.prog false E.Z (TEndM C (Ufl r C) s 0 own V ((baseD 141).at aY (.inRegion opsY (iY :: restY) :: kY))) 0 (G ((base 100).at (Act.put ⟨T,[]⟩ ((lc4[1]?).bind (·.dst)) (.tuple #[])) [.inRegion lc4 [],.code lX5]) [((baseD 141).at aY (.inRegion opsY (iY :: restY) :: kY)),rootF]) V:=by
 intro KK hM hS
 have hn2:=t.n2
 obtain ⟨hp6,hj4,hj2,hj3,hg⟩:=t.I.ok
 have y2:=t.I.x
 have y1:=t.I.gg
 have y4:=t.I.kk
 have y5:=t.I.v
 have y6:=t.I.f
 have y7:=t.I.se
 obtain ⟨o0,o1,o2,o3,o4,o5,o6,o7⟩:=t.os
 obtain ⟨l0,l1,l2,l3,l4,l5,l6,l7⟩:=t.ls
 obtain ⟨qv,M,hqv,hqr⟩:=t.I.mu
 rw [if_neg (by omega)] at M
 have hturn : s.turn 0 = { s with p:=3 }:=by unfold Gs.turn; rw [if_pos rfl,if_neg (by omega),hp]
 obtain ⟨hs,t0,t1,t2,t3,t4,t5⟩:=hT
 obtain ⟨f,hf,hT⟩:=array31f T hs
 rw [hT]
 simp only [hf _ _ t0,hf _ _ t1,hf _ _ t2,hf _ _ t3,hf _ _ t4,hf _ _ t5]
 clear hf hs t0 t1 t2 t3 t4 t5
 subst hT
 refine (fun (h : ∀ X Y,X = lc4 -> Y = lX5 -> KK 0 (G ((base 100).at (Act.put ⟨_,[]⟩ ((X[1]?).bind (·.dst)) (.tuple #[])) [.inRegion X [],.code Y]) [((baseD 141).at aY (.inRegion opsY (iY :: restY) :: kY)),rootF]) V)=>h lc4 lX5 rfl rfl) ?_
 intro X Y hX hY
 simp only [lc4,lX5,lX4,lX1,lB,rops,nva,nvb,Try.f100,Option.getD_some] at hX hY
 subst hX hY
 simp only [Cw.tp]
 walk_nrm
 refine wM hM t.hn fun kk hkk=>?_
 try subst hkk
 refine hM.cl rfl rfl rfl Try.func24 rfl ?_
 walk_nrm
 refine hS _ _ (gy (fr:=(base 100).at _ _) (cs:=[]) t.hn (Nat.le_refl _) (fun _ _ _ _=>rfl) t.lt (t.H.congr fun j hj=>?_) ?_ (GMem.still rfl fun _ _ _ _ _=>rfl) ?_ ?_ ?_)
 . rw [hturn]
   by_cases e : j = 0
   . subst e; rw [upd_same,upd_same]
   . rw [upd_ne _ _ e,upd_ne _ _ e]; unfold Gs.st; rw [if_neg e,if_neg e]
 . rw [hturn]
   have e0 : gOw own V V = own:=by funext b; exact propext ⟨fun h=>h.elim id fun h=>by omega,.inl⟩
   rw [e0]
   refine ⟨⟨by show 3 <= 6; omega,hj4,fun h=>⟨by show 2 <= 3; omega,by show 3 <= 5; omega⟩,fun h=>by have:=hj3 h; omega,hg⟩,t.I.ow,y2,y1,y4,y5,?_,?_,⟨qv,by rw [if_neg (show ¬ s.j = 3 by omega)]; exact M,fun _=>hqv (by omega),hqr⟩,fun h=>absurd (show 2 <= 3 /\ 3 <= 5 by omega) h,fun _=>t.I.mp1 (by omega)⟩
   . show V.heap[r + 6]? = some (.cells #[.bool (decide (2 <= 3))] 4 (0,0))
     rw [hp] at y6; exact y6
   . show V.heap[r + 7]? = some (.cells #[.bool (decide (3 < 2))] 4 (0,0))
     rw [hp] at y7; exact y7
 . rw [hturn]; rfl
 . rw [hturn]
   refine ⟨fun _=>⟨fun h=>?_,fun h=>?_,fun h=>?_,fun h=>?_,fun h=>?_,by show 1 <= 3; omega,by show 3 <= 5; omega⟩,fun h=>absurd rfl h⟩
   all_goals first | (exfalso; revert h; show ¬ 3 = _; omega) | exact ⟨_,⟨rfl,rfl,rfl,rfl,rfl,rfl,rfl⟩,rfl⟩
 . exact GMem.none fun g hg=>by
     obtain rfl : g = _:=by simpa using hg
     exact fun e=>by cases e
theorem lead3 (t : Gn E C r s 0 own V) (hp : s.p = 3) (hT : LF1 r (C.tp 0) T) : WillM Try.prog false E.Z (TEndM C (Ufl r C) s 0 own V ((baseD 141).at aY (.inRegion opsY (iY :: restY) :: kY))) 0 (G ((base 100).at (Act.put ⟨T,[]⟩ ((lc5[1]?).bind (·.dst)) (.tuple #[])) [.inRegion lc5 [],.code lX6]) [((baseD 141).at aY (.inRegion opsY (iY :: restY) :: kY)),rootF]) V:=by
 intro KK hM hS
 have hn2:=t.n2
 obtain ⟨hp6,hj4,hj2,hj3,hg⟩:=t.I.ok
 have y2:=t.I.x
 have y1:=t.I.gg
 have y4:=t.I.kk
 have y5:=t.I.v
 have y6:=t.I.f
 have y7:=t.I.se
 obtain ⟨o0,o1,o2,o3,o4,o5,o6,o7⟩:=t.os
 obtain ⟨l0,l1,l2,l3,l4,l5,l6,l7⟩:=t.ls
 obtain ⟨qv,M,hqv,hqr⟩:=t.I.mu
 rw [if_neg (by omega)] at M
 have hturn : s.turn 0 = { s with p:=4 }:=by unfold Gs.turn; rw [if_pos rfl,if_neg (by omega),hp]
 obtain ⟨hs,t0,t1,t2,t3,t4,t5⟩:=hT
 obtain ⟨f,hf,hT⟩:=array31f T hs
 rw [hT]
 simp only [hf _ _ t0,hf _ _ t1,hf _ _ t2,hf _ _ t3,hf _ _ t4,hf _ _ t5]
 clear hf hs t0 t1 t2 t3 t4 t5
 subst hT
 refine (fun (h : ∀ X Y,X = lc5 -> Y = lX6 -> KK 0 (G ((base 100).at (Act.put ⟨_,[]⟩ ((X[1]?).bind (·.dst)) (.tuple #[])) [.inRegion X [],.code Y]) [((baseD 141).at aY (.inRegion opsY (iY :: restY) :: kY)),rootF]) V)=>h lc5 lX6 rfl rfl) ?_
 intro X Y hX hY
 simp only [lc5,lX6,lX5,lX4,lX1,lB,rops,nva,nvb,Try.f100,Option.getD_some] at hX hY
 subst hX hY
 simp only [Cw.tp]
 walk_nrm
 refine wM hM t.hn fun kk hkk=>?_
 try subst hkk
 refine hM.cl rfl rfl rfl Try.func24 rfl ?_
 walk_nrm
 refine hS _ _ (gy (fr:=(base 100).at _ _) (cs:=[]) t.hn (Nat.le_refl _) (fun _ _ _ _=>rfl) t.lt (t.H.congr fun j hj=>?_) ?_ (GMem.still rfl fun _ _ _ _ _=>rfl) ?_ ?_ ?_)
 . rw [hturn]
   by_cases e : j = 0
   . subst e; rw [upd_same,upd_same]
   . rw [upd_ne _ _ e,upd_ne _ _ e]; unfold Gs.st; rw [if_neg e,if_neg e]
 . rw [hturn]
   have e0 : gOw own V V = own:=by funext b; exact propext ⟨fun h=>h.elim id fun h=>by omega,.inl⟩
   rw [e0]
   refine ⟨⟨by show 4 <= 6; omega,hj4,fun h=>⟨by show 2 <= 4; omega,by show 4 <= 5; omega⟩,fun h=>by have:=hj3 h; omega,hg⟩,t.I.ow,y2,y1,y4,y5,?_,?_,⟨qv,by rw [if_neg (show ¬ s.j = 3 by omega)]; exact M,fun _=>hqv (by omega),hqr⟩,fun h=>absurd (show 2 <= 4 /\ 4 <= 5 by omega) h,fun _=>t.I.mp1 (by omega)⟩
   . show V.heap[r + 6]? = some (.cells #[.bool (decide (2 <= 4))] 4 (0,0))
     rw [hp] at y6; exact y6
   . show V.heap[r + 7]? = some (.cells #[.bool (decide (4 < 2))] 4 (0,0))
     rw [hp] at y7; exact y7
 . rw [hturn]; rfl
 . rw [hturn]
   refine ⟨fun _=>⟨fun h=>?_,fun h=>?_,fun h=>?_,fun h=>?_,fun h=>?_,by show 1 <= 4; omega,by show 4 <= 5; omega⟩,fun h=>absurd rfl h⟩
   all_goals first | (exfalso; revert h; show ¬ 4 = _; omega) | exact ⟨_,⟨rfl,rfl,rfl,rfl,rfl,rfl,rfl⟩,rfl⟩
 . exact GMem.none fun g hg=>by
     obtain rfl : g = _:=by simpa using hg
     exact fun e=>by cases e
theorem lead4 (t : Gn E C r s 0 own V) (hp : s.p = 4) (hT : LF1 r (C.tp 0) T) : WillM Try.prog false E.Z (TEndM C (Ufl r C) s 0 own V ((baseD 141).at aY (.inRegion opsY (iY :: restY) :: kY))) 0 (G ((base 100).at (Act.put ⟨T,[]⟩ ((lc6[1]?).bind (·.dst)) (.tuple #[])) [.inRegion lc6 [],.code lX7]) [((baseD 141).at aY (.inRegion opsY (iY :: restY) :: kY)),rootF]) V:=by
 intro KK hM hS
 have hn2:=t.n2
 obtain ⟨hp6,hj4,hj2,hj3,hg⟩:=t.I.ok
 have y2:=t.I.x
 have y1:=t.I.gg
 have y4:=t.I.kk
 have y5:=t.I.v
 have y6:=t.I.f
 have y7:=t.I.se
 obtain ⟨o0,o1,o2,o3,o4,o5,o6,o7⟩:=t.os
 obtain ⟨l0,l1,l2,l3,l4,l5,l6,l7⟩:=t.ls
 obtain ⟨qv,M,hqv,hqr⟩:=t.I.mu
 rw [if_neg (by omega)] at M
 have hturn : s.turn 0 = { s with p:=5 }:=by unfold Gs.turn; rw [if_pos rfl,if_neg (by omega),hp]
 obtain ⟨hs,t0,t1,t2,t3,t4,t5⟩:=hT
 obtain ⟨f,hf,hT⟩:=array31f T hs
 rw [hT]
 simp only [hf _ _ t0,hf _ _ t1,hf _ _ t2,hf _ _ t3,hf _ _ t4,hf _ _ t5]
 clear hf hs t0 t1 t2 t3 t4 t5
 subst hT
 refine (fun (h : ∀ X Y,X = lc6 -> Y = lX7 -> KK 0 (G ((base 100).at (Act.put ⟨_,[]⟩ ((X[1]?).bind (·.dst)) (.tuple #[])) [.inRegion X [],.code Y]) [((baseD 141).at aY (.inRegion opsY (iY :: restY) :: kY)),rootF]) V)=>h lc6 lX7 rfl rfl) ?_
 intro X Y hX hY
 simp only [lc6,lX7,lX6,lX5,lX4,lX1,lB,rops,nva,nvb,Try.f100,Option.getD_some] at hX hY
 subst hX hY
 simp only [Cw.tp]
 walk_nrm
 refine wM hM t.hn fun kk hkk=>?_
 try subst hkk
 refine hM.cl rfl rfl rfl Try.func45 rfl ?_
 walk_nrm
 refine hM.walk _ _ _ (lock_in (C:=C) (i:=0) (mo:=0) (ow:=0) t.hn (by omega) (by omega) t.H M.c1 (by omega) fun f hf=>.stop ?_)
 refine hS _ _ (gy (fr:=f) (cs:=[_]) t.hn (Nat.le_refl _) (fun _ _ _ _=>rfl) t.lt (t.H.congr fun j hj=>?_) ?_ (GMem.still rfl fun _ _ _ _ _=>rfl) ?_ ?_ ?_)
 . rw [hturn]
   by_cases e : j = 0
   . subst e; rw [upd_same,upd_same]
   . rw [upd_ne _ _ e,upd_ne _ _ e]; unfold Gs.st; rw [if_neg e,if_neg e]
 . rw [hturn]
   have e0 : gOw own V V = own:=by funext b; exact propext ⟨fun h=>h.elim id fun h=>by omega,.inl⟩
   rw [e0]
   refine ⟨⟨by show 5 <= 6; omega,hj4,fun h=>⟨by show 2 <= 5; omega,by show 5 <= 5; omega⟩,fun h=>by have:=hj3 h; omega,hg⟩,t.I.ow,y2,y1,y4,y5,?_,?_,⟨qv,by rw [if_neg (show ¬ s.j = 3 by omega)]; exact M,fun _=>hqv (by omega),hqr⟩,fun h=>absurd (show 2 <= 5 /\ 5 <= 5 by omega) h,fun _=>t.I.mp1 (by omega)⟩
   . show V.heap[r + 6]? = some (.cells #[.bool (decide (2 <= 5))] 4 (0,0))
     rw [hp] at y6; exact y6
   . show V.heap[r + 7]? = some (.cells #[.bool (decide (5 < 2))] 4 (0,0))
     rw [hp] at y7; exact y7
 . rw [hturn]; rfl
 . rw [hturn]
   exact ⟨fun _=>⟨(fun h=>by cases h),(fun h=>by cases h),(fun h=>by cases h),(fun h=>by cases h),fun _=>⟨f,_,hf,⟨rfl,rfl,rfl,rfl,rfl,rfl,rfl⟩,rfl⟩,by show 1 <= 5; omega,by show 5 <= 5; omega⟩,fun h=>absurd rfl h⟩
 . exact GMem.none fun g hg=>by
     rcases List.mem_cons.1 hg with rfl | hg
     . exact lky_fn hf
     . obtain rfl : g = _:=by simpa using hg
       exact fun e=>by cases e
theorem lead1 (t : Gn E C r s 0 own V) (hp : s.p = 1) (hT : LF1 r (C.tp 0) T) (hfr : LkY (r + 3) 0 (C.tp 0) (b.at a (.inRegion ops (j :: rest) :: k))) : WillM Try.prog false E.Z (TEndM C (Ufl r C) s 0 own V ((baseD 141).at aY (.inRegion opsY (iY :: restY) :: kY))) 0 (G (b.at (a.put ((ops[j]?).bind (·.dst)) (.tuple #[])) (.inRegion ops rest :: k)) [(base 100).at ⟨T,[]⟩ [.inRegion lc0 [1],.code lX1],((baseD 141).at aY (.inRegion opsY (iY :: restY) :: kY)),rootF]) V:=by
 intro KK hM hS
 have hn2:=t.n2
 obtain ⟨hp6,hj4,hj2,hj3,hg⟩:=t.I.ok
 have y2:=t.I.x
 have y1:=t.I.gg
 have y4:=t.I.kk
 have y5:=t.I.v
 have y6:=t.I.f
 have y7:=t.I.se
 obtain ⟨o0,o1,o2,o3,o4,o5,o6,o7⟩:=t.os
 obtain ⟨l0,l1,l2,l3,l4,l5,l6,l7⟩:=t.ls
 obtain ⟨qv,M,hqv,hqr⟩:=t.I.mu
 have hturn : s.turn 0 = { s with p:=2 }:=by unfold Gs.turn; rw [if_pos rfl,if_neg (by omega),hp]
 obtain ⟨es,clk,y0,hm⟩:=t.I.mp0 (by omega)
 have y00:=y0
 have sz : V.heap.size <= V.heap.size:=Nat.le_refl _
 have kz : ∀ b,b < V.heap.size -> ¬ (r <= b /\ b <= r + 7) -> V.heap[b]? = V.heap[b]?:=fun _ _ _=>rfl
 rw [if_neg (by omega)] at M
 have hq0:=hqv (by omega)
 obtain ⟨vb,vc,rfl⟩:=M.qu.sl
 refine hM.walk _ _ _ (lock_back (C:=C) (i:=0) (mo:=0) (ow:=0) t.hn (by omega) (by omega) t.H t.L M.c0 M.z0 M.c1 M.z1 M.qu (by simp) M.qmb (t.far _ M.mown) (fun b hb=>t.far b (M.qown b hb)) (by omega) (fun _=>.stop ?_) (fun h=>absurd ⟨rfl,rfl⟩ h) hfr)
 have M1:=M.take (0 + 1)
 have k1 : ∀ b,b ≠ r + 3 -> (V.setCell ⟨r + 3,0 + 1,none⟩ (.int .i64 (0 + 1 : Nat))).heap[b]? = V.heap[b]?:=fun b hb=>set_off _ _ hb
 have s1 : (V.setCell ⟨r + 3,0 + 1,none⟩ (.int .i64 (0 + 1 : Nat))).heap.size = V.heap.size:=by simp [World.setCell]
 have hn1:=norm_set t.hn ⟨r + 3,0 + 1,none⟩ (.int .i64 (0 + 1 : Nat))
 generalize V.setCell ⟨r + 3,0 + 1,none⟩ (.int .i64 (0 + 1 : Nat)) = V1 at *
 replace y0:=(k1 _ (by omega)).trans y0
 replace y1:=(k1 _ (by omega)).trans y1
 replace y2:=(k1 _ (by omega)).trans y2
 replace y4:=(k1 _ (by omega)).trans y4
 replace y5:=(k1 _ (by omega)).trans y5
 replace y6:=(k1 _ (by omega)).trans y6
 replace y7:=(k1 _ (by omega)).trans y7
 replace M:=M1
 replace kz : ∀ b,b < V.heap.size -> ¬ (r <= b /\ b <= r + 7) -> V1.heap[b]? = V.heap[b]?:=fun b h1 h2=>(k1 b (by omega)).trans (kz b h1 h2)
 replace sz : V.heap.size <= V1.heap.size:=by omega
 obtain ⟨hs,t0,t1,t2,t3,t4,t5⟩:=hT
 obtain ⟨f,hf,hT⟩:=array31f T hs
 rw [hT]
 simp only [hf _ _ t0,hf _ _ t1,hf _ _ t2,hf _ _ t3,hf _ _ t4,hf _ _ t5]
 clear hf hs t0 t1 t2 t3 t4 t5
 subst hT
 refine (fun (h : ∀ X Y,X = lc0 -> Y = lX1 -> KK 0 (G ((base 100).at (Act.put ⟨_,[]⟩ ((X[1]?).bind (·.dst)) (.int .i64 0)) [.inRegion X [],.code Y]) [((baseD 141).at aY (.inRegion opsY (iY :: restY) :: kY)),rootF]) V1)=>h lc0 lX1 rfl rfl) ?_
 intro X Y hX hY
 simp only [lc0,lX1,lB,rops,nva,nvb,Try.f100,Option.getD_some] at hX hY
 subst hX hY
 simp only [Cw.tp]
 walk_nrm
 have q_2_0:=qc 0 y2 rfl
 have q_4_0:=qc 0 y4 rfl
 have q_4_1:=qc 1 y4 rfl
 refine wM hM hn1 fun kk hkk=>?_
 refine hM.cl rfl rfl rfl Try.func67 rfl ?_
 walk_nrm
 clear q_2_0 q_4_0 q_4_1
 refine begin_off (k:=k8) hM hn1 y1 y0 hm rfl (by omega) fun V2 hn2 s2 ⟨ob,lo1,lo2,eo,em⟩ k2=>?_
 have hm2 : Mp (es.push { key:=kv k8,val:=.pointer (some ⟨ob,0,none⟩),born:=clk }) [(k8,ob)]:=hm.push k8 ob clk
 have lob : V.heap.size <= ob:=by omega
 have ek : kpos k8 [(k8,ob)] 0 = some (0,ob):=by simp [kpos]
 replace y1:=(k2 _ (by omega) (by omega)).trans y1
 replace y2:=(k2 _ (by omega) (by omega)).trans y2
 replace y4:=(k2 _ (by omega) (by omega)).trans y4
 replace y5:=(k2 _ (by omega) (by omega)).trans y5
 replace y6:=(k2 _ (by omega) (by omega)).trans y6
 replace y7:=(k2 _ (by omega) (by omega)).trans y7
 replace M:=M.keep2 (k2 _ (by omega) (by omega)) (fun b hb=>by have e : (none : Option Nat) = some b:=hq0.symm.trans hb; cases e)
 replace kz : ∀ b,b < V.heap.size -> ¬ (r <= b /\ b <= r + 7) -> V2.heap[b]? = V.heap[b]?:=fun b h1 h2=>(k2 b (by omega) (by omega)).trans (kz b h1 h2)
 replace sz : V.heap.size <= V2.heap.size:=by omega
 replace y0:=em
 clear em
 walk_nrm
 refine wM hM hn2 fun kk hkk=>?_
 have q_s:=qc 0 y6 rfl
 have z_s:=qz 0 y6
 have hnX1:=norm_set hn2 ⟨r + 6,0,none⟩ (.bool true)
 refine mus_put (L:=Lone) (hM.mus hnX1) (K:=fun g=>KK 0 g V2) (K':=fun g=>KK 0 g (V2.setCell ⟨r + 6,0,none⟩ (.bool true))) rfl (.inl rfl) rfl (by kernel_rfl) (fun τ=>?_) ?_
 . go_simp
   try rfl
 have kX1 : ∀ b,b ≠ r + 6 -> (V2.setCell ⟨r + 6,0,none⟩ (.bool true)).heap[b]? = V2.heap[b]?:=fun b hb=>by rw [setCell_heap,if_neg hb]
 have sX1 : (V2.setCell ⟨r + 6,0,none⟩ (.bool true)).heap.size = V2.heap.size:=by simp [World.setCell]
 replace y6 : (V2.setCell ⟨r + 6,0,none⟩ (.bool true)).heap[r + 6]? = some (.cells #[.bool true] 4 (0,0)):=by
   rw [setCell_heap,if_pos rfl,y6]
   simp
 clear q_s z_s
 generalize V2.setCell ⟨r + 6,0,none⟩ (.bool true) = X1 at *
 replace y0:=(kX1 _ (by omega)).trans y0
 replace y1:=(kX1 _ (by omega)).trans y1
 replace y2:=(kX1 _ (by omega)).trans y2
 replace y4:=(kX1 _ (by omega)).trans y4
 replace y5:=(kX1 _ (by omega)).trans y5
 replace y7:=(kX1 _ (by omega)).trans y7
 replace M:=M.keep2 (kX1 _ (by omega)) (fun b hb=>by have e : (none : Option Nat) = some b:=hq0.symm.trans hb; cases e)
 replace kz : ∀ b,b < V.heap.size -> ¬ (r <= b /\ b <= r + 7) -> X1.heap[b]? = V.heap[b]?:=fun b h1 h2=>(kX1 b (by omega)).trans (kz b h1 h2)
 replace sz : V.heap.size <= X1.heap.size:=by omega
 replace eo:=(kX1 _ (by omega)).trans eo
 try walk_nrm
 have q_2_0:=qc 0 y2 rfl
 have q_4_0:=qc 0 y4 rfl
 have q_4_1:=qc 1 y4 rfl
 refine wM hM hnX1 fun kk hkk=>?_
 refine hM.cl rfl rfl rfl Try.func67 rfl ?_
 walk_nrm
 clear q_2_0 q_4_0 q_4_1
 refine begin_on (k:=k8) hM hnX1 y1 y0 hm2 ek (by omega) fun V4 hn4 k4=>?_
 have s4:=k4.size
 replace eo:=(k4.keep _ (by omega)).trans eo
 replace y0:=(k4.keep _ (by omega)).trans y0
 replace y1:=(k4.keep _ (by omega)).trans y1
 replace y2:=(k4.keep _ (by omega)).trans y2
 replace y4:=(k4.keep _ (by omega)).trans y4
 replace y5:=(k4.keep _ (by omega)).trans y5
 replace y6:=(k4.keep _ (by omega)).trans y6
 replace y7:=(k4.keep _ (by omega)).trans y7
 replace M:=M.keep2 (k4.keep _ (by omega)) (fun b hb=>by have e : (none : Option Nat) = some b:=hq0.symm.trans hb; cases e)
 replace kz : ∀ b,b < V.heap.size -> ¬ (r <= b /\ b <= r + 7) -> V4.heap[b]? = V.heap[b]?:=fun b h1 h2=>(k4.keep b (by omega)).trans (kz b h1 h2)
 replace sz : V.heap.size <= V4.heap.size:=by omega
 walk_nrm
 refine wM hM hn4 fun kk hkk=>?_
 have q_s:=qc 0 y7 rfl
 have z_s:=qz 0 y7
 have hnX2:=norm_set hn4 ⟨r + 7,0,none⟩ (.bool false)
 refine mus_put (L:=Lone) (hM.mus hnX2) (K:=fun g=>KK 0 g V4) (K':=fun g=>KK 0 g (V4.setCell ⟨r + 7,0,none⟩ (.bool false))) rfl (.inl rfl) rfl (by kernel_rfl) (fun τ=>?_) ?_
 . go_simp
   try rfl
 have kX2 : ∀ b,b ≠ r + 7 -> (V4.setCell ⟨r + 7,0,none⟩ (.bool false)).heap[b]? = V4.heap[b]?:=fun b hb=>by rw [setCell_heap,if_neg hb]
 have sX2 : (V4.setCell ⟨r + 7,0,none⟩ (.bool false)).heap.size = V4.heap.size:=by simp [World.setCell]
 replace y7 : (V4.setCell ⟨r + 7,0,none⟩ (.bool false)).heap[r + 7]? = some (.cells #[.bool false] 4 (0,0)):=by
   rw [setCell_heap,if_pos rfl,y7]
   simp
 clear q_s z_s
 generalize V4.setCell ⟨r + 7,0,none⟩ (.bool false) = X2 at *
 replace y0:=(kX2 _ (by omega)).trans y0
 replace y1:=(kX2 _ (by omega)).trans y1
 replace y2:=(kX2 _ (by omega)).trans y2
 replace y4:=(kX2 _ (by omega)).trans y4
 replace y5:=(kX2 _ (by omega)).trans y5
 replace y6:=(kX2 _ (by omega)).trans y6
 replace M:=M.keep2 (kX2 _ (by omega)) (fun b hb=>by have e : (none : Option Nat) = some b:=hq0.symm.trans hb; cases e)
 replace kz : ∀ b,b < V.heap.size -> ¬ (r <= b /\ b <= r + 7) -> X2.heap[b]? = V.heap[b]?:=fun b h1 h2=>(kX2 b (by omega)).trans (kz b h1 h2)
 replace sz : V.heap.size <= X2.heap.size:=by omega
 replace eo:=(kX2 _ (by omega)).trans eo
 try walk_nrm
 refine wM hM hnX2 fun kk hkk=>?_
 refine hM.cl rfl rfl rfl Try.func46 rfl ?_
 walk_nrm
 have kh : ∀ b,C.has b -> X2.heap[b]? = V.heap[b]?:=fun b hb=>kz b (has_lt t.H t.L (by omega) b hb) fun h=>t.far b (t.I.ow b h.1 h.2) hb
 refine hM.walk _ _ _ (will_unlock (C:=C) (i:=0) (mo:=0) (q:=[]) hnX2 t.hO.tbi (fun a ha=>t.hO.cbt ha) (by omega) (by omega) (t.H.off kh) (t.L.off kh) M (fun x hx=>by cases hx) t.far fun X3 qv6 U=>.stop ?_)
 rw [Frame.finish_at]
 have ku : ∀ b,own b -> b ≠ r + 3 -> X3.heap[b]? = X2.heap[b]?:=fun b hb hne=>U.keep b hne fun j hj e=>t.far b hb (.inr (.inr ⟨j,hj,e⟩))
 replace y0:=(ku _ o0 (by omega)).trans y0
 replace y1:=(ku _ o1 (by omega)).trans y1
 replace y2:=(ku _ o2 (by omega)).trans y2
 replace y4:=(ku _ o4 (by omega)).trans y4
 replace y5:=(ku _ o5 (by omega)).trans y5
 replace y6:=(ku _ o6 (by omega)).trans y6
 replace y7:=(ku _ o7 (by omega)).trans y7
 have kw : ∀ b,b < V.heap.size -> ¬ (r <= b /\ b <= r + 7) -> (∀ j,j < C.n -> b ≠ C.tb j) -> X3.heap[b]? = V.heap[b]?:=fun b h1 h2 h3=>(U.keep b (by omega) h3).trans (kz b h1 h2)
 have su : V.heap.size <= X3.heap.size:=by rw [U.sz]; exact sz
 walk_nrm
 replace eo:=(U.keep ob (by omega) fun j hj e=>by have:=has_lt t.H t.L (by omega) _ (.inr (.inr ⟨j,hj,rfl⟩) : C.has (C.tb j)); omega).trans eo
 refine wM hM U.nrm fun kk hkk=>?_
 try subst hkk
 refine hM.cl rfl rfl rfl Try.func24 rfl ?_
 walk_nrm
 have lo6 : ob < X3.heap.size:=(glt eo)
 refine hS _ _ (gy (fr:=(base 100).at _ _) (cs:=[]) U.nrm su (fun b h1 h2 h3=>kw b h1 (fun h=>h2 (t.I.ow b h.1 h.2)) h3) t.lt (U.cw.congr fun j hj=>?_) ?_ (fun cs hc=>?_) ?_ ?_ ?_)
 . rw [hturn]
   show upd (Gs.st s) 0 1 j = _
   by_cases e : j = 0
   . subst e; rw [upd_same,upd_same]
   . rw [upd_ne _ _ e,upd_ne _ _ e]; unfold Gs.st; rw [if_neg e,if_neg e]
 . rw [hturn]
   have hM6 : MuI X3 (gOw own V X3) (r + 3) 0 0 [] qv6:=U.mu.grow fun b hb _=>.inl hb
   refine ⟨⟨by show 2 <= 6; omega,hj4,fun h=>⟨by show 2 <= 2; omega,by show 2 <= 5; omega⟩,fun h=>by have:=hj3 h; omega,hg⟩,fun b h1 h2=>.inl (t.I.ow b h1 h2),y2,y1,y4,y5,y6,y7,⟨qv6,by rw [if_neg (show ¬ s.j = 3 by omega)]; exact hM6,fun _=>U.qo.trans hq0,fun b hb=>hqr b (U.qo.symm.trans hb)⟩,fun h=>absurd (show 2 <= 2 /\ 2 <= 5 by omega) h,fun _=>⟨_,_,ob,.slice none 0 0,y0,hm2,.inr ⟨lob,lo6⟩,by omega,eo,fun h=>?_,fun _=>rfl⟩⟩
   have : s.j = 2:=h
   have:=hj2 this
   omega
 . intro f hf ob' tp mp hj
   obtain ⟨h1,h2,h3,h4⟩:=hc f hf ob' tp mp hj
   refine ⟨.inl h1,.inl h2,h3,?_⟩
   rcases h4 with ⟨es',clk',h5,h6⟩ | ⟨cv,h5⟩
   . rw [y00] at h5
     obtain ⟨rfl,rfl⟩ : es = es' /\ clk = clk':=by have:=Option.some.inj h5; injection this with a b; exact ⟨a,b⟩
     cases hm.inj h6
   . exact .inr ⟨cv,(kw ob' (t.lt _ h1) (by omega) fun j hj e=>t.far _ h1 (.inr (.inr ⟨j,hj,e⟩))).trans h5⟩
 . rw [hturn]; rfl
 . rw [hturn]
   refine ⟨fun _=>⟨fun h=>?_,fun h=>?_,fun h=>?_,fun h=>?_,fun h=>?_,by show 1 <= 2; omega,by show 2 <= 5; omega⟩,fun h=>absurd rfl h⟩
   all_goals first | (exfalso; revert h; show ¬ 2 = _; omega) | exact ⟨_,⟨rfl,rfl,rfl,rfl,rfl,rfl,rfl⟩,rfl⟩
 . exact GMem.none fun g hg=>by
     obtain rfl : g = _:=by simpa using hg
     exact fun e=>by cases e
theorem lead5a (t : Gn E C r s 0 own V) (hp : s.p = 5) (hj : s.j ≠ 2) (hT : LF1 r (C.tp 0) T) {jj : Nat} (hfr : LkY (r + 3) 0 (C.tp 0) (b.at a (.inRegion ops (jj :: rest) :: k))) : WillM Try.prog false E.Z (TEndM C (Ufl r C) s 0 own V ((baseD 141).at aY (.inRegion opsY (iY :: restY) :: kY))) 0 (G (b.at (a.put ((ops[jj]?).bind (·.dst)) (.tuple #[])) (.inRegion ops rest :: k)) [(base 100).at ⟨T,[]⟩ [.inRegion lc7 [1],.code lX8],((baseD 141).at aY (.inRegion opsY (iY :: restY) :: kY)),rootF]) V:=by
 intro KK hM hS
 have hn2:=t.n2
 obtain ⟨hp6,hj4,hj2,hj3,hg⟩:=t.I.ok
 have y2:=t.I.x
 have y1:=t.I.gg
 have y4:=t.I.kk
 have y5:=t.I.v
 have y6:=t.I.f
 have y7:=t.I.se
 obtain ⟨o0,o1,o2,o3,o4,o5,o6,o7⟩:=t.os
 obtain ⟨l0,l1,l2,l3,l4,l5,l6,l7⟩:=t.ls
 obtain ⟨qv,M,hqv,hqr⟩:=t.I.mu
 have hturn : s.turn 0 = { s with p:=6 }:=by unfold Gs.turn; rw [if_pos rfl,if_neg (fun h=>hj h.2),hp]
 obtain ⟨es,clk,ob,cv,y0,hm,oob,gob,yo,hc1,hc2⟩:=t.I.mp1 (by omega)
 have y00:=y0
 have yo0:=yo
 have lob:=t.lt _ oob
 have ek : kpos k8 [(k8,ob)] 0 = some (0,ob):=by simp [kpos]
 have hme : Mp (es.eraseIdxIfInBounds 0) []:=hm.erase 0
 have sz : V.heap.size <= V.heap.size:=Nat.le_refl _
 have kz : ∀ b,b < V.heap.size -> ¬ (r <= b /\ b <= r + 7) -> V.heap[b]? = V.heap[b]?:=fun _ _ _=>rfl
 rw [if_neg (by omega)] at M
 have hq0:=hqv (by omega)
 obtain ⟨vb,vc,rfl⟩:=M.qu.sl
 refine hM.walk _ _ _ (lock_back (C:=C) (i:=0) (mo:=0) (ow:=0) t.hn (by omega) (by omega) t.H t.L M.c0 M.z0 M.c1 M.z1 M.qu (by simp) M.qmb (t.far _ M.mown) (fun b hb=>t.far b (M.qown b hb)) (by omega) (fun _=>.stop ?_) (fun h=>absurd ⟨rfl,rfl⟩ h) hfr)
 have M1:=M.take (0 + 1)
 have k1 : ∀ b,b ≠ r + 3 -> (V.setCell ⟨r + 3,0 + 1,none⟩ (.int .i64 (0 + 1 : Nat))).heap[b]? = V.heap[b]?:=fun b hb=>set_off _ _ hb
 have s1 : (V.setCell ⟨r + 3,0 + 1,none⟩ (.int .i64 (0 + 1 : Nat))).heap.size = V.heap.size:=by simp [World.setCell]
 have hn1:=norm_set t.hn ⟨r + 3,0 + 1,none⟩ (.int .i64 (0 + 1 : Nat))
 generalize V.setCell ⟨r + 3,0 + 1,none⟩ (.int .i64 (0 + 1 : Nat)) = V1 at *
 replace yo:=(k1 _ (by omega)).trans yo
 replace y0:=(k1 _ (by omega)).trans y0
 replace y1:=(k1 _ (by omega)).trans y1
 replace y2:=(k1 _ (by omega)).trans y2
 replace y4:=(k1 _ (by omega)).trans y4
 replace y5:=(k1 _ (by omega)).trans y5
 replace y6:=(k1 _ (by omega)).trans y6
 replace y7:=(k1 _ (by omega)).trans y7
 replace M:=M1
 replace kz : ∀ b,b < V.heap.size -> ¬ (r <= b /\ b <= r + 7) -> V1.heap[b]? = V.heap[b]?:=fun b h1 h2=>(k1 b (by omega)).trans (kz b h1 h2)
 replace sz : V.heap.size <= V1.heap.size:=by omega
 obtain ⟨hs,t0,t1,t2,t3,t4,t5⟩:=hT
 obtain ⟨f,hf,hT⟩:=array31f T hs
 rw [hT]
 simp only [hf _ _ t0,hf _ _ t1,hf _ _ t2,hf _ _ t3,hf _ _ t4,hf _ _ t5]
 clear hf hs t0 t1 t2 t3 t4 t5
 subst hT
 refine (fun (h : ∀ X Y,X = lc7 -> Y = lX8 -> KK 0 (G ((base 100).at (Act.put ⟨_,[]⟩ ((X[1]?).bind (·.dst)) (.int .i64 0)) [.inRegion X [],.code Y]) [((baseD 141).at aY (.inRegion opsY (iY :: restY) :: kY)),rootF]) V1)=>h lc7 lX8 rfl rfl) ?_
 intro X Y hX hY
 simp only [lc7,lX8,lX7,lX6,lX5,lX4,lX1,lB,rops,nva,nvb,Try.f100,Option.getD_some] at hX hY
 subst hX hY
 simp only [Cw.tp]
 walk_nrm
 have q_2_0:=qc 0 y2 rfl
 have q_4_0:=qc 0 y4 rfl
 have q_4_1:=qc 1 y4 rfl
 refine wM hM hn1 fun kk hkk=>?_
 refine hM.cl rfl rfl rfl Try.func69 rfl ?_
 walk_nrm
 clear q_2_0 q_4_0 q_4_1
 obtain rfl:=hc2 hj
 refine end_on (k:=k8) (i:=0) (ob:=ob) hM hn1 y1 y0 hm ek (by omega) yo (by omega) (by omega) (fun V5 V6=>Kp V5 V6) (fun V5 bY aY opsY iY restY kY cs1 hn5 s5 x5 m5 k5 hK=>hM.walk _ _ _ (bc_empty (b:=none) (c:=0) hn5 (cell_of (k:=0) x5 (by simp)) fun V6 hn6 k6=>.stop (hK V6 hn6 k6))) fun V5 V6 s5 x5 m5 k5 hn6 k6=>?_
 have s6:=k6.size
 replace y1:=((k6.keep _ (by omega)).trans (k5 _ (by omega) (by omega) (by omega))).trans y1
 replace y2:=((k6.keep _ (by omega)).trans (k5 _ (by omega) (by omega) (by omega))).trans y2
 replace y4:=((k6.keep _ (by omega)).trans (k5 _ (by omega) (by omega) (by omega))).trans y4
 replace y5:=((k6.keep _ (by omega)).trans (k5 _ (by omega) (by omega) (by omega))).trans y5
 replace y6:=((k6.keep _ (by omega)).trans (k5 _ (by omega) (by omega) (by omega))).trans y6
 replace y7:=((k6.keep _ (by omega)).trans (k5 _ (by omega) (by omega) (by omega))).trans y7
 have y0:=(k6.keep _ (by omega)).trans m5
 have yo:=(k6.keep _ (by omega)).trans x5
 replace M:=M.keep2 ((k6.keep _ (by omega)).trans (k5 _ (by omega) (by omega) (by omega))) (fun b hb=>by have e : (none : Option Nat) = some b:=hq0.symm.trans hb; cases e)
 replace kz : ∀ b,b < V.heap.size -> ¬ (r <= b /\ b <= r + 7) -> b ≠ ob -> V6.heap[b]? = V.heap[b]?:=fun b h1 h2 h3=>((k6.keep _ (by omega)).trans (k5 b (by omega) h3 (by omega))).trans (kz b h1 h2)
 replace sz : V.heap.size <= V6.heap.size:=by omega
 walk_nrm
 refine wM hM hn6 fun kk hkk=>?_
 refine hM.cl rfl rfl rfl Try.func46 rfl ?_
 walk_nrm
 have kh : ∀ b,C.has b -> V6.heap[b]? = V.heap[b]?:=fun b hb=>kz b (has_lt t.H t.L (by omega) b hb) (fun h=>t.far b (t.I.ow b h.1 h.2) hb) (fun e=>t.far b (e ▸ oob) hb)
 refine hM.walk _ _ _ (will_unlock (C:=C) (i:=0) (mo:=0) (q:=[]) hn6 t.hO.tbi (fun a ha=>t.hO.cbt ha) (by omega) (by omega) (t.H.off kh) (t.L.off kh) M (fun x hx=>by cases hx) t.far fun V7 qv7 U=>.stop ?_)
 have hM7 : MuI V7 (gOw own V V7) (r + 3) 0 0 [] qv7:=U.mu.grow fun b hb _=>.inl hb
 rw [Frame.finish_at]
 have ku : ∀ b,own b -> b ≠ r + 3 -> V7.heap[b]? = V6.heap[b]?:=fun b hb hne=>U.keep b hne fun j hj e=>t.far b hb (.inr (.inr ⟨j,hj,e⟩))
 replace y0:=(ku _ o0 (by omega)).trans y0
 replace y1:=(ku _ o1 (by omega)).trans y1
 replace y2:=(ku _ o2 (by omega)).trans y2
 replace y4:=(ku _ o4 (by omega)).trans y4
 replace y5:=(ku _ o5 (by omega)).trans y5
 replace y6:=(ku _ o6 (by omega)).trans y6
 replace y7:=(ku _ o7 (by omega)).trans y7
 replace yo:=(ku _ oob (by omega)).trans yo
 have su : V.heap.size <= V7.heap.size:=by rw [U.sz]; exact sz
 have hn7:=U.nrm
 walk_nrm
 refine wM hM hn7 fun kk hkk=>?_
 refine mu_leave0 (K:=fun g=>KK 0 g V7) hM.mu rfl rfl Try.func100 rfl ?_
 refine hS _ _ (gt (fun b h1 h2 h3=>(U.keep b (fun e=>h2 (e ▸ o3)) h3).trans (kz b h1 (fun h=>h2 (t.I.ow b h.1 h.2)) (fun e=>h2 (e ▸ oob)))) hn7 su t.lt (U.cw.congr fun j hjl=>?_) ?_ (fun cs hc=>?_) ?_)
 . rw [hturn]
   show upd (Gs.st s) 0 1 j = _
   by_cases e : j = 0
   . subst e; rw [upd_same,upd_same]
   . rw [upd_ne _ _ e,upd_ne _ _ e]; unfold Gs.st; rw [if_neg e,if_neg e]
 . rw [hturn]
   refine ⟨⟨Nat.le_refl 6,hj4,fun h=>absurd h hj,fun _=>rfl,hg⟩,fun b h1 h2=>.inl (t.I.ow b h1 h2),y2,y1,y4,y5,?_,?_,⟨qv7,by rw [if_neg (show ¬ s.j = 3 by omega)]; exact hM7,fun h=>by have : (6 : Nat) <= 5:=h; omega,fun b hb=>hqr b (U.qo.symm.trans hb)⟩,fun _=>⟨_,_,y0,hme⟩,fun h=>by have : (6 : Nat) <= 5:=h.2; omega⟩
   . rw [hp] at y6; exact y6
   . rw [hp] at y7; exact y7
 . intro f hf ob' tp mp hjn
   obtain ⟨h1,h2,h3,h4⟩:=hc f hf ob' tp mp hjn
   refine ⟨.inl h1,.inl h2,h3,.inr ?_⟩
   rcases h4 with ⟨es',clk',h5,h6⟩ | ⟨cv',h5⟩
   . rw [y00] at h5
     obtain ⟨rfl,rfl⟩ : es = es' /\ clk = clk':=by have:=Option.some.inj h5; injection this with a b; exact ⟨a,b⟩
     have e:=hm.inj h6
     injection e with e _
     injection e with _ e
     subst e
     exact ⟨_,yo⟩
   . have hne : ob' ≠ ob:=fun e=>by
       rw [e,yo0] at h5
       simp at h5
     exact ⟨cv',((ku ob' h1 (by omega)).trans (kz ob' (t.lt _ h1) (by omega) hne)).trans h5⟩
 . rw [hturn]; rfl
theorem lead5b (t : Gn E C r s 0 own V) (hp : s.p = 5) (hj : s.j = 2) (hT : LF1 r (C.tp 0) T) {jj : Nat} (hfr : LkY (r + 3) 0 (C.tp 0) (b.at a (.inRegion ops (jj :: rest) :: k))) : WillM Try.prog false E.Z (TEndM C (Ufl r C) s 0 own V ((baseD 141).at aY (.inRegion opsY (iY :: restY) :: kY))) 0 (G (b.at (a.put ((ops[jj]?).bind (·.dst)) (.tuple #[])) (.inRegion ops rest :: k)) [(base 100).at ⟨T,[]⟩ [.inRegion lc7 [1],.code lX8],((baseD 141).at aY (.inRegion opsY (iY :: restY) :: kY)),rootF]) V:=by
 intro KK hM hS
 have hn2:=t.n2
 obtain ⟨hp6,hj4,hj2,hj3,hg⟩:=t.I.ok
 have y2:=t.I.x
 have y1:=t.I.gg
 have y4:=t.I.kk
 have y5:=t.I.v
 have y6:=t.I.f
 have y7:=t.I.se
 obtain ⟨o0,o1,o2,o3,o4,o5,o6,o7⟩:=t.os
 obtain ⟨l0,l1,l2,l3,l4,l5,l6,l7⟩:=t.ls
 obtain ⟨qv,M,hqv,hqr⟩:=t.I.mu
 have hturn : s.turn 0 = { s with p:=6,j:=3 }:=by unfold Gs.turn; rw [if_pos rfl,if_pos ⟨hp,hj⟩]
 obtain ⟨es,clk,ob,cv,y0,hm,oob,gob,yo,hc1,hc2⟩:=t.I.mp1 (by omega)
 have y00:=y0
 have yo0:=yo
 have lob:=t.lt _ oob
 have ek : kpos k8 [(k8,ob)] 0 = some (0,ob):=by simp [kpos]
 have hme : Mp (es.eraseIdxIfInBounds 0) []:=hm.erase 0
 have sz : V.heap.size <= V.heap.size:=Nat.le_refl _
 have kz : ∀ b,b < V.heap.size -> ¬ (r <= b /\ b <= r + 7) -> V.heap[b]? = V.heap[b]?:=fun _ _ _=>rfl
 rw [if_neg (by omega)] at M
 have hq0:=hqv (by omega)
 obtain ⟨vb,vc,rfl⟩:=M.qu.sl
 refine hM.walk _ _ _ (lock_back (C:=C) (i:=0) (mo:=0) (ow:=0) t.hn (by omega) (by omega) t.H t.L M.c0 M.z0 M.c1 M.z1 M.qu (by simp) M.qmb (t.far _ M.mown) (fun b hb=>t.far b (M.qown b hb)) (by omega) (fun _=>.stop ?_) (fun h=>absurd ⟨rfl,rfl⟩ h) hfr)
 have M1:=M.take (0 + 1)
 have k1 : ∀ b,b ≠ r + 3 -> (V.setCell ⟨r + 3,0 + 1,none⟩ (.int .i64 (0 + 1 : Nat))).heap[b]? = V.heap[b]?:=fun b hb=>set_off _ _ hb
 have s1 : (V.setCell ⟨r + 3,0 + 1,none⟩ (.int .i64 (0 + 1 : Nat))).heap.size = V.heap.size:=by simp [World.setCell]
 have hn1:=norm_set t.hn ⟨r + 3,0 + 1,none⟩ (.int .i64 (0 + 1 : Nat))
 generalize V.setCell ⟨r + 3,0 + 1,none⟩ (.int .i64 (0 + 1 : Nat)) = V1 at *
 replace yo:=(k1 _ (by omega)).trans yo
 replace y0:=(k1 _ (by omega)).trans y0
 replace y1:=(k1 _ (by omega)).trans y1
 replace y2:=(k1 _ (by omega)).trans y2
 replace y4:=(k1 _ (by omega)).trans y4
 replace y5:=(k1 _ (by omega)).trans y5
 replace y6:=(k1 _ (by omega)).trans y6
 replace y7:=(k1 _ (by omega)).trans y7
 replace M:=M1
 replace kz : ∀ b,b < V.heap.size -> ¬ (r <= b /\ b <= r + 7) -> V1.heap[b]? = V.heap[b]?:=fun b h1 h2=>(k1 b (by omega)).trans (kz b h1 h2)
 replace sz : V.heap.size <= V1.heap.size:=by omega
 obtain ⟨hs,t0,t1,t2,t3,t4,t5⟩:=hT
 obtain ⟨f,hf,hT⟩:=array31f T hs
 rw [hT]
 simp only [hf _ _ t0,hf _ _ t1,hf _ _ t2,hf _ _ t3,hf _ _ t4,hf _ _ t5]
 clear hf hs t0 t1 t2 t3 t4 t5
 subst hT
 refine (fun (h : ∀ X Y,X = lc7 -> Y = lX8 -> KK 0 (G ((base 100).at (Act.put ⟨_,[]⟩ ((X[1]?).bind (·.dst)) (.int .i64 0)) [.inRegion X [],.code Y]) [((baseD 141).at aY (.inRegion opsY (iY :: restY) :: kY)),rootF]) V1)=>h lc7 lX8 rfl rfl) ?_
 intro X Y hX hY
 simp only [lc7,lX8,lX7,lX6,lX5,lX4,lX1,lB,rops,nva,nvb,Try.f100,Option.getD_some] at hX hY
 subst hX hY
 simp only [Cw.tp]
 walk_nrm
 have q_2_0:=qc 0 y2 rfl
 have q_4_0:=qc 0 y4 rfl
 have q_4_1:=qc 1 y4 rfl
 refine wM hM hn1 fun kk hkk=>?_
 refine hM.cl rfl rfl rfl Try.func69 rfl ?_
 walk_nrm
 clear q_2_0 q_4_0 q_4_1
 obtain ⟨hcq,hcb⟩:=hc1 hj
 have hqm : (Value.slice vb ([] : List Nat).length vc).ownBlock = none:=hq0
 refine end_on (k:=k8) (i:=0) (ob:=ob) hM hn1 y1 y0 hm ek (by omega) yo (by omega) (by omega) (fun V5 V6=>∃ qv6 cv6,BcI V5 (.slice vb ([] : List Nat).length vc) cv (.bool true) (.int .i64 5) (.int .i64 0) (r + 3) ob 1 [1] qv6 [] cv6 V6) (fun V5 bY aY opsY iY restY kY cs1 hn5 s5 x5 m5 k5 hK=>?_) fun V5 V6 s5 x5 m5 k5 hn6 ⟨qv6,cv6,B⟩=>?_
 . have M5:=M.keep2 (k5 _ (by omega) (by omega) (by omega)) (fun b hb=>by have e : (none : Option Nat) = some b:=hq0.symm.trans hb; cases e)
   have hcu : Qu V5 183 2 cv 1 (wts (r + 3) [1]):=hcq.keep fun b hb=>by
     obtain ⟨h1,h2,h3⟩:=hcb b hb
     exact (k5 b (by have:=t.lt b h1; omega) h3 (by omega)).trans (kz b (t.lt b h1) (by omega))
   refine hM.walk _ _ _ (will_bc (ow:=1) (q:=[]) (cq:=[1]) (mb:=r + 3) hn5 (by omega) ⟨M5.c0,M5.z0,M5.c1,M5.z1,M5.qu,cell_of (k:=0) x5 (by simp),by simp [World.frozen?,x5],hcu,by omega,by rw [hqm]; simp,by rw [hqm]; simp,fun e=>by have:=(hcb _ e).2.1; omega,fun e=>(hcb _ e).2.2 rfl,Nat.le_refl _,fun _ _ _ _ _=>rfl,.inl rfl,rfl,x5⟩ (fun x hx=>by have e : x = 1:=(by simpa using hx); omega) (by simp) fun V6 qv6 cv6 hn6 B=>.stop (hK V6 hn6 ⟨qv6,cv6,by simpa using B⟩))
 have s6:=B.sz
 have hbk : ∀ b,b < V5.heap.size -> b ≠ r + 3 -> b ≠ ob -> V6.heap[b]? = V5.heap[b]?:=fun b h1 h2 h3=>B.keep b h1 h2 h3 (by rw [hqm]; simp)
 replace y1:=((hbk _ (by omega) (by omega) (by omega)).trans (k5 _ (by omega) (by omega) (by omega))).trans y1
 replace y2:=((hbk _ (by omega) (by omega) (by omega)).trans (k5 _ (by omega) (by omega) (by omega))).trans y2
 replace y4:=((hbk _ (by omega) (by omega) (by omega)).trans (k5 _ (by omega) (by omega) (by omega))).trans y4
 replace y5:=((hbk _ (by omega) (by omega) (by omega)).trans (k5 _ (by omega) (by omega) (by omega))).trans y5
 replace y6:=((hbk _ (by omega) (by omega) (by omega)).trans (k5 _ (by omega) (by omega) (by omega))).trans y6
 replace y7:=((hbk _ (by omega) (by omega) (by omega)).trans (k5 _ (by omega) (by omega) (by omega))).trans y7
 have y0:=(hbk _ (by omega) (by omega) (by omega)).trans m5
 have yo:=B.ec
 replace kz : ∀ b,b < V.heap.size -> ¬ (r <= b /\ b <= r + 7) -> b ≠ ob -> V6.heap[b]? = V.heap[b]?:=fun b h1 h2 h3=>((hbk b (by omega) (by omega) h3).trans (k5 b (by omega) h3 (by omega))).trans (kz b h1 h2)
 replace sz : V.heap.size <= V6.heap.size:=by omega
 have M6 : MuI V6 (gOw own V V6) (r + 3) 0 1 [1] qv6:=⟨B.c0,B.z0,B.c1,B.z1,B.qu,fun b hb=>by
   rcases B.qo with h | ⟨b',h,hge⟩
   . rw [h,hqm] at hb; cases hb
   . rw [h] at hb
     obtain rfl:=Option.some.inj hb
     exact .inr ⟨by omega,B.qu.at_ h⟩,B.qm,.inl o3⟩
 have K6 : Gk C own V V6:=⟨hn6,sz,fun b h1 h2=>kz b h1 (fun h=>h2 (t.I.ow b h.1 h.2)) (fun e=>h2 (e ▸ oob))⟩
 walk_nrm
 refine wM hM hn6 fun kk hkk=>?_
 refine hM.cl rfl rfl rfl Try.func46 rfl ?_
 walk_nrm
 have kh : ∀ b,C.has b -> V6.heap[b]? = V.heap[b]?:=t.has K6
 refine hM.walk _ _ _ (will_unlock (C:=C) (i:=0) (mo:=0) (q:=[1]) hn6 t.hO.tbi (fun a ha=>t.hO.cbt ha) (by omega) (by omega) (t.H.off kh) (t.L.off kh) M6 (fun x hx=>by have e : x = 1:=(by simpa using hx); omega) (t.far2 K6) fun V7 qv7 U=>.stop ?_)
 have hq7 : ∀ b,qv7.ownBlock = some b -> r + 7 < b:=fun b hb=>by
   have hb:=U.qo.symm.trans hb
   rcases B.qo with h | ⟨b',h,hge⟩
   . rw [h,hqm] at hb; cases hb
   . rw [h] at hb
     obtain rfl:=Option.some.inj hb
     omega
 have hM7 : MuI V7 (gOw own V V7) (r + 3) 0 2 [] qv7:=U.mu.grow fun b hb _=>hb.imp id fun h=>⟨h.1,by rw [U.sz]; exact h.2⟩
 rw [Frame.finish_at]
 have ku : ∀ b,own b -> b ≠ r + 3 -> V7.heap[b]? = V6.heap[b]?:=fun b hb hne=>U.keep b hne fun j hj e=>t.far b hb (.inr (.inr ⟨j,hj,e⟩))
 replace y0:=(ku _ o0 (by omega)).trans y0
 replace y1:=(ku _ o1 (by omega)).trans y1
 replace y2:=(ku _ o2 (by omega)).trans y2
 replace y4:=(ku _ o4 (by omega)).trans y4
 replace y5:=(ku _ o5 (by omega)).trans y5
 replace y6:=(ku _ o6 (by omega)).trans y6
 replace y7:=(ku _ o7 (by omega)).trans y7
 replace yo:=(ku _ oob (by omega)).trans yo
 have su : V.heap.size <= V7.heap.size:=by rw [U.sz]; exact sz
 have hn7:=U.nrm
 walk_nrm
 refine wM hM hn7 fun kk hkk=>?_
 refine mu_leave0 (K:=fun g=>KK 0 g V7) hM.mu rfl rfl Try.func100 rfl ?_
 refine hS _ _ (gt (fun b h1 h2 h3=>(U.keep b (fun e=>h2 (e ▸ o3)) h3).trans (kz b h1 (fun h=>h2 (t.I.ow b h.1 h.2)) (fun e=>h2 (e ▸ oob)))) hn7 su t.lt (U.cw.congr fun j hjl=>?_) ?_ (fun cs hc=>?_) ?_)
 . rw [hturn]
   show unSt (upd (Gs.st s) 0 1) [1] j = _
   have hj01 : j = 0 ∨ j = 1:=by omega
   rcases hj01 with rfl | rfl
   . show wk (upd (Gs.st s) 0 1) 1 0 = _
     rw [upd_same]
     unfold wk
     split
     . rw [upd_ne _ _ (by omega),upd_same]
     . exact upd_same _ _ _
   . have e1 : upd (Gs.st s) 0 1 1 = 2:=by rw [upd_ne _ _ (by omega)]; unfold Gs.st; rw [if_neg (by omega),hj]; rfl
     have e2 : upd (Gs.st { s with p:=6,j:=3 }) 0 1 1 = 1:=by rw [upd_ne _ _ (by omega)]; rfl
     rw [e2]
     simp [unSt,wk,e1,upd_same]
 . rw [hturn]
   refine ⟨⟨Nat.le_refl 6,by show 3 <= 4; omega,fun h=>by have : (3 : Nat) = 2:=h; omega,fun _=>rfl,fun _=>hg (by omega)⟩,fun b h1 h2=>.inl (t.I.ow b h1 h2),y2,y1,y4,y5,?_,?_,⟨qv7,hM7,fun h=>by have : (6 : Nat) <= 5:=h; omega,hq7⟩,fun _=>⟨_,_,y0,hme⟩,fun h=>by have : (6 : Nat) <= 5:=h.2; omega⟩
   . rw [hp] at y6; exact y6
   . rw [hp] at y7; exact y7
 . intro f hf ob' tp mp hjn
   obtain ⟨h1,h2,h3,h4⟩:=hc f hf ob' tp mp hjn
   refine ⟨.inl h1,.inl h2,h3,.inr ?_⟩
   rcases h4 with ⟨es',clk',h5,h6⟩ | ⟨cv',h5⟩
   . rw [y00] at h5
     obtain ⟨rfl,rfl⟩ : es = es' /\ clk = clk':=by have:=Option.some.inj h5; injection this with a b; exact ⟨a,b⟩
     have e:=hm.inj h6
     injection e with e _
     injection e with _ e
     subst e
     exact ⟨_,yo⟩
   . have hne : ob' ≠ ob:=fun e=>by
       rw [e,yo0] at h5
       simp at h5
     exact ⟨cv',((ku ob' h1 (by omega)).trans (kz ob' (t.lt _ h1) (by omega) hne)).trans h5⟩
 . rw [hturn]; rfl
end
end Go.Proofs.Ytibcdikfbhmheaa
