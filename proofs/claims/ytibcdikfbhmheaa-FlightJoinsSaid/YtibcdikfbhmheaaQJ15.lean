import Derived.Test.YtibcdikfbhmheaaQJ14
set_option linter.unusedSimpArgs false
set_option linter.unusedVariables false
set_option maxRecDepth 100000
set_option maxHeartbeats 4000000
namespace Go.Proofs.Ytibcdikfbhmheaa
open Go Go.Conc Go.Proofs
open Go.ConcN (sumTo upd sumTo_upd upd_ne upd_same)
noncomputable section
section
variable {aY : Act} {opsY : Array Oper} {iY : Nat} {restY : List Nat} {kY : List Item}
structure Jn (E : Env) (C : Cw) (D : Jd) (s : Js) (i : Nat) (own : Nat -> Prop) (V : World) : Prop where
 hO : CwOk E C
 n7 : C.n <= 7
 hin : i < C.n
 hn : norm V = V
 I : JInv D C.n s own V
 H : CwAt C false (upd (Js.st s) i 1) V
 L : LsV C V
 lt : ∀ b,own b -> b < V.heap.size
 far : ∀ b,own b -> ¬ C.has b
theorem Jn.has {E : Env} {C : Cw} {D : Jd} {s : Js} {i : Nat} {own : Nat -> Prop} {V W : World} (t : Jn E C D s i own V) (h : Gk C own V W) : ∀ b,C.has b -> W.heap[b]? = V.heap[b]?:=fun b hb =>
 h.keep b (has_lt t.H t.L (by have:=t.hin; omega) b hb) fun ho=>t.far b ho hb
theorem Jn.tb {E : Env} {C : Cw} {D : Jd} {s : Js} {i : Nat} {own : Nat -> Prop} {V : World} (t : Jn E C D s i own V) {b : Nat} (hb : own b) : ∀ j,j < C.n -> b ≠ C.tb j:=fun j hj e=>t.far b hb (.inr (.inr ⟨j,hj,e⟩))
theorem Jn.owz {E : Env} {C : Cw} {D : Jd} {s : Js} {i : Nat} {own : Nat -> Prop} {V : World} (t : Jn E C D s i own V) : (∀ d,d <= 9 -> own (D.r + d)) /\ (∀ d,d <= 9 -> D.r + d < V.heap.size) /\ own (D.r + 5) /\ D.r + 9 < V.heap.size /\ D.kg < D.r /\ 1 <= D.ks.length /\ D.ks.length <= 5:=by
 have ho : ∀ d,d <= 9 -> own (D.r + d):=fun d hd=>t.I.ow _ (by omega) (by omega)
 exact ⟨ho,fun d hd=>t.lt _ (ho d hd),ho 5 (by omega),t.lt _ (ho 9 (by omega)),t.I.kr,t.I.l1,t.I.l5⟩
theorem gOw_self {own : Nat -> Prop} {V : World} : gOw own V V = own:=by
 funext b
 exact propext ⟨fun h=>by
   rcases h with h | ⟨h1,h2⟩
   . exact h
   . omega,.inl⟩
theorem jy {D : Jd} {C : Cw} {s : Js} {i : Nat} {own : Nat -> Prop} {V W : World} {Rf fr : Frame} {cs : List Frame} (hn : norm W = W) (hs : V.heap.size <= W.heap.size) (K : ∀ b,b < V.heap.size -> ¬ own b -> (∀ j,j < C.n -> b ≠ C.tb j) -> W.heap[b]? = V.heap[b]?) (hl : ∀ b,own b -> b < V.heap.size) (H : CwAt C false (upd (Js.st (s.turn i)) i 1) W) (I : JInv D C.n (s.turn i) (gOw own V W) W) (hm : ∀ cs,JMem D cs own V -> JMem D cs (gOw own V W) W) (hst : (s.turn i).st i = 1) (hloc : JLoc D C (s.turn i) i (fr :: cs)) (hmm : JMem D (fr :: cs) (gOw own V W) W) :
   TEndM C (Ufj D C) s i own V Rf (G (Frame.enter Try.prog 24 #[C.tp i] .normal) (fr :: cs ++ [Rf,rootF])) W :=
 ⟨hn,hs,K,H,_,I,gOw_lt hl hs,hm,.inl ⟨hst,fr,cs,rfl,hloc,hmm⟩⟩
theorem jp {D : Jd} {C : Cw} {s : Js} {i : Nat} {own : Nat -> Prop} {V W : World} {Rf fr : Frame} {cs : List Frame} (hn : norm W = W) (hs : V.heap.size <= W.heap.size) (K : ∀ b,b < V.heap.size -> ¬ own b -> (∀ j,j < C.n -> b ≠ C.tb j) -> W.heap[b]? = V.heap[b]?) (hl : ∀ b,own b -> b < V.heap.size) (H : CwAt C false (upd (Js.st (s.turn i)) i 1) W) (I : JInv D C.n (s.turn i) (gOw own V W) W) (hm : ∀ cs,JMem D cs own V -> JMem D cs (gOw own V W) W) (hst : (s.turn i).st i = 2) (hloc : JLoc D C (s.turn i) i (fr :: cs)) (hmm : JMem D (fr :: cs) (gOw own V W) W) :
   TEndM C (Ufj D C) s i own V Rf (G (Frame.enter Try.prog 25 #[C.tp i] .normal) (fr :: cs ++ [Rf,rootF])) W :=
 ⟨hn,hs,K,H,_,I,gOw_lt hl hs,hm,.inr (.inl ⟨hst,fr,cs,rfl,hloc,hmm⟩)⟩
theorem jt {D : Jd} {C : Cw} {s : Js} {i : Nat} {own : Nat -> Prop} {V W : World} {v : Value} (hn : norm W = W) (hs : V.heap.size <= W.heap.size) (K : ∀ b,b < V.heap.size -> ¬ own b -> (∀ j,j < C.n -> b ≠ C.tb j) -> W.heap[b]? = V.heap[b]?) (hl : ∀ b,own b -> b < V.heap.size) (H : CwAt C false (upd (Js.st (s.turn i)) i 1) W) (I : JInv D C.n (s.turn i) (gOw own V W) W) (hm : ∀ cs,JMem D cs own V -> JMem D cs (gOw own V W) W) (hst : (s.turn i).st i = 3) :
   TEndM C (Ufj D C) s i own V ((baseD 141).at aY (.inRegion opsY (iY :: restY) :: kY)) (G ((baseD 141).at (aY.put ((opsY[iY]?).bind (·.dst)) v) (.inRegion opsY restY :: kY)) [rootF]) W :=
 ⟨hn,hs,K,H,_,I,gOw_lt hl hs,hm,.inr (.inr ⟨hst,.inl ⟨v,aY,opsY,iY,restY,kY,rfl,rfl⟩⟩)⟩
theorem JMem.still {D : Jd} {own : Nat -> Prop} {V W : World} (hr : W.heap[D.r + 2]? = V.heap[D.r + 2]?) (ho : ∀ ob cv,own ob -> D.r + 9 < ob -> V.heap[ob]? = some (.cells #[cv,.bool true,.int .i64 D.v,.int .i64 0] 201 (0,0)) -> W.heap[ob]? = V.heap[ob]?) : ∀ cs,JMem D cs own V -> JMem D cs (gOw own V W) W:=fun cs h f hf ob tp mp hj=>by
 obtain ⟨h1,h2,h3,h4⟩:=h f hf ob tp mp hj
 refine ⟨.inl h1,.inl h2,h3,?_⟩
 rcases h4 with ⟨es,clk,m',h5,h6⟩ | ⟨cv,h5⟩
 . exact .inl ⟨es,clk,m',hr.trans h5,h6⟩
 . exact .inr ⟨cv,(ho ob cv h1 h3 h5).trans h5⟩
theorem JMem.none {D : Jd} {own : Nat -> Prop} {V : World} {cs : List Frame} (h : ∀ f ∈ cs,f.fn ≠ 71) : JMem D cs own V:=fun f hf ob tp mp hj=>absurd (jnr_fn hj) (h f hf)
theorem turn_l {s : Js} (h : s.p ≠ 42) : s.turn 0 = { s with p:=s.p + 1 }:=by unfold Js.turn; rw [if_pos rfl,if_neg h]
theorem turn_s {s : Js} {i : Nat} (hi : i ≠ 0) (h : s.j i <= 2) : s.turn i = { s with j:=upd s.j i (s.j i + 1) }:=by unfold Js.turn; rw [if_neg hi,if_neg (by omega),if_neg (by omega),if_neg (by omega)]
theorem st_l {s : Js} {i : Nat} (x : Nat) : ∀ j,upd (Js.st s) 0 1 j = upd (Js.st { s with p:=x }) 0 1 j:=fun j=>by
 by_cases e : j = 0
 . subst e; rw [upd_same,upd_same]
 . rw [upd_ne _ _ e,upd_ne _ _ e]; unfold Js.st; rw [if_neg e,if_neg e]
theorem st_j {s s' : Js} {i : Nat} (hi : i ≠ 0) {x : Nat} (hp : s'.p = s.p) (hj : s'.j = upd s.j i x) : ∀ j,upd (Js.st s) i 1 j = upd (Js.st s') i 1 j:=fun j=>by
 by_cases e : j = i
 . subst e; rw [upd_same,upd_same]
 . rw [upd_ne _ _ e,upd_ne _ _ e]
   unfold Js.st
   split
   . rw [hp]
   . rw [hj,upd_ne _ _ e]
theorem JMap.next {D : Jd} {p : Nat} {w : List Nat} {own : Nat -> Prop} {V : World} (h : JMap D p w own V) (h1 : p ≠ 1) (h2 : p < 42) : JMap D (p + 1) w own V:=by
 obtain ⟨es,clk,m,a1,a2,a3,a4,a5⟩:=h
 refine ⟨es,clk,m,a1,a2,a3,?_,fun hp=>a5 (by omega)⟩
 rw [a4]
 unfold jkeys
 by_cases e : p < 2
 . rw [if_pos e,if_pos (show p + 1 < 2 by omega)]
 . rw [if_neg e,if_neg (show ¬ p + 1 < 2 by omega),if_pos (show p <= 42 by omega),if_pos (show p + 1 <= 42 by omega)]
theorem JInv.next {D : Jd} {n : Nat} {s : Js} {own : Nat -> Prop} {V : World} (A : JInv D n s own V) (h1 : s.p ≠ 1) (h2 : s.p < 42) : JInv D n { s with p:=s.p + 1 } own V:=by
 have hk:=A.ok.lead h2
 rw [turn_l (by omega)] at hk
 refine ⟨hk,A.ow,A.ok2,A.kr,A.l1,A.l5,?_,A.mu,A.mp.next h1 h2⟩
 obtain ⟨un,a1,a2⟩:=A.jm
 refine ⟨un,?_,fun h=>?_⟩
 . have e : bgn D (s.p + 1) = bgn D s.p:=by
     unfold bgn
     by_cases e : s.p < 2
     . rw [if_pos e,if_pos (by omega)]
     . rw [if_neg e,if_neg (by omega)]
   show JM D (bgn D (s.p + 1)) _ _ _ _
   rw [e]
   exact a1
 . have : s.p + 1 = 43:=h
   omega
theorem JInv.step {D : Jd} {n : Nat} {s : Js} {own : Nat -> Prop} {V : World} {i : Nat} (A : JInv D n s own V) (hi : i ≠ 0) (h : s.j i <= 2) : JInv D n { s with j:=upd s.j i (s.j i + 1) } own V:=by
 have hk:=A.ok.step hi h
 rw [turn_s hi h] at hk
 exact ⟨hk,A.ow,A.ok2,A.kr,A.l1,A.l5,A.jm,A.mu,A.mp⟩
theorem lky_no {D : Jd} {own : Nat -> Prop} {V : World} {mb : Nat} {tp : Value} {f g : Frame} (hf : LkY mb 0 tp f) (hg : g.fn ≠ 71) : JMem D [f,g] own V:=JMem.none fun h hh=>by
 simp only [List.mem_cons,List.not_mem_nil,or_false] at hh
 rcases hh with rfl | rfl
 . exact lky_fn hf
 . exact hg
theorem one_no {D : Jd} {own : Nat -> Prop} {V : World} {g : Frame} (hg : g.fn ≠ 71) : JMem D [g] own V:=JMem.none fun h hh=>by
 obtain rfl : h = g:=by simpa using hh
 exact hg
end
section
variable {D : Jd} {C : Cw} {E : Env} {s : Js} {i : Nat} {own : Nat -> Prop} {V : World} {T : Array Value} {aY : Act} {opsY : Array Oper} {iY : Nat} {restY : List Nat} {kY : List Item} {b : Frame} {a : Act} {ops : Array Oper} {j : Nat} {rest : List Nat} {k : List Item}
theorem jl0 (t : Jn E C D s 0 own V) (hp : s.p = 0) : WillM Try.prog false E.Z (TEndM C (Ufj D C) s 0 own V ((baseD 141).at aY (.inRegion opsY (iY :: restY) :: kY))) 0 (G (Frame.enter Try.prog 66 #[C.tp 0,.pointer (some ⟨D.r + 5,0,none⟩),.pointer (some ⟨D.r,0,none⟩),.pointer (some ⟨D.r + 4,0,none⟩),.pointer (some ⟨D.r + 6,0,none⟩),.pointer (some ⟨D.r + 8,0,none⟩),.pointer (some ⟨D.r + 9,0,none⟩),.pointer (some ⟨D.r + 1,0,none⟩)] .normal) [((baseD 141).at aY (.inRegion opsY (iY :: restY) :: kY)),rootF]) V:=by
 intro KK hM hS
 have hn7:=t.n7
 have hin:=t.hin
 obtain ⟨qv,M,hqr⟩:=t.I.mu
 have hown : s.o ≠ 0 + 1:=by have:=t.I.ok.o0 (by omega); omega
 have hturn : s.turn 0 = { s with p:=s.p + 1 }:=turn_l (by omega)
 rw [enter_at (P:=Try.prog) _ Try.func66 rfl]
 simp only [Try.f66,Cw.tp]
 walk_nrm
 refine wM hM t.hn fun kk hkk=>?_
 try subst hkk
 refine hM.cl rfl rfl rfl Try.func45 rfl ?_
 walk_nrm
 refine hM.walk _ _ _ (lock_in (C:=C) (i:=0) (mo:=0) (ow:=s.o) t.hn t.hin (by have:=t.n7; omega) t.H M.c1 hown fun f hf=>.stop ?_)
 refine hS _ _ (jy (fr:=f) (cs:=[_]) t.hn (Nat.le_refl _) (fun _ _ _ _=>rfl) t.lt (t.H.congr fun j _=>?_) ?_ (JMem.still rfl fun _ _ _ _ _=>rfl) ?_ ?_ (lky_no hf (fun e=>by cases e)))
 . rw [hturn]; exact st_l (i:=0) _ j
 . rw [hturn,gOw_self]; exact t.I.next (by omega) (by omega)
 . rw [hturn]; show Js.stl (s.p + 1) = 1; rw [hp]; rfl
 . rw [hturn]; exact ⟨fun _=>⟨fun _=>⟨f,_,hf,⟨rfl,rfl,rfl,rfl,rfl,rfl,rfl,rfl,rfl⟩,rfl⟩,(fun h=>absurd h.1 (by show ¬ 2 <= s.p + 1; omega)),(fun h=>absurd h (by show ¬ s.p + 1 = 42; omega)),by show 1 <= s.p + 1; omega,by show s.p + 1 <= 42; omega⟩,fun h=>absurd rfl h⟩
theorem jly {q m : Nat} (t : Jn E C D s 0 own V) (hp : s.p = q + 2) (hm : m = q + 1) (hq : m < 40) (hT : AF D (C.tp 0) T) (t10 : T[10]? = some (.int .i64 (q : Int))) : WillM Try.prog false E.Z (TEndM C (Ufj D C) s 0 own V ((baseD 141).at aY (.inRegion opsY (iY :: restY) :: kY))) 0 (G ((base 66).at (Act.put ⟨T,[]⟩ ((ac10[1]?).bind (·.dst)) (.tuple #[])) [.inRegion ac10 [],.inBlock 3,.code aR9,.inLoop aL,.inBlock 2,.code aX11]) [((baseD 141).at aY (.inRegion opsY (iY :: restY) :: kY)),rootF]) V:=by
 intro KK hM hS
 have hn7:=t.n7
 have hin:=t.hin
 obtain ⟨qv,M,hqr⟩:=t.I.mu
 have hown : s.o ≠ 0 + 1:=by have:=t.I.ok.o0 (by omega); omega
 have hturn : s.turn 0 = { s with p:=s.p + 1 }:=turn_l (by omega)
 have w1 : IntKind.i64.wrap ((q : Int) + 1) = (m : Int):=by rw [IntKind.wrap_i64]; omega
 have w2 : ((m : Int) < 40):=by omega
 have hsp : s.p + 1 = m + 2:=by omega
 clear hm
 obtain ⟨hs,t0,t1,t2,t3,t4,t5,t6,t7⟩:=hT
 obtain ⟨f,hf,hT⟩:=array53f T hs
 rw [hT]
 simp only [hf _ _ t0,hf _ _ t1,hf _ _ t2,hf _ _ t3,hf _ _ t4,hf _ _ t5,hf _ _ t6,hf _ _ t7,hf _ _ t10]
 clear hf hs t0 t1 t2 t3 t4 t5 t6 t7 t10
 subst hT
 refine (fun (h : ∀ X Y0 Y1 Y2,X = ac10 -> Y0 = aR9 -> Y1 = aL -> Y2 = aX11 -> KK 0 (G ((base 66).at (Act.put ⟨_,[]⟩ ((X[1]?).bind (·.dst)) (.tuple #[])) [.inRegion X [],.inBlock 3,.code Y0,.inLoop Y1,.inBlock 2,.code Y2]) [((baseD 141).at aY (.inRegion opsY (iY :: restY) :: kY)),rootF]) V)=>h ac10 aR9 aL aX11 rfl rfl rfl rfl) ?_
 intro X Y0 Y1 Y2 hX hY0 hY1 hY2
 simp only [ac0,ac10,ac11,aR9,aL,lwA,aX12,aX11,aX7,aX6,aX1,lwB,rops,ropsO,nva,nvb,nvl,nvk,Try.f66,Option.getD_some] at hX hY0 hY1 hY2
 subst hX hY0 hY1 hY2
 simp only [Cw.tp]
 walk_nrm
 refine wM hM t.hn fun kk hkk=>?_
 refine mu_inLoop (K:=fun g=>KK 0 g V) hM.mu ?_
 refine wM hM t.hn fun kk hkk=>?_
 try subst hkk
 refine hM.cl rfl rfl rfl Try.func24 rfl ?_
 walk_nrm
 refine hS _ _ (jy (fr:=(base 66).at _ _) (cs:=[]) t.hn (Nat.le_refl _) (fun _ _ _ _=>rfl) t.lt (t.H.congr fun j _=>?_) ?_ (JMem.still rfl fun _ _ _ _ _=>rfl) ?_ ?_ (one_no (fun e=>by cases e)))
 . rw [hturn]; exact st_l (i:=0) _ j
 . rw [hturn,gOw_self]; exact t.I.next (by omega) (by omega)
 . rw [hturn]; show Js.stl (s.p + 1) = 1; unfold Js.stl; rw [if_neg (by omega),if_pos (by omega)]
 . rw [hturn]; exact ⟨fun _=>⟨(fun h=>absurd h (by show ¬ s.p + 1 = 1; omega)),fun _=>⟨_,⟨rfl,rfl,rfl,rfl,rfl,rfl,rfl,rfl,rfl⟩,by show some (Value.int .i64 (m : Int)) = some (.int .i64 ((s.p + 1 - 2 : Nat) : Int)); rw [hsp]; rfl,rfl⟩,(fun h=>absurd h (by show ¬ s.p + 1 = 42; omega)),by show 1 <= s.p + 1; omega,by show s.p + 1 <= 42; omega⟩,fun h=>absurd rfl h⟩
theorem jl41 {q m : Nat} (t : Jn E C D s 0 own V) (hp : s.p = q + 2) (hm : m = q + 1) (hq : m = 40) (hT : AF D (C.tp 0) T) (t10 : T[10]? = some (.int .i64 (q : Int))) : WillM Try.prog false E.Z (TEndM C (Ufj D C) s 0 own V ((baseD 141).at aY (.inRegion opsY (iY :: restY) :: kY))) 0 (G ((base 66).at (Act.put ⟨T,[]⟩ ((ac10[1]?).bind (·.dst)) (.tuple #[])) [.inRegion ac10 [],.inBlock 3,.code aR9,.inLoop aL,.inBlock 2,.code aX11]) [((baseD 141).at aY (.inRegion opsY (iY :: restY) :: kY)),rootF]) V:=by
 intro KK hM hS
 have hn7:=t.n7
 have hin:=t.hin
 obtain ⟨qv,M,hqr⟩:=t.I.mu
 have hown : s.o ≠ 0 + 1:=by have:=t.I.ok.o0 (by omega); omega
 have hturn : s.turn 0 = { s with p:=s.p + 1 }:=turn_l (by omega)
 have w1 : IntKind.i64.wrap ((q : Int) + 1) = (m : Int):=by rw [IntKind.wrap_i64]; omega
 have w2 : ¬ ((m : Int) < 40):=by omega
 have hsp : s.p + 1 = m + 2:=by omega
 clear hm
 obtain ⟨hs,t0,t1,t2,t3,t4,t5,t6,t7⟩:=hT
 obtain ⟨f,hf,hT⟩:=array53f T hs
 rw [hT]
 simp only [hf _ _ t0,hf _ _ t1,hf _ _ t2,hf _ _ t3,hf _ _ t4,hf _ _ t5,hf _ _ t6,hf _ _ t7,hf _ _ t10]
 clear hf hs t0 t1 t2 t3 t4 t5 t6 t7 t10
 subst hT
 refine (fun (h : ∀ X Y0 Y1 Y2,X = ac10 -> Y0 = aR9 -> Y1 = aL -> Y2 = aX11 -> KK 0 (G ((base 66).at (Act.put ⟨_,[]⟩ ((X[1]?).bind (·.dst)) (.tuple #[])) [.inRegion X [],.inBlock 3,.code Y0,.inLoop Y1,.inBlock 2,.code Y2]) [((baseD 141).at aY (.inRegion opsY (iY :: restY) :: kY)),rootF]) V)=>h ac10 aR9 aL aX11 rfl rfl rfl rfl) ?_
 intro X Y0 Y1 Y2 hX hY0 hY1 hY2
 simp only [ac0,ac10,ac11,aR9,aL,lwA,aX12,aX11,aX7,aX6,aX1,lwB,rops,ropsO,nva,nvb,nvl,nvk,Try.f66,Option.getD_some] at hX hY0 hY1 hY2
 subst hX hY0 hY1 hY2
 simp only [Cw.tp]
 walk_nrm
 refine wM hM t.hn fun kk hkk=>?_
 refine mu_inLoop (K:=fun g=>KK 0 g V) hM.mu ?_
 refine wM hM t.hn fun kk hkk=>?_
 try subst hkk
 refine hM.cl rfl rfl rfl Try.func45 rfl ?_
 walk_nrm
 refine hM.walk _ _ _ (lock_in (C:=C) (i:=0) (mo:=0) (ow:=s.o) t.hn t.hin (by have:=t.n7; omega) t.H M.c1 hown fun f hf=>.stop ?_)
 refine hS _ _ (jy (fr:=f) (cs:=[_]) t.hn (Nat.le_refl _) (fun _ _ _ _=>rfl) t.lt (t.H.congr fun j _=>?_) ?_ (JMem.still rfl fun _ _ _ _ _=>rfl) ?_ ?_ (lky_no hf (fun e=>by cases e)))
 . rw [hturn]; exact st_l (i:=0) _ j
 . rw [hturn,gOw_self]; exact t.I.next (by omega) (by omega)
 . rw [hturn]; show Js.stl (s.p + 1) = 1; unfold Js.stl; rw [if_neg (by omega),if_pos (by omega)]
 . rw [hturn]; exact ⟨fun _=>⟨(fun h=>absurd h (by show ¬ s.p + 1 = 1; omega)),(fun h=>absurd h.2 (by show ¬ s.p + 1 <= 41; omega)),fun _=>⟨f,_,hf,⟨rfl,rfl,rfl,rfl,rfl,rfl,rfl,rfl,rfl⟩,rfl⟩,by show 1 <= s.p + 1; omega,by show s.p + 1 <= 42; omega⟩,fun h=>absurd rfl h⟩
theorem jh0 (t : Jn E C D s i own V) (hi : i ≠ 0) (hx : s.j i = 0) : WillM Try.prog false E.Z (TEndM C (Ufj D C) s i own V ((baseD 141).at aY (.inRegion opsY (iY :: restY) :: kY))) 0 (G (Frame.enter Try.prog 70 #[C.tp i,.pointer (some ⟨D.r + 5,0,none⟩),.pointer (some ⟨D.r + 4,0,none⟩),.pointer (some ⟨D.r,0,none⟩),.pointer (some ⟨D.r + 1,0,none⟩),.pointer (some ⟨D.r + 7,0,none⟩)] .normal) [((baseD 141).at aY (.inRegion opsY (iY :: restY) :: kY)),rootF]) V:=by
 intro KK hM hS
 have hn7:=t.n7
 have hin:=t.hin
 obtain ⟨qv,M,hqr⟩:=t.I.mu
 have hturn : s.turn i = { s with j:=upd s.j i (s.j i + 1) }:=turn_s hi (by omega)
 rw [enter_at (P:=Try.prog) _ Try.func70 rfl]
 simp only [Try.f70,Cw.tp]
 walk_nrm
 refine wM hM t.hn fun kk hkk=>?_
 try subst hkk
 refine hM.cl rfl rfl rfl Try.func24 rfl ?_
 walk_nrm
 refine hS _ _ (jy (fr:=(base 70).at _ _) (cs:=[]) t.hn (Nat.le_refl _) (fun _ _ _ _=>rfl) t.lt (t.H.congr fun j _=>?_) ?_ (JMem.still rfl fun _ _ _ _ _=>rfl) ?_ ?_ (one_no (fun e=>by cases e)))
 . rw [hturn]; exact st_j (s:=s) (s':={ s with j:=upd s.j i (s.j i + 1) }) hi rfl rfl j
 . rw [hturn,gOw_self]; exact t.I.step hi (by omega)
 . rw [hturn]; show Js.st _ i = 1; unfold Js.st; rw [if_neg hi]; show Js.stj (upd s.j i (s.j i + 1) i) = 1; rw [upd_same,hx]; rfl
 . rw [hturn]; exact ⟨fun h=>absurd h hi,fun _=>⟨fun _=>⟨_,⟨rfl,rfl,rfl,rfl,rfl,rfl,rfl⟩,rfl⟩,(fun h=>absurd h (by show ¬ upd s.j i (s.j i + 1) i = 2; rw [upd_same]; omega)),(fun h=>absurd h (by show ¬ upd s.j i (s.j i + 1) i = 3; rw [upd_same]; omega)),(fun h=>absurd h (by show ¬ (upd s.j i (s.j i + 1) i = 5 ∨ upd s.j i (s.j i + 1) i = 6); rw [upd_same]; omega)),(fun h=>absurd h (by show ¬ (upd s.j i (s.j i + 1) i = 4 ∨ upd s.j i (s.j i + 1) i = 8); rw [upd_same]; omega)),by show 1 <= upd s.j i (s.j i + 1) i; rw [upd_same]; omega,by show upd s.j i (s.j i + 1) i <= 8; rw [upd_same]; omega,by show upd s.j i (s.j i + 1) i ≠ 7; rw [upd_same]; omega⟩⟩
theorem jh1 (t : Jn E C D s i own V) (hi : i ≠ 0) (hx : s.j i = 1) (hT : HF D (C.tp i) T) : WillM Try.prog false E.Z (TEndM C (Ufj D C) s i own V ((baseD 141).at aY (.inRegion opsY (iY :: restY) :: kY))) 0 (G ((base 70).at (Act.put ⟨T,[]⟩ ((hc0[1]?).bind (·.dst)) (.tuple #[])) [.inRegion hc0 [],.code hX1]) [((baseD 141).at aY (.inRegion opsY (iY :: restY) :: kY)),rootF]) V:=by
 intro KK hM hS
 have hn7:=t.n7
 have hin:=t.hin
 obtain ⟨qv,M,hqr⟩:=t.I.mu
 have hturn : s.turn i = { s with j:=upd s.j i (s.j i + 1) }:=turn_s hi (by omega)
 obtain ⟨hs,t0,t1,t2,t3,t4,t5⟩:=hT
 obtain ⟨f,hf,hT⟩:=array31f T hs
 rw [hT]
 simp only [hf _ _ t0,hf _ _ t1,hf _ _ t2,hf _ _ t3,hf _ _ t4,hf _ _ t5]
 clear hf hs t0 t1 t2 t3 t4 t5
 subst hT
 refine (fun (h : ∀ X Y0,X = hc0 -> Y0 = hX1 -> KK 0 (G ((base 70).at (Act.put ⟨_,[]⟩ ((X[1]?).bind (·.dst)) (.tuple #[])) [.inRegion X [],.code Y0]) [((baseD 141).at aY (.inRegion opsY (iY :: restY) :: kY)),rootF]) V)=>h hc0 hX1 rfl rfl) ?_
 intro X Y0 hX hY0
 simp only [hc0,hc1,hc2,hc3,hX4,hX3,hX2,hX1,hB,rops,ropsO,nva,nvb,nvl,nvk,Try.f70,Option.getD_some] at hX hY0
 subst hX hY0
 simp only [Cw.tp]
 walk_nrm
 refine wM hM t.hn fun kk hkk=>?_
 try subst hkk
 refine hM.cl rfl rfl rfl Try.func24 rfl ?_
 walk_nrm
 refine hS _ _ (jy (fr:=(base 70).at _ _) (cs:=[]) t.hn (Nat.le_refl _) (fun _ _ _ _=>rfl) t.lt (t.H.congr fun j _=>?_) ?_ (JMem.still rfl fun _ _ _ _ _=>rfl) ?_ ?_ (one_no (fun e=>by cases e)))
 . rw [hturn]; exact st_j (s:=s) (s':={ s with j:=upd s.j i (s.j i + 1) }) hi rfl rfl j
 . rw [hturn,gOw_self]; exact t.I.step hi (by omega)
 . rw [hturn]; show Js.st _ i = 1; unfold Js.st; rw [if_neg hi]; show Js.stj (upd s.j i (s.j i + 1) i) = 1; rw [upd_same,hx]; rfl
 . rw [hturn]; exact ⟨fun h=>absurd h hi,fun _=>⟨(fun h=>absurd h (by show ¬ upd s.j i (s.j i + 1) i = 1; rw [upd_same]; omega)),fun _=>⟨_,⟨rfl,rfl,rfl,rfl,rfl,rfl,rfl⟩,rfl⟩,(fun h=>absurd h (by show ¬ upd s.j i (s.j i + 1) i = 3; rw [upd_same]; omega)),(fun h=>absurd h (by show ¬ (upd s.j i (s.j i + 1) i = 5 ∨ upd s.j i (s.j i + 1) i = 6); rw [upd_same]; omega)),(fun h=>absurd h (by show ¬ (upd s.j i (s.j i + 1) i = 4 ∨ upd s.j i (s.j i + 1) i = 8); rw [upd_same]; omega)),by show 1 <= upd s.j i (s.j i + 1) i; rw [upd_same]; omega,by show upd s.j i (s.j i + 1) i <= 8; rw [upd_same]; omega,by show upd s.j i (s.j i + 1) i ≠ 7; rw [upd_same]; omega⟩⟩
theorem jh2 (t : Jn E C D s i own V) (hi : i ≠ 0) (hx : s.j i = 2) (hT : HF D (C.tp i) T) : WillM Try.prog false E.Z (TEndM C (Ufj D C) s i own V ((baseD 141).at aY (.inRegion opsY (iY :: restY) :: kY))) 0 (G ((base 70).at (Act.put ⟨T,[]⟩ ((hc1[1]?).bind (·.dst)) (.tuple #[])) [.inRegion hc1 [],.code hX2]) [((baseD 141).at aY (.inRegion opsY (iY :: restY) :: kY)),rootF]) V:=by
 intro KK hM hS
 have hn7:=t.n7
 have hin:=t.hin
 obtain ⟨qv,M,hqr⟩:=t.I.mu
 have hturn : s.turn i = { s with j:=upd s.j i (s.j i + 1) }:=turn_s hi (by omega)
 have hown : s.o ≠ i + 1:=fun e=>by have:=(t.I.ok.oh i e).2.2; omega
 obtain ⟨hs,t0,t1,t2,t3,t4,t5⟩:=hT
 obtain ⟨f,hf,hT⟩:=array31f T hs
 rw [hT]
 simp only [hf _ _ t0,hf _ _ t1,hf _ _ t2,hf _ _ t3,hf _ _ t4,hf _ _ t5]
 clear hf hs t0 t1 t2 t3 t4 t5
 subst hT
 refine (fun (h : ∀ X Y0,X = hc1 -> Y0 = hX2 -> KK 0 (G ((base 70).at (Act.put ⟨_,[]⟩ ((X[1]?).bind (·.dst)) (.tuple #[])) [.inRegion X [],.code Y0]) [((baseD 141).at aY (.inRegion opsY (iY :: restY) :: kY)),rootF]) V)=>h hc1 hX2 rfl rfl) ?_
 intro X Y0 hX hY0
 simp only [hc0,hc1,hc2,hc3,hX4,hX3,hX2,hX1,hB,rops,ropsO,nva,nvb,nvl,nvk,Try.f70,Option.getD_some] at hX hY0
 subst hX hY0
 simp only [Cw.tp]
 walk_nrm
 refine wM hM t.hn fun kk hkk=>?_
 try subst hkk
 refine hM.cl rfl rfl rfl Try.func45 rfl ?_
 walk_nrm
 refine hM.walk _ _ _ (lock_in (C:=C) (i:=i) (mo:=0) (ow:=s.o) t.hn t.hin (by have:=t.n7; omega) t.H M.c1 hown fun f hf=>.stop ?_)
 refine hS _ _ (jy (fr:=f) (cs:=[_]) t.hn (Nat.le_refl _) (fun _ _ _ _=>rfl) t.lt (t.H.congr fun j _=>?_) ?_ (JMem.still rfl fun _ _ _ _ _=>rfl) ?_ ?_ (lky_no hf (fun e=>by cases e)))
 . rw [hturn]; exact st_j (s:=s) (s':={ s with j:=upd s.j i (s.j i + 1) }) hi rfl rfl j
 . rw [hturn,gOw_self]; exact t.I.step hi (by omega)
 . rw [hturn]; show Js.st _ i = 1; unfold Js.st; rw [if_neg hi]; show Js.stj (upd s.j i (s.j i + 1) i) = 1; rw [upd_same,hx]; rfl
 . rw [hturn]; exact ⟨fun h=>absurd h hi,fun _=>⟨(fun h=>absurd h (by show ¬ upd s.j i (s.j i + 1) i = 1; rw [upd_same]; omega)),(fun h=>absurd h (by show ¬ upd s.j i (s.j i + 1) i = 2; rw [upd_same]; omega)),fun _=>⟨f,_,hf,⟨rfl,rfl,rfl,rfl,rfl,rfl,rfl⟩,rfl⟩,(fun h=>absurd h (by show ¬ (upd s.j i (s.j i + 1) i = 5 ∨ upd s.j i (s.j i + 1) i = 6); rw [upd_same]; omega)),(fun h=>absurd h (by show ¬ (upd s.j i (s.j i + 1) i = 4 ∨ upd s.j i (s.j i + 1) i = 8); rw [upd_same]; omega)),by show 1 <= upd s.j i (s.j i + 1) i; rw [upd_same]; omega,by show upd s.j i (s.j i + 1) i <= 8; rw [upd_same]; omega,by show upd s.j i (s.j i + 1) i ≠ 7; rw [upd_same]; omega⟩⟩
end
def nvy : Code -> Code | .cond _ x _=>x | c=>c
def lR1 : Code:=nva (nva aX1)
def lR2 : Code:=nva (nva lwA)
def lwX : Code:=nvk (nva (nvb lwA))
def lR4 : Code:=nva lwX
def lR5 : Code:=nvy (nvb lwX)
def lR3 : Code:=nvb (nvb lwA)
def lR6 : Code:=nva aX6
def lc4o : Array Oper:=ropsO lR4
def lc6o : Array Oper:=rops lR6
theorem lA_eq : lwA = .seq (.seq lR2 (.cond (.tmp 16) .skip (.exit 0))) (.seq (.block 1 lwX) lR3):=by kernel_rfl
theorem lwX_eq : lwX = .seq lR4 (.cond (.tmp 24) lR5 .skip):=by kernel_rfl
theorem aX1_eq : aX1 = .seq (.seq lR1 (.block 0 (.loop lwA))) aX6:=by kernel_rfl
theorem aX6_eq : aX6 = .seq lR6 aX7:=by kernel_rfl
theorem MBn.push {es : Array MapEntry} {clk : Nat} (h : MBn es clk) (k v : Value) : MBn (es.push { key:=k,val:=v,born:=clk }) (clk + 1):=by
 refine ⟨fun e he=>?_,?_⟩
 . rcases Array.mem_push.1 he with he | rfl
   . exact Nat.lt_succ_of_lt (h.lt e he)
   . exact Nat.lt_succ_self _
 . rw [Array.toList_push,List.map_append]
   refine List.nodup_append.2 ⟨h.nd,by simp,fun a ha b hb e=>?_⟩
   obtain ⟨x,hx,rfl⟩:=List.mem_map.1 ha
   obtain rfl : b = clk:=by simpa using hb
   have:=h.lt x (Array.mem_toList_iff.1 hx)
   omega
theorem MBn.erase {es : Array MapEntry} {clk : Nat} (h : MBn es clk) (i : Nat) : MBn (es.eraseIdxIfInBounds i) clk:=by
 have hs : (es.eraseIdxIfInBounds i).toList.Sublist es.toList:=by
   rw [Array.toList_eraseIdxIfInBounds]
   exact List.eraseIdx_sublist _ _
 exact ⟨fun e he=>h.lt e (Array.mem_toList_iff.1 (hs.subset (Array.mem_toList_iff.2 he))),h.nd.sublist (hs.map _)⟩
section
variable {main : Bool} {Z : Cuts} {KK : Nat -> Goroutine -> World -> Prop} {d : Nat} {V : World} {kt : List Item} {cs : List Frame} {D : Jd} {bg sm wt : Int} {un tp : Value} {i : Nat} {T : Array Value}
theorem foQJ1553 {l : List (Nat × Value)} {T : Array Value} (hT : Fg 53 l T) {A : Prop} {B : (Nat -> Value) -> Prop} (h : ∀ f,B f) (w : Hd (∀ f,B f) -> A:=by
 intro k
 have hs:=And.left hT
 have h2:=And.right hT
 obtain ⟨f,hf,e⟩:=array53f T hs
 rw [e]
 repeat (obtain ⟨h1,h2⟩:=h2;simp only [hf _ _ h1];clear h1)
 exact k.h f) : A:=w ⟨h⟩
def PQJ151 (tp : Value) (D : Jd) : Array Value -> Prop:=Fg 53 [(0,tp),(1,.pointer (some ⟨D.r + 5,0,none⟩)),(2,.pointer (some ⟨D.r,0,none⟩)),(3,.pointer (some ⟨D.r + 4,0,none⟩)),(4,.pointer (some ⟨D.r + 6,0,none⟩)),(5,.pointer (some ⟨D.r + 8,0,none⟩)),(6,.pointer (some ⟨D.r + 9,0,none⟩)),(7,.pointer (some ⟨D.r + 1,0,none⟩))]
theorem l_r1 (hM : MarkK Try.prog main Z KK) (hn : norm V = V) (hT : (PQJ151 tp D) T) (K : ∀ T',Fg 53 [(0,tp),(1,.pointer (some ⟨D.r + 5,0,none⟩)),(2,.pointer (some ⟨D.r,0,none⟩)),(3,.pointer (some ⟨D.r + 4,0,none⟩)),(4,.pointer (some ⟨D.r + 6,0,none⟩)),(5,.pointer (some ⟨D.r + 8,0,none⟩)),(6,.pointer (some ⟨D.r + 9,0,none⟩)),(7,.pointer (some ⟨D.r + 1,0,none⟩)),(9,.int .i64 ((0 : Nat) : Int))] T' -> KK d (G ((base 66).at ⟨T',[]⟩ (kt)) cs) V) : KK d (G ((base 66).at ⟨T,[]⟩ (.code lR1 :: kt)) cs) V:=by
 have hK0:=K
 clear K
 refine foQJ1553 hT fun f=>?_
 generalize hX0 : lR1 = X0
 simp only [lR1,aX1,lwB,nva,nvb,Try.f66,Option.getD_some] at hX0
 subst hX0
 refine wM hM hn fun kk hkk=>?_
 exact hK0 _ fgm
def PQJ150 (tp : Value) (D : Jd) (i : Nat) : Array Value -> Prop:=Fg 53 [(0,tp),(1,.pointer (some ⟨D.r + 5,0,none⟩)),(2,.pointer (some ⟨D.r,0,none⟩)),(3,.pointer (some ⟨D.r + 4,0,none⟩)),(4,.pointer (some ⟨D.r + 6,0,none⟩)),(5,.pointer (some ⟨D.r + 8,0,none⟩)),(6,.pointer (some ⟨D.r + 9,0,none⟩)),(7,.pointer (some ⟨D.r + 1,0,none⟩)),(9,.int .i64 (i : Int))]
theorem l_r2 (hM : MarkK Try.prog main Z KK) (hn : norm V = V) (A : JM D bg sm wt un V) (hT : (PQJ150 tp D i) T) (K : ∀ T',(PQJ150 tp D i) T' -> T'[16]? = some (.bool (decide (i < D.ks.length))) -> KK d (G ((base 66).at ⟨T',[]⟩ (kt)) cs) V) : KK d (G ((base 66).at ⟨T,[]⟩ (.code lR2 :: kt)) cs) V:=by
 have hK0:=K
 clear K
 have q_k:=qc 0 A.k rfl
 refine foQJ1553 hT fun f=>?_
 generalize hX0 : lR2 = X0
 simp only [lR2,lwA,aX1,lwB,nva,nvb,nvk,nvl,Try.f66,Option.getD_some] at hX0
 subst hX0
 refine wM hM hn fun kk hkk=>?_
 exact hK0 _ fgm (by simp <;> omega)
theorem l_r3 (hM : MarkK Try.prog main Z KK) (hn : norm V = V) (hi : i < 1000) (hT : (PQJ150 tp D i) T) (K : ∀ T',Fg 53 [(0,tp),(1,.pointer (some ⟨D.r + 5,0,none⟩)),(2,.pointer (some ⟨D.r,0,none⟩)),(3,.pointer (some ⟨D.r + 4,0,none⟩)),(4,.pointer (some ⟨D.r + 6,0,none⟩)),(5,.pointer (some ⟨D.r + 8,0,none⟩)),(6,.pointer (some ⟨D.r + 9,0,none⟩)),(7,.pointer (some ⟨D.r + 1,0,none⟩)),(9,.int .i64 ((i + 1 : Nat) : Int))] T' -> KK d (G ((base 66).at ⟨T',[]⟩ (kt)) cs) V) : KK d (G ((base 66).at ⟨T,[]⟩ (.code lR3 :: kt)) cs) V:=by
 have hK0:=K
 clear K
 have w1 : IntKind.i64.wrap ((i : Int) + 1) = ((i + 1 : Nat) : Int):=by rw [IntKind.wrap_i64]; omega
 refine foQJ1553 hT fun f=>?_
 generalize hX0 : lR3 = X0
 simp only [lR3,lwA,aX1,lwB,nva,nvb,nvk,nvl,Try.f66,Option.getD_some] at hX0
 subst hX0
 refine wM hM hn fun kk hkk=>?_
 exact hK0 _ fgm
theorem l_r4 (hM : MarkK Try.prog main Z KK) (hn : norm V = V) (A : JM D bg sm wt un V) (hi : i < D.ks.length) (hl5 : D.ks.length <= 5) (hT : (PQJ150 tp D i) T) (K : ∀ T',(PQJ150 tp D i) T' -> KK d (G (Frame.enter Try.prog 67 #[.pointer (some ⟨D.r + 3,0,none⟩),kv (kat D.ks i)] .normal) ((base 66).at ⟨T',[]⟩ (.inRegion lc4o [5] :: kt) :: cs)) V) : KK d (G ((base 66).at ⟨T,[]⟩ (.code lR4 :: kt)) cs) V:=by
 have hK0:=K
 clear K
 have q_x:=qc 0 A.x rfl
 have q_k:=qc 0 A.k rfl
 obtain ⟨c1,c2⟩:=A.ky i hi
 have q_1 : ∀ τ,(re V τ 0).cell? ⟨D.kg,D.ko + i * 2,none⟩ = some (.int .i64 (kat D.ks i).1):=fun τ=>c1
 have q_2 : ∀ τ,(re V τ 0).cell? ⟨D.kg,D.ko + i * 2 + 1,none⟩ = some (.int .i64 (kat D.ks i).2):=fun τ=>c2
 clear c1 c2
 have p1 : ¬ ((i : Int) < 0):=by omega
 have p2 : ¬ ((D.ks.length : Int) <= (i : Int)):=by omega
 refine foQJ1553 hT fun f=>?_
 generalize hX0 : lR4 = X0
 simp only [lR4,lwX,lwA,aX1,lwB,nva,nvb,nvk,nvl,Try.f66,Option.getD_some] at hX0
 subst hX0
 obtain ⟨K,hK,hV,key,yek⟩:=kKV (L:=Lone) (J:=fun g=>KK d g V) hM.mu (hM.muv hn)
 refine key _ ?_
 have hD : MuD Try.prog K:=fun b a k cs id ops h=>yek _ (hM.mud b a k cs id ops fun t=>key _ (h t))
 refine mu_drawM 5 hK hV hD (.inl rfl) ?_
 refine wS ?_
 refine anyQ 0 20 rfl ?_
 refine anyQ 1 20 rfl ?_
 refine anyQ 2 20 rfl ?_
 refine anyQ 3 20 rfl ?_
 refine anyQ 4 20 rfl ?_
 refine anyP_last (by kernel_rfl) (fun t=>?_)
 rw [lin_nilA]
 refine hK.cl rfl rfl rfl Try.func67 rfl ?_
 walk_nrm
 refine yek _ ?_
 clear hK hV hD key yek K
 exact hK0 _ fgm
theorem l_r4o (hM : MarkK Try.prog main Z KK) {x : Bool} (hT : (PQJ150 tp D i) T) (K : ∀ T',(PQJ150 tp D i) T' -> T'[24]? = some (.bool x) -> KK d (G ((base 66).at ⟨T',[]⟩ (kt)) cs) V) : KK d (G ((base 66).at (Act.put ⟨T,[]⟩ ((lc4o[5]?).bind (·.dst)) (.bool x)) (.inRegion lc4o [] :: kt)) cs) V:=by
 have hd : ((lc4o[5]?).bind (·.dst)) = some 24:=by kernel_rfl
 rw [hd]
 refine mu_region_end (K:=fun g=>KK d g V) hM.mu ?_
 refine foQJ1553 hT fun f=>?_
 walk_nrm
 exact K _ fgm rfl
theorem l_r5 (hM : MarkK Try.prog main Z KK) (hn : norm V = V) (A : JM D bg sm wt un V) (hb : -1000 <= bg /\ bg < 1000) (hT : (PQJ150 tp D i) T) (K : ∀ T',(PQJ150 tp D i) T' -> norm (V.setCell ⟨D.r + 6,0,none⟩ (.int .i64 (bg + 1))) = V.setCell ⟨D.r + 6,0,none⟩ (.int .i64 (bg + 1)) -> KK d (G ((base 66).at ⟨T',[]⟩ (kt)) cs) (V.setCell ⟨D.r + 6,0,none⟩ (.int .i64 (bg + 1)))) : KK d (G ((base 66).at ⟨T,[]⟩ (.code lR5 :: kt)) cs) V:=by
 have hK0:=K
 clear K
 have q_b:=qc 0 A.b rfl
 have z_b:=qz 0 A.b
 have w1 : IntKind.i64.wrap (bg + 1) = bg + 1:=by rw [IntKind.wrap_i64]; omega
 refine foQJ1553 hT fun f=>?_
 generalize hX0 : lR5 = X0
 simp only [lR5,lwX,lwA,aX1,lwB,nva,nvb,nvk,nvl,nvy,Try.f66,Option.getD_some] at hX0
 subst hX0
 refine wM hM hn fun kk hkk=>?_
 have hn2:=norm_set hn ⟨D.r + 6,0,none⟩ (.int .i64 (bg + 1))
 refine mus_put (L:=Lone) (hM.mus hn2) (K:=fun g=>KK d g V) (K':=fun g=>KK d g (V.setCell ⟨D.r + 6,0,none⟩ (.int .i64 (bg + 1)))) rfl (.inl rfl) rfl (by kernel_rfl) (fun τ=>?_) ?_
 . go_simp
   try rfl
 clear q_b z_b w1
 try walk_nrm
 refine mu_region_end (K:=fun g=>KK d g (V.setCell ⟨D.r + 6,0,none⟩ (.int .i64 (bg + 1)))) hM.mu ?_
 try subst hkk
 exact hK0 _ fgm hn2
end
section
variable {D : Jd} {C : Cw} {E : Env} {s : Js} {i : Nat} {own : Nat -> Prop} {V : World} {T : Array Value} {aY : Act} {opsY : Array Oper} {iY : Nat} {restY : List Nat} {kY : List Item} {sm wt : Int} {un qv : Value} {b : Frame} {a : Act} {ops : Array Oper} {j : Nat} {rest : List Nat} {k : List Item}
structure BgI (D : Jd) (C : Cw) (own : Nat -> Prop) (V : World) (sm wt : Int) (un qv : Value) (i : Nat) (W : World) : Prop where
 gk : Gk C own V W
 kz : ∀ b,b < V.heap.size -> ¬ (D.r <= b /\ b <= D.r + 9) -> W.heap[b]? = V.heap[b]?
 jm : JM D ((ded (D.ks.take i)).length : Int) sm wt un W
 mu : MuI W own (D.r + 5) 0 1 [] qv
 qr : ∀ b,qv.ownBlock = some b -> D.r + 9 < b
 mp : ∃ es clk m,W.heap[D.r + 2]? = some (.map es clk) /\ Mp es m /\ MBn es clk /\ m.map (·.1) = ded (D.ks.take i) /\ (1 <= i -> ∃ ob m',m = (D.k0,ob) :: m' /\ V.heap.size <= ob /\ W.heap[ob]? = some (.cells #[.slice none 0 0,.bool false,.int .i64 0,.int .i64 0] 201 (0,0)))
theorem bg_loop {tp : Value} {KK : Nat -> Goroutine -> World -> Prop} {main : Bool} {Z : Cuts} {cs : List Frame} {kt : List Item} (hM : MarkK Try.prog main Z KK) (t : Jn E C D s 0 own V)
   (K : ∀ T' W,BgI D C own V sm wt un qv D.ks.length W -> (PQJ151 tp D) T' -> KK 0 (G ((base 66).at ⟨T',[]⟩ (kt)) cs) W) :
   ∀ (m i : Nat) (W : World) (T : Array Value),i + m = D.ks.length -> BgI D C own V sm wt un qv i W -> (PQJ150 tp D i) T -> KK 0 (G ((base 66).at ⟨T,[]⟩ (.code lwA :: .inLoop lwA :: .inBlock 0 :: kt)) cs) W:=by
 have hl5:=t.I.l5
 have hkr:=t.I.kr
 have ho : ∀ d,d <= 9 -> own (D.r + d):=fun d hd=>t.I.ow _ (by omega) (by omega)
 have hlt : ∀ d,d <= 9 -> D.r + d < V.heap.size:=fun d hd=>t.lt _ (ho d hd)
 intro m
 induction m with
 | zero =>
   intro i W T him B hT
   refine (fun (h : ∀ Y,Y = lwA -> KK 0 (G ((base 66).at ⟨T,[]⟩ (.code Y :: .inLoop lwA :: .inBlock 0 :: kt)) cs) W)=>h lwA rfl) ?_
   intro Y hY
   rw [lA_eq] at hY
   subst hY
   refine mu_seq hM.mu (mu_seq hM.mu ?_)
   refine l_r2 (i:=i) hM B.gk.nrm B.jm hT fun T1 hT1 h16=>?_
   rw [decide_eq_false (by omega)] at h16
   refine mu_cond hM.mu false (cond_atK h16) ?_
   refine mu_exit hM.mu rfl ?_
   obtain rfl : i = D.ks.length:=by omega
   obtain ⟨hs,h0,h1,h2,h3,h4,h5,h6,h7,-⟩:=hT1
   exact K T1 W B ⟨hs,h0,h1,h2,h3,h4,h5,h6,h7,trivial⟩
 | succ m ih =>
   intro i W T him B hT
   refine (fun (h : ∀ Y,Y = lwA -> KK 0 (G ((base 66).at ⟨T,[]⟩ (.code Y :: .inLoop lwA :: .inBlock 0 :: kt)) cs) W)=>h lwA rfl) ?_
   intro Y hY
   rw [lA_eq] at hY
   subst hY
   have hi : i < D.ks.length:=by omega
   have htk:=ded_take hi
   have hsz:=B.gk.sz
   obtain ⟨es,clk,mm,y0,hm,hmb,hmk,hob⟩:=B.mp
   refine mu_seq hM.mu (mu_seq hM.mu ?_)
   refine l_r2 (i:=i) hM B.gk.nrm B.jm hT fun T1 hT1 h16=>?_
   rw [decide_eq_true hi] at h16
   refine mu_cond hM.mu true (cond_atK h16) ?_
   refine mu_skip hM.mu (mu_seq hM.mu (mu_block hM.mu ?_))
   rw [lwX_eq]
   refine mu_seq hM.mu ?_
   refine l_r4 (i:=i) hM B.gk.nrm B.jm hi hl5 hT1 fun T2 hT2=>?_
   by_cases hk : kat D.ks i ∈ ded (D.ks.take i)
   . obtain ⟨x,hx⟩:=kpos_yes (i:=0) (hmk.symm ▸ hk)
     refine begin_on (k:=kat D.ks i) hM B.gk.nrm B.jm.g y0 hm hx (by omega) fun V2 hn2 k2=>?_
     refine l_r4o hM hT2 fun T3 hT3 h24=>?_
     refine mu_cond hM.mu false (cond_atK h24) ?_
     refine mu_skip hM.mu (mu_inBlock hM.mu ?_)
     refine l_r3 (i:=i) hM hn2 (by omega) hT3 fun T4 hT4=>?_
     refine mu_inLoop hM.mu ?_
     refine ih (i + 1) V2 T4 (by omega) ⟨B.gk.to hn2 k2.size fun b h1 _ _=>k2.keep b h1,fun b h1 h2=>(k2.keep b (by omega)).trans (B.kz b h1 h2),?_,B.mu.keep2 (k2.keep _ (by have:=hlt 5 (by omega); omega)) (fun b hb=>k2.keep b (B.mu.qu.at_ hb)),B.qr,es,clk,mm,(k2.keep _ (by have:=hlt 2 (by omega); omega)).trans y0,hm,hmb,?_,fun _=>?_⟩ hT4
     . rw [htk]
       unfold dst
       rw [if_pos hk]
       exact B.jm.keep fun b hb=>k2.keep b (Nat.lt_of_lt_of_le (t.lt b (t.I.fo b hb)) hsz)
     . rw [htk,hmk]
       unfold dst
       rw [if_pos hk]
     . have h1 : 1 <= i:=by
         rcases Nat.eq_zero_or_pos i with rfl | h
         . exact absurd hk (by simp [ded])
         . exact h
       obtain ⟨ob,m',e1,e2,e3⟩:=hob h1
       exact ⟨ob,m',e1,e2,(k2.keep _ (Array.getElem?_eq_some_iff.1 e3).1).trans e3⟩
   . have hx:=kpos_no (i:=0) (fun h=>hk (hmk ▸ h))
     refine begin_off (k:=kat D.ks i) hM B.gk.nrm B.jm.g y0 hm hx (by omega) fun V2 hn2 s2 ⟨ob,lo1,lo2,eo,em⟩ k2=>?_
     refine l_r4o hM hT2 fun T3 hT3 h24=>?_
     refine mu_cond hM.mu true (cond_atK h24) ?_
     have l2:=hlt 2 (by omega)
     have l5:=hlt 5 (by omega)
     have l6:=hlt 6 (by omega)
     have A2 : JM D ((ded (D.ks.take i)).length : Int) sm wt un V2:=B.jm.keep fun b hb=>k2 b (Nat.lt_of_lt_of_le (t.lt b (t.I.fo b hb)) hsz) (by rcases hb with rfl | hb <;> omega)
     have hdl : (ded (D.ks.take i)).length <= 5:=by
       have h1:=ded_len (D.ks.take i)
       have h2:=List.length_take_le i D.ks
       omega
     refine l_r5 (i:=i) hM hn2 A2 (by omega) hT3 fun T4 hT4 hn4=>?_
     have k4 : ∀ b,b ≠ D.r + 6 -> (V2.setCell ⟨D.r + 6,0,none⟩ (.int .i64 (((ded (D.ks.take i)).length : Int) + 1))).heap[b]? = V2.heap[b]?:=fun b hb=>by rw [setCell_heap,if_neg hb]
     have z4 : (V2.setCell ⟨D.r + 6,0,none⟩ (.int .i64 (((ded (D.ks.take i)).length : Int) + 1))).heap.size = V2.heap.size:=by simp [World.setCell]
     have A4:=A2.setb hkr (((ded (D.ks.take i)).length : Int) + 1)
     generalize V2.setCell ⟨D.r + 6,0,none⟩ (.int .i64 (((ded (D.ks.take i)).length : Int) + 1)) = V4 at *
     refine mu_inBlock hM.mu ?_
     refine l_r3 (i:=i) hM hn4 (by omega) hT4 fun T5 hT5=>?_
     refine mu_inLoop hM.mu ?_
     refine ih (i + 1) V4 T5 (by omega) ⟨B.gk.to hn4 (by omega) fun b h1 h2 _=>(k4 b fun e=>h2 (e ▸ ho 6 (by omega))).trans (k2 b h1 fun e=>h2 (e ▸ ho 2 (by omega))),fun b h1 h2=>((k4 b (by omega)).trans (k2 b (by omega) (by omega))).trans (B.kz b h1 h2),?_,B.mu.keep2 ((k4 _ (by omega)).trans (k2 _ (by omega) (by omega))) (fun b hb=>(k4 b (by have:=B.qr b hb; omega)).trans (k2 b (B.mu.qu.at_ hb) (by have:=B.qr b hb; omega))),B.qr,_,_,_,(k4 _ (by omega)).trans em,hm.push (kat D.ks i) ob clk,hmb.push _ _,?_,fun _=>?_⟩ hT5
     . rw [htk]
       unfold dst
       rw [if_neg hk,List.length_append]
       exact A4
     . rw [List.map_append,hmk,htk]
       unfold dst
       rw [if_neg hk]
       rfl
     . rcases Nat.eq_zero_or_pos i with rfl | h
       . have e0 : mm = []:=by
           have : mm.map (·.1) = []:=by rw [hmk]; simp [ded]
           simpa using this
         rw [e0]
         exact ⟨ob,[],rfl,Nat.le_trans hsz lo1,(k4 _ (by omega)).trans eo⟩
       . obtain ⟨ob',m',e1,e2,e3⟩:=hob h
         have l3:=(Array.getElem?_eq_some_iff.1 e3).1
         refine ⟨ob',m' ++ [(kat D.ks i,ob)],by rw [e1]; rfl,e2,((k4 _ (by omega)).trans (k2 _ l3 (by omega))).trans e3⟩
end
section
variable {main : Bool} {Z : Cuts} {KK : Nat -> Goroutine -> World -> Prop} {d : Nat} {V : World} {kt : List Item} {cs : List Frame} {D : Jd} {bg sm wt : Int} {un tp : Value} {i : Nat} {T : Array Value}
theorem AF.put {x : Nat} {v : Value} (h : AF D tp T) (hd : 8 <= x) : AF D tp (T.setIfInBounds x v):=by
 obtain ⟨hs,h0,h1,h2,h3,h4,h5,h6,h7⟩:=h
 refine ⟨by rw [Array.size_setIfInBounds]; exact hs,?_,?_,?_,?_,?_,?_,?_,?_⟩ <;> (rw [Array.getElem?_setIfInBounds_ne (by omega)]; assumption)
theorem AF.fg (h : AF D tp T) : (PQJ151 tp D) T:=by
 obtain ⟨hs,h0,h1,h2,h3,h4,h5,h6,h7⟩:=h
 exact ⟨hs,h0,h1,h2,h3,h4,h5,h6,h7,trivial⟩
theorem af_of (h : (PQJ151 tp D) T) : AF D tp T:=by
 obtain ⟨hs,h0,h1,h2,h3,h4,h5,h6,h7,-⟩:=h
 exact ⟨hs,h0,h1,h2,h3,h4,h5,h6,h7⟩
theorem l_r6 (hM : MarkK Try.prog main Z KK) (hn : norm V = V) (hT : (PQJ151 tp D) T) (K : ∀ T',(PQJ151 tp D) T' -> KK d (G (Frame.enter Try.prog 46 #[.pointer (some ⟨D.r + 5,0,none⟩),tp] .normal) ((base 66).at ⟨T',[]⟩ (.inRegion lc6o [1] :: kt) :: cs)) V) : KK d (G ((base 66).at ⟨T,[]⟩ (.code lR6 :: kt)) cs) V:=by
 have hK0:=K
 clear K
 refine foQJ1553 hT fun f=>?_
 generalize hX0 : lR6 = X0
 simp only [lR6,aX6,aX1,lwB,nva,nvb,Try.f66,Option.getD_some] at hX0
 subst hX0
 refine wM hM hn fun kk hkk=>?_
 try subst hkk
 refine hM.cl rfl rfl rfl Try.func46 rfl ?_
 walk_nrm
 exact hK0 _ fgm
theorem l_y0 (hM : MarkK Try.prog main Z KK) (hn : norm V = V) (hT : (PQJ151 tp D) T) (K : ∀ T',AF D tp T' -> T'[10]? = some (.int .i64 ((0 : Nat) : Int)) -> KK d (G (Frame.enter Try.prog 24 #[tp] .normal) ((base 66).at ⟨T',[]⟩ [.inRegion ac10 [1],.inBlock 3,.code aR9,.inLoop aL,.inBlock 2,.code aX11] :: cs)) V) : KK d (G ((base 66).at ⟨T,[]⟩ [.code aX7]) cs) V:=by
 have hK0:=K
 clear K
 refine foQJ1553 hT fun f=>?_
 generalize hX0 : aX7 = X0
 simp only [aX7,aX6,aX1,lwB,nvb,Try.f66,Option.getD_some] at hX0
 subst hX0
 refine wM hM hn fun kk hkk=>?_
 refine mu_loop (K:=fun g=>KK d g V) hM.mu ?_
 refine wM hM hn fun kk hkk=>?_
 try subst hkk
 refine hM.cl rfl rfl rfl Try.func24 rfl ?_
 walk_nrm
 exact hK0 _ ⟨rfl,rfl,rfl,rfl,rfl,rfl,rfl,rfl,rfl⟩ rfl
end
section
variable {D : Jd} {C : Cw} {E : Env} {s : Js} {i : Nat} {own : Nat -> Prop} {V : World} {T : Array Value} {aY : Act} {opsY : Array Oper} {iY : Nat} {restY : List Nat} {kY : List Item} {b : Frame} {a : Act} {ops : Array Oper} {j : Nat} {rest : List Nat} {k : List Item}
theorem jl1 (t : Jn E C D s 0 own V) (hp : s.p = 1) (hT : AF D (C.tp 0) T) {jj : Nat} (hfr : LkY (D.r + 5) 0 (C.tp 0) (b.at a (.inRegion ops (jj :: rest) :: k))) : WillM Try.prog false E.Z (TEndM C (Ufj D C) s 0 own V ((baseD 141).at aY (.inRegion opsY (iY :: restY) :: kY))) 0 (G (b.at (a.put ((ops[jj]?).bind (·.dst)) (.tuple #[])) (.inRegion ops rest :: k)) [(base 66).at ⟨T,[]⟩ [.inRegion ac0 [1],.code aX1],((baseD 141).at aY (.inRegion opsY (iY :: restY) :: kY)),rootF]) V:=by
 intro KK hM hS
 have hn7:=t.n7
 have hin:=t.hin
 obtain ⟨qv,M,hqr⟩:=t.I.mu
 obtain ⟨ho,hlt,hr5,hr9,hkr,hl1,hl5⟩:=t.owz
 have hturn : s.turn 0 = { s with p:=s.p + 1 }:=turn_l (by omega)
 have ho0:=t.I.ok.o0 (by omega)
 have hq0:=t.I.ok.q0 ho0
 rw [ho0,hq0] at M
 obtain ⟨vb,vc,rfl⟩:=M.qu.sl
 refine hM.walk _ _ _ (lock_back (C:=C) (i:=0) (mo:=0) (ow:=0) t.hn hin (by omega) t.H t.L M.c0 M.z0 M.c1 M.z1 M.qu (by simp) M.qmb (t.far _ M.mown) (fun b hb=>t.far b (M.qown b hb)) (by omega) (fun _=>.stop ?_) (fun h=>absurd ⟨rfl,rfl⟩ h) hfr)
 have M1:=M.take (0 + 1)
 have k1 : ∀ b,b ≠ D.r + 5 -> (V.setCell ⟨D.r + 5,0 + 1,none⟩ (.int .i64 (0 + 1 : Nat))).heap[b]? = V.heap[b]?:=fun b hb=>set_off _ _ hb
 have s1 : (V.setCell ⟨D.r + 5,0 + 1,none⟩ (.int .i64 (0 + 1 : Nat))).heap.size = V.heap.size:=by simp [World.setCell]
 have hn1:=norm_set t.hn ⟨D.r + 5,0 + 1,none⟩ (.int .i64 (0 + 1 : Nat))
 generalize V.setCell ⟨D.r + 5,0 + 1,none⟩ (.int .i64 (0 + 1 : Nat)) = V1 at *
 obtain ⟨un,A,-⟩:=t.I.jm
 obtain ⟨es,clk,mm,y0,hm,hmb,hmk,-⟩:=t.I.mp
 have hm0 : mm = []:=by
   have : mm.map (·.1) = []:=by rw [hmk]; unfold jkeys; rw [if_pos (by omega)]
   simpa using this
 subst hm0
 have eb : bgn D s.p = ((ded (D.ks.take 0)).length : Int):=by
   unfold bgn
   rw [if_pos (by omega)]
   simp [ded]
 rw [eb] at A
 have B0 : BgI D C own V (jsm D s.a s.z) s.t un (.slice vb ([] : List Nat).length vc) 0 V1:=⟨⟨hn1,by omega,fun b h1 h2=>k1 b fun e=>h2 (e ▸ hr5)⟩,fun b h1 h2=>k1 b (by omega),A.keep fun b hb=>k1 b (by rcases hb with rfl | hb <;> omega),M1,hqr,es,clk,[],(k1 _ (by omega)).trans y0,hm,hmb,by simp [ded],fun h=>by omega⟩
 have hd : ((ac0[1]?).bind (·.dst)) = some 12:=by kernel_rfl
 rw [hd]
 refine mu_region_end (K:=fun g=>KK 0 g V1) hM.mu ?_
 rw [aX1_eq]
 refine mu_seq hM.mu (mu_seq hM.mu ?_)
 refine l_r1 hM hn1 (hT.put (by omega)).fg fun T1 hT1=>?_
 refine mu_block hM.mu (mu_loop hM.mu ?_)
 refine bg_loop (sm:=jsm D s.a s.z) (wt:=s.t) (un:=un) (qv:=.slice vb ([] : List Nat).length vc) hM t (fun T2 W B hT2=>?_) D.ks.length 0 V1 T1 (by omega) B0 hT1
 rw [aX6_eq]
 refine mu_seq hM.mu ?_
 refine l_r6 hM B.gk.nrm hT2 fun T3 hT3=>?_
 have kh:=t.has B.gk
 refine hM.walk _ _ _ (will_unlock (C:=C) (i:=0) (mo:=0) (q:=[]) B.gk.nrm t.hO.tbi (fun a ha=>t.hO.cbt ha) hin (by omega) (t.H.off kh) (t.L.off kh) B.mu (fun x hx=>by cases hx) t.far fun V6 qv6 U=>.stop ?_)
 rw [Frame.finish_at]
 have hd2 : ((lc6o[1]?).bind (·.dst)) = some 28:=by kernel_rfl
 rw [hd2]
 refine mu_region_end (K:=fun g=>KK 0 g V6) hM.mu ?_
 refine l_y0 hM U.nrm ((af_of hT3).put (by omega)).fg fun T4 hT4 h10=>?_
 have hsz:=B.gk.sz
 have ku : ∀ b,own b -> b ≠ D.r + 5 -> V6.heap[b]? = W.heap[b]?:=fun b hb hne=>U.keep b hne (t.tb hb)
 obtain ⟨es6,clk6,m6,z0,z1,z2,z3,z4⟩:=B.mp
 obtain ⟨ob,m',z5,z6,z7⟩:=z4 hl1
 have hobl:=(Array.getElem?_eq_some_iff.1 z7).1
 have htb : ∀ j,j < C.n -> ob ≠ C.tb j:=fun j hj e=>by
   have:=has_lt t.H t.L (by omega) _ (.inr (.inr ⟨j,hj,rfl⟩) : C.has (C.tb j))
   omega
 have eob:=(U.keep ob (by omega) htb).trans z7
 have hsu : V.heap.size <= V6.heap.size:=by rw [U.sz]; exact hsz
 have htk : D.ks.take D.ks.length = D.ks:=List.take_length
 rw [htk] at z3
 have A6:=B.jm
 rw [htk] at A6
 have hw0:=t.I.ok.w0 (by omega)
 refine hS _ _ (jy (fr:=(base 66).at _ _) (cs:=[]) U.nrm hsu (fun b h1 h2 h3=>(U.keep b (fun e=>h2 (e ▸ hr5)) h3).trans (B.gk.keep b h1 h2)) t.lt (U.cw.congr fun j _=>?_) ?_ (fun cs hc=>?_) ?_ ?_ (one_no (fun e=>by cases e)))
 . rw [hturn]; exact st_l (i:=0) _ j
 . rw [hturn]
   refine ⟨?_,fun b h1 h2=>.inl (t.I.ow b h1 h2),.inl t.I.ok2,hkr,hl1,hl5,⟨un,?_,fun h=>?_⟩,?_,?_⟩
   . have h:=t.I.ok.lead (by omega)
     rw [hturn] at h
     exact h
   . have eb2 : bgn D (s.p + 1) = ((ded D.ks).length : Int):=by
       unfold bgn
       rw [if_neg (by omega)]
     show JM D (bgn D (s.p + 1)) _ _ _ _
     rw [eb2]
     exact A6.keep fun b hb=>ku b (t.I.fo b hb) (by rcases hb with rfl | hb <;> omega)
   . exact absurd h (by show ¬ s.p + 1 = 43; omega)
   . show ∃ qv,MuI V6 _ (D.r + 5) 0 s.o s.q qv /\ _
     rw [ho0,hq0]
     exact ⟨qv6,U.mu.grow fun b hb _=>.inl hb,fun b hb=>hqr b (U.qo.symm.trans hb)⟩
   . refine ⟨es6,clk6,m6,(ku _ (ho 2 (by omega)) (by omega)).trans z0,z1,z2,?_,fun _=>⟨ob,m',.slice none 0 0,z5,.inr ⟨z6,by rw [U.sz]; exact hobl⟩,by omega,eob,?_,fun b hb=>by cases hb⟩⟩
     . rw [z3]
       show _ = jkeys D (s.p + 1)
       unfold jkeys
       rw [if_neg (by omega),if_pos (by omega)]
     . show Qu V6 183 2 (.slice none 0 0) s.w.length (wts (D.r + 5) s.w)
       rw [hw0]
       exact ⟨rfl,.inl ⟨rfl,rfl⟩⟩
 . intro f hf ob' tp mp hj
   obtain ⟨h1,h2,h3,h4⟩:=hc f hf ob' tp mp hj
   refine ⟨.inl h1,.inl h2,h3,?_⟩
   rcases h4 with ⟨es',clk',m',h5,h6⟩ | ⟨cv,h5⟩
   . rw [y0] at h5
     obtain ⟨rfl,rfl⟩ : es = es' /\ clk = clk':=by have:=Option.some.inj h5; injection this with a b; exact ⟨a,b⟩
     cases hm.inj h6
   . exact .inr ⟨cv,(ku ob' h1 (by omega)).trans ((B.kz ob' (t.lt _ h1) (by omega)).trans h5)⟩
 . rw [hturn]
   show Js.stl (s.p + 1) = 1
   rw [hp]
   rfl
 . rw [hturn]
   refine ⟨fun _=>⟨(fun h=>absurd h (by show ¬ s.p + 1 = 1; omega)),fun _=>⟨T4,hT4,?_,rfl⟩,(fun h=>absurd h (by show ¬ s.p + 1 = 42; omega)),by show 1 <= s.p + 1; omega,by show s.p + 1 <= 42; omega⟩,fun h=>absurd rfl h⟩
   show T4[10]? = some (.int .i64 ((s.p + 1 - 2 : Nat) : Int))
   rw [h10,hp]
end
end
end Go.Proofs.Ytibcdikfbhmheaa
