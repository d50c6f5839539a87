import Derived.Test.YtibcdikfbhmheaaQJ19
set_option linter.unusedSimpArgs false
set_option linter.unusedVariables false
set_option maxRecDepth 100000
set_option maxHeartbeats 4000000
namespace Go.Proofs.Ytibcdikfbhmheaa
open Go Go.Conc Go.Proofs
noncomputable section
def vY15 : Code:=nva vX15
def v15 : Code:=nva vY15
def vX17 : Code:=nvb vX15
def v17 : Code:=nva (nva vX17)
def vM : Code:=nvl (nvk (nvb (nva vX17)))
def v18 : Code:=nva (nva vM)
def v20 : Code:=nva (nvk (nva (nvb vM)))
def v19 : Code:=nvb (nvb vM)
def vX22 : Code:=nvb vX17
theorem vX15_eq : vX15 = .seq (.seq v15 (.cond (.tmp 78) (nvy (nvb vY15)) .skip)) vX17:=by kernel_rfl
section
variable {main : Bool} {Z : Cuts} {KK : Nat -> Goroutine -> World -> Prop} {d : Nat} {V : World} {bQ fr : Frame} {aQ : Act} {opsQ : Array Oper} {iQ : Nat} {restQ : List Nat} {kQ kt : List Item} {cs0 cs : List Frame} {gb rb clk : Nat} {es : Array MapEntry} {m : List ((Int × Int) × Nat)} {k : Int × Int}
theorem keys_any (hM : MarkK Try.prog main Z KK) (hn : norm V = V) (e_g : V.heap[gb]? = some (.cells #[.map (some rb)] 190 (0,0))) (e_m : V.heap[rb]? = some (.map es clk)) (hm : Mp es m) (hb : MBn es clk) (hkd : (m.map (·.1)).Nodup) (hm5 : m.length <= 5) (h : ∀ V2 b c,norm V2 = V2 -> Kp V V2 -> KK d (G (bQ.at (aQ.put ((opsQ[iQ]?).bind (·.dst)) (.slice b m.length c)) (.inRegion opsQ restQ :: kQ)) cs0) V2) : KK d (G (Frame.enter Try.prog 64 #[.pointer (some ⟨gb,0,none⟩)] .normal) (bQ.at aQ (.inRegion opsQ (iQ :: restQ) :: kQ) :: cs0)) V:=by
 cases m with
 | nil=>exact keys_none hM hn e_g e_m hm fun V2 n2 k2=>h V2 none 0 n2 k2
 | cons x m=>exact keys_go hM hn e_g e_m hm hb hkd (by simp) hm5 fun V2 g c ks n2 k2 _ _ hl _=>by rw [hl]; exact h V2 _ c n2 k2
end
section
variable {main : Bool} {Z : Cuts} {KK : Nat -> Goroutine -> World -> Prop} {d : Nat} {V : World} {kt : List Item} {cs : List Frame} {D : Jd} {bg sm wt : Int} {un tp : Value} {i : Nat} {T : Array Value} {nu m L g c J j clk : Nat} {es : Array MapEntry} {mp : List ((Int × Int) × Nat)}
theorem foQJ20126 {l : List (Nat × Value)} {T : Array Value} (hT : Fg 126 l T) {A : Prop} {B : (Nat -> Value) -> Prop} (h : ∀ f,B f) (w : Hd (∀ f,B f) -> A:=by
 intro k
 have hs:=And.left hT
 have h2:=And.right hT
 obtain ⟨f,hf,e⟩:=array126f T hs
 rw [e]
 repeat (obtain ⟨h1,h2⟩:=h2;simp only [hf _ _ h1];clear h1)
 exact k.h f) : A:=w ⟨h⟩
def PQJ200 (D : Jd) (m : Nat) : Array Value -> Prop:=Fg 126 [(3,.pointer (some ⟨D.r,0,none⟩)),(5,.pointer (some ⟨D.r + 1,0,none⟩)),(7,.int .i64 (m : Int)),(8,.pointer (some ⟨D.r + 4,0,none⟩)),(9,.pointer (some ⟨D.r + 5,0,none⟩)),(10,.pointer (some ⟨D.r + 6,0,none⟩)),(11,.pointer (some ⟨D.r + 7,0,none⟩)),(12,.pointer (some ⟨D.r + 8,0,none⟩)),(13,.pointer (some ⟨D.r + 9,0,none⟩))]
theorem z_r15 (hM : MarkK Try.prog main Z KK) (hn : norm V = V) (A : JM D (nu : Int) (m : Int) (m : Int) (.slice (some ⟨g,0,none⟩) nu c) V) (hl1 : 1 <= D.ks.length) (hl5 : D.ks.length <= 5) (hnu : nu < 1000) (hfix : ∀ b,D.fix b -> b < V.heap.size) (e_m : V.heap[D.r + 2]? = some (.map es clk)) (hm : Mp es mp) (hmb : MBn es clk) (hmd : (mp.map (·.1)).Nodup) (hm5 : mp.length <= 5) (hL : mp.length = L) (hLn : L + 1 = nu) (hk : kpos D.k0 mp 0 = none) (hT : PQJ200 D m T)
   (K : ∀ T' V',norm V' = V' -> Kp V V' -> PQJ200 D m T' -> T'[78]? = some (.bool false) -> KK d (G ((base 15).at ⟨T',[]⟩ kt) cs) V') : KK d (G ((base 15).at ⟨T,[]⟩ (.code v15 :: kt)) cs) V:=by
 have hK0:=K
 clear K
 have q_x:=qc 0 A.x rfl
 have q_w:=qc 0 A.w rfl
 have q_s:=qc 0 A.s rfl
 have q_u:=qc 0 A.u rfl
 have q_b:=qc 0 A.b rfl
 have q_k:=qc 0 A.k rfl
 obtain ⟨c1,c2⟩:=A.ky 0 (by omega)
 simp only [Nat.zero_mul,Nat.add_zero] at c1 c2
 have q_1 : ∀ τ,(re V τ 0).cell? ⟨D.kg,D.ko,none⟩ = some (.int .i64 (kat D.ks 0).1):=fun τ=>c1
 have q_2 : ∀ τ,(re V τ 0).cell? ⟨D.kg,D.ko + 1,none⟩ = some (.int .i64 (kat D.ks 0).2):=fun τ=>c2
 clear c1 c2
 have p2 : ¬ ((D.ks.length : Int) <= 0):=by omega
 have p3 : 0 < D.ks.length:=by omega
 have w1 : IntKind.i64.wrap ((nu : Int) - 1) = (L : Int):=by rw [IntKind.wrap_i64]; omega
 have lm:=(Array.getElem?_eq_some_iff.1 e_m).1
 obtain ⟨hLn2,hL2⟩ : (L + 1 = nu /\ True) /\ (mp.length = L /\ True):=⟨⟨hLn,trivial⟩,⟨hL,trivial⟩⟩
 clear hLn hL
 refine foQJ20126 hT fun f=>?_
 generalize hX0 : v15 = X0
 simp only [v15,vY15,vX15,vX14,vX10,vX9,vX8,vX7,vX6,vX5,vX4,vX3,vX1,vB,nva,nvb,Try.f15,Option.getD_some] at hX0
 subst hX0
 obtain ⟨K,hK,hV,key,yek⟩:=kKV (L:=Lone) (J:=fun g=>KK d g V) hM.mu (hM.muv hn)
 refine key _ ?_
 have hD : MuD Try.prog K:=fun b a k cs id ops h=>yek _ (hM.mud b a k cs id ops fun t=>key _ (h t))
 refine mu_drawM 12 hK hV hD (.inl rfl) ?_
 refine wS ?_
 refine anyQ 0 6 rfl ?_
 refine anyQ 1 6 rfl ?_
 refine anyQ 2 6 rfl ?_
 refine anyQ 3 6 rfl ?_
 refine anyQ 4 6 rfl ?_
 refine anyQ 5 6 rfl ?_
 refine anyQ 6 6 rfl ?_
 refine anyQ 7 6 rfl ?_
 refine anyQ 8 6 rfl ?_
 refine anyQ 9 6 rfl ?_
 refine anyQ 10 6 rfl ?_
 refine anyQ 11 6 rfl ?_
 refine anyP_last (by kernel_rfl) (fun t=>?_)
 refine muv_val hV rfl (.inl rfl) rfl (by kernel_rfl) (fun J hJ=>?_)
 go_simp
 with_reducible refine hJ _ ?_
 clear hJ J
 walk_nrm
 refine anyP_K (j:=18) hK hV (.inl rfl) _ _ _ _ ?_
 refine anyQ 13 6 rfl ?_
 refine anyQ 14 6 rfl ?_
 refine anyQ 15 6 rfl ?_
 refine anyQ 16 6 rfl ?_
 refine anyQ 17 6 rfl ?_
 refine anyP_last (by kernel_rfl) (fun t=>?_)
 refine muv_val hV rfl (.inl rfl) rfl (by kernel_rfl) (fun J hJ=>?_)
 go_simp
 with_reducible refine hJ _ ?_
 clear hJ J
 walk_nrm
 refine anyP_K (j:=23) hK hV (.inl rfl) _ _ _ _ ?_
 refine anyQ 19 6 rfl ?_
 refine anyQ 20 6 rfl ?_
 refine anyQ 21 6 rfl ?_
 refine anyQ 22 6 rfl ?_
 refine anyP_last (by kernel_rfl) (fun t=>?_)
 refine hK.cl rfl rfl rfl Try.func68 rfl ?_
 walk_nrm
 refine yek _ ?_
 clear hK hV hD key yek K
 refine joined_none (k:=D.k0) hM hn A.g e_m hm hk fun V1 hn1 k1=>?_
 have A1 : JM D (nu : Int) (m : Int) (m : Int) (.slice (some ⟨g,0,none⟩) nu c) V1:=A.keep fun b hb=>k1.keep b (hfix b hb)
 have e_m1:=(k1.keep _ lm).trans e_m
 have hfix1 : ∀ b,D.fix b -> b < V1.heap.size:=fun b hb=>Nat.lt_of_lt_of_le (hfix b hb) k1.size
 clear q_x q_w q_s q_u q_b q_k q_1 q_2 A e_m lm
 have q_x:=qc 0 A1.x rfl
 have q_b:=qc 0 A1.b rfl
 walk_nrm
 obtain ⟨K,hK,hV,key,yek⟩:=kKV (L:=Lone) (J:=fun g=>KK d g V1) hM.mu (hM.muv hn1)
 refine key _ ?_
 refine anyP_K (j:=28) hK hV (.inl rfl) _ _ _ _ ?_
 refine anyQ 24 6 rfl ?_
 refine anyQ 25 6 rfl ?_
 refine anyQ 26 6 rfl ?_
 refine anyQ 27 6 rfl ?_
 refine anyP_twoJ (i:=30) rfl (by decide) (by kernel_rfl) rfl (by kernel_rfl) (fun t=>?_) (fun J hJ=>?_)
 . refine hK.cl rfl rfl rfl Try.func64 rfl ?_
   walk_nrm
   refine yek _ ?_
   clear hK hV key yek K
   refine keys_any hM hn1 A1.g e_m1 hm hmb hmd hm5 fun V2 gb gc hn2 k2=>?_
   have A2 : JM D (nu : Int) (m : Int) (m : Int) (.slice (some ⟨g,0,none⟩) nu c) V2:=A1.keep fun b hb=>k2.keep b (hfix1 b hb)
   rw [hL2.1]
   clear q_x q_b
   have q_b:=qc 0 A2.b rfl
   walk_nrm
   obtain ⟨K,hK,hV,key,yek⟩:=kKV (L:=Lone) (J:=fun g=>KK d g V2) hM.mu (hM.muv hn2)
   refine key _ ?_
   refine anyP_K (j:=33) hK hV (.inl rfl) _ _ _ _ ?_
   refine anyQ 29 6 rfl ?_
   refine anyQ 30 6 rfl ?_
   refine anyQ 31 6 rfl ?_
   refine anyQ 32 6 rfl ?_
   refine anyP_last (by kernel_rfl) (fun t=>?_)
   rw [lin_nilA]
   refine wA fun kk hkk=>?_
   refine yek _ ?_
   clear hK hV key yek K
   try subst hkk
   exact hK0 _ V2 hn2 (k1.trans k2) fgm rfl
 . go_simp
   with_reducible refine hJ _ ?_
   clear hJ J
   walk_nrm
   refine anyP_twoJ (i:=31) rfl (by decide) (by kernel_rfl) rfl (by kernel_rfl) (fun t=>?_) (fun J hJ=>?_)
   . refine hK.cl rfl rfl rfl Try.func64 rfl ?_
     walk_nrm
     refine yek _ ?_
     clear hK hV key yek K
     refine keys_any hM hn1 A1.g e_m1 hm hmb hmd hm5 fun V2 gb gc hn2 k2=>?_
     have A2 : JM D (nu : Int) (m : Int) (m : Int) (.slice (some ⟨g,0,none⟩) nu c) V2:=A1.keep fun b hb=>k2.keep b (hfix1 b hb)
     rw [hL2.1]
     clear q_x q_b
     have q_b:=qc 0 A2.b rfl
     walk_nrm
     obtain ⟨K,hK,hV,key,yek⟩:=kKV (L:=Lone) (J:=fun g=>KK d g V2) hM.mu (hM.muv hn2)
     refine key _ ?_
     refine anyP_K (j:=33) hK hV (.inl rfl) _ _ _ _ ?_
     refine anyQ 29 6 rfl ?_
     refine anyQ 31 6 rfl ?_
     refine anyQ 32 6 rfl ?_
     refine anyP_last (by kernel_rfl) (fun t=>?_)
     rw [lin_nilA]
     refine wA fun kk hkk=>?_
     refine yek _ ?_
     clear hK hV key yek K
     try subst hkk
     exact hK0 _ V2 hn2 (k1.trans k2) fgm rfl
   . go_simp
     with_reducible refine hJ _ ?_
     clear hJ J
     walk_nrm
     refine anyP_last (by kernel_rfl) (fun t=>?_)
     refine hK.cl rfl rfl rfl Try.func64 rfl ?_
     walk_nrm
     refine yek _ ?_
     clear hK hV key yek K
     refine keys_any hM hn1 A1.g e_m1 hm hmb hmd hm5 fun V2 gb gc hn2 k2=>?_
     have A2 : JM D (nu : Int) (m : Int) (m : Int) (.slice (some ⟨g,0,none⟩) nu c) V2:=A1.keep fun b hb=>k2.keep b (hfix1 b hb)
     rw [hL2.1]
     clear q_x q_b
     have q_b:=qc 0 A2.b rfl
     walk_nrm
     obtain ⟨K,hK,hV,key,yek⟩:=kKV (L:=Lone) (J:=fun g=>KK d g V2) hM.mu (hM.muv hn2)
     refine key _ ?_
     refine anyP_K (j:=33) hK hV (.inl rfl) _ _ _ _ ?_
     refine anyQ 29 6 rfl ?_
     refine anyQ 32 6 rfl ?_
     refine anyP_last (by kernel_rfl) (fun t=>?_)
     rw [lin_nilA]
     refine wA fun kk hkk=>?_
     refine yek _ ?_
     clear hK hV key yek K
     try subst hkk
     exact hK0 _ V2 hn2 (k1.trans k2) fgm rfl
end
theorem vX17_eq : vX17 = .seq (.seq v17 (.block 2 (.loop vM))) vX22:=by kernel_rfl
theorem vM_eq : vM = .seq (.seq v18 (.cond (.tmp 82) .skip (.exit 2))) (.seq (.block 3 (.seq v20 (.cond (.tmp 124) (nvy (nvb (nvk (nva (nvb vM))))) .skip))) v19):=by kernel_rfl
section
variable {main : Bool} {Z : Cuts} {KK : Nat -> Goroutine -> World -> Prop} {d : Nat} {V : World} {kt : List Item} {cs : List Frame} {D : Jd} {bg sm wt : Int} {un tp : Value} {i : Nat} {T : Array Value} {ks : List (Int × Int)} {x1 x2 y1 y2 : Int} {nu m L g c J j clk : Nat} {es : Array MapEntry} {mp : List ((Int × Int) × Nat)}
theorem z_r17 (hM : MarkK Try.prog main Z KK) (hn : norm V = V) (hT : Fg 126 [(13,.pointer (some ⟨D.r + 9,0,none⟩))] T) (K : ∀ T',Fg 126 [(13,.pointer (some ⟨D.r + 9,0,none⟩)),(17,.int .i64 ((1 : Nat) : Int))] T' -> KK d (G ((base 15).at ⟨T',[]⟩ kt) cs) V) : KK d (G ((base 15).at ⟨T,[]⟩ (.code v17 :: kt)) cs) V:=by
 have hK0:=K
 clear K
 refine foQJ20126 hT fun f=>?_
 generalize hX0 : v17 = X0
 simp only [v17,vX17,vX15,vX14,vX10,vX9,vX8,vX7,vX6,vX5,vX4,vX3,vX1,vB,nva,nvb,Try.f15,Option.getD_some] at hX0
 subst hX0
 refine wM hM hn fun kk hkk=>?_
 try subst hkk
 exact hK0 _ fgm
def PQJ201 (D : Jd) (J : Nat) : Array Value -> Prop:=Fg 126 [(13,.pointer (some ⟨D.r + 9,0,none⟩)),(17,.int .i64 (J : Int))]
theorem z_r18 (hM : MarkK Try.prog main Z KK) (hn : norm V = V) (e_u : V.heap[D.r + 9]? = some (.cells #[.slice (some ⟨g,0,none⟩) nu c] 143 (0,0))) (hT : PQJ201 D J T) (K : ∀ T',PQJ201 D J T' -> T'[82]? = some (.bool (decide (J < nu))) -> KK d (G ((base 15).at ⟨T',[]⟩ kt) cs) V) : KK d (G ((base 15).at ⟨T,[]⟩ (.code v18 :: kt)) cs) V:=by
 have hK0:=K
 clear K
 have q_u:=qc 0 e_u rfl
 refine foQJ20126 hT fun f=>?_
 generalize hX0 : v18 = X0
 simp only [v18,vM,vX17,vX15,vX14,vX10,vX9,vX8,vX7,vX6,vX5,vX4,vX3,vX1,vB,nva,nvb,nvk,nvl,Try.f15,Option.getD_some] at hX0
 subst hX0
 refine wM hM hn fun kk hkk=>?_
 try subst hkk
 exact hK0 _ fgm (by simp <;> omega)
theorem z_r19 (hM : MarkK Try.prog main Z KK) (hn : norm V = V) (hi : J < 1000) (hT : PQJ201 D J T) (K : ∀ T',Fg 126 [(13,.pointer (some ⟨D.r + 9,0,none⟩)),(17,.int .i64 ((J + 1 : Nat) : Int))] T' -> KK d (G ((base 15).at ⟨T',[]⟩ kt) cs) V) : KK d (G ((base 15).at ⟨T,[]⟩ (.code v19 :: kt)) cs) V:=by
 have hK0:=K
 clear K
 have w1 : IntKind.i64.wrap ((J : Int) + 1) = ((J + 1 : Nat) : Int):=by rw [IntKind.wrap_i64]; omega
 refine foQJ20126 hT fun f=>?_
 generalize hX0 : v19 = X0
 simp only [v19,vM,vX17,vX15,vX14,vX10,vX9,vX8,vX7,vX6,vX5,vX4,vX3,vX1,vB,nva,nvb,nvk,nvl,Try.f15,Option.getD_some] at hX0
 subst hX0
 refine wM hM hn fun kk hkk=>?_
 try subst hkk
 exact hK0 _ fgm
theorem aptQJ20 {md : Region.Mode} {P : Program} {L : List FuncId} {ops : Array Oper} {V : World} {j : Nat} {X : Nat -> Array Bool -> Act -> Prop} {Q : Act -> Prop} {oi : Oper} {n : Nat} {l : Array Bool} {a : Act} (i : Nat) (h : AnyP P L md ops V j X Q n (l.setIfInBounds i true) (a.put oi.dst undef)) (hi : ops[i]? = some oi:=by rfl) (hs : Region.noSelect ops:=by kernel_rfl) (hij : (i != j):=by rfl) (hrj : reach md ops i 8 j:=by kernel_rfl) (hc : clB md ops l:=by kernel_rfl) (hf : Region.free md ops (l.setIfInBounds j true) i:=by kernel_rfl) (hr : (Region.ready md ops l).contains i:=by kernel_rfl) (hy : PureAt P L ops V oi undef a:=by exact .inr ⟨rfl,rfl⟩) : AnyP P L md ops V j X Q (n + 1) l a:=anyP_take 8 hi hs hij hrj hc hf hr hy h
theorem z_r20a (hM : MarkK Try.prog main Z KK) (hn : norm V = V) (e_u : V.heap[D.r + 9]? = some (.cells #[.slice (some ⟨g,0,none⟩) nu c] 143 (0,0))) (hJ0 : J = j + 1) (hJ : J < nu) (hn1 : nu < 1000) (ca : V.cell? ⟨g,J * 2,none⟩ = some (.int .i64 x1) /\ V.cell? ⟨g,J * 2 + 1,none⟩ = some (.int .i64 x2)) (cb : V.cell? ⟨g,j * 2,none⟩ = some (.int .i64 y1) /\ V.cell? ⟨g,j * 2 + 1,none⟩ = some (.int .i64 y2)) (h1 : y1 < x1) (hT : PQJ201 D J T) (K : ∀ T',PQJ201 D J T' -> T'[124]? = some (.bool false) -> KK d (G ((base 15).at ⟨T',[]⟩ kt) cs) V) : KK d (G ((base 15).at ⟨T,[]⟩ (.code v20 :: kt)) cs) V:=by
 have hK0:=K
 clear K
 have p5 : ¬ (x1 < y1):=by omega
 have p6 : ¬ (x1 = y1):=by omega
 have p7 : (x1 == y1) = false:=by simpa using p6
 have q_u:=qc 0 e_u rfl
 obtain ⟨ca1,ca2⟩:=ca
 obtain ⟨cb1,cb2⟩:=cb
 have q_a1 : ∀ τ,(re V τ 0).cell? ⟨g,J * 2,none⟩ = some (.int .i64 _):=fun τ=>ca1
 have q_a2 : ∀ τ,(re V τ 0).cell? ⟨g,J * 2 + 1,none⟩ = some (.int .i64 _):=fun τ=>ca2
 have q_b1 : ∀ τ,(re V τ 0).cell? ⟨g,j * 2,none⟩ = some (.int .i64 _):=fun τ=>cb1
 have q_b2 : ∀ τ,(re V τ 0).cell? ⟨g,j * 2 + 1,none⟩ = some (.int .i64 _):=fun τ=>cb2
 have w1 : IntKind.i64.wrap ((J : Int) - 1) = (j : Int):=by rw [IntKind.wrap_i64]; omega
 have p1 : ¬ ((J : Int) < 0):=by omega
 have p2 : ¬ ((nu : Int) <= (J : Int)):=by omega
 have p3 : ¬ ((j : Int) < 0):=by omega
 have p4 : ¬ ((nu : Int) <= (j : Int)):=by omega
 have p8 : J < nu:=hJ
 have p9 : j < nu:=by omega
 clear ca1 ca2 cb1 cb2 e_u hJ0
 refine foQJ20126 hT fun f=>?_
 generalize hX0 : v20 = X0
 simp only [v20,vM,vX17,vX15,vX14,vX10,vX9,vX8,vX7,vX6,vX5,vX4,vX3,vX1,vB,nva,nvb,nvk,nvl,Try.f15,Option.getD_some] at hX0
 subst hX0
 obtain ⟨K,hK,hV,key,yek⟩:=kKV (L:=Lone) (J:=fun g=>KK d g V) hM.mu (hM.muv hn)
 refine key _ ?_
 have hD : MuD Try.prog K:=fun b a k cs id ops h=>yek _ (hM.mud b a k cs id ops fun t=>key _ (h t))
 refine mu_drawM 12 hK hV hD (.inl rfl) ?_
 refine wS ?_
 refine anyQ 0 8 rfl ?_
 refine anyQ 1 8 rfl ?_
 refine anyQ 2 8 rfl ?_
 refine anyQ 3 8 rfl ?_
 refine anyQ 4 8 rfl ?_
 refine anyQ 5 8 rfl ?_
 refine anyQ 6 8 rfl ?_
 refine anyQ 7 8 rfl ?_
 refine anyQ 8 8 rfl ?_
 refine anyQ 9 8 rfl ?_
 refine anyQ 10 8 rfl ?_
 refine anyQ 11 8 rfl ?_
 refine anyP_last (by kernel_rfl) (fun t=>?_)
 refine muv_val hV rfl (.inl rfl) rfl (by kernel_rfl) (fun J' hJ'=>?_)
 go_simp
 with_reducible refine hJ' _ ?_
 clear hJ' J'
 walk_nrm
 refine anyP_K (j:=25) hK hV (.inl rfl) _ _ _ _ ?_
 refine anyQ 13 8 rfl ?_
 refine anyQ 14 8 rfl ?_
 refine anyQ 15 8 rfl ?_
 refine anyQ 16 8 rfl ?_
 refine anyQ 17 8 rfl ?_
 refine anyQ 18 8 rfl ?_
 refine anyQ 19 8 rfl ?_
 refine anyQ 20 8 rfl ?_
 refine anyQ 21 8 rfl ?_
 refine anyQ 22 8 rfl ?_
 refine anyQ 23 8 rfl ?_
 refine anyQ 24 8 rfl ?_
 refine anyP_last (by kernel_rfl) (fun t=>?_)
 refine muv_val hV rfl (.inl rfl) rfl (by kernel_rfl) (fun J' hJ'=>?_)
 go_simp
 with_reducible refine hJ' _ ?_
 clear hJ' J'
 walk_nrm
 refine anyP_K (j:=39) hK hV (.inl rfl) _ _ _ _ ?_
 refine aptQJ20 26 ?_
 walk_nrm
 refine aptQJ20 27 ?_
 walk_nrm
 refine aptQJ20 28 ?_
 walk_nrm
 refine aptQJ20 29 ?_
 walk_nrm
 refine aptQJ20 30 ?_
 walk_nrm
 refine aptQJ20 31 ?_
 walk_nrm
 refine aptQJ20 32 ?_
 walk_nrm
 refine aptQJ20 33 ?_
 walk_nrm
 refine aptQJ20 34 ?_
 walk_nrm
 refine aptQJ20 35 ?_
 walk_nrm
 refine aptQJ20 36 ?_
 walk_nrm
 refine aptQJ20 37 ?_
 walk_nrm
 refine anyQ 38 8 rfl ?_
 refine anyP_last (by kernel_rfl) (fun t=>?_)
 rw [lin_nilA]
 refine wA fun kk hkk=>?_
 refine yek _ ?_
 clear hK hV hD key yek K
 try subst hkk
 exact hK0 _ fgm rfl
theorem z_r20b (hM : MarkK Try.prog main Z KK) (hn : norm V = V) (e_u : V.heap[D.r + 9]? = some (.cells #[.slice (some ⟨g,0,none⟩) nu c] 143 (0,0))) (hJ0 : J = j + 1) (hJ : J < nu) (hn1 : nu < 1000) (ca : V.cell? ⟨g,J * 2,none⟩ = some (.int .i64 x1) /\ V.cell? ⟨g,J * 2 + 1,none⟩ = some (.int .i64 x2)) (cb : V.cell? ⟨g,j * 2,none⟩ = some (.int .i64 y1) /\ V.cell? ⟨g,j * 2 + 1,none⟩ = some (.int .i64 y2)) (h1 : x1 = y1) (h2 : y2 < x2) (hT : PQJ201 D J T) (K : ∀ T',PQJ201 D J T' -> T'[124]? = some (.bool false) -> KK d (G ((base 15).at ⟨T',[]⟩ kt) cs) V) : KK d (G ((base 15).at ⟨T,[]⟩ (.code v20 :: kt)) cs) V:=by
 have hK0:=K
 clear K
 subst h1
 have p5 : ¬ (x2 <= y2):=by omega
 have q_u:=qc 0 e_u rfl
 obtain ⟨ca1,ca2⟩:=ca
 obtain ⟨cb1,cb2⟩:=cb
 have q_a1 : ∀ τ,(re V τ 0).cell? ⟨g,J * 2,none⟩ = some (.int .i64 _):=fun τ=>ca1
 have q_a2 : ∀ τ,(re V τ 0).cell? ⟨g,J * 2 + 1,none⟩ = some (.int .i64 _):=fun τ=>ca2
 have q_b1 : ∀ τ,(re V τ 0).cell? ⟨g,j * 2,none⟩ = some (.int .i64 _):=fun τ=>cb1
 have q_b2 : ∀ τ,(re V τ 0).cell? ⟨g,j * 2 + 1,none⟩ = some (.int .i64 _):=fun τ=>cb2
 have w1 : IntKind.i64.wrap ((J : Int) - 1) = (j : Int):=by rw [IntKind.wrap_i64]; omega
 have p1 : ¬ ((J : Int) < 0):=by omega
 have p2 : ¬ ((nu : Int) <= (J : Int)):=by omega
 have p3 : ¬ ((j : Int) < 0):=by omega
 have p4 : ¬ ((nu : Int) <= (j : Int)):=by omega
 have p8 : J < nu:=hJ
 have p9 : j < nu:=by omega
 clear ca1 ca2 cb1 cb2 e_u hJ0
 refine foQJ20126 hT fun f=>?_
 generalize hX0 : v20 = X0
 simp only [v20,vM,vX17,vX15,vX14,vX10,vX9,vX8,vX7,vX6,vX5,vX4,vX3,vX1,vB,nva,nvb,nvk,nvl,Try.f15,Option.getD_some] at hX0
 subst hX0
 obtain ⟨K,hK,hV,key,yek⟩:=kKV (L:=Lone) (J:=fun g=>KK d g V) hM.mu (hM.muv hn)
 refine key _ ?_
 have hD : MuD Try.prog K:=fun b a k cs id ops h=>yek _ (hM.mud b a k cs id ops fun t=>key _ (h t))
 refine mu_drawM 12 hK hV hD (.inl rfl) ?_
 refine wS ?_
 refine anyQ 0 8 rfl ?_
 refine anyQ 1 8 rfl ?_
 refine anyQ 2 8 rfl ?_
 refine anyQ 3 8 rfl ?_
 refine anyQ 4 8 rfl ?_
 refine anyQ 5 8 rfl ?_
 refine anyQ 6 8 rfl ?_
 refine anyQ 7 8 rfl ?_
 refine anyQ 8 8 rfl ?_
 refine anyQ 9 8 rfl ?_
 refine anyQ 10 8 rfl ?_
 refine anyQ 11 8 rfl ?_
 refine anyP_last (by kernel_rfl) (fun t=>?_)
 refine muv_val hV rfl (.inl rfl) rfl (by kernel_rfl) (fun J' hJ'=>?_)
 go_simp
 with_reducible refine hJ' _ ?_
 clear hJ' J'
 walk_nrm
 refine anyP_K (j:=25) hK hV (.inl rfl) _ _ _ _ ?_
 refine anyQ 13 8 rfl ?_
 refine anyQ 14 8 rfl ?_
 refine anyQ 15 8 rfl ?_
 refine anyQ 16 8 rfl ?_
 refine anyQ 17 8 rfl ?_
 refine anyQ 18 8 rfl ?_
 refine anyQ 19 8 rfl ?_
 refine anyQ 20 8 rfl ?_
 refine anyQ 21 8 rfl ?_
 refine anyQ 22 8 rfl ?_
 refine anyQ 23 8 rfl ?_
 refine anyQ 24 8 rfl ?_
 refine anyP_last (by kernel_rfl) (fun t=>?_)
 refine muv_val hV rfl (.inl rfl) rfl (by kernel_rfl) (fun J' hJ'=>?_)
 go_simp
 with_reducible refine hJ' _ ?_
 clear hJ' J'
 walk_nrm
 refine anyP_K (j:=39) hK hV (.inl rfl) _ _ _ _ ?_
 refine anyQ 26 8 rfl ?_
 refine anyQ 27 8 rfl ?_
 refine anyQ 28 8 rfl ?_
 refine anyQ 29 8 rfl ?_
 refine anyQ 30 8 rfl ?_
 refine anyQ 31 8 rfl ?_
 refine anyQ 32 8 rfl ?_
 refine anyQ 33 8 rfl ?_
 refine anyQ 34 8 rfl ?_
 refine anyQ 35 8 rfl ?_
 refine anyQ 36 8 rfl ?_
 refine anyQ 37 8 rfl ?_
 refine anyQ 38 8 rfl ?_
 refine anyP_last (by kernel_rfl) (fun t=>?_)
 rw [lin_nilA]
 refine wA fun kk hkk=>?_
 refine yek _ ?_
 clear hK hV hD key yek K
 try subst hkk
 exact hK0 _ fgm rfl
theorem z_loop (hM : MarkK Try.prog main Z KK) (hn : norm V = V) (hn1 : nu < 1000) (hR : RowK V g c ks) (hl : ks.length = nu) (hA : Asc ks) (e_u : V.heap[D.r + 9]? = some (.cells #[.slice (some ⟨g,0,none⟩) nu c] 143 (0,0))) (K : ∀ T',T'.size = 126 -> KK d (G ((base 15).at ⟨T',[]⟩ kt) cs) V) : ∀ (q J : Nat) (T : Array Value),(J + q = nu ∨ (q = 0 /\ nu <= J)) -> 1 <= J -> J < 1001 -> PQJ201 D J T -> KK d (G ((base 15).at ⟨T,[]⟩ (.code vM :: .inLoop vM :: .inBlock 2 :: kt)) cs) V:=by
 intro q
 induction q with
 | zero =>
   intro J T hq hJ1 hJ2 hT
   refine (fun (h : ∀ Y,Y = vM -> KK d (G ((base 15).at ⟨T,[]⟩ (.code Y :: .inLoop vM :: .inBlock 2 :: kt)) cs) V)=>h vM rfl) ?_
   intro Y hY
   rw [vM_eq] at hY
   subst hY
   refine mu_seq hM.mu (mu_seq hM.mu ?_)
   refine z_r18 (J:=J) hM hn e_u hT fun T1 hT1 h82=>?_
   rw [decide_eq_false (by omega)] at h82
   refine mu_cond hM.mu false (cond_atK h82) ?_
   refine mu_exit hM.mu rfl ?_
   exact K T1 hT1.1
 | succ q ih =>
   intro J T hq hJ1 hJ2 hT
   refine (fun (h : ∀ Y,Y = vM -> KK d (G ((base 15).at ⟨T,[]⟩ (.code Y :: .inLoop vM :: .inBlock 2 :: kt)) cs) V)=>h vM rfl) ?_
   intro Y hY
   rw [vM_eq] at hY
   subst hY
   have hJn : J < nu:=by omega
   obtain ⟨j,rfl⟩ : ∃ j,J = j + 1:=⟨J - 1,by omega⟩
   refine mu_seq hM.mu (mu_seq hM.mu ?_)
   refine z_r18 (J:=j + 1) hM hn e_u hT fun T1 hT1 h82=>?_
   rw [decide_eq_true hJn] at h82
   refine mu_cond hM.mu true (cond_atK h82) ?_
   refine mu_skip hM.mu (mu_seq hM.mu (mu_block hM.mu (mu_seq hM.mu ?_)))
   have ca:=hR.at_ (j:=j + 1) (by omega)
   have cb:=hR.at_ (j:=j) (by omega)
   have hlt:=hA j (j + 1) (by omega) (by omega)
   have fin : ∀ T',Fg 126 [(13,.pointer (some ⟨D.r + 9,0,none⟩)),(17,.int .i64 ((j + 1 : Nat) : Int))] T' -> T'[124]? = some (.bool false) -> KK d (G ((base 15).at ⟨T',[]⟩ (.code (.cond (.tmp 124) (nvy (nvb (nvk (nva (nvb vM))))) .skip) :: .inBlock 3 :: .code v19 :: .inLoop vM :: .inBlock 2 :: kt)) cs) V:=fun T' hT' h124=>by
     refine mu_cond hM.mu false (cond_atK h124) ?_
     refine mu_skip hM.mu (mu_inBlock hM.mu ?_)
     refine z_r19 (J:=j + 1) hM hn (by omega) hT' fun T3 hT3=>?_
     refine mu_inLoop hM.mu ?_
     exact ih (j + 1 + 1) T3 (by omega) (by omega) (by omega) hT3
   rcases hlt with h | ⟨h,h2⟩
   . exact z_r20a (J:=j + 1) (j:=j) hM hn e_u rfl hJn hn1 ca cb h hT1 fin
   . exact z_r20b (J:=j + 1) (j:=j) hM hn e_u rfl hJn hn1 ca cb h.symm h2 hT1 fin
end
section
variable {W V : World} {Z : Cuts} {T : Array Value} {kt : List Item}
theorem z_live (L : LS W Z V) (hs : T.size = 126) : To0 Try.prog (LPost W) Z V (G ((base 15).at ⟨T,[]⟩ (.code vw2 :: kt)) []):=by
 obtain ⟨f,hf,hT⟩:=array126f T hs
 rw [hT]
 clear hf hs
 subst hT
 generalize hX0 : vw2 = X0
 simp only [vw2,vX1,vB,nva,nvb,nvc,Try.f15,Option.getD_some] at hX0
 subst hX0
 obtain ⟨K,hK,hV,key,yek⟩:=kKV (L:=Lone) (J:=fun g=>To0 Try.prog (LPost W) Z V g) mu_to0 (muv_to0 L.n)
 refine key _ ?_
 refine wA fun kk hkk=>?_
 refine hK.cl rfl rfl rfl Try.func59 rfl ?_
 walk_nrm
 refine yek _ ?_
 clear hK hV key yek K
 refine live33_go L.n L.z fun Zq Vq hnq hzq hoq kq=>?_
 have Lq:=L.next hnq hzq hoq kq
 walk_nrm
 refine wB (L:=Lone) (J:=fun g=>To0 Try.prog (LPost W) Zq Vq g) mu_to0 (muv_to0 Lq.n) fun kk hkk=>?_
 exact law_last (by kernel_rfl) rfl rfl Try.func15 rfl rfl Lq.o Lq.k
theorem z_live2 (L : LS W Z V) (hs : T.size = 126) : To0 Try.prog (LPost W) Z V (G ((base 15).at ⟨T,[]⟩ (.code vX22 :: kt)) []):=by
 obtain ⟨f,hf,hT⟩:=array126f T hs
 rw [hT]
 clear hf hs
 subst hT
 generalize hX0 : vX22 = X0
 simp only [vX22,vX17,vX15,vX14,vX10,vX9,vX8,vX7,vX6,vX5,vX4,vX3,vX1,vB,nvb,Try.f15,Option.getD_some] at hX0
 subst hX0
 obtain ⟨K,hK,hV,key,yek⟩:=kKV (L:=Lone) (J:=fun g=>To0 Try.prog (LPost W) Z V g) mu_to0 (muv_to0 L.n)
 refine key _ ?_
 refine wA fun kk hkk=>?_
 refine hK.cl rfl rfl rfl Try.func59 rfl ?_
 walk_nrm
 refine yek _ ?_
 clear hK hV key yek K
 refine live33_go L.n L.z fun Zq Vq hnq hzq hoq kq=>?_
 have Lq:=L.next hnq hzq hoq kq
 walk_nrm
 refine wB (L:=Lone) (J:=fun g=>To0 Try.prog (LPost W) Zq Vq g) mu_to0 (muv_to0 Lq.n) fun kk hkk=>?_
 exact law_last (by kernel_rfl) rfl rfl Try.func15 rfl rfl Lq.o Lq.k
end
theorem row_cellsJ {V : World} {e : TypeId} {sz : Nat} {v : Value} {n : Nat} {xs : List Value} (h : V.ownsRow 0 e sz v n xs) (hn : 0 < n) : ∃ g c,v = .slice (some ⟨g,0,none⟩) n c /\ g < V.heap.size /\ ∀ j x,xs[j]? = some x -> V.cell? ⟨g,j,none⟩ = some x:=by
 obtain ⟨h1,h2⟩:=h
 rcases h2 with ⟨rfl,rfl⟩ | ⟨g,cap,cur,rfl,_,h4,h5,h6,h7,h8⟩
 . omega
 . refine ⟨g,cap,rfl,(Array.getElem?_eq_some_iff.1 h4).1,fun j x hx=>cell_of h4 ?_⟩
   rw [← h8] at hx
   have hj : j < n * sz:=by
     apply Nat.lt_of_not_le
     intro hge
     rw [List.getElem?_eq_none (by rw [List.length_take]; omega)] at hx
     cases hx
   rw [List.getElem?_take,if_pos hj] at hx
   simpa using hx
theorem kp_atJ {V V' : World} (k : Kp V V') {b : Nat} {o : Obj} (h : V.heap[b]? = some o) : V'.heap[b]? = some o:=(k.keep b (Array.getElem?_eq_some_iff.1 h).1).trans h
def jf0 (r : Nat) : Value:=.func (.func 66) #[] #[.pointer (some ⟨r + 5,0,none⟩),.pointer (some ⟨r,0,none⟩),.pointer (some ⟨r + 4,0,none⟩),.pointer (some ⟨r + 6,0,none⟩),.pointer (some ⟨r + 8,0,none⟩),.pointer (some ⟨r + 9,0,none⟩),.pointer (some ⟨r + 1,0,none⟩)]
def jf1 (r : Nat) : Value:=.func (.func 70) #[] #[.pointer (some ⟨r + 5,0,none⟩),.pointer (some ⟨r + 4,0,none⟩),.pointer (some ⟨r,0,none⟩),.pointer (some ⟨r + 1,0,none⟩),.pointer (some ⟨r + 7,0,none⟩)]
def jfs (r k : Nat) : List Value:=jf0 r :: List.replicate k (jf1 r)
theorem jfs_succ (r k : Nat) : jfs r k ++ [jf1 r] = jfs r (k + 1):=by
 unfold jfs
 rw [List.cons_append,← List.replicate_succ']
theorem jfs_at {r n k : Nat} (h : k < n + 1) : (jfs r n)[k]? = some (if k = 0 then jf0 r else jf1 r):=by
 unfold jfs
 cases k with
 | zero=>rfl
 | succ k=>rw [List.getElem?_cons_succ,List.getElem?_replicate,if_pos (by omega),if_neg (by omega)]
theorem jfs_get {r n k : Nat} (h : k < n + 1) : (jfs r n).getD k .nilFunc = if k = 0 then jf0 r else jf1 r:=by
 rw [List.getD_eq_getElem?_getD,jfs_at h]
 rfl
structure JF (V0 : World) (r k : Nat) (fa : Option Addr) (fc : Nat) (V : World) : Prop where
 nrm : norm V = V
 kp : Kp V0 V
 row : V.ownsRow 0 70 1 (.slice fa (k + 1) fc) (k + 1) (jfs r k)
 own : ∀ b,(Value.slice fa (k + 1) fc).ownBlock = some b -> V0.heap.size <= b
theorem ujr (D : Jd) (C : Cw) (n : Nat) : ∀ (k : Nat) (x : Js × List Nat),rnds (Ufj D C) n k x = jrnds n k x
 | 0,_=>rfl
 | k + 1,x=>by
   show (if (jrnd n x).2.length = x.2.length then jrnd n x else rnds (Ufj D C) n k (jrnd n x)) = _
   rw [ujr D C n k]
   rfl
section
variable {W V V0 : World} {Z : Cuts} {KK : Nat -> Goroutine -> World -> Prop} {main : Bool} {d a m r kc : Nat} {v : Int} {ka : Option Addr} {kt : List Item} {cs : List Frame} {ks : List (Int × Int)}
theorem y_loop (hM : MarkK Try.prog main Z KK) (hm9 : m < 7)
   (K : ∀ fa fc V' T',JF V0 r m fa fc V' -> Fg 126 [(3,.pointer (some ⟨r,0,none⟩)),(5,.pointer (some ⟨r + 1,0,none⟩)),(7,.int .i64 (m : Int)),(8,.pointer (some ⟨r + 4,0,none⟩)),(9,.pointer (some ⟨r + 5,0,none⟩)),(10,.pointer (some ⟨r + 6,0,none⟩)),(11,.pointer (some ⟨r + 7,0,none⟩)),(12,.pointer (some ⟨r + 8,0,none⟩)),(13,.pointer (some ⟨r + 9,0,none⟩)),(15,.slice fa (m + 1) fc),(16,.int .i64 (m : Int))] T' -> KK d (G ((base 15).at ⟨T',[]⟩ kt) cs) V') : ∀ (q i : Nat) (fa : Option Addr) (fc : Nat) (V : World) (T : Array Value),q + i = m -> JF V0 r i fa fc V -> Fg 126 [(3,.pointer (some ⟨r,0,none⟩)),(5,.pointer (some ⟨r + 1,0,none⟩)),(7,.int .i64 (m : Int)),(8,.pointer (some ⟨r + 4,0,none⟩)),(9,.pointer (some ⟨r + 5,0,none⟩)),(10,.pointer (some ⟨r + 6,0,none⟩)),(11,.pointer (some ⟨r + 7,0,none⟩)),(12,.pointer (some ⟨r + 8,0,none⟩)),(13,.pointer (some ⟨r + 9,0,none⟩)),(15,.slice fa (i + 1) fc),(16,.int .i64 (i : Int))] T ->
   KK d (G ((base 15).at ⟨T,[]⟩ (.code vL :: .inLoop vL :: .inBlock 0 :: kt)) cs) V:=by
 intro q
 induction q with
 | zero =>
   intro i fa fc V T hq M hT
   refine (fun (h : ∀ Y,Y = vL -> KK d (G ((base 15).at ⟨T,[]⟩ (.code Y :: .inLoop vL :: .inBlock 0 :: kt)) cs) V)=>h vL rfl) ?_
   intro Y hY
   rw [vL_eq] at hY
   subst hY
   refine mu_seq hM.mu (mu_seq hM.mu ?_)
   refine y_r11 (i:=i) hM M.nrm hT fun T1 hT1 h36=>?_
   rw [decide_eq_false (by omega)] at h36
   refine mu_cond hM.mu false (cond_atK h36) ?_
   refine mu_exit hM.mu rfl ?_
   obtain rfl : i = m:=by omega
   exact K fa fc V T1 M hT1
 | succ q ih =>
   intro i fa fc V T hq M hT
   refine (fun (h : ∀ Y,Y = vL -> KK d (G ((base 15).at ⟨T,[]⟩ (.code Y :: .inLoop vL :: .inBlock 0 :: kt)) cs) V)=>h vL rfl) ?_
   intro Y hY
   rw [vL_eq] at hY
   subst hY
   refine mu_seq hM.mu (mu_seq hM.mu ?_)
   refine y_r11 (i:=i) hM M.nrm hT fun T1 hT1 h36=>?_
   rw [decide_eq_true (by omega)] at h36
   refine mu_cond hM.mu true (cond_atK h36) ?_
   refine mu_skip hM.mu (mu_seq hM.mu (mu_block hM.mu ?_))
   refine y_r13 hM M.nrm M.row (by omega) hT1 fun T2 V2 wa wc n2 r2 s2 k2 o2 hT2=>mu_inBlock hM.mu ?_
   refine y_r12 (i:=i) hM n2 (by omega) hT2 fun T3 hT3=>mu_inLoop hM.mu ?_
   refine ih (i + 1) wa wc V2 T3 (by omega) ⟨n2,⟨by have:=M.kp.size; omega,fun b hb=>by rw [k2 b (by have:=M.kp.size; omega) (fun e=>by have:=M.own b e; omega)]; exact M.kp.keep b hb⟩,?_,fun b hb=>?_⟩ hT3
   . rw [← jfs_succ]; exact r2
   . rcases o2 b hb with h | h
     . exact M.own b h
     . have:=M.kp.size; omega
def KyI (V : World) (ka : Option Addr) (ks : List (Int × Int)) : Prop:=0 < ks.length -> ∃ g o,ka = some ⟨g,o,none⟩ /\ g < V.heap.size /\ ∀ j,j < ks.length -> V.cell? ⟨g,o + j * 2,none⟩ = some (.int .i64 (kat ks j).1) /\ V.cell? ⟨g,o + j * 2 + 1,none⟩ = some (.int .i64 (kat ks j).2)
theorem flight_joins (L : LS W Z V) (ha : a < 256) (hk : KyI V ka ks) : To0 Try.prog (LPost W) Z V (G (Frame.enter Try.prog 15 #[.slice ka ks.length kc,.int .u8 (a : Int),.int .i64 v] .normal) []):=by
 obtain ⟨n,hks⟩ : ∃ n,ks.length = n:=⟨_,rfl⟩
 rw [hks]
 have hn:=L.n
 obtain ⟨r,hr⟩ : ∃ r,V.heap.size = r:=⟨_,rfl⟩
 rw [enter_at (P:=Try.prog) _ Try.func15 rfl]
 refine (fun (h : ∀ T : Array Value,Fg 126 [(0,.slice ka n kc),(1,.int .u8 (a : Int)),(2,.int .i64 v)] T -> To0 Try.prog (LPost W) Z V (G ((base 15).at ⟨T,[]⟩ [.code vB]) []))=>h _ ⟨by simp [Try.f15],by simp,by simp,by simp,trivial⟩) ?_
 intro T hT
 have hM : MarkK Try.prog true Z (fun d g V=>To0d Try.prog (LPost W) Z d V g):=markTo0
 obtain ⟨KK,eKK⟩ : ∃ KK : Nat -> Goroutine -> World -> Prop,KK = fun d g V=>To0d Try.prog (LPost W) Z d V g:=⟨_,rfl⟩
 have hKK : ∀ g V,KK 0 g V -> To0 Try.prog (LPost W) Z V g:=fun g V h=>by rw [eKK] at h; exact h
 have hKK' : ∀ g V,To0 Try.prog (LPost W) Z V g -> KK 0 g V:=fun g V h=>by rw [eKK]; exact h
 rw [← eKK] at hM
 clear eKK
 refine hKK _ _ ?_
 rw [vB_eq]
 refine mu_seq hM.mu ?_
 refine y_r0 hM hn hr hT fun T1 V1 n1 k1 s1 eK eV hT1=>?_
 refine mu_seq hM.mu (mu_seq hM.mu ?_)
 have bad : ∀ T2,Fg 126 [(1,.int .u8 (a : Int)),(3,.pointer (some ⟨r,0,none⟩)),(5,.pointer (some ⟨r + 1,0,none⟩)),(6,.bool false)] T2 -> T2[25]? = some (.bool true) -> KK 0 (G ((base 15).at ⟨T2,[]⟩ [.code (.cond (.tmp 25) vw2 .skip),.code (.seq v3 (.seq v4 (.seq v5 (.seq v6 (.seq v7 (.seq v8 (.seq v9 (.seq (.seq v10 (.block 0 (.loop vL))) (.seq v14 vX15)))))))))]) []) V1:=fun T2 hT2 h25=>by
   refine mu_cond hM.mu true (cond_atK h25) ?_
   refine hKK' _ _ ?_
   exact z_live (L.same n1 k1) hT2.1
 by_cases h0 : n = 0
 . exact y_r1a hM n1 eK h0 hT1 bad
 by_cases h5 : 5 < n
 . exact y_r1b hM n1 eK h5 hT1 bad
 clear bad
 refine y_r1c hM n1 eK (by omega) (by omega) hT1 fun T2 hT2 h25=>?_
 refine mu_cond hM.mu false (cond_atK h25) (mu_skip hM.mu ?_)
 obtain ⟨m,hr7⟩ : ∃ m,a % 7 = m:=⟨_,rfl⟩
 have hm7 : m < 7:=by omega
 refine mu_seq hM.mu ?_
 refine y_r3 hM n1 ha hr7 hT2 fun T3 hT3=>?_
 refine mu_seq hM.mu ?_
 refine y_r4 hM n1 s1 hT3 fun T4 V4 n4 k4 s4 em eg ex hT4=>?_
 refine mu_seq hM.mu ?_
 refine y_r5 hM n4 s4 hT4 fun T5 V5 n5 k5 s5 eM hT5=>?_
 refine mu_seq hM.mu ?_
 refine y_r6 hM n5 s5 hT5 fun T6 V6 n6 k6 s6 e6 e7 e8 hT6=>?_
 refine mu_seq hM.mu ?_
 refine y_r7 hM n6 s6 hT6 fun T7 V7 n7 k7 s7 e9 hT7=>?_
 refine mu_seq hM.mu ?_
 refine y_r8 hM n7 hT7 fun T8 hT8=>?_
 refine mu_seq hM.mu ?_
 refine y_r9 hM n7 s7 hT8 fun T9 V9 n9 k9 s9 eR hT9=>?_
 refine mu_seq hM.mu (mu_seq hM.mu ?_)
 refine y_r10 hM n9 hT9 fun T10 hT10=>?_
 refine mu_block hM.mu (mu_loop hM.mu ?_)
 have M0 : JF V7 r 0 (some ⟨r + 10,0,none⟩) 1 V9:=⟨n9,k9,⟨rfl,.inr ⟨r + 10,1,#[jf0 r],rfl,Nat.zero_le _,eR,Nat.le_refl _,by simp [maxLen],rfl,rfl⟩⟩,fun b hb=>by
   have:=Option.some.inj (show some (r + 10) = some b from hb)
   omega⟩
 refine y_loop (V0:=V7) hM hm7 (fun fa fc V10 T11 M hT11=>?_) m 0 _ _ V9 T10 (by omega) M0 hT10
 refine mu_seq hM.mu ?_
 refine y_r14 hM M.nrm hT11 fun T12 hT12=>?_
 refine hKK' _ _ ?_
 -- what stands in memory when Run is called
 have g0:=kp_atJ M.kp (kp_atJ k7 (kp_atJ k6 (kp_atJ k5 (kp_atJ k4 eK))))
 have g1:=kp_atJ M.kp (kp_atJ k7 (kp_atJ k6 (kp_atJ k5 (kp_atJ k4 eV))))
 have g2:=kp_atJ M.kp (kp_atJ k7 (kp_atJ k6 (kp_atJ k5 em)))
 have g3:=kp_atJ M.kp (kp_atJ k7 (kp_atJ k6 (kp_atJ k5 eg)))
 have g4:=kp_atJ M.kp (kp_atJ k7 (kp_atJ k6 (kp_atJ k5 ex)))
 have g5:=kp_atJ M.kp (kp_atJ k7 (kp_atJ k6 eM))
 have g6:=kp_atJ M.kp (kp_atJ k7 e6)
 have g7:=kp_atJ M.kp (kp_atJ k7 e7)
 have g8:=kp_atJ M.kp (kp_atJ k7 e8)
 have g9:=kp_atJ M.kp e9
 have k10 : Kp V V10:=((((k1.trans k4).trans k5).trans k6).trans k7).trans M.kp
 have L10:=L.same M.nrm k10
 have hs10:=M.kp.size
 clear k1 k4 k5 k6 k7 k9 eK eV em eg ex eM e6 e7 e8 e9 eR n1 n4 n5 n6 n7 n9 M0 hT hT1 hT2 hT3 hT4 hT5 hT6 hT7 hT8 hT9 hT10 hT11 h25 hM hKK hKK'
 obtain ⟨kg,ko,rfl,hkg,hky⟩:=hk (by omega)
 obtain ⟨kob,hkob⟩ : ∃ o,V.heap[kg]? = some o:=⟨_,Array.getElem?_eq_getElem hkg⟩
 obtain ⟨D,hD⟩ : ∃ D : Jd,D = ⟨r,kg,ko,kc,ks,v,kob⟩:=⟨_,rfl⟩
 have hl1 : 1 <= ks.length:=by omega
 have hl5 : ks.length <= 5:=by omega
 have hfl : (jfs r m).length = m + 1:=by simp [jfs]
 have hF : FnRow V10 (.slice fa (m + 1) fc) (jfs r m):=by
   refine ⟨⟨fa,fc,by rw [hfl],fun h0=>?_⟩,fun k hk=>.inr ?_⟩
   . obtain ⟨g,c,e,hg,hc⟩:=row_cellsJ M.row (by omega)
     injection e with e _ _
     refine ⟨g,0,e,hg,fun k hk=>?_⟩
     rw [Nat.zero_add,jfs_get (by omega)]
     exact hc k _ (jfs_at (by omega))
   . rw [jfs_get (by omega)]
     split
     . exact ⟨_,_,_,rfl⟩
     . exact ⟨_,_,_,rfl⟩
 have hP : Pks V10 (fun b=>(r <= b /\ b <= r + 9) ∨ b = kg) (.slice none 0 0) []:=⟨⟨_,_,rfl,fun h=>absurd h (by decide)⟩,by decide⟩
 have hI0 : ∀ nn,JInv D nn Js.zero (fun b=>(r <= b /\ b <= r + 9) ∨ b = kg) V10:=fun nn=>by
   subst hD
   refine ⟨jok_zero _,fun b h1 h2=>.inl ⟨h1,h2⟩,.inr rfl,by show kg < r; omega,hl1,hl5,⟨.slice none 0 0,⟨by rw [hks]; exact g0,g1,g3,g4,g6,?_,g8,g9,fun j hj=>⟨k10.cell (hky j hj).1,k10.cell (hky j hj).2⟩,(k10.keep _ hkg).trans hkob⟩,fun h=>(by cases h)⟩,⟨.slice none 0 0,⟨cell_of g5 (by simp),by simp [World.frozen?,g5],cell_of g5 (by simp [Js.zero]),by simp [World.frozen?,g5],⟨rfl,.inl ⟨rfl,rfl⟩⟩,fun b h=>(by cases h),fun h=>(by cases h),.inl ⟨by show r <= r + 5; omega,by show r + 5 <= r + 9; omega⟩⟩,fun b h=>(by cases h)⟩,⟨#[],0,[],g2,Mp.nil,⟨fun e he=>(by simp at he),by simp⟩,rfl,fun h=>absurd h.1 (by decide)⟩⟩
   have e0 : jsm ⟨r,kg,ko,kc,ks,v,kob⟩ 0 0 = 0:=by
     unfold jsm
     split <;> decide
   show V10.heap[r + 7]? = some (.cells #[.int .i64 (jsm ⟨r,kg,ko,kc,ks,v,kob⟩ 0 0)] 3 (0,0))
   rw [e0]
   exact g7
 refine run_go (U:=fun C=>Ufj D C) (σ0:=fun _=>Js.zero) (own0:=fun b=>(r <= b /\ b <= r + 9) ∨ b = kg) (Rn:=200) M.nrm hF (by rw [hfl]; omega) L10.z (fun b h=>by rcases h with h | h <;> omega) hP.u (by decide) rfl (fun C E hO hCn hf=>?_) (fun C hCn i hi=>?_) (fun C hCn=>hI0 _) fun C σ' xs' Z' V11 ov ovr pkr own' hCn he A=>?_
 . rw [hfl] at hCn
   refine ufj_ok hO (by omega) ?_ fun i h1 hi=>?_
   . rw [hf 0,jfs_get (by omega),if_pos rfl]
     subst hD
     rfl
   . rw [hf i,jfs_get (by omega),if_neg h1]
     subst hD
     rfl
 . rw [hfl] at hi
   show Js.st Js.zero i = st0 (jfs r m) i
   unfold st0
   rw [jfs_get hi]
   have e1 : Js.st Js.zero i = 0:=by
     unfold Js.st
     split <;> rfl
   rw [e1]
   by_cases e : i = 0
   . rw [if_pos e]; rfl
   . rw [if_neg e]; rfl
 -- behind Run
 rw [hfl] at hCn he
 have hσ : σ' = (jrnds (m + 1) 200 (Js.zero,[])).1:=by
   have h1:=congrArg Prod.fst (he.trans (ujr D C (m + 1) 200 (Js.zero,[])))
   exact h1
 obtain ⟨hp,hsa,hsz,hst⟩:=jrun_all hm7 σ' hσ
 have I : JInv D C.n σ' own' V11:=A.inv
 have hn11:=A.nrm
 obtain ⟨un,AJ,hU⟩:=I.jm
 obtain ⟨g,c,kl,hun,og,gr,RK,hlen,hA⟩:=hU hp
 subst hun
 obtain ⟨es,clk,mp,y0,hmp,hmb,hmk,-⟩:=I.mp
 have hDr : D.r = r:=by rw [hD]
 have hDk : D.ks = ks:=by rw [hD]
 have hD1 : 1 <= D.ks.length:=by rw [hDk]; exact hl1
 have hD5 : D.ks.length <= 5:=by rw [hDk]; exact hl5
 have eb : bgn D σ'.p = (kl.length : Int):=by
   unfold bgn
   rw [if_neg (by omega),hlen]
 have es' : jsm D σ'.a σ'.z = (m : Int):=by
   rw [hsa,hsz]
   unfold jsm
   split <;> (rw [IntKind.wrap_i64]; omega)
 rw [eb,es',hst] at AJ
 have hjk : jkeys D σ'.p = (ded D.ks).tail:=by
   unfold jkeys
   rw [if_neg (by omega),if_neg (by omega)]
 have hno:=jk_no (D:=D) (p:=σ'.p) hD1 (by omega)
 rw [hjk] at hmk hno
 have hmd : (mp.map (·.1)).Nodup:=by rw [hmk]; exact (ded_nodup D.ks).sublist (List.tail_sublist _)
 obtain ⟨l,hded⟩:=ded_head hD1
 have hmL : mp.length + 1 = kl.length:=by
   have h1:=congrArg List.length hmk
   rw [List.length_map,hded] at h1
   rw [hlen,hded,h1]
   rfl
 have hkl5 : kl.length <= 5:=by have:=ded_len D.ks; omega
 have k11 : Kp V V11:=⟨by have:=A.big; have:=k10.size; omega,fun b hb=>by
   by_cases e : b = kg
   . have h1:=AJ.kh
     subst hD
     rw [e]
     exact h1.trans hkob.symm
   . rw [A.keep b (by have:=k10.size; omega) (fun h=>by rcases h with h | h <;> omega)]
     exact k10.keep b hb⟩
 have L11:=L.next hn11 A.shut (fun b hb=>A.zold b (by have:=k10.size; omega)) k11
 have hfix : ∀ b,D.fix b -> b < V11.heap.size:=fun b hb=>(A.own b (I.fo b hb)).1
 have hk0 : kpos D.k0 mp 0 = none:=kpos_no (hmk ▸ hno)
 have hT13 : Fg 126 [(3,.pointer (some ⟨r,0,none⟩)),(5,.pointer (some ⟨r + 1,0,none⟩)),(7,.int .i64 (m : Int)),(8,.pointer (some ⟨r + 4,0,none⟩)),(9,.pointer (some ⟨r + 5,0,none⟩)),(10,.pointer (some ⟨r + 6,0,none⟩)),(11,.pointer (some ⟨r + 7,0,none⟩)),(12,.pointer (some ⟨r + 8,0,none⟩)),(13,.pointer (some ⟨r + 9,0,none⟩))] (T12.setIfInBounds 44 (.tuple #[.agg #[ov,ovr,pkr],.int .i64 0])):=by
   obtain ⟨hs,h3,h5,h7,h8,h9,h10,h11,h12,h13,-⟩:=hT12
   refine ⟨by rw [Array.size_setIfInBounds]; exact hs,?_,?_,?_,?_,?_,?_,?_,?_,?_,trivial⟩ <;> (rw [Array.getElem?_setIfInBounds_ne (by decide)]; assumption)
 clear A I he hF hP hI0 hT12
 have hM : MarkK Try.prog true Z' (fun d g V=>To0d Try.prog (LPost W) Z' d V g):=markTo0
 obtain ⟨KK,eKK⟩ : ∃ KK : Nat -> Goroutine -> World -> Prop,KK = fun d g V=>To0d Try.prog (LPost W) Z' d V g:=⟨_,rfl⟩
 have hKK : ∀ g V,KK 0 g V -> To0 Try.prog (LPost W) Z' V g:=fun g V h=>by rw [eKK] at h; exact h
 have hKK' : ∀ g V,To0 Try.prog (LPost W) Z' V g -> KK 0 g V:=fun g V h=>by rw [eKK]; exact h
 rw [← eKK] at hM
 clear eKK
 refine hKK _ _ ?_
 have hd : ((vo14[1]?).bind (·.dst)) = some 44:=by kernel_rfl
 rw [hd]
 refine mu_region_end (K:=fun g=>KK 0 g V11) hM.mu ?_
 rw [vX15_eq]
 refine mu_seq hM.mu (mu_seq hM.mu ?_)
 have hTD : PQJ200 D m (T12.setIfInBounds 44 (.tuple #[.agg #[ov,ovr,pkr],.int .i64 0])):=by
   have h:=hT13
   rw [← hDr] at h
   exact h
 refine z_r15 (nu:=kl.length) hM hn11 AJ hD1 hD5 (by omega) hfix y0 hmp hmb hmd (by omega) rfl hmL hk0 hTD fun T2 V2 n2 k2 hT2 h78=>?_
 refine mu_cond hM.mu false (cond_atK h78) (mu_skip hM.mu ?_)
 rw [vX17_eq]
 refine mu_seq hM.mu (mu_seq hM.mu ?_)
 obtain ⟨hs2,-,-,-,-,-,-,-,-,h13,-⟩:=hT2
 refine z_r17 (D:=D) hM n2 ⟨hs2,h13,trivial⟩ fun T3 hT3=>?_
 refine mu_block hM.mu (mu_loop hM.mu ?_)
 have RK2:=RK.keep (k2.keep g RK.lt)
 have e_u:=(k2.keep _ (hfix _ (.inr ⟨by omega,by omega,by omega,by omega⟩))).trans AJ.u
 refine z_loop (D:=D) (nu:=kl.length) hM n2 (by omega) RK2 rfl hA e_u (fun T4 hs4=>?_) (kl.length - 1) 1 T3 (by omega) (by omega) (by omega) hT3
 refine hKK' _ _ ?_
 exact z_live2 (L11.same n2 k2) hs4
end
end
end Go.Proofs.Ytibcdikfbhmheaa
