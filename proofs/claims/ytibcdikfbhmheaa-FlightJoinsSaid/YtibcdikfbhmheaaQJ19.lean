import Derived.Test.YtibcdikfbhmheaaQJ17
import Derived.Test.YtibcdikfbhmheaaQJ18
set_option linter.unusedSimpArgs false
set_option linter.unusedVariables false
set_option maxRecDepth 100000
set_option maxHeartbeats 4000000
namespace Go.Proofs.Ytibcdikfbhmheaa
open Go Go.Conc Go.Proofs
noncomputable section
theorem array126f (T : Array Value) (h : T.size = 126) : ∃ f : Nat -> Value,(∀ i v,T[i]? = some v -> f i = v) /\ T = #[f 0,f 1,f 2,f 3,f 4,f 5,f 6,f 7,f 8,f 9,f 10,f 11,f 12,f 13,f 14,f 15,f 16,f 17,f 18,f 19,f 20,f 21,f 22,f 23,f 24,f 25,f 26,f 27,f 28,f 29,f 30,f 31,f 32,f 33,f 34,f 35,f 36,f 37,f 38,f 39,f 40,f 41,f 42,f 43,f 44,f 45,f 46,f 47,f 48,f 49,f 50,f 51,f 52,f 53,f 54,f 55,f 56,f 57,f 58,f 59,f 60,f 61,f 62,f 63,f 64,f 65,f 66,f 67,f 68,f 69,f 70,f 71,f 72,f 73,f 74,f 75,f 76,f 77,f 78,f 79,f 80,f 81,f 82,f 83,f 84,f 85,f 86,f 87,f 88,f 89,f 90,f 91,f 92,f 93,f 94,f 95,f 96,f 97,f 98,f 99,f 100,f 101,f 102,f 103,f 104,f 105,f 106,f 107,f 108,f 109,f 110,f 111,f 112,f 113,f 114,f 115,f 116,f 117,f 118,f 119,f 120,f 121,f 122,f 123,f 124,f 125]:=arrg T h
noncomputable def vB : Code:=Try.f15.body.getD .skip
def v0 : Code:=nva vB
def vX1 : Code:=nvb vB
def v1 : Code:=nva (nva vX1)
def vw2 : Code:=nvc (nvb (nva vX1))
def vX3 : Code:=nvb vX1
def v3 : Code:=nva vX3
def vX4 : Code:=nvb vX3
def v4 : Code:=nva vX4
def vX5 : Code:=nvb vX4
def v5 : Code:=nva vX5
def vX6 : Code:=nvb vX5
def v6 : Code:=nva vX6
def vX7 : Code:=nvb vX6
def v7 : Code:=nva vX7
def vX8 : Code:=nvb vX7
def v8 : Code:=nva vX8
def vX9 : Code:=nvb vX8
def v9 : Code:=nva vX9
def vX10 : Code:=nvb vX9
def v10 : Code:=nva (nva vX10)
def vL : Code:=nvl (nvk (nvb (nva vX10)))
def v11 : Code:=nva (nva vL)
def v13 : Code:=nvk (nva (nvb vL))
def v12 : Code:=nvb (nvb vL)
def vX14 : Code:=nvb vX10
def v14 : Code:=nva vX14
def vX15 : Code:=nvb vX14
def vo14 : Array Oper:=rops v14
theorem vB_eq : vB = .seq v0 (.seq (.seq v1 (.cond (.tmp 25) vw2 .skip)) (.seq v3 (.seq v4 (.seq v5 (.seq v6 (.seq v7 (.seq v8 (.seq v9 (.seq (.seq v10 (.block 0 (.loop vL))) (.seq v14 vX15)))))))))):=by kernel_rfl
theorem vL_eq : vL = .seq (.seq v11 (.cond (.tmp 36) .skip (.exit 0))) (.seq (.block 1 v13) v12):=by kernel_rfl
section
variable {main : Bool} {Z : Cuts} {KK : Nat -> Goroutine -> World -> Prop} {d : Nat} {V : World} {kt : List Item} {cs : List Frame} {a m n r k i kc fc : Nat} {v : Int} {ka fa : Option Addr} {T : Array Value}
theorem foQJ19126 {l : List (Nat × Value)} {T : Array Value} (hT : Fg 126 l T) {A : Prop} {B : (Nat -> Value) -> Prop} (h : ∀ f,B f) (w : Hd (∀ f,B f) -> A:=by
 intro k
 have hs:=And.left hT
 have h2:=And.right hT
 obtain ⟨f,hf,e⟩:=array126f T hs
 rw [e]
 repeat (obtain ⟨h1,h2⟩:=h2;simp only [hf _ _ h1];clear h1)
 exact k.h f) : A:=w ⟨h⟩
def PQJ193 (a : Nat) (r : Nat) : Array Value -> Prop:=Fg 126 [(1,.int .u8 (a : Int)),(3,.pointer (some ⟨r,0,none⟩)),(5,.pointer (some ⟨r + 1,0,none⟩)),(6,.bool false)]
theorem y_r0 (hM : MarkK Try.prog main Z KK) (hn : norm V = V) (sV : V.heap.size = r) (hT : Fg 126 [(0,.slice ka n kc),(1,.int .u8 (a : Int)),(2,.int .i64 v)] T) (K : ∀ T' V',norm V' = V' -> Kp V V' -> V'.heap.size = r + 2 -> V'.heap[r]? = some (.cells #[.slice ka n kc] 143 (0,0)) -> V'.heap[r + 1]? = some (.cells #[.int .i64 v] 3 (0,0)) -> (PQJ193 a r) T' -> KK d (G ((base 15).at ⟨T',[]⟩ (kt)) cs) V') : KK d (G ((base 15).at ⟨T,[]⟩ (.code v0 :: kt)) cs) V:=by
 have hK0:=K
 clear K
 have kp : Kp V V:=⟨Nat.le_refl _,fun _ _=>rfl⟩
 refine foQJ19126 hT fun f=>?_
 generalize hX0 : v0 = X0
 simp only [v0,vB,nva,Try.f15,Option.getD_some] at hX0
 subst hX0
 refine wM hM hn fun kk hkk=>?_
 refine hM.al hn #[.slice ka n kc] 143 (.pointer (some ⟨V.heap.size,0,none⟩)) rfl rfl fun U1 hnU1 kU1 sU1 Bk=>?_
 rw [sV] at sU1 Bk ⊢
 have lU1 : V.heap.size <= U1.heap.size:=by omega
 replace kp:=kp.upA lU1 kU1
 clear kU1 lU1
 walk_nrm
 refine wM hM hnU1 fun kk hkk=>?_
 refine hM.al hnU1 #[.int .i64 v] 3 (.pointer (some ⟨U1.heap.size,0,none⟩)) rfl rfl fun U2 hnU2 kU2 sU2 Bv=>?_
 rw [sU1] at sU2 Bv ⊢
 have lU2 : U1.heap.size <= U2.heap.size:=by omega
 replace kp:=kp.upA lU2 kU2
 replace Bk:=(kU2 _ (glt Bk) (by omega)).trans Bk
 clear kU2 lU2
 walk_nrm
 refine wM hM hnU2 fun kk hkk=>?_
 try subst hkk
 exact hK0 _ U2 hnU2 kp sU2 Bk Bv fgm
theorem y_r1a (hM : MarkK Try.prog main Z KK) (hn : norm V = V) (e_k : V.heap[r]? = some (.cells #[.slice ka n kc] 143 (0,0))) (h0 : n = 0) (hT : (PQJ193 a r) T) (K : ∀ T',(PQJ193 a r) T' -> T'[25]? = some (.bool true) -> KK d (G ((base 15).at ⟨T',[]⟩ (kt)) cs) V) : KK d (G ((base 15).at ⟨T,[]⟩ (.code v1 :: kt)) cs) V:=by
 have hK0:=K
 clear K
 have q_k:=qc 0 e_k rfl
 subst h0
 refine foQJ19126 hT fun f=>?_
 generalize hX0 : v1 = X0
 simp only [v1,vX1,vB,nva,nvb,Try.f15,Option.getD_some] at hX0
 subst hX0
 refine wM hM hn fun kk hkk=>?_
 try subst hkk
 exact hK0 _ fgm (by simp <;> omega)
theorem y_r1b (hM : MarkK Try.prog main Z KK) (hn : norm V = V) (e_k : V.heap[r]? = some (.cells #[.slice ka n kc] 143 (0,0))) (h0 : 5 < n) (hT : (PQJ193 a r) T) (K : ∀ T',(PQJ193 a r) T' -> T'[25]? = some (.bool true) -> KK d (G ((base 15).at ⟨T',[]⟩ (kt)) cs) V) : KK d (G ((base 15).at ⟨T,[]⟩ (.code v1 :: kt)) cs) V:=by
 have hK0:=K
 clear K
 have q_k:=qc 0 e_k rfl
 have p1 : ¬ ((n : Int) < 1):=by omega
 have p2 : (5 : Int) < (n : Int):=by omega
 refine foQJ19126 hT fun f=>?_
 generalize hX0 : v1 = X0
 simp only [v1,vX1,vB,nva,nvb,Try.f15,Option.getD_some] at hX0
 subst hX0
 refine wM hM hn fun kk hkk=>?_
 try subst hkk
 exact hK0 _ fgm (by simp <;> omega)
theorem y_r1c (hM : MarkK Try.prog main Z KK) (hn : norm V = V) (e_k : V.heap[r]? = some (.cells #[.slice ka n kc] 143 (0,0))) (h1 : 1 <= n) (h5 : n <= 5) (hT : (PQJ193 a r) T) (K : ∀ T',(PQJ193 a r) T' -> T'[25]? = some (.bool false) -> KK d (G ((base 15).at ⟨T',[]⟩ (kt)) cs) V) : KK d (G ((base 15).at ⟨T,[]⟩ (.code v1 :: kt)) cs) V:=by
 have hK0:=K
 clear K
 have q_k:=qc 0 e_k rfl
 have p1 : ¬ ((n : Int) < 1):=by omega
 have p2 : ¬ ((5 : Int) < (n : Int)):=by omega
 refine foQJ19126 hT fun f=>?_
 generalize hX0 : v1 = X0
 simp only [v1,vX1,vB,nva,nvb,Try.f15,Option.getD_some] at hX0
 subst hX0
 refine wM hM hn fun kk hkk=>?_
 try subst hkk
 exact hK0 _ fgm (by simp <;> omega)
def PQJ197 (r : Nat) (m : Nat) : Array Value -> Prop:=Fg 126 [(3,.pointer (some ⟨r,0,none⟩)),(5,.pointer (some ⟨r + 1,0,none⟩)),(7,.int .i64 (m : Int))]
theorem y_r3 (hM : MarkK Try.prog main Z KK) (hn : norm V = V) (ha : a < 256) (hr : a % 7 = m) (hT : (PQJ193 a r) T) (K : ∀ T',(PQJ197 r m) T' -> KK d (G ((base 15).at ⟨T',[]⟩ (kt)) cs) V) : KK d (G ((base 15).at ⟨T,[]⟩ (.code v3 :: kt)) cs) V:=by
 have hK0:=K
 clear K
 have w1 : IntKind.i64.wrap (a : Int) = (a : Int):=by rw [IntKind.wrap_i64]; omega
 have w0 : (a : Int).tmod 7 = (m : Int):=by rw [Int.tmod_eq_emod_of_nonneg (by omega),← hr]; simp
 have w2 : IntKind.i64.wrap (m : Int) = (m : Int):=by rw [IntKind.wrap_i64]; omega
 clear hr
 refine foQJ19126 hT fun f=>?_
 generalize hX0 : v3 = X0
 simp only [v3,vX3,vX1,vB,nva,nvb,Try.f15,Option.getD_some] at hX0
 subst hX0
 refine wM hM hn fun kk hkk=>?_
 try subst hkk
 exact hK0 _ fgm
def PQJ196 (r : Nat) (m : Nat) : Array Value -> Prop:=Fg 126 [(3,.pointer (some ⟨r,0,none⟩)),(5,.pointer (some ⟨r + 1,0,none⟩)),(7,.int .i64 (m : Int)),(8,.pointer (some ⟨r + 4,0,none⟩))]
theorem y_r4 (hM : MarkK Try.prog main Z KK) (hn : norm V = V) (sV : V.heap.size = r + 2) (hT : (PQJ197 r m) T) (K : ∀ T' V',norm V' = V' -> Kp V V' -> V'.heap.size = r + 5 -> V'.heap[r + 2]? = some (.map #[] 0) -> V'.heap[r + 3]? = some (.cells #[.map (some (r + 2))] 190 (0,0)) -> V'.heap[r + 4]? = some (.cells #[.pointer (some ⟨r + 3,0,none⟩)] 130 (0,0)) -> (PQJ196 r m) T' -> KK d (G ((base 15).at ⟨T',[]⟩ (kt)) cs) V') : KK d (G ((base 15).at ⟨T,[]⟩ (.code v4 :: kt)) cs) V:=by
 have hK0:=K
 clear K
 refine foQJ19126 hT fun f=>?_
 generalize hX0 : v4 = X0
 simp only [v4,vX4,vX3,vX1,vB,nva,nvb,Try.f15,Option.getD_some] at hX0
 subst hX0
 refine wM hM hn fun kk hkk=>?_
 refine hM.cl rfl rfl rfl Try.func60 rfl ?_
 walk_nrm
 refine new_go hM hn fun V1 n1 k1 s1 e_m e_g=>?_
 rw [sV] at s1 e_m e_g ⊢
 have e_g3 : V1.heap[r + 3]? = some (.cells #[.map (some (r + 2))] 190 (0,0)):=e_g
 have kp:=k1
 have sV1 : V1.heap.size = r + 4:=s1
 have ea : r + 2 + 1 = r + 3:=rfl
 rw [ea]
 clear k1 s1 e_g ea
 walk_nrm
 refine wM hM n1 fun kk hkk=>?_
 refine hM.al n1 #[.pointer none] 130 (.pointer (some ⟨V1.heap.size,0,none⟩)) rfl rfl fun U1 hnU1 kU1 sU1 X=>?_
 rw [sV1] at sU1 X ⊢
 have lU1 : V1.heap.size <= U1.heap.size:=by omega
 replace kp:=kp.upA lU1 kU1
 replace e_g3:=(kU1 _ (glt e_g3) (by omega)).trans e_g3
 replace e_m : U1.heap[r + 2]? = some (.map #[] 0):=(kU1 (r + 2) (Array.getElem?_eq_some_iff.1 e_m).1 (by omega)).trans e_m
 clear kU1 lU1
 walk_nrm
 have r_X_0:=qc 0 X rfl
 have z_X_0:=qz 0 X
 have hnU2:=norm_set hnU1 ⟨r + 4,0,none⟩ (.pointer (some ⟨r + 3,0,none⟩))
 refine mus_put (L:=Lone) (hM.mus hnU2) (K:=fun g=>KK d g U1) (K':=fun g=>KK d g (U1.setCell ⟨r + 4,0,none⟩ (.pointer (some ⟨r + 3,0,none⟩)))) rfl (.inl rfl) rfl (by kernel_rfl) (fun τ=>?_) ?_
 . go_simp
   try rfl
 have kU2:=sc_kp U1 (r + 4) 0 (.pointer (some ⟨r + 3,0,none⟩))
 have lU2:=sc_le U1 (r + 4) 0 (.pointer (some ⟨r + 3,0,none⟩))
 have eU2 : (U1.setCell ⟨r + 4,0,none⟩ (.pointer (some ⟨r + 3,0,none⟩))).heap[r + 4]? = some (.cells #[.pointer (some ⟨r + 3,0,none⟩)] 130 (0,0)):=by
   rw [setCell_heap,if_pos rfl,X]
   simp
 have sU2 : (U1.setCell ⟨r + 4,0,none⟩ (.pointer (some ⟨r + 3,0,none⟩))).heap.size = r + 5:=by
   rw [show (U1.setCell ⟨r + 4,0,none⟩ (.pointer (some ⟨r + 3,0,none⟩))).heap.size = U1.heap.size by simp [World.setCell]]
   exact sU1
 generalize (U1.setCell ⟨r + 4,0,none⟩ (.pointer (some ⟨r + 3,0,none⟩))) = U2 at *
 replace X:=eU2
 clear eU2
 clear r_X_0 z_X_0
 replace kp:=kp.upB lU2 kU2
 replace e_g3:=(kU2 _ (glt e_g3) (by omega)).trans e_g3
 replace e_m : U2.heap[r + 2]? = some (.map #[] 0):=(kU2 (r + 2) (Array.getElem?_eq_some_iff.1 e_m).1 (by omega)).trans e_m
 clear kU2
 walk_nrm
 refine wM hM hnU2 fun kk hkk=>?_
 try subst hkk
 exact hK0 _ U2 hnU2 kp sU2 e_m e_g3 X fgm
def PQJ195 (r : Nat) (m : Nat) : Array Value -> Prop:=Fg 126 [(3,.pointer (some ⟨r,0,none⟩)),(5,.pointer (some ⟨r + 1,0,none⟩)),(7,.int .i64 (m : Int)),(8,.pointer (some ⟨r + 4,0,none⟩)),(9,.pointer (some ⟨r + 5,0,none⟩))]
theorem y_r5 (hM : MarkK Try.prog main Z KK) (hn : norm V = V) (sV : V.heap.size = r + 5) (hT : (PQJ196 r m) T) (K : ∀ T' V',norm V' = V' -> Kp V V' -> V'.heap.size = r + 6 -> V'.heap[r + 5]? = some (.cells #[.slice none 0 0,.int .i64 0] 95 (0,0)) -> (PQJ195 r m) T' -> KK d (G ((base 15).at ⟨T',[]⟩ (kt)) cs) V') : KK d (G ((base 15).at ⟨T,[]⟩ (.code v5 :: kt)) cs) V:=by
 have hK0:=K
 clear K
 have kp : Kp V V:=⟨Nat.le_refl _,fun _ _=>rfl⟩
 refine foQJ19126 hT fun f=>?_
 generalize hX0 : v5 = X0
 simp only [v5,vX5,vX4,vX3,vX1,vB,nva,nvb,Try.f15,Option.getD_some] at hX0
 subst hX0
 refine wM hM hn fun kk hkk=>?_
 refine hM.al hn #[.slice none 0 0,.int .i64 0] 95 (.pointer (some ⟨V.heap.size,0,none⟩)) rfl rfl fun U1 hnU1 kU1 sU1 M=>?_
 rw [sV] at sU1 M ⊢
 have lU1 : V.heap.size <= U1.heap.size:=by omega
 replace kp:=kp.upA lU1 kU1
 clear kU1 lU1
 walk_nrm
 refine wM hM hnU1 fun kk hkk=>?_
 try subst hkk
 exact hK0 _ U1 hnU1 kp sU1 M fgm
def PQJ194 (r : Nat) (m : Nat) : Array Value -> Prop:=Fg 126 [(3,.pointer (some ⟨r,0,none⟩)),(5,.pointer (some ⟨r + 1,0,none⟩)),(7,.int .i64 (m : Int)),(8,.pointer (some ⟨r + 4,0,none⟩)),(9,.pointer (some ⟨r + 5,0,none⟩)),(10,.pointer (some ⟨r + 6,0,none⟩)),(11,.pointer (some ⟨r + 7,0,none⟩)),(12,.pointer (some ⟨r + 8,0,none⟩))]
theorem y_r6 (hM : MarkK Try.prog main Z KK) (hn : norm V = V) (sV : V.heap.size = r + 6) (hT : (PQJ195 r m) T) (K : ∀ T' V',norm V' = V' -> Kp V V' -> V'.heap.size = r + 9 -> V'.heap[r + 6]? = some (.cells #[.int .i64 0] 3 (0,0)) -> V'.heap[r + 7]? = some (.cells #[.int .i64 0] 3 (0,0)) -> V'.heap[r + 8]? = some (.cells #[.int .i64 (-1)] 3 (0,0)) -> (PQJ194 r m) T' -> KK d (G ((base 15).at ⟨T',[]⟩ (kt)) cs) V') : KK d (G ((base 15).at ⟨T,[]⟩ (.code v6 :: kt)) cs) V:=by
 have hK0:=K
 clear K
 have kp : Kp V V:=⟨Nat.le_refl _,fun _ _=>rfl⟩
 refine foQJ19126 hT fun f=>?_
 generalize hX0 : v6 = X0
 simp only [v6,vX6,vX5,vX4,vX3,vX1,vB,nva,nvb,Try.f15,Option.getD_some] at hX0
 subst hX0
 refine wM hM hn fun kk hkk=>?_
 refine hM.al hn #[.int .i64 0] 3 (.pointer (some ⟨V.heap.size,0,none⟩)) rfl rfl fun U1 hnU1 kU1 sU1 B6=>?_
 rw [sV] at sU1 B6 ⊢
 have lU1 : V.heap.size <= U1.heap.size:=by omega
 replace kp:=kp.upA lU1 kU1
 clear kU1 lU1
 walk_nrm
 refine wM hM hnU1 fun kk hkk=>?_
 refine hM.al hnU1 #[.int .i64 0] 3 (.pointer (some ⟨U1.heap.size,0,none⟩)) rfl rfl fun U2 hnU2 kU2 sU2 B7=>?_
 rw [sU1] at sU2 B7 ⊢
 have lU2 : U1.heap.size <= U2.heap.size:=by omega
 replace kp:=kp.upA lU2 kU2
 replace B6:=(kU2 _ (glt B6) (by omega)).trans B6
 clear kU2 lU2
 walk_nrm
 refine wM hM hnU2 fun kk hkk=>?_
 refine hM.al hnU2 #[.int .i64 0] 3 (.pointer (some ⟨U2.heap.size,0,none⟩)) rfl rfl fun U3 hnU3 kU3 sU3 B8=>?_
 rw [sU2] at sU3 B8 ⊢
 have lU3 : U2.heap.size <= U3.heap.size:=by omega
 replace kp:=kp.upA lU3 kU3
 replace B6:=(kU3 _ (glt B6) (by omega)).trans B6
 replace B7:=(kU3 _ (glt B7) (by omega)).trans B7
 clear kU3 lU3
 walk_nrm
 obtain ⟨K,hK,hV,key,yek⟩:=kKV (L:=Lone) (J:=fun g=>KK d g U3) hM.mu (hM.muv hnU3)
 refine key _ ?_
 refine wA fun kk hkk=>?_
 have r_B6_0:=qc 0 B6 rfl
 have z_B6_0:=qz 0 B6
 refine yek _ ?_
 clear hK hV key yek K
 have hnU4:=norm_set hnU3 ⟨r + 6,0,none⟩ (.int .i64 0)
 refine mus_put (L:=Lone) (hM.mus hnU4) (K:=fun g=>KK d g U3) (K':=fun g=>KK d g (U3.setCell ⟨r + 6,0,none⟩ (.int .i64 0))) rfl (.inl rfl) rfl (by kernel_rfl) (fun τ=>?_) ?_
 . go_simp
   try rfl
 have kU4:=sc_kp U3 (r + 6) 0 (.int .i64 0)
 have lU4:=sc_le U3 (r + 6) 0 (.int .i64 0)
 have eU4 : (U3.setCell ⟨r + 6,0,none⟩ (.int .i64 0)).heap[r + 6]? = some (.cells #[.int .i64 0] 3 (0,0)):=by
   rw [setCell_heap,if_pos rfl,B6]
   simp
 have sU4 : (U3.setCell ⟨r + 6,0,none⟩ (.int .i64 0)).heap.size = r + 9:=by
   rw [show (U3.setCell ⟨r + 6,0,none⟩ (.int .i64 0)).heap.size = U3.heap.size by simp [World.setCell]]
   exact sU3
 generalize (U3.setCell ⟨r + 6,0,none⟩ (.int .i64 0)) = U4 at *
 replace B6:=eU4
 clear eU4
 clear r_B6_0 z_B6_0
 replace kp:=kp.upB lU4 kU4
 replace B7:=(kU4 _ (glt B7) (by omega)).trans B7
 replace B8:=(kU4 _ (glt B8) (by omega)).trans B8
 clear kU4
 walk_nrm
 obtain ⟨K,hK,hV,key,yek⟩:=kKV (L:=Lone) (J:=fun g=>KK d g U4) hM.mu (hM.muv hnU4)
 refine key _ ?_
 refine wA fun kk hkk=>?_
 have r_B7_0:=qc 0 B7 rfl
 have z_B7_0:=qz 0 B7
 refine yek _ ?_
 clear hK hV key yek K
 have hnU5:=norm_set hnU4 ⟨r + 7,0,none⟩ (.int .i64 0)
 refine mus_put (L:=Lone) (hM.mus hnU5) (K:=fun g=>KK d g U4) (K':=fun g=>KK d g (U4.setCell ⟨r + 7,0,none⟩ (.int .i64 0))) rfl (.inl rfl) rfl (by kernel_rfl) (fun τ=>?_) ?_
 . go_simp
   try rfl
 have kU5:=sc_kp U4 (r + 7) 0 (.int .i64 0)
 have lU5:=sc_le U4 (r + 7) 0 (.int .i64 0)
 have eU5 : (U4.setCell ⟨r + 7,0,none⟩ (.int .i64 0)).heap[r + 7]? = some (.cells #[.int .i64 0] 3 (0,0)):=by
   rw [setCell_heap,if_pos rfl,B7]
   simp
 have sU5 : (U4.setCell ⟨r + 7,0,none⟩ (.int .i64 0)).heap.size = r + 9:=by
   rw [show (U4.setCell ⟨r + 7,0,none⟩ (.int .i64 0)).heap.size = U4.heap.size by simp [World.setCell]]
   exact sU4
 generalize (U4.setCell ⟨r + 7,0,none⟩ (.int .i64 0)) = U5 at *
 replace B7:=eU5
 clear eU5
 clear r_B7_0 z_B7_0
 replace kp:=kp.upB lU5 kU5
 replace B6:=(kU5 _ (glt B6) (by omega)).trans B6
 replace B8:=(kU5 _ (glt B8) (by omega)).trans B8
 clear kU5
 walk_nrm
 obtain ⟨K,hK,hV,key,yek⟩:=kKV (L:=Lone) (J:=fun g=>KK d g U5) hM.mu (hM.muv hnU5)
 refine key _ ?_
 refine wA fun kk hkk=>?_
 have r_B8_0:=qc 0 B8 rfl
 have z_B8_0:=qz 0 B8
 refine yek _ ?_
 clear hK hV key yek K
 have hnU6:=norm_set hnU5 ⟨r + 8,0,none⟩ (.int .i64 (-1))
 refine mus_put (L:=Lone) (hM.mus hnU6) (K:=fun g=>KK d g U5) (K':=fun g=>KK d g (U5.setCell ⟨r + 8,0,none⟩ (.int .i64 (-1)))) rfl (.inl rfl) rfl (by kernel_rfl) (fun τ=>?_) ?_
 . go_simp
   try rfl
 have kU6:=sc_kp U5 (r + 8) 0 (.int .i64 (-1))
 have lU6:=sc_le U5 (r + 8) 0 (.int .i64 (-1))
 have eU6 : (U5.setCell ⟨r + 8,0,none⟩ (.int .i64 (-1))).heap[r + 8]? = some (.cells #[.int .i64 (-1)] 3 (0,0)):=by
   rw [setCell_heap,if_pos rfl,B8]
   simp
 have sU6 : (U5.setCell ⟨r + 8,0,none⟩ (.int .i64 (-1))).heap.size = r + 9:=by
   rw [show (U5.setCell ⟨r + 8,0,none⟩ (.int .i64 (-1))).heap.size = U5.heap.size by simp [World.setCell]]
   exact sU5
 generalize (U5.setCell ⟨r + 8,0,none⟩ (.int .i64 (-1))) = U6 at *
 replace B8:=eU6
 clear eU6
 clear r_B8_0 z_B8_0
 replace kp:=kp.upB lU6 kU6
 replace B6:=(kU6 _ (glt B6) (by omega)).trans B6
 replace B7:=(kU6 _ (glt B7) (by omega)).trans B7
 clear kU6
 walk_nrm
 refine wM hM hnU6 fun kk hkk=>?_
 try subst hkk
 exact hK0 _ U6 hnU6 kp sU6 B6 B7 B8 fgm
def PQJ192 (r : Nat) (m : Nat) : Array Value -> Prop:=Fg 126 [(3,.pointer (some ⟨r,0,none⟩)),(5,.pointer (some ⟨r + 1,0,none⟩)),(7,.int .i64 (m : Int)),(8,.pointer (some ⟨r + 4,0,none⟩)),(9,.pointer (some ⟨r + 5,0,none⟩)),(10,.pointer (some ⟨r + 6,0,none⟩)),(11,.pointer (some ⟨r + 7,0,none⟩)),(12,.pointer (some ⟨r + 8,0,none⟩)),(13,.pointer (some ⟨r + 9,0,none⟩))]
theorem y_r7 (hM : MarkK Try.prog main Z KK) (hn : norm V = V) (sV : V.heap.size = r + 9) (hT : (PQJ194 r m) T) (K : ∀ T' V',norm V' = V' -> Kp V V' -> V'.heap.size = r + 10 -> V'.heap[r + 9]? = some (.cells #[.slice none 0 0] 143 (0,0)) -> (PQJ192 r m) T' -> KK d (G ((base 15).at ⟨T',[]⟩ (kt)) cs) V') : KK d (G ((base 15).at ⟨T,[]⟩ (.code v7 :: kt)) cs) V:=by
 have hK0:=K
 clear K
 have kp : Kp V V:=⟨Nat.le_refl _,fun _ _=>rfl⟩
 refine foQJ19126 hT fun f=>?_
 generalize hX0 : v7 = X0
 simp only [v7,vX7,vX6,vX5,vX4,vX3,vX1,vB,nva,nvb,Try.f15,Option.getD_some] at hX0
 subst hX0
 refine wM hM hn fun kk hkk=>?_
 refine hM.al hn #[.slice none 0 0] 143 (.pointer (some ⟨V.heap.size,0,none⟩)) rfl rfl fun U1 hnU1 kU1 sU1 B9=>?_
 rw [sV] at sU1 B9 ⊢
 have lU1 : V.heap.size <= U1.heap.size:=by omega
 replace kp:=kp.upA lU1 kU1
 clear kU1 lU1
 walk_nrm
 refine wM hM hnU1 fun kk hkk=>?_
 try subst hkk
 exact hK0 _ U1 hnU1 kp sU1 B9 fgm
def PQJ191 (r : Nat) (m : Nat) : Array Value -> Prop:=Fg 126 [(3,.pointer (some ⟨r,0,none⟩)),(5,.pointer (some ⟨r + 1,0,none⟩)),(7,.int .i64 (m : Int)),(8,.pointer (some ⟨r + 4,0,none⟩)),(9,.pointer (some ⟨r + 5,0,none⟩)),(10,.pointer (some ⟨r + 6,0,none⟩)),(11,.pointer (some ⟨r + 7,0,none⟩)),(12,.pointer (some ⟨r + 8,0,none⟩)),(13,.pointer (some ⟨r + 9,0,none⟩)),(14,.func (.func 66) #[] #[.pointer (some ⟨r + 5,0,none⟩),.pointer (some ⟨r,0,none⟩),.pointer (some ⟨r + 4,0,none⟩),.pointer (some ⟨r + 6,0,none⟩),.pointer (some ⟨r + 8,0,none⟩),.pointer (some ⟨r + 9,0,none⟩),.pointer (some ⟨r + 1,0,none⟩)])]
theorem y_r8 (hM : MarkK Try.prog main Z KK) (hn : norm V = V) (hT : (PQJ192 r m) T) (K : ∀ T',(PQJ191 r m) T' -> KK d (G ((base 15).at ⟨T',[]⟩ (kt)) cs) V) : KK d (G ((base 15).at ⟨T,[]⟩ (.code v8 :: kt)) cs) V:=by
 have hK0:=K
 clear K
 refine foQJ19126 hT fun f=>?_
 generalize hX0 : v8 = X0
 simp only [v8,vX8,vX7,vX6,vX5,vX4,vX3,vX1,vB,nva,nvb,Try.f15,Option.getD_some] at hX0
 subst hX0
 refine wM hM hn fun kk hkk=>?_
 try subst hkk
 exact hK0 _ fgm
theorem y_r9 (hM : MarkK Try.prog main Z KK) (hn : norm V = V) (sV : V.heap.size = r + 10) (hT : (PQJ191 r m) T) (K : ∀ T' V',norm V' = V' -> Kp V V' -> V'.heap.size = r + 11 -> V'.heap[r + 10]? = some (.cells #[.func (.func 66) #[] #[.pointer (some ⟨r + 5,0,none⟩),.pointer (some ⟨r,0,none⟩),.pointer (some ⟨r + 4,0,none⟩),.pointer (some ⟨r + 6,0,none⟩),.pointer (some ⟨r + 8,0,none⟩),.pointer (some ⟨r + 9,0,none⟩),.pointer (some ⟨r + 1,0,none⟩)]] 70 (0,0)) -> Fg 126 [(3,.pointer (some ⟨r,0,none⟩)),(5,.pointer (some ⟨r + 1,0,none⟩)),(7,.int .i64 (m : Int)),(8,.pointer (some ⟨r + 4,0,none⟩)),(9,.pointer (some ⟨r + 5,0,none⟩)),(10,.pointer (some ⟨r + 6,0,none⟩)),(11,.pointer (some ⟨r + 7,0,none⟩)),(12,.pointer (some ⟨r + 8,0,none⟩)),(13,.pointer (some ⟨r + 9,0,none⟩)),(15,.slice (some ⟨r + 10,0,none⟩) 1 1)] T' -> KK d (G ((base 15).at ⟨T',[]⟩ (kt)) cs) V') : KK d (G ((base 15).at ⟨T,[]⟩ (.code v9 :: kt)) cs) V:=by
 have hK0:=K
 clear K
 have kp : Kp V V:=⟨Nat.le_refl _,fun _ _=>rfl⟩
 refine foQJ19126 hT fun f=>?_
 generalize hX0 : v9 = X0
 simp only [v9,vX9,vX8,vX7,vX6,vX5,vX4,vX3,vX1,vB,nva,nvb,Try.f15,Option.getD_some] at hX0
 subst hX0
 refine wM hM hn fun kk hkk=>?_
 refine hM.al hn #[.func (.func 66) #[] #[.pointer (some ⟨r + 5,0,none⟩),.pointer (some ⟨r,0,none⟩),.pointer (some ⟨r + 4,0,none⟩),.pointer (some ⟨r + 6,0,none⟩),.pointer (some ⟨r + 8,0,none⟩),.pointer (some ⟨r + 9,0,none⟩),.pointer (some ⟨r + 1,0,none⟩)]] 70 (.slice (some ⟨V.heap.size,0,none⟩) 1 1) rfl rfl fun U1 hnU1 kU1 sU1 Ro=>?_
 rw [sV] at sU1 Ro ⊢
 have lU1 : V.heap.size <= U1.heap.size:=by omega
 replace kp:=kp.upA lU1 kU1
 clear kU1 lU1
 walk_nrm
 refine wM hM hnU1 fun kk hkk=>?_
 try subst hkk
 exact hK0 _ U1 hnU1 kp sU1 Ro fgm
theorem y_r10 (hM : MarkK Try.prog main Z KK) (hn : norm V = V) (hT : Fg 126 [(3,.pointer (some ⟨r,0,none⟩)),(5,.pointer (some ⟨r + 1,0,none⟩)),(7,.int .i64 (m : Int)),(8,.pointer (some ⟨r + 4,0,none⟩)),(9,.pointer (some ⟨r + 5,0,none⟩)),(10,.pointer (some ⟨r + 6,0,none⟩)),(11,.pointer (some ⟨r + 7,0,none⟩)),(12,.pointer (some ⟨r + 8,0,none⟩)),(13,.pointer (some ⟨r + 9,0,none⟩)),(15,.slice fa k fc)] T) (K : ∀ T',Fg 126 [(3,.pointer (some ⟨r,0,none⟩)),(5,.pointer (some ⟨r + 1,0,none⟩)),(7,.int .i64 (m : Int)),(8,.pointer (some ⟨r + 4,0,none⟩)),(9,.pointer (some ⟨r + 5,0,none⟩)),(10,.pointer (some ⟨r + 6,0,none⟩)),(11,.pointer (some ⟨r + 7,0,none⟩)),(12,.pointer (some ⟨r + 8,0,none⟩)),(13,.pointer (some ⟨r + 9,0,none⟩)),(15,.slice fa k fc),(16,.int .i64 ((0 : Nat) : Int))] T' -> KK d (G ((base 15).at ⟨T',[]⟩ (kt)) cs) V) : KK d (G ((base 15).at ⟨T,[]⟩ (.code v10 :: kt)) cs) V:=by
 have hK0:=K
 clear K
 refine foQJ19126 hT fun f=>?_
 generalize hX0 : v10 = X0
 simp only [v10,vX10,vX9,vX8,vX7,vX6,vX5,vX4,vX3,vX1,vB,nva,nvb,Try.f15,Option.getD_some] at hX0
 subst hX0
 refine wM hM hn fun kk hkk=>?_
 try subst hkk
 exact hK0 _ fgm
def PQJ190 (r : Nat) (m : Nat) (fa : Option Addr) (k : Nat) (fc : Nat) (i : Nat) : Array Value -> Prop:=Fg 126 [(3,.pointer (some ⟨r,0,none⟩)),(5,.pointer (some ⟨r + 1,0,none⟩)),(7,.int .i64 (m : Int)),(8,.pointer (some ⟨r + 4,0,none⟩)),(9,.pointer (some ⟨r + 5,0,none⟩)),(10,.pointer (some ⟨r + 6,0,none⟩)),(11,.pointer (some ⟨r + 7,0,none⟩)),(12,.pointer (some ⟨r + 8,0,none⟩)),(13,.pointer (some ⟨r + 9,0,none⟩)),(15,.slice fa k fc),(16,.int .i64 (i : Int))]
theorem y_r11 (hM : MarkK Try.prog main Z KK) (hn : norm V = V) (hT : (PQJ190 r m fa k fc i) T) (K : ∀ T',(PQJ190 r m fa k fc i) T' -> T'[36]? = some (.bool (decide (i < m))) -> KK d (G ((base 15).at ⟨T',[]⟩ (kt)) cs) V) : KK d (G ((base 15).at ⟨T,[]⟩ (.code v11 :: kt)) cs) V:=by
 have hK0:=K
 clear K
 refine foQJ19126 hT fun f=>?_
 generalize hX0 : v11 = X0
 simp only [v11,vL,vX10,vX9,vX8,vX7,vX6,vX5,vX4,vX3,vX1,vB,nva,nvb,nvk,nvl,Try.f15,Option.getD_some] at hX0
 subst hX0
 refine wM hM hn fun kk hkk=>?_
 try subst hkk
 exact hK0 _ fgm (by simp <;> omega)
theorem y_r12 (hM : MarkK Try.prog main Z KK) (hn : norm V = V) (hi : i < 1000) (hT : (PQJ190 r m fa k fc i) T) (K : ∀ T',Fg 126 [(3,.pointer (some ⟨r,0,none⟩)),(5,.pointer (some ⟨r + 1,0,none⟩)),(7,.int .i64 (m : Int)),(8,.pointer (some ⟨r + 4,0,none⟩)),(9,.pointer (some ⟨r + 5,0,none⟩)),(10,.pointer (some ⟨r + 6,0,none⟩)),(11,.pointer (some ⟨r + 7,0,none⟩)),(12,.pointer (some ⟨r + 8,0,none⟩)),(13,.pointer (some ⟨r + 9,0,none⟩)),(15,.slice fa k fc),(16,.int .i64 ((i + 1 : Nat) : Int))] T' -> KK d (G ((base 15).at ⟨T',[]⟩ (kt)) cs) V) : KK d (G ((base 15).at ⟨T,[]⟩ (.code v12 :: kt)) cs) V:=by
 have hK0:=K
 clear K
 have w1 : IntKind.i64.wrap ((i : Int) + 1) = ((i + 1 : Nat) : Int):=by rw [IntKind.wrap_i64]; omega
 refine foQJ19126 hT fun f=>?_
 generalize hX0 : v12 = X0
 simp only [v12,vL,vX10,vX9,vX8,vX7,vX6,vX5,vX4,vX3,vX1,vB,nva,nvb,nvk,nvl,Try.f15,Option.getD_some] at hX0
 subst hX0
 refine wM hM hn fun kk hkk=>?_
 try subst hkk
 exact hK0 _ fgm
theorem y_r13 (hM : MarkK Try.prog main Z KK) (hn : norm V = V) {xs : List Value} (hrow : V.ownsRow 0 70 1 (Value.slice fa k fc) k xs) (hm : k < 900000000) (hT : (PQJ190 r m fa k fc i) T)
   (K : ∀ T' V' wa wc,norm V' = V' -> V'.ownsRow 0 70 1 (.slice wa (k + 1) wc) (k + 1) (xs ++ [.func (.func 70) #[] #[.pointer (some ⟨r + 5,0,none⟩),.pointer (some ⟨r + 4,0,none⟩),.pointer (some ⟨r,0,none⟩),.pointer (some ⟨r + 1,0,none⟩),.pointer (some ⟨r + 7,0,none⟩)]]) -> V.heap.size <= V'.heap.size -> (∀ b,b < V.heap.size -> (Value.slice fa k fc).ownBlock ≠ some b -> V'.heap[b]? = V.heap[b]?) -> (∀ b,(Value.slice wa (k + 1) wc).ownBlock = some b -> (Value.slice fa k fc).ownBlock = some b ∨ V.heap.size <= b) -> Fg 126 [(3,.pointer (some ⟨r,0,none⟩)),(5,.pointer (some ⟨r + 1,0,none⟩)),(7,.int .i64 (m : Int)),(8,.pointer (some ⟨r + 4,0,none⟩)),(9,.pointer (some ⟨r + 5,0,none⟩)),(10,.pointer (some ⟨r + 6,0,none⟩)),(11,.pointer (some ⟨r + 7,0,none⟩)),(12,.pointer (some ⟨r + 8,0,none⟩)),(13,.pointer (some ⟨r + 9,0,none⟩)),(15,.slice wa (k + 1) wc),(16,.int .i64 (i : Int))] T' -> KK d (G ((base 15).at ⟨T',[]⟩ (kt)) cs) V') : KK d (G ((base 15).at ⟨T,[]⟩ (.code v13 :: kt)) cs) V:=by
 have hK0:=K
 clear K
 refine foQJ19126 hT fun f=>?_
 generalize hX0 : v13 = X0
 simp only [v13,vL,vX10,vX9,vX8,vX7,vX6,vX5,vX4,vX3,vX1,vB,nva,nvb,nvk,nvl,Try.f15,Option.getD_some] at hX0
 subst hX0
 refine wM hM hn fun kk hkk=>?_
 have hnA:=norm_al hn (.cells #[.func (.func 70) #[] #[.pointer (some ⟨r + 5,0,none⟩),.pointer (some ⟨r + 4,0,none⟩),.pointer (some ⟨r,0,none⟩),.pointer (some ⟨r + 1,0,none⟩),.pointer (some ⟨r + 7,0,none⟩)]] 70)
 refine mua_put (L:=Lone) (v:=.slice (some ⟨V.heap.size,0,none⟩) 1 1) (hM.mua hnA) (K:=fun g=>KK d g V) (K':=fun g=>KK d g (V.alloc (.cells #[.func (.func 70) #[] #[.pointer (some ⟨r + 5,0,none⟩),.pointer (some ⟨r + 4,0,none⟩),.pointer (some ⟨r,0,none⟩),.pointer (some ⟨r + 1,0,none⟩),.pointer (some ⟨r + 7,0,none⟩)]] 70))) rfl (.inl rfl) rfl (by kernel_rfl) (fun τ=>?_) ?_
 . go_simp
   first | exact ⟨by first | rfl | assumption | (simp only [re]; omega),rfl⟩ | rfl | (simp; done)
 have eVA:=al_at V (.cells #[.func (.func 70) #[] #[.pointer (some ⟨r + 5,0,none⟩),.pointer (some ⟨r + 4,0,none⟩),.pointer (some ⟨r,0,none⟩),.pointer (some ⟨r + 1,0,none⟩),.pointer (some ⟨r + 7,0,none⟩)]] 70)
 have sVA : (V.alloc (.cells #[.func (.func 70) #[] #[.pointer (some ⟨r + 5,0,none⟩),.pointer (some ⟨r + 4,0,none⟩),.pointer (some ⟨r,0,none⟩),.pointer (some ⟨r + 1,0,none⟩),.pointer (some ⟨r + 7,0,none⟩)]] 70)).heap.size = V.heap.size + 1:=by rw [al_size]
 have kVA : Kp V (V.alloc (.cells #[.func (.func 70) #[] #[.pointer (some ⟨r + 5,0,none⟩),.pointer (some ⟨r + 4,0,none⟩),.pointer (some ⟨r,0,none⟩),.pointer (some ⟨r + 1,0,none⟩),.pointer (some ⟨r + 7,0,none⟩)]] 70)):=⟨by rw [sVA]; omega,fun b hb=>by rw [al_get,if_neg (by omega)]⟩
 generalize (V.alloc (.cells #[.func (.func 70) #[] #[.pointer (some ⟨r + 5,0,none⟩),.pointer (some ⟨r + 4,0,none⟩),.pointer (some ⟨r,0,none⟩),.pointer (some ⟨r + 1,0,none⟩),.pointer (some ⟨r + 7,0,none⟩)]] 70)) = VA at *
 walk_nrm
 have rowA : VA.ownsRow 0 70 1 (Value.slice fa k fc) k xs:=row_keep hrow fun b hb=>kVA.keep b (row_at hrow hb)
 have litA : VA.ownsRow 0 70 1 (.slice (some ⟨V.heap.size,0,none⟩) 1 1) 1 [.func (.func 70) #[] #[.pointer (some ⟨r + 5,0,none⟩),.pointer (some ⟨r + 4,0,none⟩),.pointer (some ⟨r,0,none⟩),.pointer (some ⟨r + 1,0,none⟩),.pointer (some ⟨r + 7,0,none⟩)]]:=⟨rfl,.inr ⟨V.heap.size,1,#[.func (.func 70) #[] #[.pointer (some ⟨r + 5,0,none⟩),.pointer (some ⟨r + 4,0,none⟩),.pointer (some ⟨r,0,none⟩),.pointer (some ⟨r + 1,0,none⟩),.pointer (some ⟨r + 7,0,none⟩)]],rfl,Nat.zero_le _,eVA,Nat.le_refl _,by simp [maxLen],rfl,rfl⟩⟩
 refine wM hM hnA fun kk hkk=>?_
 refine mk_ex (L:=Lone) hM (.inl rfl) rfl rfl (by kernel_rfl) (fun v W=>W.ownsRow 0 70 1 v (k + 1) (xs ++ [.func (.func 70) #[] #[.pointer (some ⟨r + 5,0,none⟩),.pointer (some ⟨r + 4,0,none⟩),.pointer (some ⟨r,0,none⟩),.pointer (some ⟨r + 1,0,none⟩),.pointer (some ⟨r + 7,0,none⟩)]]) /\ Grw VA W (Value.slice fa k fc) v) (fun τ=>?_) fun v2 V2 ⟨s1,s2,s3,s4⟩ hn2=>?_
 . obtain ⟨v',w',a1,a2,a3⟩:=app_row (V:=re VA τ 0) (t:=49) (e:=70) (z:=.nilFunc) (B:=8) Try.underlying49 (by kernel_rfl) (by rfl) (by decide) (by decide) (owns_re rowA) (owns_re litA) (by simp [Value.oneCell']) (by omega)
   exact ⟨v',w',run_app_opm rfl rfl rfl a1,a2,a3⟩
 obtain ⟨yb,yn,yc,rfl⟩:=slice_of s1
 obtain rfl : yn = k + 1:=by
   obtain ⟨_,h⟩:=s1
   rcases h with ⟨h,h0⟩ | ⟨g,cap,cur,h,_⟩
   . injection h with _ h _; omega
   . injection h with _ h _
 walk_nrm
 refine wM hM hn2 fun kk hkk=>?_
 try subst hkk
 refine hK0 _ V2 yb yc hn2 s1 (by have:=kVA.size; omega) (fun b hb hno=>?_) (fun b hb=>?_) fgm
 . rw [s3 b (by omega) hno]
   exact kVA.keep b hb
 . rcases s4 with h | h
   . exact .inl (h ▸ hb)
   . rw [h] at hb
     have:=Option.some.inj hb
     right; omega
theorem y_r14 (hM : MarkK Try.prog main Z KK) (hn : norm V = V) (hT : (PQJ190 r m fa k fc i) T) (K : ∀ T',(PQJ192 r m) T' -> KK d (G (Frame.enter Try.prog 23 #[.slice fa k fc,.slice none 0 0,.int .i64 200] .normal) ((base 15).at ⟨T',[]⟩ (.inRegion vo14 [1] :: kt) :: cs)) V) : KK d (G ((base 15).at ⟨T,[]⟩ (.code v14 :: kt)) cs) V:=by
 have hK0:=K
 clear K
 refine foQJ19126 hT fun f=>?_
 generalize hX0 : v14 = X0
 simp only [v14,vX14,vX10,vX9,vX8,vX7,vX6,vX5,vX4,vX3,vX1,vB,nva,nvb,Try.f15,Option.getD_some] at hX0
 subst hX0
 refine wM hM hn fun kk hkk=>?_
 try subst hkk
 refine hM.cl rfl rfl rfl Try.func23 rfl ?_
 walk_nrm
 exact hK0 _ fgm
end
end
end Go.Proofs.Ytibcdikfbhmheaa
