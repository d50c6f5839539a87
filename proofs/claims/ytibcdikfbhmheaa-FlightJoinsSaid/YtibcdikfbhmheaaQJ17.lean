import Derived.Test.YtibcdikfbhmheaaQJ16
import Derived.Test.YtibcdikfbhmheaaQJ14
set_option linter.unusedSimpArgs false
set_option linter.unusedVariables false
set_option maxRecDepth 100000
set_option maxHeartbeats 4000000
namespace Go.Proofs.Ytibcdikfbhmheaa
open Go Go.Conc Go.Proofs
open Go.ConcN (sumTo upd sumTo_upd upd_ne upd_same)
noncomputable section
def hR3 : Code:=nva hX3
def hY4 : Code:=nva hX4
def hR4 : Code:=nva hY4
def hR5 : Code:=nvy (nvb hY4)
def hR6 : Code:=nvb hX4
def hc6o : Array Oper:=rops hR6
theorem hX3_eq : hX3 = .seq hR3 hX4:=by kernel_rfl
theorem hX4_eq : hX4 = .seq (.seq hR4 (.cond (.tmp 26) hR5 .skip)) hR6:=by kernel_rfl
section
variable {main : Bool} {Z : Cuts} {KK : Nat -> Goroutine -> World -> Prop} {d : Nat} {V : World} {kt : List Item} {cs : List Frame} {D : Jd} {bg sm wt : Int} {un tp : Value} {i : Nat} {T : Array Value} {x e : Int} {rest : List Nat}
theorem HF.put {y : Nat} {v : Value} (h : HF D tp T) (hd : 6 <= y) : HF D tp (T.setIfInBounds y v):=by
 obtain ⟨hs,h0,h1,h2,h3,h4,h5⟩:=h
 refine ⟨by rw [Array.size_setIfInBounds]; exact hs,?_,?_,?_,?_,?_,?_⟩ <;> (rw [Array.getElem?_setIfInBounds_ne (by omega)]; assumption)
def PQJ170 (tp : Value) (D : Jd) : Array Value -> Prop:=Fg 31 [(0,tp),(1,.pointer (some ⟨D.r + 5,0,none⟩)),(2,.pointer (some ⟨D.r + 4,0,none⟩)),(3,.pointer (some ⟨D.r,0,none⟩)),(4,.pointer (some ⟨D.r + 1,0,none⟩)),(5,.pointer (some ⟨D.r + 7,0,none⟩))]
theorem HF.fg (h : HF D tp T) : (PQJ170 tp D) T:=by
 obtain ⟨hs,h0,h1,h2,h3,h4,h5⟩:=h
 exact ⟨hs,h0,h1,h2,h3,h4,h5,trivial⟩
theorem hf_of (h : (PQJ170 tp D) T) : HF D tp T:=by
 obtain ⟨hs,h0,h1,h2,h3,h4,h5,-⟩:=h
 exact ⟨hs,h0,h1,h2,h3,h4,h5⟩
theorem foQJ1731 {l : List (Nat × Value)} {T : Array Value} (hT : Fg 31 l T) {A : Prop} {B : (Nat -> Value) -> Prop} (h : ∀ f,B f) (w : Hd (∀ f,B f) -> A:=by
 intro k
 have hs:=And.left hT
 have h2:=And.right hT
 obtain ⟨f,hf,e⟩:=array31f T hs
 rw [e]
 repeat (obtain ⟨h1,h2⟩:=h2;simp only [hf _ _ h1];clear h1)
 exact k.h f) : A:=w ⟨h⟩
theorem h_r3 (hM : MarkK Try.prog main Z KK) (hn : norm V = V) (A : JM D bg sm wt un V) (hl1 : 1 <= D.ks.length) (hl5 : D.ks.length <= 5) (hT : (PQJ170 tp D) T) (K : ∀ T' rest,(PQJ170 tp D) T' -> Rs3 rest -> KK d (G (Frame.enter Try.prog 71 #[.pointer (some ⟨D.r + 3,0,none⟩),tp,.pointer (some ⟨D.r + 5,0,none⟩),kv D.k0] .normal) ((base 70).at ⟨T',[]⟩ (.inRegion hc3 (5 :: rest) :: kt) :: cs)) V) : KK d (G ((base 70).at ⟨T,[]⟩ (.code hR3 :: kt)) cs) V:=by
 have hK0:=K
 clear K
 have q_x:=qc 0 A.x rfl
 have q_k:=qc 0 A.k rfl
 obtain ⟨c1,c2⟩:=A.ky 0 (by omega)
 simp only [Nat.zero_mul,Nat.add_zero] at c1 c2
 have q_1 : ∀ τ,(re V τ 0).cell? ⟨D.kg,D.ko,none⟩ = some (.int .i64 (kat D.ks 0).1):=fun τ=>c1
 have q_2 : ∀ τ,(re V τ 0).cell? ⟨D.kg,D.ko + 1,none⟩ = some (.int .i64 (kat D.ks 0).2):=fun τ=>c2
 clear c1 c2
 have p2 : ¬ ((D.ks.length : Int) <= 0):=by omega
 have p3 : 0 < D.ks.length:=by omega
 refine foQJ1731 hT fun f=>?_
 generalize hX0 : hR3 = X0
 simp only [hR3,hX3,hX2,hX1,hB,nva,nvb,Try.f70,Option.getD_some] at hX0
 subst hX0
 obtain ⟨K,hK,hV,key,yek⟩:=kKV (L:=Lone) (J:=fun g=>KK d g V) hM.mu (hM.muv hn)
 refine key _ ?_
 have hD : MuD Try.prog K:=fun b a k cs id ops h=>yek _ (hM.mud b a k cs id ops fun t=>key _ (h t))
 refine mu_drawM 5 hK hV hD (.inl rfl) ?_
 refine wS ?_
 refine anyQ 0 20 rfl ?_
 refine anyQ 1 20 rfl ?_
 refine anyQ 2 20 rfl ?_
 refine anyQ 3 20 rfl ?_
 refine anyQ 4 20 rfl ?_
 refine anyP_last (by kernel_rfl) (fun t=>?_)
 rw [lin_oneA (i:=6) (by kernel_rfl)]
 rcases lin_two (md:=.any) (i:=7) (i':=8) (by kernel_rfl) with e | e
 . rw [e]
   rcases lin_two (md:=.any) (i:=8) (i':=9) (by kernel_rfl) with e2 | e2
   . rw [e2,lin_oneA (i:=9) (by kernel_rfl),lin_oneA (i:=10) (by kernel_rfl),lin_nilA]
     refine hK.cl rfl rfl rfl Try.func71 rfl ?_
     walk_nrm
     refine yek _ ?_
     clear hK hV hD key yek K
     exact hK0 _ _ fgm (.inl rfl)
   . rw [e2,lin_oneA (i:=8) (by kernel_rfl),lin_oneA (i:=10) (by kernel_rfl),lin_nilA]
     refine hK.cl rfl rfl rfl Try.func71 rfl ?_
     walk_nrm
     refine yek _ ?_
     clear hK hV hD key yek K
     exact hK0 _ _ fgm (.inr (.inr rfl))
 . rw [e,lin_oneA (i:=7) (by kernel_rfl),lin_oneA (i:=9) (by kernel_rfl),lin_oneA (i:=10) (by kernel_rfl),lin_nilA]
   refine hK.cl rfl rfl rfl Try.func71 rfl ?_
   walk_nrm
   refine yek _ ?_
   clear hK hV hD key yek K
   exact hK0 _ _ fgm (.inr (.inl rfl))
def PQJ171 (tp : Value) (D : Jd) (x : Int) : Array Value -> Prop:=Fg 31 [(0,tp),(1,.pointer (some ⟨D.r + 5,0,none⟩)),(2,.pointer (some ⟨D.r + 4,0,none⟩)),(3,.pointer (some ⟨D.r,0,none⟩)),(4,.pointer (some ⟨D.r + 1,0,none⟩)),(5,.pointer (some ⟨D.r + 7,0,none⟩)),(7,.int .i64 x)]
theorem h_r3o (hM : MarkK Try.prog main Z KK) (hn : norm V = V) (hT : (PQJ170 tp D) T) (hr : Rs3 rest) (K : ∀ T',(PQJ171 tp D x) T' -> KK d (G ((base 70).at ⟨T',[]⟩ (kt)) cs) V) : KK d (G ((base 70).at (Act.put ⟨T,[]⟩ ((hc3[5]?).bind (·.dst)) (.tuple #[.int .i64 x,.int .i64 e])) (.inRegion hc3 rest :: kt)) cs) V:=by
 have hK0:=K
 clear K
 refine foQJ1731 hT fun f=>?_
 rcases hr with rfl | rfl | rfl
 . refine (fun (h : ∀ X,X = hc3 -> KK d (G ((base 70).at (Act.put ⟨_,[]⟩ ((X[5]?).bind (·.dst)) (.tuple #[.int .i64 x,.int .i64 e])) (.inRegion X [6,7,8,9,10] :: kt)) cs) V)=>h hc3 rfl) ?_
   intro X hX
   simp only [hc3,hX3,hX2,hX1,hB,nvb,Try.f70,Option.getD_some,nva,ropsO] at hX
   subst hX
   walk_nrm
   refine wM hM hn fun kk hkk=>?_
   try subst hkk
   exact hK0 _ fgm
 . refine (fun (h : ∀ X,X = hc3 -> KK d (G ((base 70).at (Act.put ⟨_,[]⟩ ((X[5]?).bind (·.dst)) (.tuple #[.int .i64 x,.int .i64 e])) (.inRegion X [6,8,7,9,10] :: kt)) cs) V)=>h hc3 rfl) ?_
   intro X hX
   simp only [hc3,hX3,hX2,hX1,hB,nvb,Try.f70,Option.getD_some,nva,ropsO] at hX
   subst hX
   walk_nrm
   refine wM hM hn fun kk hkk=>?_
   try subst hkk
   exact hK0 _ fgm
 . refine (fun (h : ∀ X,X = hc3 -> KK d (G ((base 70).at (Act.put ⟨_,[]⟩ ((X[5]?).bind (·.dst)) (.tuple #[.int .i64 x,.int .i64 e])) (.inRegion X [6,7,9,8,10] :: kt)) cs) V)=>h hc3 rfl) ?_
   intro X hX
   simp only [hc3,hX3,hX2,hX1,hB,nvb,Try.f70,Option.getD_some,nva,ropsO] at hX
   subst hX
   walk_nrm
   refine wM hM hn fun kk hkk=>?_
   try subst hkk
   exact hK0 _ fgm
theorem h_r4 (hM : MarkK Try.prog main Z KK) (hn : norm V = V) (A : JM D bg sm wt un V) (hT : (PQJ171 tp D x) T) (K : ∀ T',(PQJ170 tp D) T' -> T'[26]? = some (.bool (x == D.v)) -> KK d (G ((base 70).at ⟨T',[]⟩ (kt)) cs) V) : KK d (G ((base 70).at ⟨T,[]⟩ (.code hR4 :: kt)) cs) V:=by
 have hK0:=K
 clear K
 have q_v:=qc 0 A.v rfl
 refine foQJ1731 hT fun f=>?_
 generalize hX0 : hR4 = X0
 simp only [hR4,hY4,hX4,hX3,hX2,hX1,hB,nva,nvb,Try.f70,Option.getD_some] at hX0
 subst hX0
 refine wM hM hn fun kk hkk=>?_
 exact hK0 _ fgm rfl
theorem h_r5 (hM : MarkK Try.prog main Z KK) (hn : norm V = V) (A : JM D bg sm wt un V) (hT : (PQJ170 tp D) T) (K : ∀ T',(PQJ170 tp D) T' -> norm (V.setCell ⟨D.r + 7,0,none⟩ (.int .i64 (IntKind.i64.wrap (sm + 1)))) = (V.setCell ⟨D.r + 7,0,none⟩ (.int .i64 (IntKind.i64.wrap (sm + 1)))) -> KK d (G ((base 70).at ⟨T',[]⟩ (kt)) cs) (V.setCell ⟨D.r + 7,0,none⟩ (.int .i64 (IntKind.i64.wrap (sm + 1))))) : KK d (G ((base 70).at ⟨T,[]⟩ (.code hR5 :: kt)) cs) V:=by
 have hK0:=K
 clear K
 have q_s:=qc 0 A.s rfl
 have z_s:=qz 0 A.s
 refine foQJ1731 hT fun f=>?_
 generalize hX0 : hR5 = X0
 simp only [hR5,hY4,hX4,hX3,hX2,hX1,hB,nva,nvb,nvy,Try.f70,Option.getD_some] at hX0
 subst hX0
 refine wM hM hn fun kk hkk=>?_
 have hn2:=norm_set hn ⟨D.r + 7,0,none⟩ (.int .i64 (IntKind.i64.wrap (sm + 1)))
 refine mus_put (L:=Lone) (hM.mus hn2) (K:=fun g=>KK d g V) (K':=fun g=>KK d g (V.setCell ⟨D.r + 7,0,none⟩ (.int .i64 (IntKind.i64.wrap (sm + 1))))) rfl (.inl rfl) rfl (by kernel_rfl) (fun τ=>?_) ?_
 . go_simp
   try rfl
 clear q_s z_s
 try walk_nrm
 refine mu_region_end (K:=fun g=>KK d g (V.setCell ⟨D.r + 7,0,none⟩ (.int .i64 (IntKind.i64.wrap (sm + 1))))) hM.mu ?_
 try subst hkk
 exact hK0 _ fgm hn2
theorem h_r6 (hM : MarkK Try.prog main Z KK) (hn : norm V = V) (hT : (PQJ170 tp D) T) (K : ∀ T',KK d (G (Frame.enter Try.prog 46 #[.pointer (some ⟨D.r + 5,0,none⟩),tp] .normal) ((base 70).at ⟨T',[]⟩ (.inRegion hc6o [1] :: kt) :: cs)) V) : KK d (G ((base 70).at ⟨T,[]⟩ (.code hR6 :: kt)) cs) V:=by
 have hK0:=K
 clear K
 refine foQJ1731 hT fun f=>?_
 generalize hX0 : hR6 = X0
 simp only [hR6,hX4,hX3,hX2,hX1,hB,nvb,Try.f70,Option.getD_some] at hX0
 subst hX0
 refine wM hM hn fun kk hkk=>?_
 try subst hkk
 refine hM.cl rfl rfl rfl Try.func46 rfl ?_
 walk_nrm
 exact hK0 _
end
theorem Und.grow {D : Jd} {un : Value} {own own' : Nat -> Prop} {V : World} (h : Und D un own V) (ho : ∀ b,own b -> own' b) : Und D un own' V:=by
 obtain ⟨g,c,ks,h1,h2,h3⟩:=h
 exact ⟨g,c,ks,h1,ho g h2,h3⟩
theorem JMap.grow {D : Jd} {p : Nat} {w : List Nat} {own own' : Nat -> Prop} {V : World} (h : JMap D p w own V) (ho : ∀ b,own b -> own' b) : JMap D p w own' V:=by
 obtain ⟨es,clk,m,h3,h4,h5,h6,h7⟩:=h
 refine ⟨es,clk,m,h3,h4,h5,h6,fun hp=>?_⟩
 obtain ⟨ob,m',cv,a1,a2,a3,a4,a5,a6⟩:=h7 hp
 exact ⟨ob,m',cv,a1,ho ob a2,a3,a4,a5,fun b hb=>⟨ho b (a6 b hb).1,(a6 b hb).2⟩⟩
theorem wrap_wrap (x : Int) : IntKind.i64.wrap (IntKind.i64.wrap x + 1) = IntKind.i64.wrap (x + 1):=by
 rw [IntKind.wrap_i64,IntKind.wrap_i64,IntKind.wrap_i64]
 omega
theorem jsm_a (D : Jd) (a z : Nat) : jsm D (a + 1) z = IntKind.i64.wrap (jsm D a z + 1):=by
 unfold jsm
 rw [wrap_wrap]
 generalize (if D.v = 0 then (z : Int) else 0) = y
 exact congrArg _ (by omega)
theorem jsm_z (D : Jd) (a z : Nat) : jsm D a (z + 1) = if (0 : Int) = D.v then IntKind.i64.wrap (jsm D a z + 1) else jsm D a z:=by
 unfold jsm
 by_cases h : D.v = 0
 . rw [if_pos h,if_pos h,if_pos h.symm,wrap_wrap]
   exact congrArg _ (by omega)
 . rw [if_neg h,if_neg h,if_neg (fun e=>h e.symm)]
section
variable {D : Jd} {C : Cw} {E : Env} {s : Js} {i : Nat} {own : Nat -> Prop} {V : World} {T : Array Value} {aY : Act} {opsY : Array Oper} {iY : Nat} {restY : List Nat} {kY : List Item} {x : Int} {un qv : Value} {q : List Nat} {W : World} {KK : Nat -> Goroutine -> World -> Prop} {b : Frame} {a : Act} {ops : Array Oper} {j : Nat} {rest : List Nat} {k : List Item}
theorem h_tail (hM : MarkK Try.prog false E.Z KK) (hS : ∀ g W,TEndM C (Ufj D C) s i own V ((baseD 141).at aY (.inRegion opsY (iY :: restY) :: kY)) g W -> KK 0 g W) (t : Jn E C D s i own V) (hi : i ≠ 0) {a' z' : Nat} (hturn : s.turn i = { s with j:=hdj (upd s.j i 7) q,q:=q.tail,o:=hdo q,a:=a',z:=z' }) (hok : Jok C.n (s.turn i)) (hq : ∀ y ∈ q,1 <= y /\ y < C.n /\ y ≠ i /\ (s.j y = 4 ∨ s.j y = 5))
   (hsm : jsm D a' z' = if x = D.v then IntKind.i64.wrap (jsm D s.a s.z + 1) else jsm D s.a s.z) (hn : norm W = W) (sz : V.heap.size <= W.heap.size) (kz : ∀ b,b < V.heap.size -> b ≠ D.r + 5 -> W.heap[b]? = V.heap[b]?) (M : MuI W own (D.r + 5) 0 (i + 1) q qv) (hqr : ∀ b,qv.ownBlock = some b -> D.r + 9 < b) (hqV : ∀ b,qv.ownBlock = some b -> own b /\ b < V.heap.size) (hT : Fg 31 [(0,C.tp i),(1,.pointer (some ⟨D.r + 5,0,none⟩)),(2,.pointer (some ⟨D.r + 4,0,none⟩)),(3,.pointer (some ⟨D.r,0,none⟩)),(4,.pointer (some ⟨D.r + 1,0,none⟩)),(5,.pointer (some ⟨D.r + 7,0,none⟩)),(7,.int .i64 x)] T) :
   KK 0 (G ((base 70).at ⟨T,[]⟩ [.code hX4]) [((baseD 141).at aY (.inRegion opsY (iY :: restY) :: kY)),rootF]) W:=by
 have hn7:=t.n7
 have hin:=t.hin
 obtain ⟨ho,hlt,hr5,hr9,hkr,hl1,hl5⟩:=t.owz
 obtain ⟨un,A0,hU⟩:=t.I.jm
 have A : JM D (bgn D s.p) (jsm D s.a s.z) s.t un W:=A0.keep fun b hb=>kz b (t.lt b (t.I.fo b hb)) (by rcases hb with rfl | hb <;> omega)
 rw [hX4_eq]
 refine mu_seq hM.mu (mu_seq hM.mu ?_)
 refine h_r4 hM hn A hT fun T1 hT1 h26=>?_
 have fin : ∀ (W2 : World) (T2 : Array Value),norm W2 = W2 -> W2.heap.size = W.heap.size -> (∀ b,b ≠ D.r + 7 -> W2.heap[b]? = W.heap[b]?) -> JM D (bgn D s.p) (jsm D a' z') s.t un W2 -> Fg 31 [(0,C.tp i),(1,.pointer (some ⟨D.r + 5,0,none⟩)),(2,.pointer (some ⟨D.r + 4,0,none⟩)),(3,.pointer (some ⟨D.r,0,none⟩)),(4,.pointer (some ⟨D.r + 1,0,none⟩)),(5,.pointer (some ⟨D.r + 7,0,none⟩))] T2 -> KK 0 (G ((base 70).at ⟨T2,[]⟩ [.code hR6]) [((baseD 141).at aY (.inRegion opsY (iY :: restY) :: kY)),rootF]) W2:=by
   intro W2 T2 hn2 s2 k2 A2 hT2
   refine h_r6 hM hn2 hT2 fun T3=>?_
   have K2 : Gk C own V W2:=⟨hn2,by omega,fun b h1 h2=>(k2 b (fun e=>h2 (e ▸ ho 7 (by omega)))).trans (kz b h1 (fun e=>h2 (e ▸ hr5)))⟩
   have kh : ∀ b,C.has b -> W2.heap[b]? = V.heap[b]?:=t.has K2
   have M2:=M.keep2 (k2 _ (by omega)) (fun b hb=>k2 b (by have:=hqr b hb; omega))
   refine hM.walk _ _ _ (will_unlock (C:=C) (i:=i) (mo:=0) (q:=q) hn2 t.hO.tbi (fun a ha=>t.hO.cbt ha) hin (by omega) (t.H.off kh) (t.L.off kh) M2 (fun y hy=>(hq y hy).2.1) t.far fun V7 qv7 U=>.stop ?_)
   rw [Frame.finish_at]
   have hd4 : ((hc6o[1]?).bind (·.dst)) = some 30:=by kernel_rfl
   rw [hd4]
   refine mu_region_end (K:=fun g=>KK 0 g V7) hM.mu ?_
   refine mu_end (K:=fun g=>KK 0 g V7) hM.mu ?_
   refine mu_leave0 (K:=fun g=>KK 0 g V7) hM.mu rfl rfl Try.func70 rfl ?_
   have ku : ∀ b,own b -> b ≠ D.r + 5 -> V7.heap[b]? = W2.heap[b]?:=fun b hb hne=>U.keep b hne (t.tb hb)
   have kq : ∀ b,own b -> D.r + 9 < b -> V7.heap[b]? = V.heap[b]?:=fun b hb h1=>((ku b hb (by omega)).trans (k2 b (by omega))).trans (kz b (t.lt b hb) (by omega))
   have su : V.heap.size <= V7.heap.size:=by rw [U.sz]; omega
   have k27 : V7.heap[D.r + 2]? = V.heap[D.r + 2]?:=((ku _ (ho 2 (by omega)) (by omega)).trans (k2 _ (by omega))).trans (kz _ (hlt 2 (by omega)) (by omega))
   refine hS _ _ (jt U.nrm su (fun b h1 h2 h3=>(U.keep b (fun e=>h2 (e ▸ hr5)) h3).trans (K2.keep b h1 h2)) t.lt (U.cw.congr fun j _=>?_) ?_ (JMem.still k27 fun ob cv h1 h2 _=>kq ob h1 h2) ?_)
   . rw [hturn]
     exact st_un (s:=s) (s':={ s with j:=hdj (upd s.j i 7) q,q:=q.tail,o:=hdo q,a:=a',z:=z' }) (f:=upd s.j i 7) (fun y hy=>⟨(hq y hy).1,(hq y hy).2.2.1,(hq y hy).2.2.2⟩) (fun y hy=>upd_ne _ _ hy) rfl (fun _=>rfl) j
   . rw [hturn] at hok ⊢
     refine ⟨hok,fun b h1 h2=>.inl (t.I.ow b h1 h2),.inl t.I.ok2,hkr,hl1,hl5,⟨un,A2.keep fun b hb=>ku b (t.I.fo b hb) (by rcases hb with rfl | hb <;> omega),fun hp=>((hU hp).keep kq).grow fun b hb=>.inl hb⟩,⟨qv7,?_,fun b hb=>hqr b (U.qo.symm.trans hb)⟩,(t.I.mp.keep k27 kq).grow fun b hb=>.inl hb⟩
     show MuI V7 _ (D.r + 5) 0 (hdo q) q.tail qv7
     rw [← un_hdo]
     exact U.mu.grow fun b hb _=>.inl hb
   . rw [hturn]
     unfold Js.st
     rw [if_neg hi]
     show Js.stj (hdj (upd s.j i 7) q i) = 3
     rw [hdj_at (fun h=>(hq i h).2.2.1 rfl),upd_same]
     rfl
 by_cases hx : x = D.v
 . rw [show (x == D.v) = true by simpa using hx] at h26
   rw [if_pos hx] at hsm
   refine mu_cond hM.mu true (cond_atK h26) ?_
   refine h_r5 hM hn A hT1 fun T2 hT2 hn2=>?_
   rw [← hsm] at hn2 ⊢
   exact fin _ T2 hn2 (by simp [World.setCell]) (fun b hb=>by rw [setCell_heap,if_neg hb]) (A.sets hkr _) hT2
 . rw [show (x == D.v) = false by simpa using hx] at h26
   rw [if_neg hx] at hsm
   refine mu_cond hM.mu false (cond_atK h26) ?_
   refine mu_skip hM.mu ?_
   rw [← hsm] at A
   exact fin W T1 hn rfl (fun b _=>rfl) A hT1
end
theorem Js.put_eq (s : Js) (f : Nat -> Nat) (z : Nat) {q : List Nat} {o : Nat} (hq : q = s.q) (ho : o = s.o) : ({ s with j:=f,z:=z } : Js) = { s with j:=f,q:=q,o:=o,a:=s.a,z:=z }:=by
 subst hq ho
 rfl
theorem jk_no {D : Jd} {p : Nat} (hl1 : 1 <= D.ks.length) (hp : ¬ (2 <= p /\ p <= 42)) : D.k0 ∉ jkeys D p:=by
 unfold jkeys
 by_cases h : p < 2
 . rw [if_pos h]
   simp
 . rw [if_neg h,if_neg (by omega)]
   obtain ⟨l,hl⟩:=ded_head hl1
   have hd:=ded_nodup D.ks
   rw [hl] at hd ⊢
   exact (List.nodup_cons.1 hd).1
section
variable {D : Jd} {C : Cw} {E : Env} {s : Js} {i : Nat} {own : Nat -> Prop} {V : World} {T : Array Value} {aY : Act} {opsY : Array Oper} {iY : Nat} {restY : List Nat} {kY : List Item} {b : Frame} {a : Act} {ops : Array Oper} {j : Nat} {rest : List Nat} {k : List Item}
theorem jh3n (t : Jn E C D s i own V) (hi : i ≠ 0) (hj : s.j i = 3) (ho0 : s.o = 0) (hpn : ¬ (2 <= s.p /\ s.p <= 42)) (hT : HF D (C.tp i) T) {jj : Nat} (hfr : LkY (D.r + 5) 0 (C.tp i) (b.at a (.inRegion ops (jj :: rest) :: k))) : WillM Try.prog false E.Z (TEndM C (Ufj D C) s i own V ((baseD 141).at aY (.inRegion opsY (iY :: restY) :: kY))) 0 (G (b.at (a.put ((ops[jj]?).bind (·.dst)) (.tuple #[])) (.inRegion ops rest :: k)) [(base 70).at ⟨T,[]⟩ [.inRegion hc2 [1],.code hX3],((baseD 141).at aY (.inRegion opsY (iY :: restY) :: kY)),rootF]) V:=by
 intro KK hM hS
 have hn7:=t.n7
 have hin:=t.hin
 obtain ⟨qv,M,hqr⟩:=t.I.mu
 obtain ⟨ho,hlt,hr5,hr9,hkr,hl1,hl5⟩:=t.owz
 obtain ⟨un,A,hU⟩:=t.I.jm
 obtain ⟨es,clk,mm,y0,hm,hmb,hmk,hmo⟩:=t.I.mp
 have hturn : s.turn i = { s with j:=hdj (upd s.j i 7) [],q:=([] : List Nat).tail,o:=hdo [],a:=s.a,z:=s.z + 1 }:=by
   unfold Js.turn
   rw [if_neg hi,if_pos hj,if_pos ho0,if_neg hpn]
   exact Js.put_eq s _ _ (t.I.ok.q0 ho0).symm ho0.symm
 have hok:=t.I.ok.none_ hi hj ho0 hpn
 have hq0:=t.I.ok.q0 ho0
 rw [ho0,hq0] at M
 obtain ⟨vb,vc,rfl⟩:=M.qu.sl
 refine hM.walk _ _ _ (lock_back (C:=C) (i:=i) (mo:=0) (ow:=0) t.hn hin (by omega) t.H t.L M.c0 M.z0 M.c1 M.z1 M.qu (by simp) M.qmb (t.far _ M.mown) (fun b hb=>t.far b (M.qown b hb)) (by omega) (fun _=>.stop ?_) (fun h=>absurd ⟨rfl,rfl⟩ h) hfr)
 have M1:=M.take (i + 1)
 have k1 : ∀ b,b ≠ D.r + 5 -> (V.setCell ⟨D.r + 5,0 + 1,none⟩ (.int .i64 (i + 1 : Nat))).heap[b]? = V.heap[b]?:=fun b hb=>set_off _ _ hb
 have s1 : (V.setCell ⟨D.r + 5,0 + 1,none⟩ (.int .i64 (i + 1 : Nat))).heap.size = V.heap.size:=by simp [World.setCell]
 have hn1:=norm_set t.hn ⟨D.r + 5,0 + 1,none⟩ (.int .i64 (i + 1 : Nat))
 generalize V.setCell ⟨D.r + 5,0 + 1,none⟩ (.int .i64 (i + 1 : Nat)) = V1 at *
 have hqV : ∀ b,(Value.slice vb ([] : List Nat).length vc).ownBlock = some b -> own b /\ b < V.heap.size:=fun b hb=>⟨M.qown b hb,M.qu.at_ hb⟩
 have A1 : JM D (bgn D s.p) (jsm D s.a s.z) s.t un V1:=A.keep fun b hb=>k1 b (by rcases hb with rfl | hb <;> omega)
 have y01:=(k1 (D.r + 2) (by omega)).trans y0
 have hk : kpos D.k0 mm 0 = none:=kpos_no (hmk ▸ jk_no hl1 hpn)
 have hd : ((hc2[1]?).bind (·.dst)) = some 14:=by kernel_rfl
 rw [hd]
 refine mu_region_end (K:=fun g=>KK 0 g V1) hM.mu ?_
 rw [hX3_eq]
 refine mu_seq hM.mu ?_
 refine h_r3 hM hn1 A1 hl1 hl5 (hT.put (by omega)).fg fun T2 rest2 hT2 hr2=>?_
 refine join_none (k:=D.k0) hM hn1 A1.g y01 hm hk fun V2 hn2 k2=>?_
 refine h_r3o (x:=0) (e:=7) hM hn2 hT2 hr2 fun T3 hT3=>?_
 have s2:=k2.size
 exact h_tail (q:=[]) (qv:=.slice vb ([] : List Nat).length vc) hM hS t hi hturn hok (fun y hy=>by cases hy) (jsm_z D s.a s.z) hn2 (by omega) (fun b h1 h2=>(k2.keep b (by omega)).trans (k1 b h2)) (M1.keep2 (k2.keep _ (by omega)) (fun b hb=>k2.keep b (M1.qu.at_ hb))) hqr hqV hT3
theorem jh6 (t : Jn E C D s i own V) (hi : i ≠ 0) (hj : s.j i = 6) (hT : HF D (C.tp i) T) {g : Frame} (hg : LkR g) {jj : Nat} (hfr : RsP (D.r + 5) 0 (C.tp i) (b.at a (.inRegion ops (jj :: rest) :: k))) : WillM Try.prog false E.Z (TEndM C (Ufj D C) s i own V ((baseD 141).at aY (.inRegion opsY (iY :: restY) :: kY))) 0 (G (b.at (a.put ((ops[jj]?).bind (·.dst)) (.tuple #[])) (.inRegion ops rest :: k)) [g,(base 70).at ⟨T,[]⟩ [.inRegion hc2 [1],.code hX3],((baseD 141).at aY (.inRegion opsY (iY :: restY) :: kY)),rootF]) V:=by
 intro KK hM hS
 have hn7:=t.n7
 have hin:=t.hin
 obtain ⟨qv,M,hqr⟩:=t.I.mu
 obtain ⟨ho,hlt,hr5,hr9,hkr,hl1,hl5⟩:=t.owz
 obtain ⟨un,A,hU⟩:=t.I.jm
 obtain ⟨es,clk,mm,y0,hm,hmb,hmk,hmo⟩:=t.I.mp
 obtain ⟨hp,ho0⟩:=t.I.ok.p_of hi (.inl hj)
 have hturn : s.turn i = { s with j:=hdj (upd s.j i 7) s.q,q:=s.q.tail,o:=hdo s.q,a:=s.a,z:=s.z + 1 }:=by
   unfold Js.turn
   rw [if_neg hi,if_neg (by omega),if_pos hj]
   rfl
 have hok:=t.I.ok.over hi (.inl hj)
 have hqx : ∀ y ∈ s.q,1 <= y /\ y < C.n /\ y ≠ i /\ (s.j y = 4 ∨ s.j y = 5):=fun y hy=>by
   obtain ⟨h1,h2,h3⟩:=t.I.ok.qj y hy
   exact ⟨h1,h2,fun e=>by subst e; omega,h3⟩
 rw [ho0] at M
 have hk : kpos D.k0 mm 0 = none:=kpos_no (hmk ▸ jk_no hl1 (by omega))
 obtain ⟨Tg,g0,eg⟩:=id hg
 subst eg
 refine hM.walk _ _ _ (rest_back (C:=C) (i:=i) (mo:=0) (ow:=i + 1) t.hn hin (by omega) t.H M.c1 (fun _=>?_) (fun hx=>absurd rfl hx) hfr)
 refine lock_ret t.hn (.stop ?_) hg
 have A1:=A
 have hd : ((hc2[1]?).bind (·.dst)) = some 14:=by kernel_rfl
 rw [hd]
 refine mu_region_end (K:=fun g=>KK 0 g V) hM.mu ?_
 rw [hX3_eq]
 refine mu_seq hM.mu ?_
 refine h_r3 hM t.hn A1 hl1 hl5 (hT.put (by omega)).fg fun T2 rest2 hT2 hr2=>?_
 refine join_none (k:=D.k0) hM t.hn A.g y0 hm hk fun V2 hn2 k2=>?_
 refine h_r3o (x:=0) (e:=7) hM hn2 hT2 hr2 fun T3 hT3=>?_
 exact h_tail (q:=s.q) (qv:=qv) hM hS t hi hturn hok hqx (jsm_z D s.a s.z) hn2 k2.size (fun b h1 _=>k2.keep b h1) (M.keep2 (k2.keep _ (by omega)) (fun b hb=>k2.keep b (M.qu.at_ hb))) hqr (fun b hb=>⟨M.qown b hb,M.qu.at_ hb⟩) hT3
theorem jh8 (t : Jn E C D s i own V) (hi : i ≠ 0) (hj : s.j i = 8) (hT : HF D (C.tp i) T) {g h : Frame} {ob : Nat} {rest2 : List Nat} (hgw : WtR g) (hjn : JnR ob (C.tp i) (.pointer (some ⟨D.r + 5,0,none⟩)) h) (hr2 : Rs3 rest2) (hme : JMem D [h] own V) {jj : Nat} (hfr : RsP (D.r + 5) 0 (C.tp i) (b.at a (.inRegion ops (jj :: rest) :: k))) : WillM Try.prog false E.Z (TEndM C (Ufj D C) s i own V ((baseD 141).at aY (.inRegion opsY (iY :: restY) :: kY))) 0 (G (b.at (a.put ((ops[jj]?).bind (·.dst)) (.tuple #[])) (.inRegion ops rest :: k)) [g,h,(base 70).at ⟨T,[]⟩ [.inRegion hc3 (5 :: rest2),.code hX4],((baseD 141).at aY (.inRegion opsY (iY :: restY) :: kY)),rootF]) V:=by
 intro KK hM hS
 have hn7:=t.n7
 have hin:=t.hin
 obtain ⟨qv,M,hqr⟩:=t.I.mu
 obtain ⟨ho,hlt,hr5,hr9,hkr,hl1,hl5⟩:=t.owz
 obtain ⟨un,A,hU⟩:=t.I.jm
 obtain ⟨es,clk,mm,y0,hm,hmb,hmk,hmo⟩:=t.I.mp
 obtain ⟨hp,ho0⟩:=t.I.ok.p_of hi (.inr hj)
 have hturn : s.turn i = { s with j:=hdj (upd s.j i 7) s.q,q:=s.q.tail,o:=hdo s.q,a:=s.a + 1,z:=s.z }:=by
   unfold Js.turn
   rw [if_neg hi,if_neg (by omega),if_neg (by omega),if_pos hj]
   rfl
 have hok:=t.I.ok.over hi (.inr hj)
 have hqx : ∀ y ∈ s.q,1 <= y /\ y < C.n /\ y ≠ i /\ (s.j y = 4 ∨ s.j y = 5):=fun y hy=>by
   obtain ⟨h1,h2,h3⟩:=t.I.ok.qj y hy
   exact ⟨h1,h2,fun e=>by subst e; omega,h3⟩
 rw [ho0] at M
 obtain ⟨h1,h2,h3,h4⟩:=hme h (by simp) ob _ _ hjn
 obtain ⟨cv,yo⟩ : ∃ cv,V.heap[ob]? = some (.cells #[cv,.bool true,.int .i64 D.v,.int .i64 0] 201 (0,0)):=by
   rcases h4 with ⟨es',clk',m',h5,h6⟩ | h5
   . rw [y0] at h5
     obtain ⟨rfl,rfl⟩ : es = es' /\ clk = clk':=by have:=Option.some.inj h5; injection this with a b; exact ⟨a,b⟩
     have e:=hm.inj h6
     refine absurd ?_ (jk_no (D:=D) (p:=s.p) hl1 (by omega))
     rw [← hmk,e]
     simp
   . exact h5
 obtain ⟨Tg,g0,eg⟩:=id hgw
 obtain ⟨Th,q0,q1,q2,q3,q4,eh⟩:=id hjn
 subst eg
 refine hM.walk _ _ _ (rest_back (C:=C) (i:=i) (mo:=0) (ow:=i + 1) t.hn hin (by omega) t.H M.c1 (fun _=>?_) (fun hx=>absurd rfl hx) hfr)
 subst eh
 refine wait_ret t.hn (.stop ?_) hgw
 refine join_b0 hM t.hn yo hjn ?_
 refine h_r3o (x:=D.v) (e:=0) hM t.hn hT.fg hr2 fun T3 hT3=>?_
 exact h_tail (q:=s.q) (qv:=qv) hM hS t hi hturn hok hqx (by rw [if_pos rfl,jsm_a]) t.hn (Nat.le_refl _) (fun b _ _=>rfl) M hqr (fun b hb=>⟨M.qown b hb,M.qu.at_ hb⟩) hT3
theorem jh3q (t : Jn E C D s i own V) (hi : i ≠ 0) (hj : s.j i = 3) (ho0 : s.o ≠ 0) (hT : HF D (C.tp i) T) {jj : Nat} (hfr : LkY (D.r + 5) 0 (C.tp i) (b.at a (.inRegion ops (jj :: rest) :: k))) : WillM Try.prog false E.Z (TEndM C (Ufj D C) s i own V ((baseD 141).at aY (.inRegion opsY (iY :: restY) :: kY))) 0 (G (b.at (a.put ((ops[jj]?).bind (·.dst)) (.tuple #[])) (.inRegion ops rest :: k)) [(base 70).at ⟨T,[]⟩ [.inRegion hc2 [1],.code hX3],((baseD 141).at aY (.inRegion opsY (iY :: restY) :: kY)),rootF]) V:=by
 intro KK hM hS
 have hn7:=t.n7
 have hin:=t.hin
 obtain ⟨qv,M,hqr⟩:=t.I.mu
 obtain ⟨ho,hlt,hr5,hr9,hkr,hl1,hl5⟩:=t.owz
 obtain ⟨un,A,hU⟩:=t.I.jm
 obtain ⟨es,clk,mm,y0,hm,hmb,hmk,hmo⟩:=t.I.mp
 have hturn : s.turn i = { s with j:=upd s.j i 5,q:=s.q ++ [i] }:=by
   unfold Js.turn
   rw [if_neg hi,if_pos hj,if_neg ho0]
 have hok:=t.I.ok.push hi hin hj ho0
 have hp : s.p = 43:=by
   have h1:=t.I.ok.p43
   have h2:=t.I.ok.o0
   by_cases h : s.p < 43
   . exact absurd (h2 h) ho0
   . omega
 have hne : s.o ≠ i + 1:=fun e=>by have:=(t.I.ok.oh i e).2.2; omega
 have hql:=nd_len C.n s.q t.I.ok.qd fun x hx=>(t.I.ok.qj x hx).2.1
 obtain ⟨vb,vc,rfl⟩:=M.qu.sl
 refine hM.walk _ _ _ (lock_back (C:=C) (i:=i) (mo:=0) (ow:=s.o) t.hn hin (by omega) t.H t.L M.c0 M.z0 M.c1 M.z1 M.qu (by omega) M.qmb (t.far _ M.mown) (fun b hb=>t.far b (M.qown b hb)) hne (fun h=>absurd h.1 ho0) (fun _ V1 v' f1 f2 P hf1 hf2=>.stop ?_) hfr)
 have K : ∀ b,b < V.heap.size -> b ≠ D.r + 5 -> (Value.slice vb s.q.length vc).ownBlock ≠ some b -> V1.heap[b]? = V.heap[b]?:=P.keep
 have hfq : ∀ b,b <= D.r + 9 -> (Value.slice vb s.q.length vc).ownBlock ≠ some b:=fun b h1 h2=>by have:=hqr b h2; omega
 have k2:=K (D.r + 2) (hlt 2 (by omega)) (by omega) (hfq _ (by omega))
 have G1 : Gk C own V V1:=⟨P.nrm,P.sz,fun b h1 h2=>K b h1 (fun e=>h2 (e ▸ hr5)) (fun e=>h2 (M.qown b e))⟩
 have kh:=t.has G1
 refine hS _ _ (jp (fr:=f1) (cs:=[f2,_]) P.nrm P.sz (fun b h1 h2 _=>G1.keep b h1 h2) t.lt ((t.H.off kh).congr fun j _=>?_) ?_ (JMem.still k2 fun ob cv h1 h2 h3=>K ob (t.lt ob h1) (by omega) (qu_off M.qu h3 (by decide))) ?_ ?_ (JMem.none fun f hf=>?_))
 . rw [hturn]
   exact st_j (s:=s) (s':={ s with j:=upd s.j i 5,q:=s.q ++ [i] }) hi rfl rfl j
 . rw [hturn] at hok ⊢
   refine ⟨hok,fun b h1 h2=>.inl (t.I.ow b h1 h2),.inl t.I.ok2,hkr,hl1,hl5,⟨un,A.keep fun b hb=>K b (t.lt b (t.I.fo b hb)) (by rcases hb with rfl | hb <;> omega) (hfq b (by rcases hb with rfl | hb <;> omega)),fun h=>?_⟩,⟨v',M.push P (fun b h=>.inl h) (fun b h1 h2=>.inr ⟨h1,h2⟩),fun b hb=>?_⟩,es,clk,mm,k2.trans y0,hm,hmb,hmk,fun h=>absurd h.2 (by show ¬ s.p <= 42; omega)⟩
   . obtain ⟨g,c,ks,e1,e2,e3,e4,e5⟩:=hU h
     exact ⟨g,c,ks,e1,.inl e2,e3,e4.keep (K g (t.lt g e2) (by omega) (rowk_qu e4 M.qu (by decide))),e5⟩
   . rcases P.own with h | ⟨b',h,h2⟩
     . exact hqr b (h ▸ hb)
     . rw [h] at hb
       obtain rfl:=Option.some.inj hb
       omega
 . rw [hturn]
   unfold Js.st
   rw [if_neg hi]
   show Js.stj (upd s.j i 5 i) = 2
   rw [upd_same]
   rfl
 . rw [hturn]
   exact ⟨fun h=>absurd h hi,fun _=>⟨(fun h=>absurd h (by show ¬ upd s.j i 5 i = 1; rw [upd_same]; decide)),(fun h=>absurd h (by show ¬ upd s.j i 5 i = 2; rw [upd_same]; decide)),(fun h=>absurd h (by show ¬ upd s.j i 5 i = 3; rw [upd_same]; decide)),fun _=>⟨f1,f2,T,hf1,hf2,hT,rfl⟩,(fun h=>absurd h (by show ¬ (upd s.j i 5 i = 4 ∨ upd s.j i 5 i = 8); rw [upd_same]; decide)),by show 1 <= upd s.j i 5 i; rw [upd_same]; decide,by show upd s.j i 5 i <= 8; rw [upd_same]; decide,by show upd s.j i 5 i ≠ 7; rw [upd_same]; decide⟩⟩
 . simp only [List.mem_cons,List.not_mem_nil,or_false] at hf
   rcases hf with rfl | rfl | rfl
   . exact rsp_fn hf1
   . obtain ⟨Tg,_,rfl⟩:=hf2
     exact fun e=>by cases e
   . exact fun e=>by cases e
theorem jh3w (t : Jn E C D s i own V) (hi : i ≠ 0) (hj : s.j i = 3) (ho0 : s.o = 0) (hpn : 2 <= s.p /\ s.p <= 42) (hT : HF D (C.tp i) T) {jj : Nat} (hfr : LkY (D.r + 5) 0 (C.tp i) (b.at a (.inRegion ops (jj :: rest) :: k))) : WillM Try.prog false E.Z (TEndM C (Ufj D C) s i own V ((baseD 141).at aY (.inRegion opsY (iY :: restY) :: kY))) 0 (G (b.at (a.put ((ops[jj]?).bind (·.dst)) (.tuple #[])) (.inRegion ops rest :: k)) [(base 70).at ⟨T,[]⟩ [.inRegion hc2 [1],.code hX3],((baseD 141).at aY (.inRegion opsY (iY :: restY) :: kY)),rootF]) V:=by
 intro KK hM hS
 have hn7:=t.n7
 have hin:=t.hin
 obtain ⟨qv,M,hqr⟩:=t.I.mu
 obtain ⟨ho,hlt,hr5,hr9,hkr,hl1,hl5⟩:=t.owz
 obtain ⟨un,A,hU⟩:=t.I.jm
 obtain ⟨es,clk,mm,y0,hm,hmb,hmk,hmo⟩:=t.I.mp
 obtain ⟨ob,m',cv,em,oob,gob,yo,hQ,hcv⟩:=hmo hpn
 have hturn : s.turn i = { s with j:=upd s.j i 4,w:=s.w ++ [i] }:=by
   unfold Js.turn
   rw [if_neg hi,if_pos hj,if_pos ho0,if_pos hpn]
 have hok:=t.I.ok.wait hi hin hj ho0 hpn
 have hwl:=nd_len C.n s.w t.I.ok.wd fun x hx=>(t.I.ok.wj x hx).2.1
 have hq0:=t.I.ok.q0 ho0
 rw [ho0,hq0] at M
 obtain ⟨vb,vc,rfl⟩:=M.qu.sl
 refine hM.walk _ _ _ (lock_back (C:=C) (i:=i) (mo:=0) (ow:=0) t.hn hin (by omega) t.H t.L M.c0 M.z0 M.c1 M.z1 M.qu (by simp) M.qmb (t.far _ M.mown) (fun b hb=>t.far b (M.qown b hb)) (by omega) (fun _=>.stop ?_) (fun h=>absurd ⟨rfl,rfl⟩ h) hfr)
 have M1:=M.take (i + 1)
 have k1 : ∀ b,b ≠ D.r + 5 -> (V.setCell ⟨D.r + 5,0 + 1,none⟩ (.int .i64 (i + 1 : Nat))).heap[b]? = V.heap[b]?:=fun b hb=>set_off _ _ hb
 have s1 : (V.setCell ⟨D.r + 5,0 + 1,none⟩ (.int .i64 (i + 1 : Nat))).heap.size = V.heap.size:=by simp [World.setCell]
 have hn1:=norm_set t.hn ⟨D.r + 5,0 + 1,none⟩ (.int .i64 (i + 1 : Nat))
 generalize V.setCell ⟨D.r + 5,0 + 1,none⟩ (.int .i64 (i + 1 : Nat)) = V1 at *
 have hqob : (Value.slice vb ([] : List Nat).length vc).ownBlock ≠ some ob:=qu_off M.qu yo (by decide)
 have hcob : cv.ownBlock ≠ some ob:=qu_off hQ yo (by decide)
 have hcq : ∀ b,cv.ownBlock = some b -> (Value.slice vb ([] : List Nat).length vc).ownBlock ≠ some b:=fun b hb=>qu_ne hQ M.qu (by decide) hb
 have lob:=t.lt _ oob
 have ek : kpos D.k0 mm 0 = some (0,ob):=by rw [em]; simp [kpos]
 have A1 : JM D (bgn D s.p) (jsm D s.a s.z) s.t un V1:=A.keep fun b hb=>k1 b (by rcases hb with rfl | hb <;> omega)
 have y01:=(k1 (D.r + 2) (by omega)).trans y0
 have yo1:=(k1 ob (by omega)).trans yo
 have hd : ((hc2[1]?).bind (·.dst)) = some 14:=by kernel_rfl
 rw [hd]
 refine mu_region_end (K:=fun g=>KK 0 g V1) hM.mu ?_
 rw [hX3_eq]
 refine mu_seq hM.mu ?_
 refine h_r3 hM hn1 A1 hl1 hl5 (hT.put (by omega)).fg fun T2 rest2 hT2 hr2=>?_
 refine join_in (k:=D.k0) hM hn1 A1.g y01 hm ek yo1 fun V2 fw hn2 k2 hfw=>?_
 have s2:=k2.size
 have k12 : ∀ b,b < V.heap.size -> b ≠ D.r + 5 -> V2.heap[b]? = V.heap[b]?:=fun b h1 h2=>(k2.keep b (by omega)).trans (k1 b h2)
 have yo2:=(k2.keep ob (by omega)).trans yo1
 have M2:=M1.keep2 (k2.keep _ (by omega)) (fun b hb=>k2.keep b (M1.qu.at_ hb))
 have G2 : Gk C own V V2:=⟨hn2,by omega,fun b h1 h2=>k12 b h1 fun e=>h2 (e ▸ hr5)⟩
 have kh:=t.has G2
 have hQ2 : Qu V2 183 2 cv s.w.length (wts (D.r + 5) s.w):=hQ.keep fun b hb=>by
   obtain ⟨h1,h2⟩:=hcv b hb
   exact k12 b (t.lt b h1) (by omega)
 have hfw2:=hfw
 obtain ⟨Tw,w0,w1,w2,w3,w4,rfl⟩:=hfw
 refine hM.walk _ _ _ (wait_in (C:=C) (i:=i) (mb:=D.r + 5) (cb:=ob) (cv:=cv) (cq:=s.w) (q:=[]) hn2 t.hO.tbi (fun a ha=>t.hO.cbt ha) hin (by omega) (t.H.off kh) (t.L.off kh) M2 (fun x hx=>by cases hx) t.far yo2 oob (by omega) hQ2 (fun b hb=>(hcv b hb).1) hcob (fun e=>by have:=(hcv _ e).2; omega) hqob (by omega) fun V3 cv' V4 qv' f g P U hf hg'=>.stop ?_)
 have s3:=P.sz
 have su : V.heap.size <= V4.heap.size:=by rw [U.sz]; omega
 have k4 : ∀ b,b < V.heap.size -> b ≠ D.r + 5 -> b ≠ ob -> cv.ownBlock ≠ some b -> (∀ j,j < C.n -> b ≠ C.tb j) -> V4.heap[b]? = V.heap[b]?:=fun b h1 h2 h3 h4 h5=>((U.keep b h2 h5).trans (P.keep b (by omega) h3 h4)).trans (k12 b h1 h2)
 have hfc : ∀ b,b <= D.r + 9 -> cv.ownBlock ≠ some b:=fun b h1 h2=>by have:=(hcv b h2).2; omega
 have y04:=(k4 (D.r + 2) (hlt 2 (by omega)) (by omega) (by omega) (hfc _ (by omega)) (t.tb (ho 2 (by omega)))).trans y0
 have yo4:=(U.keep ob (by omega) (t.tb oob)).trans P.c
 have hcv' : ∀ b,cv'.ownBlock = some b -> (own b /\ D.r + 9 < b) ∨ (V.heap.size <= b /\ b < V4.heap.size):=fun b hb=>by
   have hlt4:=P.qu.at_ hb
   rcases P.own with h | ⟨b',h,h2⟩
   . exact .inl (hcv b (h ▸ hb))
   . rw [h] at hb
     obtain rfl:=Option.some.inj hb
     exact .inr ⟨by omega,by rw [U.sz]; exact hlt4⟩
 have hQ4 : Qu V4 183 2 cv' (s.w ++ [i]).length (wts (D.r + 5) (s.w ++ [i])):=by
   have hq:=P.qu
   rw [← wts_snoc] at hq
   rw [List.length_append]
   refine hq.keep fun b hb=>?_
   rcases hcv' b hb with h | h
   . exact U.keep b (by omega) (t.tb h.1)
   . refine U.keep b (by omega) fun j hj e=>?_
     have:=has_lt t.H t.L (by omega) _ (.inr (.inr ⟨j,hj,rfl⟩) : C.has (C.tb j))
     omega
 refine hS _ _ (jp (fr:=f) (cs:=[g,_,_]) U.nrm su (fun b h1 h2 h3=>k4 b h1 (fun e=>h2 (e ▸ hr5)) (fun e=>h2 (e ▸ oob)) (fun e=>h2 (hcv b e).1) h3) t.lt (U.cw.congr fun j _=>?_) ?_ (JMem.still (y04.trans y0.symm) fun ob' cv2 h1 h2 h3=>?_) ?_ ?_ ?_)
 . rw [hturn]
   exact st_j (s:=s) (s':={ s with j:=upd s.j i 4,w:=s.w ++ [i] }) hi rfl rfl j
 . rw [hturn] at hok ⊢
   refine ⟨hok,fun b h1 h2=>.inl (t.I.ow b h1 h2),.inl t.I.ok2,hkr,hl1,hl5,⟨un,A.keep fun b hb=>k4 b (t.lt b (t.I.fo b hb)) (by rcases hb with rfl | hb <;> omega) (by rcases hb with rfl | hb <;> omega) (hfc b (by rcases hb with rfl | hb <;> omega)) (t.tb (t.I.fo b hb)),fun h=>absurd h (by show ¬ s.p = 43; omega)⟩,?_,es,clk,mm,y04,hm,hmb,hmk,fun _=>⟨ob,m',cv',em,.inl oob,gob,yo4,hQ4,fun b hb=>?_⟩⟩
   . show ∃ qv,MuI V4 _ (D.r + 5) 0 s.o s.q qv /\ _
     rw [ho0,hq0]
     exact ⟨qv',U.mu.grow fun b hb _=>.inl hb,fun b hb=>hqr b (U.qo.symm.trans hb)⟩
   . rcases hcv' b hb with h | h
     . exact ⟨.inl h.1,h.2⟩
     . exact ⟨.inr h,by omega⟩
 . have hne : ob' ≠ ob:=fun e=>by
     rw [e,yo] at h3
     simp at h3
   exact k4 ob' (t.lt ob' h1) (by omega) hne (qu_off hQ h3 (by decide)) (t.tb h1)
 . rw [hturn]
   unfold Js.st
   rw [if_neg hi]
   show Js.stj (upd s.j i 4 i) = 2
   rw [upd_same]
   rfl
 . rw [hturn]
   exact ⟨fun h=>absurd h hi,fun _=>⟨(fun h=>absurd h (by show ¬ upd s.j i 4 i = 1; rw [upd_same]; decide)),(fun h=>absurd h (by show ¬ upd s.j i 4 i = 2; rw [upd_same]; decide)),(fun h=>absurd h (by show ¬ upd s.j i 4 i = 3; rw [upd_same]; decide)),(fun h=>absurd h (by show ¬ (upd s.j i 4 i = 5 ∨ upd s.j i 4 i = 6); rw [upd_same]; decide)),fun _=>⟨f,g,_,ob,T2,rest2,hf,hg',hfw2,hf_of hT2,hr2,rfl⟩,by show 1 <= upd s.j i 4 i; rw [upd_same]; decide,by show upd s.j i 4 i <= 8; rw [upd_same]; decide,by show upd s.j i 4 i ≠ 7; rw [upd_same]; decide⟩⟩
 . intro f0 hf0 ob' tp mp hjn
   simp only [List.mem_cons,List.not_mem_nil,or_false] at hf0
   rcases hf0 with rfl | rfl | rfl | rfl
   . exact absurd (jnr_fn hjn) (rsp_fn hf)
   . exact absurd (jnr_fn hjn) (wtr_fn hg')
   . obtain rfl:=jnr_ob hfw2 hjn
     exact ⟨.inl oob,.inl (ho 2 (by omega)),gob,.inl ⟨es,clk,m',y04,em ▸ hm⟩⟩
   . exact absurd (jnr_fn hjn) (fun e=>by cases e)
end
theorem Js.turn_p (s : Js) {i : Nat} (hi : i ≠ 0) : (s.turn i).p = s.p:=by
 unfold Js.turn
 rw [if_neg hi]
 split
 . split
   . split <;> rfl
   . rfl
 . split
   . rfl
   . split <;> rfl
theorem jwk_or (x : Nat) : jwk x = x ∨ (x = 4 /\ jwk x = 8) ∨ (x = 5 /\ jwk x = 6):=by
 unfold jwk
 split
 . rename_i h; exact .inr (.inl ⟨h,rfl⟩)
 . split
   . rename_i h; exact .inr (.inr ⟨h,rfl⟩)
   . exact .inl rfl
theorem hdj_or (f : Nat -> Nat) (q : List Nat) (j : Nat) : hdj f q j = f j ∨ (f j = 4 /\ hdj f q j = 8) ∨ (f j = 5 /\ hdj f q j = 6):=by
 cases q with
 | nil=>exact .inl rfl
 | cons x q =>
   by_cases e : j = x
   . subst e
     show upd f j (jwk (f j)) j = _ ∨ (_ /\ upd f j (jwk (f j)) j = 8) ∨ (_ /\ upd f j (jwk (f j)) j = 6)
     rw [upd_same]
     exact jwk_or _
   . exact .inl (upd_ne _ _ e)
theorem Js.turn_j (s : Js) {i j : Nat} (hji : j ≠ i) : (s.turn i).j j = s.j j ∨ (s.j j = 4 /\ (s.turn i).j j = 8) ∨ (s.j j = 5 /\ (s.turn i).j j = 6):=by
 unfold Js.turn
 by_cases hi : i = 0
 . rw [if_pos hi]
   split
   . exact hdj_or _ _ _
   . exact .inl rfl
 . rw [if_neg hi]
   split
   . split
     . split
       . exact .inl (upd_ne _ _ hji)
       . exact .inl (upd_ne _ _ hji)
     . exact .inl (upd_ne _ _ hji)
   . split
     . have h:=hdj_or (upd s.j i 7) s.q j
       rw [upd_ne _ _ hji] at h
       exact h
     . split
       . have h:=hdj_or (upd s.j i 7) s.q j
         rw [upd_ne _ _ hji] at h
         exact h
       . exact .inl (upd_ne _ _ hji)
theorem uf_lkrJ {f : Frame} (h : LkR f) : UF f:=by
 obtain ⟨T,_,rfl⟩:=h
 exact uf_at rfl rfl rfl ⟨_,Try.func45⟩
theorem HLoc.up {D : Jd} {tp : Value} {x y : Nat} {cs : List Frame} (h : HLoc D tp x cs) (e : y = x ∨ (x = 4 /\ y = 8) ∨ (x = 5 /\ y = 6)) : HLoc D tp y cs:=by
 rcases e with rfl | ⟨rfl,rfl⟩ | ⟨rfl,rfl⟩
 . exact h
 . obtain ⟨_,_,_,_,h5,_⟩:=h
   exact ⟨fun e=>(by cases e),fun e=>(by cases e),fun e=>(by cases e),fun e=>by omega,fun _=>h5 (.inl rfl),by omega,by omega,by omega⟩
 . obtain ⟨_,_,_,h4,_,_⟩:=h
   exact ⟨fun e=>(by cases e),fun e=>(by cases e),fun e=>(by cases e),fun _=>h4 (.inl rfl),fun e=>by omega,by omega,by omega,by omega⟩
theorem uf_aloc {D : Jd} {C : Cw} {p : Nat} {cs : List Frame} (h : ALoc D C p cs) : ∀ f ∈ cs,UF f:=by
 obtain ⟨a1,a2,a3,b1,b2⟩:=h
 intro f hf
 have hp : p = 1 ∨ (2 <= p /\ p <= 41) ∨ p = 42:=by omega
 rcases hp with hp | hp | hp
 . obtain ⟨g,T,q1,_,rfl⟩:=a1 hp
   simp only [List.mem_cons,List.not_mem_nil,or_false] at hf
   rcases hf with rfl | rfl
   . exact uf_lky q1
   . exact uf_at rfl rfl rfl ⟨_,Try.func66⟩
 . obtain ⟨T,_,_,rfl⟩:=a2 hp
   obtain rfl : f = _:=by simpa using hf
   exact uf_at rfl rfl rfl ⟨_,Try.func66⟩
 . obtain ⟨g,T,q1,_,rfl⟩:=a3 hp
   simp only [List.mem_cons,List.not_mem_nil,or_false] at hf
   rcases hf with rfl | rfl
   . exact uf_lky q1
   . exact uf_at rfl rfl rfl ⟨_,Try.func66⟩
theorem uf_hloc {D : Jd} {tp : Value} {x : Nat} {cs : List Frame} (h : HLoc D tp x cs) : ∀ f ∈ cs,UF f:=by
 obtain ⟨a1,a2,a3,a4,a5,b1,b2,b3⟩:=h
 intro f hf
 have hp : x = 1 ∨ x = 2 ∨ x = 3 ∨ (x = 5 ∨ x = 6) ∨ (x = 4 ∨ x = 8):=by omega
 rcases hp with hp | hp | hp | hp | hp
 . obtain ⟨T,_,rfl⟩:=a1 hp
   obtain rfl : f = _:=by simpa using hf
   exact uf_at rfl rfl rfl ⟨_,Try.func70⟩
 . obtain ⟨T,_,rfl⟩:=a2 hp
   obtain rfl : f = _:=by simpa using hf
   exact uf_at rfl rfl rfl ⟨_,Try.func70⟩
 . obtain ⟨g,T,q1,_,rfl⟩:=a3 hp
   simp only [List.mem_cons,List.not_mem_nil,or_false] at hf
   rcases hf with rfl | rfl
   . exact uf_lky q1
   . exact uf_at rfl rfl rfl ⟨_,Try.func70⟩
 . obtain ⟨g,g2,T,q1,q2,_,rfl⟩:=a4 hp
   simp only [List.mem_cons,List.not_mem_nil,or_false] at hf
   rcases hf with rfl | rfl | rfl
   . exact uf_rsp q1
   . exact uf_lkrJ q2
   . exact uf_at rfl rfl rfl ⟨_,Try.func70⟩
 . obtain ⟨g1,g2,g3,ob,T,rest,q1,q2,q3,_,_,rfl⟩:=a5 hp
   simp only [List.mem_cons,List.not_mem_nil,or_false] at hf
   rcases hf with rfl | rfl | rfl | rfl
   . exact uf_rsp q1
   . exact uf_wtrF q2
   . exact uf_jnr q3
   . exact uf_at rfl rfl rfl ⟨_,Try.func70⟩
variable {D : Jd} {C : Cw} {E : Env}
theorem ufj_ok (hO : CwOk E C) (hn7 : C.n <= 7) (hf0 : C.f 0 = .func (.func 66) #[] #[bp (D.r + 5),bp D.r,bp (D.r + 4),bp (D.r + 6),bp (D.r + 8),bp (D.r + 9),bp (D.r + 1)]) (hf1 : ∀ i,i ≠ 0 -> i < C.n -> C.f i = .func (.func 70) #[] #[bp (D.r + 5),bp (D.r + 4),bp D.r,bp (D.r + 1),bp (D.r + 7)]) : UOk E C (Ufj D C):=by
 refine ⟨fun σ own V V' A hk hsz=>JInv.frame A hk,fun cs own V V' A hk _=>JMem.frame A hk,fun σ i cs h=>?_,fun (σ : Js) i j cs hi hs hj h=>?_,fun (σ : Js) i j hi hs hj hji=>σ.stT hji,fun (σ : Js) i _=>?_,fun (σ : Js) i hi h=>?_,fun (σ : Js) i own V Rf bx hi hs hRf hn H A hown L hlb=>?_,fun (σ : Js) i own V Rf bx b a ops iQ rest k cs hi hs hl hmm hRf hn H A hown L hlb=>?_⟩
 . obtain ⟨h0,h1⟩:=h
   by_cases e : i = 0
   . exact uf_aloc (h0 e)
   . exact uf_hloc (h1 e)
 . obtain ⟨h0,h1⟩:=h
   show JLoc D C (σ.turn i) j cs
   refine ⟨fun e=>?_,fun e=>(h1 e).up (σ.turn_j hj)⟩
   rw [σ.turn_p (fun e2=>hj (e.trans e2.symm))]
   exact h0 e
 . show Js.st σ i = 0 ∨ Js.st σ i = 1 ∨ Js.st σ i = 2 ∨ Js.st σ i = 3
   unfold Js.st
   split
   . exact stl_r _
   . exact stj_r _
 . by_cases e : i = 0
   . subst e
     exact ⟨hf0,_,_,Try.func66,by kernel_rfl,rfl⟩
   . refine ⟨?_,?_⟩
     . show _ = Value.func (.func (if i = 0 then 66 else 70)) #[] (if i = 0 then _ else _)
       rw [if_neg e,if_neg e]
       exact hf1 i e hi
     . show ∃ fn c,Try.prog.funcs[if i = 0 then 66 else 70]? = some fn /\ _
       rw [if_neg e]
       exact ⟨_,_,Try.func70,by kernel_rfl,rfl⟩
 . obtain ⟨aY,opsY,iY,restY,kY,eRf,-⟩:=hRf
   subst eRf
   have hs : Js.st σ i = 0:=hs
   have t : Jn E C D σ i own V:=⟨hO,hn7,hi,hn,A,H,L,fun b hb=>(hown b hb).1,far_ofM hown hlb⟩
   unfold Js.st at hs
   by_cases e : i = 0
   . subst e
     rw [if_pos rfl] at hs
     exact jl0 t (stl_0 hs)
   . rw [if_neg e] at hs
     have h:=jh0 (aY:=aY) (opsY:=opsY) (iY:=iY) (restY:=restY) (kY:=kY) t e (stj_0 hs)
     show WillM Try.prog false E.Z _ 0 (G (Frame.enter Try.prog (if i = 0 then 66 else 70) (#[] ++ #[C.tp i] ++ (if i = 0 then _ else _)) .normal) _) V
     rw [if_neg e,if_neg e]
     exact h
 . obtain ⟨aY,opsY,iY,restY,kY,eRf,-⟩:=hRf
   subst eRf
   have hs : Js.st σ i = 1:=hs
   have H' : CwAt C false (upd (Js.st σ) i 1) V:=CwAt.congr H fun j hj=>by
     by_cases e : j = i
     . subst e; rw [upd_same]; exact hs
     . rw [upd_ne _ _ e]; rfl
   have t : Jn E C D σ i own V:=⟨hO,hn7,hi,hn,A,H',L,fun b hb=>(hown b hb).1,far_ofM hown hlb⟩
   obtain ⟨h0,h1⟩ : JLoc D C σ i _:=hl
   unfold Js.st at hs
   by_cases e0 : i = 0
   . subst e0
     rw [if_pos rfl] at hs
     obtain ⟨c1,c2,c3,b1,b2⟩:=h0 rfl
     have hp : σ.p = 1 ∨ (2 <= σ.p /\ σ.p <= 41) ∨ σ.p = 42:=by omega
     rcases hp with hp | hp | hp
     . obtain ⟨f,T,hf,hT,e⟩:=c1 hp
       obtain ⟨rfl,rfl⟩:=List.cons.inj e
       exact jl1 t hp hT hf
     . obtain ⟨T,hT,h10,e⟩:=c2 hp
       obtain ⟨e1,rfl⟩:=List.cons.inj e
       obtain ⟨rfl,e2,e3⟩:=at_inj e1
       obtain ⟨rfl,e4,rfl⟩:=item_inj e2
       obtain ⟨rfl,rfl⟩:=List.cons.inj e4
       rw [e3]
       by_cases hl : σ.p = 41
       . exact jl41 (q:=σ.p - 2) (m:=40) t (by omega) (by omega) rfl hT h10
       . exact jly (q:=σ.p - 2) (m:=σ.p - 1) t (by omega) (by omega) (by omega) hT h10
     . obtain ⟨f,T,hf,hT,e⟩:=c3 hp
       obtain ⟨rfl,rfl⟩:=List.cons.inj e
       exact jl42 t hp hT hf
   . rw [if_neg e0] at hs
     obtain ⟨c1,c2,c3,c4,c5,-⟩:=h1 e0
     rcases stj_1 hs with hp | hp | hp | hp | hp
     . obtain ⟨T,hT,e⟩:=c1 hp
       obtain ⟨e1,rfl⟩:=List.cons.inj e
       obtain ⟨rfl,e2,e3⟩:=at_inj e1
       obtain ⟨rfl,e4,rfl⟩:=item_inj e2
       obtain ⟨rfl,rfl⟩:=List.cons.inj e4
       rw [e3]
       exact jh1 t e0 hp hT
     . obtain ⟨T,hT,e⟩:=c2 hp
       obtain ⟨e1,rfl⟩:=List.cons.inj e
       obtain ⟨rfl,e2,e3⟩:=at_inj e1
       obtain ⟨rfl,e4,rfl⟩:=item_inj e2
       obtain ⟨rfl,rfl⟩:=List.cons.inj e4
       rw [e3]
       exact jh2 t e0 hp hT
     . obtain ⟨f,T,hf,hT,e⟩:=c3 hp
       obtain ⟨rfl,rfl⟩:=List.cons.inj e
       by_cases ho : σ.o = 0
       . by_cases hu : 2 <= σ.p /\ σ.p <= 42
         . exact jh3w t e0 hp ho hu hT hf
         . exact jh3n t e0 hp ho hu hT hf
       . exact jh3q t e0 hp ho hT hf
     . obtain ⟨f,g,T,hf,hg,hT,e⟩:=c4 (.inr hp)
       obtain ⟨rfl,rfl⟩:=List.cons.inj e
       exact jh6 t e0 hp hT hg hf
     . obtain ⟨f,g,h,ob,T,rest2,hf,hg,hj,hT,hr,e⟩:=c5 (.inr hp)
       obtain ⟨rfl,rfl⟩:=List.cons.inj e
       refine jh8 t e0 hp hT hg hj hr (fun f' hf'=>?_) hf
       obtain rfl : f' = h:=by simpa using hf'
       exact hmm f' (by simp)
variable {D : Fd} {C : Cw} {E : Env}
theorem ufl_run (r : Nat) (C : Cw) (σ' : Gs) (xs' : List Nat) (h : (σ',xs') = rnds (Ufl r C) 2 30 (([] : List Int).foldl (pk (Ufl r C) 2) ((⟨0,0,false⟩ : Gs),[]))) : σ' = ⟨6,4,true⟩:=by
 have h1 : rnds (Ufl r C) 2 30 (([] : List Int).foldl (pk (Ufl r C) 2) ((⟨0,0,false⟩ : Gs),[])) = ((⟨6,4,true⟩ : Gs),[0,1,0,1,0,0,0,0,1]):=by kernel_rfl
 exact congrArg Prod.fst (h.trans h1)
end
end Go.Proofs.Ytibcdikfbhmheaa
