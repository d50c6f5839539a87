import Derived.Test.YtibcdikfbhmheaaQJ10
import Derived.Test.YtibcdikfbhmheaaQJ07
import Derived.Test.YtibcdikfbhmheaaQJ08
set_option linter.unusedSimpArgs false
set_option linter.unusedVariables false
set_option maxRecDepth 100000
set_option maxHeartbeats 4000000
namespace Go.Proofs.Ytibcdikfbhmheaa
open Go Go.Conc Go.Proofs
open Go.ConcN (sumTo upd sumTo_upd upd_ne upd_same)
noncomputable section
theorem array53f (T : Array Value) (h : T.size = 53) : ∃ f : Nat -> Value,(∀ i v,T[i]? = some v -> f i = v) /\ T = #[f 0,f 1,f 2,f 3,f 4,f 5,f 6,f 7,f 8,f 9,f 10,f 11,f 12,f 13,f 14,f 15,f 16,f 17,f 18,f 19,f 20,f 21,f 22,f 23,f 24,f 25,f 26,f 27,f 28,f 29,f 30,f 31,f 32,f 33,f 34,f 35,f 36,f 37,f 38,f 39,f 40,f 41,f 42,f 43,f 44,f 45,f 46,f 47,f 48,f 49,f 50,f 51,f 52]:=arrg T h
noncomputable def sB : Code:=Try.f164.body.getD .skip
def sR0 : Code:=nva sB
def sL : Code:=nvl (nvk (nvb sB))
def sR1 : Code:=nva (nva sL)
def sK1 : Code:=nvk (nva (nvb sL))
def sR2 : Code:=nvb (nvb sL)
def sR3 : Code:=nva sK1
def sM : Code:=nvl (nvk (nvb sK1))
def sR4 : Code:=nva (nva sM)
def sR6 : Code:=nvk (nva (nvb sM))
def sR5 : Code:=nvb (nvb sM)
theorem sB_eq : sB = .seq sR0 (.block 0 (.loop sL)):=by kernel_rfl
theorem sL_eq : sL = .seq (.seq sR1 (.cond (.tmp 14) .skip (.exit 0))) (.seq (.block 1 (.seq sR3 (.block 2 (.loop sM)))) sR2):=by kernel_rfl
theorem sM_eq : sM = .seq (.seq sR4 (.cond (.tmp 34) .skip (.exit 2))) (.seq (.block 3 sR6) sR5):=by kernel_rfl
theorem mk_call {main : Bool} {Z : Cuts} {KK : Nat -> Goroutine -> World -> Prop} {d : Nat} {V : World} (hM : MarkK Try.prog main Z KK) {f : FuncId} {args : Array Value} {c : Frame} {cs : List Frame} {R : Value -> World -> Prop} (hf : f ∈ Lone) (hC : ∀ τ,Calls Try.prog f args (re V τ 0) fun e w'=>match e with | .returned v=>R v (norm w') | _=>False)
   (K : ∀ v V',norm V' = V' -> R v V' -> KK d (G (c.finish v) cs) V') : KK d (G (Frame.enter Try.prog f args .normal) (c :: cs)) V :=
 hM.walk d _ V (will_call calm (R:=fun v V'=>norm V' = V' /\ R v V') hf (fun τ=>(hC τ).mono fun e w' h=>by
   cases e with
   | returned v=>exact ⟨rfl,h⟩
   | _=>exact h.elim) fun v V' h=>Will.stop (K v V' h.1 h.2))
section
variable {main : Bool} {Z : Cuts} {KK : Nat -> Goroutine -> World -> Prop} {d : Nat} {V : World} {kt : List Item} {cs : List Frame} {g c n i j J : Nat} {ks : List (Int × Int)} {T : Array Value} {ka kb : Int × Int}
theorem foQJ1153 {l : List (Nat × Value)} {T : Array Value} (hT : Fg 53 l T) {A : Prop} {B : (Nat -> Value) -> Prop} (h : ∀ f,B f) (w : Hd (∀ f,B f) -> A:=by
 intro k
 have hs:=And.left hT
 have h2:=And.right hT
 obtain ⟨f,hf,e⟩:=array53f T hs
 rw [e]
 repeat (obtain ⟨h1,h2⟩:=h2;simp only [hf _ _ h1];clear h1)
 exact k.h f) : A:=w ⟨h⟩
def PQJ110 (g : Nat) (n : Nat) (c : Nat) (i : Nat) (J : Nat) : Array Value -> Prop:=Fg 53 [(0,.slice (some ⟨g,0,none⟩) n c),(1,.int .i64 0),(2,.int .i64 (n : Int)),(3,.func (.func 105) #[] #[]),(8,.int .i64 (i : Int)),(9,.int .i64 (J : Int))]
theorem s_r4 (hM : MarkK Try.prog main Z KK) (hn : norm V = V) (hJ0 : J = j + 1) (hJ : J < n) (hn1 : n < 1000) (ca : V.cell? ⟨g,J * 2,none⟩ = some (.int .i64 ka.1) /\ V.cell? ⟨g,J * 2 + 1,none⟩ = some (.int .i64 ka.2)) (cb : V.cell? ⟨g,j * 2,none⟩ = some (.int .i64 kb.1) /\ V.cell? ⟨g,j * 2 + 1,none⟩ = some (.int .i64 kb.2)) (hT : (PQJ110 g n c i J) T)
   (K : ∀ T' V',norm V' = V' -> Kp V V' -> (PQJ110 g n c i J) T' -> T'[34]? = some (.bool (decide (kcmp ka kb < 0))) -> KK d (G ((base 164).at ⟨T',[]⟩ (kt)) cs) V') : KK d (G ((base 164).at ⟨T,[]⟩ (.code sR4 :: kt)) cs) V:=by
 have hK0:=K
 clear K
 obtain ⟨ca1,ca2⟩:=ca
 obtain ⟨cb1,cb2⟩:=cb
 have qa1 : ∀ τ,(re V τ 0).cell? ⟨g,J * 2,none⟩ = some (.int .i64 ka.1):=fun τ=>ca1
 have qa2 : ∀ τ,(re V τ 0).cell? ⟨g,J * 2 + 1,none⟩ = some (.int .i64 ka.2):=fun τ=>ca2
 have qb1 : ∀ τ,(re V τ 0).cell? ⟨g,j * 2,none⟩ = some (.int .i64 kb.1):=fun τ=>cb1
 have qb2 : ∀ τ,(re V τ 0).cell? ⟨g,j * 2 + 1,none⟩ = some (.int .i64 kb.2):=fun τ=>cb2
 have w1 : IntKind.i64.wrap ((J : Int) - 1) = (j : Int):=by rw [IntKind.wrap_i64]; omega
 have p1 : ¬ ((J : Int) < 0):=by omega
 have p2 : ¬ ((n : Int) <= (J : Int)):=by omega
 have p3 : ¬ ((j : Int) < 0):=by omega
 have p4 : ¬ ((n : Int) <= (j : Int)):=by omega
 have p5 : 0 < J:=by omega
 have p6 : j < n:=by omega
 have p7 : J < n:=hJ
 clear ca1 ca2 cb1 cb2 hJ0
 refine foQJ1153 hT fun f=>?_
 generalize hX0 : sR4 = X0
 simp only [sR4,sM,sK1,sL,sB,nva,nvb,nvk,nvl,Try.f164,Option.getD_some] at hX0
 subst hX0
 obtain ⟨K,hK,hV,key,yek⟩:=kKV (L:=Lone) (J:=fun g=>KK d g V) hM.mu (hM.muv hn)
 refine key _ ?_
 have hD : MuD Try.prog K:=fun b a k cs id ops h=>yek _ (hM.mud b a k cs id ops fun t=>key _ (h t))
 refine mu_drawM 14 hK hV hD (.inl rfl) ?_
 refine wS ?_
 refine anyQ 0 20 rfl ?_
 refine anyQ 1 20 rfl ?_
 refine anyQ 2 20 rfl ?_
 refine anyQ 3 20 rfl ?_
 refine anyQ 4 20 rfl ?_
 refine anyQ 5 20 rfl ?_
 refine anyQ 6 20 rfl ?_
 refine anyQ 7 20 rfl ?_
 refine anyQ 8 20 rfl ?_
 refine anyQ 9 20 rfl ?_
 refine anyQ 10 20 rfl ?_
 refine anyQ 11 20 rfl ?_
 refine anyQ 12 20 rfl ?_
 refine anyQ 13 20 rfl ?_
 refine anyP_last (by kernel_rfl) (fun t=>?_)
 rw [lin_oneA (i:=15) (by kernel_rfl),lin_oneA (i:=16) (by kernel_rfl),lin_nilA]
 refine mu_enterV hK (f:=105) (args:=#[kv ka,kv kb]) rfl rfl (by decide) (fun w=>?_) (fun w=>?_) ?_
 . go_simp
   exact ⟨rfl,rfl⟩
 . simp [go_sem,callFunc,Try.func105,Try.f105]
 refine yek _ ?_
 clear hK hV hD key yek K
 refine mk_call (R:=fun v V'=>v = .int .i64 (kcmp ka kb) /\ Kp V V') hM (by decide) (fun τ=>(cmp105 ka kb _).mono fun e w' h=>?_) fun v V' hn' h=>?_
 . obtain ⟨rfl,h⟩:=h
   exact ⟨rfl,kp_new h⟩
 obtain ⟨rfl,hk⟩:=h
 generalize kcmp ka kb = r at *
 rw [Frame.finish_at]
 walk_nrm
 refine wB (L:=Lone) (J:=fun g=>KK d g V') hM.mu (hM.muv hn') fun kk hkk=>?_
 exact hK0 _ V' hn' hk fgm rfl
def PQJ111 (g : Nat) (n : Nat) (c : Nat) (i : Nat) : Array Value -> Prop:=Fg 53 [(0,.slice (some ⟨g,0,none⟩) n c),(1,.int .i64 0),(2,.int .i64 (n : Int)),(3,.func (.func 105) #[] #[]),(8,.int .i64 (i : Int))]
theorem s_r4z (hM : MarkK Try.prog main Z KK) (hn : norm V = V) (hT : Fg 53 [(0,.slice (some ⟨g,0,none⟩) n c),(1,.int .i64 0),(2,.int .i64 (n : Int)),(3,.func (.func 105) #[] #[]),(8,.int .i64 (i : Int)),(9,.int .i64 0)] T) (K : ∀ T',(PQJ111 g n c i) T' -> T'[34]? = some (.bool false) -> KK d (G ((base 164).at ⟨T',[]⟩ (kt)) cs) V) : KK d (G ((base 164).at ⟨T,[]⟩ (.code sR4 :: kt)) cs) V:=by
 have hK0:=K
 clear K
 refine foQJ1153 hT fun f=>?_
 generalize hX0 : sR4 = X0
 simp only [sR4,sM,sK1,sL,sB,nva,nvb,nvk,nvl,Try.f164,Option.getD_some] at hX0
 subst hX0
 obtain ⟨K,hK,hV,key,yek⟩:=kKV (L:=Lone) (J:=fun g=>KK d g V) hM.mu (hM.muv hn)
 refine key _ ?_
 have hD : MuD Try.prog K:=fun b a k cs id ops h=>yek _ (hM.mud b a k cs id ops fun t=>key _ (h t))
 refine mu_drawM 16 hK hV hD (.inl rfl) ?_
 refine wS ?_
 refine anyQ 0 20 rfl ?_
 refine anyQ 1 20 rfl ?_
 refine anyQ 2 20 rfl ?_
 refine anyQ 3 20 rfl ?_
 refine anyP_take (i:=4) (v:=undef) 20 rfl (by kernel_rfl) rfl (by kernel_rfl) (by kernel_rfl) (by kernel_rfl) (by kernel_rfl) (.inr ⟨rfl,rfl⟩) ?_
 walk_nrm
 refine anyP_take (i:=5) (v:=undef) 20 rfl (by kernel_rfl) rfl (by kernel_rfl) (by kernel_rfl) (by kernel_rfl) (by kernel_rfl) (.inr ⟨rfl,rfl⟩) ?_
 walk_nrm
 refine anyP_take (i:=6) (v:=undef) 20 rfl (by kernel_rfl) rfl (by kernel_rfl) (by kernel_rfl) (by kernel_rfl) (by kernel_rfl) (.inr ⟨rfl,rfl⟩) ?_
 walk_nrm
 refine anyP_take (i:=7) (v:=undef) 20 rfl (by kernel_rfl) rfl (by kernel_rfl) (by kernel_rfl) (by kernel_rfl) (by kernel_rfl) (.inr ⟨rfl,rfl⟩) ?_
 walk_nrm
 refine anyP_take (i:=8) (v:=undef) 20 rfl (by kernel_rfl) rfl (by kernel_rfl) (by kernel_rfl) (by kernel_rfl) (by kernel_rfl) (.inr ⟨rfl,rfl⟩) ?_
 walk_nrm
 refine anyP_take (i:=9) (v:=undef) 20 rfl (by kernel_rfl) rfl (by kernel_rfl) (by kernel_rfl) (by kernel_rfl) (by kernel_rfl) (.inr ⟨rfl,rfl⟩) ?_
 walk_nrm
 refine anyP_take (i:=10) (v:=undef) 20 rfl (by kernel_rfl) rfl (by kernel_rfl) (by kernel_rfl) (by kernel_rfl) (by kernel_rfl) (.inr ⟨rfl,rfl⟩) ?_
 walk_nrm
 refine anyP_take (i:=11) (v:=undef) 20 rfl (by kernel_rfl) rfl (by kernel_rfl) (by kernel_rfl) (by kernel_rfl) (by kernel_rfl) (.inr ⟨rfl,rfl⟩) ?_
 walk_nrm
 refine anyP_take (i:=12) (v:=undef) 20 rfl (by kernel_rfl) rfl (by kernel_rfl) (by kernel_rfl) (by kernel_rfl) (by kernel_rfl) (.inr ⟨rfl,rfl⟩) ?_
 walk_nrm
 refine anyP_take (i:=13) (v:=undef) 20 rfl (by kernel_rfl) rfl (by kernel_rfl) (by kernel_rfl) (by kernel_rfl) (by kernel_rfl) (.inr ⟨rfl,rfl⟩) ?_
 walk_nrm
 refine anyP_take (i:=14) (v:=undef) 20 rfl (by kernel_rfl) rfl (by kernel_rfl) (by kernel_rfl) (by kernel_rfl) (by kernel_rfl) (.inr ⟨rfl,rfl⟩) ?_
 walk_nrm
 refine anyP_take (i:=15) (v:=undef) 20 rfl (by kernel_rfl) rfl (by kernel_rfl) (by kernel_rfl) (by kernel_rfl) (by kernel_rfl) (.inr ⟨rfl,rfl⟩) ?_
 walk_nrm
 refine anyP_last (by kernel_rfl) (fun t=>?_)
 rw [lin_nilA]
 refine wA fun kk hkk=>?_
 refine yek _ ?_
 clear hK hV hD key yek K
 exact hK0 _ fgm rfl
def S6 (g j J : Nat) (ka kb : Int × Int) (l : Array Bool) (w : World) : Prop:=l.getD 15 false = false -> w.cell? ⟨g,J * 2,none⟩ = some (.int .i64 ka.1) /\ w.cell? ⟨g,J * 2 + 1,none⟩ = some (.int .i64 ka.2) /\ w.cell? ⟨g,j * 2,none⟩ = some (.int .i64 kb.1) /\ w.cell? ⟨g,j * 2 + 1,none⟩ = some (.int .i64 kb.2)
def swW (V : World) (g j J : Nat) (ka kb : Int × Int) : World:=(((V.setCell ⟨g,J * 2,none⟩ (.int .i64 kb.1)).setCell ⟨g,J * 2 + 1,none⟩ (.int .i64 kb.2)).setCell ⟨g,j * 2,none⟩ (.int .i64 ka.1)).setCell ⟨g,j * 2 + 1,none⟩ (.int .i64 ka.2)
theorem mk_reg {main : Bool} {Z : Cuts} {KK : Nat -> Goroutine -> World -> Prop} {d : Nat} {V : World} (hM : MarkK Try.prog main Z KK) {F : Nat} {T : Array Value} {c : Code} {kt : List Item} {cs : List Frame} {R : Array Value -> World -> Prop} (hf : ∃ fn,Try.prog.funcs[F]? = some fn) (hs : shut Try.prog Lone [] c = true)
   (hC : ∀ τ,c.wp Try.prog (fun e a' w'=>match e with | .normal=>R a'.tmps (norm w') /\ a'.defers = [] | _=>False) ⟨T,[]⟩ (re V τ 0)) (K : ∀ T' V',R T' V' -> KK d (G ((base F).at ⟨T',[]⟩ kt) cs) V') : KK d (G ((base F).at ⟨T,[]⟩ (.code c :: kt)) cs) V :=
 hM.walk d _ V (will_code (L:=Lone) (R:=fun aa V'=>R aa.tmps V') calm rfl hf rfl hs hC fun a' V' gs ha'=>Will.stop (by
   obtain ⟨T',df⟩:=a'
   simp only at ha' gs
   subst ha'
   exact K T' V' gs))
theorem s_r6 (hM : MarkK Try.prog main Z KK) (hn : norm V = V) (hJ0 : J = j + 1) (hJ : J < n) (hn1 : n < 1000) (ca : V.cell? ⟨g,J * 2,none⟩ = some (.int .i64 ka.1) /\ V.cell? ⟨g,J * 2 + 1,none⟩ = some (.int .i64 ka.2)) (cb : V.cell? ⟨g,j * 2,none⟩ = some (.int .i64 kb.1) /\ V.cell? ⟨g,j * 2 + 1,none⟩ = some (.int .i64 kb.2)) (hfz : ∀ o,V.frozen? ⟨g,o,none⟩ = false) (hT : (PQJ110 g n c i J) T)
   (K : ∀ T',norm (swW V g j J ka kb) = swW V g j J ka kb -> (PQJ110 g n c i J) T' -> KK d (G ((base 164).at ⟨T',[]⟩ (kt)) cs) (swW V g j J ka kb)) : KK d (G ((base 164).at ⟨T,[]⟩ (.code sR6 :: kt)) cs) V:=by
 have hnS : norm (swW V g j J ka kb) = swW V g j J ka kb:=norm_set (norm_set (norm_set (norm_set hn _ _) _ _) _ _) _ _
 refine mk_reg hM (R:=fun T' V'=>(PQJ110 g n c i J) T' /\ V' = swW V g j J ka kb) ⟨_,Try.func164⟩ (by kernel_rfl) (fun τ=>?_) fun T' V' h=>?_
 rotate_left
 . obtain ⟨h1,rfl⟩:=h
   exact K T' hnS h1
 clear K
 obtain ⟨ca1,ca2⟩:=ca
 obtain ⟨cb1,cb2⟩:=cb
 have w1 : IntKind.i64.wrap ((J : Int) - 1) = (j : Int):=by rw [IntKind.wrap_i64]; omega
 have p1 : ¬ ((J : Int) < 0):=by omega
 have p2 : ¬ ((n : Int) <= (J : Int)):=by omega
 have p3 : ¬ ((j : Int) < 0):=by omega
 have p4 : ¬ ((n : Int) <= (j : Int)):=by omega
 have p6 : j < n:=by omega
 have p7 : J < n:=hJ
 have n1 : J * 2 ≠ j * 2 /\ J * 2 ≠ j * 2 + 1 /\ J * 2 + 1 ≠ j * 2 /\ J * 2 + 1 ≠ j * 2 + 1:=by omega
 clear hJ0
 refine foQJ1153 hT fun f=>?_
 simp only [sR6,sM,sK1,sL,sB,nva,nvb,nvk,nvl,Try.f164,Option.getD_some]
 refine wp_region_g (S6 g j J ka kb) (by kernel_rfl) ?_
 refine wS ?_
 generalize hw0 : ({ re V τ 0 with drawn:=(re V τ 0).drawn + 1 } : World) = w0
 have hnw : norm w0 = V:=by rw [← hw0]; exact hn
 have S0 : ∀ l,S6 g j J ka kb l w0:=fun l _=>by rw [← hw0]; exact ⟨ca1,ca2,cb1,cb2⟩
 have c0 : w0.cell? ⟨g,J * 2,none⟩ = some (.int .i64 ka.1) /\ w0.cell? ⟨g,J * 2 + 1,none⟩ = some (.int .i64 ka.2) /\ w0.cell? ⟨g,j * 2,none⟩ = some (.int .i64 kb.1) /\ w0.cell? ⟨g,j * 2 + 1,none⟩ = some (.int .i64 kb.2):=by rw [← hw0]; exact ⟨ca1,ca2,cb1,cb2⟩
 have z0 : ∀ o,w0.frozen? ⟨g,o,none⟩ = false:=fun o=>by rw [← hw0]; exact hfz o
 clear hw0 ca1 ca2 cb1 cb2 hfz
 refine wpAnyG_take (i:=0) (v:=.slice (some ⟨g,0,none⟩) n c) rfl (by kernel_rfl) (by kernel_rfl) (by kernel_rfl) (by kernel_rfl) (fun _ _ _ h=>h) (fun l w=>by simp only [S6,set_iff (i:=0) (j:=15) (by decide)]) (Or.inl ⟨by rfl,fun w5 hS5=>by go_simp⟩) (S0 _) ?_
 walk_nrm
 refine wpAnyG_take (i:=1) (v:=.int .i64 (J : Int)) rfl (by kernel_rfl) (by kernel_rfl) (by kernel_rfl) (by kernel_rfl) (fun _ _ _ h=>h) (fun l w=>by simp only [S6,set_iff (i:=1) (j:=15) (by decide)]) (Or.inl ⟨by rfl,fun w5 hS5=>by go_simp⟩) (S0 _) ?_
 walk_nrm
 refine wpAnyG_take (i:=2) (v:=.slice (some ⟨g,0,none⟩) n c) rfl (by kernel_rfl) (by kernel_rfl) (by kernel_rfl) (by kernel_rfl) (fun _ _ _ h=>h) (fun l w=>by simp only [S6,set_iff (i:=2) (j:=15) (by decide)]) (Or.inl ⟨by rfl,fun w5 hS5=>by go_simp⟩) (S0 _) ?_
 walk_nrm
 refine wpAnyG_take (i:=3) (v:=.int .i64 (J : Int)) rfl (by kernel_rfl) (by kernel_rfl) (by kernel_rfl) (by kernel_rfl) (fun _ _ _ h=>h) (fun l w=>by simp only [S6,set_iff (i:=3) (j:=15) (by decide)]) (Or.inl ⟨by rfl,fun w5 hS5=>by go_simp⟩) (S0 _) ?_
 walk_nrm
 refine wpAnyG_take (i:=4) (v:=.int .i64 (j : Int)) rfl (by kernel_rfl) (by kernel_rfl) (by kernel_rfl) (by kernel_rfl) (fun _ _ _ h=>h) (fun l w=>by simp only [S6,set_iff (i:=4) (j:=15) (by decide)]) (Or.inl ⟨by rfl,fun w5 hS5=>by go_simp⟩) (S0 _) ?_
 walk_nrm
 refine wpAnyG_take (i:=5) (v:=.slice (some ⟨g,0,none⟩) n c) rfl (by kernel_rfl) (by kernel_rfl) (by kernel_rfl) (by kernel_rfl) (fun _ _ _ h=>h) (fun l w=>by simp only [S6,set_iff (i:=5) (j:=15) (by decide)]) (Or.inl ⟨by rfl,fun w5 hS5=>by go_simp⟩) (S0 _) ?_
 walk_nrm
 refine wpAnyG_take (i:=6) (v:=.int .i64 (J : Int)) rfl (by kernel_rfl) (by kernel_rfl) (by kernel_rfl) (by kernel_rfl) (fun _ _ _ h=>h) (fun l w=>by simp only [S6,set_iff (i:=6) (j:=15) (by decide)]) (Or.inl ⟨by rfl,fun w5 hS5=>by go_simp⟩) (S0 _) ?_
 walk_nrm
 refine wpAnyG_take (i:=7) (v:=.int .i64 (j : Int)) rfl (by kernel_rfl) (by kernel_rfl) (by kernel_rfl) (by kernel_rfl) (fun _ _ _ h=>h) (fun l w=>by simp only [S6,set_iff (i:=7) (j:=15) (by decide)]) (Or.inl ⟨by rfl,fun w5 hS5=>by go_simp⟩) (S0 _) ?_
 walk_nrm
 refine wpAnyG_take (i:=8) (v:=.pointer (some ⟨g,j * 2,none⟩)) rfl (by kernel_rfl) (by kernel_rfl) (by kernel_rfl) (by kernel_rfl) (fun _ _ _ h=>h) (fun l w=>by simp only [S6,set_iff (i:=8) (j:=15) (by decide)]) (Or.inl ⟨by rfl,fun w5 hS5=>by go_simp⟩) (S0 _) ?_
 walk_nrm
 refine wpAnyG_take (i:=9) (v:=.agg #[.int .i64 kb.1,.int .i64 kb.2]) rfl (by kernel_rfl) (by kernel_rfl) (by kernel_rfl) (by kernel_rfl) (fun _ _ _ h=>h) (fun l w=>by simp only [S6,set_iff (i:=9) (j:=15) (by decide)]) (Or.inl ⟨by rfl,fun w5 hS5=>by obtain ⟨l5,x1,x2,x3⟩:=hS5; obtain ⟨y1,y2,y3,y4⟩:=x1 (reach_off x2 x3 (n:=20) (m:=15) (by kernel_rfl)).1; go_simp⟩) (S0 _) ?_
 walk_nrm
 refine wpAnyG_take (i:=10) (v:=.slice (some ⟨g,0,none⟩) n c) rfl (by kernel_rfl) (by kernel_rfl) (by kernel_rfl) (by kernel_rfl) (fun _ _ _ h=>h) (fun l w=>by simp only [S6,set_iff (i:=10) (j:=15) (by decide)]) (Or.inl ⟨by rfl,fun w5 hS5=>by go_simp⟩) (S0 _) ?_
 walk_nrm
 refine wpAnyG_take (i:=11) (v:=.int .i64 (J : Int)) rfl (by kernel_rfl) (by kernel_rfl) (by kernel_rfl) (by kernel_rfl) (fun _ _ _ h=>h) (fun l w=>by simp only [S6,set_iff (i:=11) (j:=15) (by decide)]) (Or.inl ⟨by rfl,fun w5 hS5=>by go_simp⟩) (S0 _) ?_
 walk_nrm
 refine wpAnyG_take (i:=12) (v:=.pointer (some ⟨g,J * 2,none⟩)) rfl (by kernel_rfl) (by kernel_rfl) (by kernel_rfl) (by kernel_rfl) (fun _ _ _ h=>h) (fun l w=>by simp only [S6,set_iff (i:=12) (j:=15) (by decide)]) (Or.inl ⟨by rfl,fun w5 hS5=>by go_simp⟩) (S0 _) ?_
 walk_nrm
 refine wpAnyG_take (i:=13) (v:=.agg #[.int .i64 ka.1,.int .i64 ka.2]) rfl (by kernel_rfl) (by kernel_rfl) (by kernel_rfl) (by kernel_rfl) (fun _ _ _ h=>h) (fun l w=>by simp only [S6,set_iff (i:=13) (j:=15) (by decide)]) (Or.inl ⟨by rfl,fun w5 hS5=>by obtain ⟨l5,x1,x2,x3⟩:=hS5; obtain ⟨y1,y2,y3,y4⟩:=x1 (reach_off x2 x3 (n:=20) (m:=15) (by kernel_rfl)).1; go_simp⟩) (S0 _) ?_
 walk_nrm
 refine wpAnyG_take (i:=14) (v:=.pointer (some ⟨g,J * 2,none⟩)) rfl (by kernel_rfl) (by kernel_rfl) (by kernel_rfl) (by kernel_rfl) (fun _ _ _ h=>h) (fun l w=>by simp only [S6,set_iff (i:=14) (j:=15) (by decide)]) (Or.inl ⟨by rfl,fun w5 hS5=>by go_simp⟩) (S0 _) ?_
 walk_nrm
 obtain ⟨c1,c2,c3,c4⟩:=c0
 have z1:=z0 (J * 2)
 have z2:=z0 (J * 2 + 1)
 refine wpAnyG_all (rs:=[15]) (by kernel_rfl) (by simp) (fun q hq=>?_)
 obtain rfl : q = 15:=by simpa using hq
 refine wpOp_skip (w':=(w0.setCell ⟨g,J * 2,none⟩ (.int .i64 kb.1)).setCell ⟨g,J * 2 + 1,none⟩ (.int .i64 kb.2)) rfl rfl (by go_simp) ⟨fun hh=>absurd hh (by decide),?_⟩
 walk_nrm
 obtain ⟨m1,m2,m3,m4⟩:=n1
 have d3 : ((w0.setCell ⟨g,J * 2,none⟩ (.int .i64 kb.1)).setCell ⟨g,J * 2 + 1,none⟩ (.int .i64 kb.2)).cell? ⟨g,j * 2,none⟩ = some (.int .i64 kb.1):=by
   rw [World.cell?_setCell_other _ _ _ _ (by simp <;> omega),World.cell?_setCell_other _ _ _ _ (by simp <;> omega)]; exact c3
 have d4 : ((w0.setCell ⟨g,J * 2,none⟩ (.int .i64 kb.1)).setCell ⟨g,J * 2 + 1,none⟩ (.int .i64 kb.2)).cell? ⟨g,j * 2 + 1,none⟩ = some (.int .i64 kb.2):=by
   rw [World.cell?_setCell_other _ _ _ _ (by simp <;> omega),World.cell?_setCell_other _ _ _ _ (by simp <;> omega)]; exact c4
 have e0 : ∀ o,((w0.setCell ⟨g,J * 2,none⟩ (.int .i64 kb.1)).setCell ⟨g,J * 2 + 1,none⟩ (.int .i64 kb.2)).frozen? ⟨g,o,none⟩ = false:=fun o=>by rw [World.frozen?_setCell,World.frozen?_setCell]; exact z0 o
 have nrm : norm ((((w0.setCell ⟨g,J * 2,none⟩ (.int .i64 kb.1)).setCell ⟨g,J * 2 + 1,none⟩ (.int .i64 kb.2)).setCell ⟨g,j * 2,none⟩ (.int .i64 ka.1)).setCell ⟨g,j * 2 + 1,none⟩ (.int .i64 ka.2)) = swW V g j J ka kb:=by
   rw [← hnw]
   rfl
 generalize (w0.setCell ⟨g,J * 2,none⟩ (.int .i64 kb.1)).setCell ⟨g,J * 2 + 1,none⟩ (.int .i64 kb.2) = w2 at *
 have S1 : ∀ q,S6 g j J ka kb ((Array.replicate 18 true).setIfInBounds 16 q) w2:=fun q hh=>by
   exfalso
   have h1 : ((Array.replicate 18 true).setIfInBounds 16 q).getD 15 false = true:=by cases q <;> rfl
   rw [h1] at hh
   cases hh
 refine wpAnyG_take (i:=16) (v:=.pointer (some ⟨g,j * 2,none⟩)) rfl (by kernel_rfl) (by kernel_rfl) (by kernel_rfl) (by kernel_rfl) (fun _ _ _ h=>h) (fun l w=>by simp only [S6,set_iff (i:=16) (j:=15) (by decide)]) (Or.inl ⟨by rfl,fun w5 hS5=>by go_simp⟩) (fun hh=>absurd hh (by decide)) ?_
 walk_nrm
 refine wpAnyG_all (rs:=[17]) (by kernel_rfl) (by simp) (fun q hq=>?_)
 obtain rfl : q = 17:=by simpa using hq
 refine wpOp_skip (w':=(w2.setCell ⟨g,j * 2,none⟩ (.int .i64 ka.1)).setCell ⟨g,j * 2 + 1,none⟩ (.int .i64 ka.2)) rfl rfl (by go_simp) ⟨fun hh=>absurd hh (by decide),?_⟩
 walk_nrm
 exact wpAnyG_done (by kernel_rfl) ⟨⟨fgm,nrm⟩,rfl⟩ _
end
def kat (ks : List (Int × Int)) (a : Nat) : Int × Int:=ks[a]?.getD (0,0)
def kle (a b : Int × Int) : Prop:=a.1 < b.1 ∨ (a.1 = b.1 /\ a.2 <= b.2)
theorem kcmp_lt (a b : Int × Int) : kcmp a b < 0 ↔ ¬ kle b a:=by
 unfold kcmp cmpi kle
 by_cases h1 : a.1 < b.1 <;> by_cases h2 : b.1 < a.1 <;> by_cases h3 : a.2 < b.2 <;> by_cases h4 : b.2 < a.2 <;> simp [h1,h2,h3,h4] <;> omega
theorem kle_trans {a b c : Int × Int} (h : kle a b) (h' : kle b c) : kle a c:=by unfold kle at *; omega
theorem kle_total {a b : Int × Int} (h : ¬ kle a b) : kle b a:=by unfold kle at *; omega
def swp (ks : List (Int × Int)) (j : Nat) : List (Int × Int):=(ks.set (j + 1) (kat ks j)).set j (kat ks (j + 1))
theorem swp_len (ks : List (Int × Int)) (j : Nat) : (swp ks j).length = ks.length:=by simp [swp]
theorem swp_kat {ks : List (Int × Int)} {j : Nat} (hj : j + 1 < ks.length) (a : Nat) : kat (swp ks j) a = if a = j then kat ks (j + 1) else if a = j + 1 then kat ks j else kat ks a:=by
 unfold kat swp
 by_cases h1 : a = j
 . subst h1
   simp
   rw [List.getElem?_set_self (by simp; omega)]
   simp [kat]
 . by_cases h2 : a = j + 1
   . subst h2
     simp
     rw [List.getElem?_set_self (by omega)]
     simp [kat]
   . simp [h1,h2,Ne.symm h1,Ne.symm h2]
theorem swp_perm {ks : List (Int × Int)} {j : Nat} (hj : j + 1 < ks.length) : (swp ks j).Perm ks:=by
 have h:=@List.set_set_perm _ ks (j + 1) j hj (by omega)
 have e1 : kat ks j = ks[j]:=by simp [kat,List.getElem?_eq_getElem (show j < ks.length by omega)]
 have e2 : kat ks (j + 1) = ks[j + 1]:=by simp [kat,List.getElem?_eq_getElem hj]
 unfold swp
 rw [e1,e2]
 exact h
structure Inn (ks0 ks : List (Int × Int)) (i J : Nat) : Prop where
 p : ks.Perm ks0
 l : i < ks.length
 Ji : J <= i
 s : ∀ a b,a < b -> b <= i -> a ≠ J -> b ≠ J -> kle (kat ks a) (kat ks b)
 t : ∀ b,J < b -> b <= i -> kle (kat ks J) (kat ks b)
structure Srt (ks0 ks : List (Int × Int)) (i : Nat) : Prop where
 p : ks.Perm ks0
 s : ∀ a b,a < b -> b < i -> kle (kat ks a) (kat ks b)
section
variable {ks0 ks : List (Int × Int)} {i j : Nat}
theorem Srt.inn (h : Srt ks0 ks i) (hi : i < ks.length) : Inn ks0 ks i i:=⟨h.p,hi,Nat.le_refl _,fun a b h1 h2 h3 h4=>h.s a b h1 (by omega),fun b h1 h2=>by omega⟩
theorem Inn.out0 (h : Inn ks0 ks i 0) : Srt ks0 ks (i + 1):=⟨h.p,fun a b h1 h2=>by
 by_cases h3 : a = 0
 . subst h3; exact h.t b h1 (by omega)
 . exact h.s a b h1 (by omega) h3 (by omega)⟩
theorem Inn.out (h : Inn ks0 ks i (j + 1)) (hle : kle (kat ks j) (kat ks (j + 1))) : Srt ks0 ks (i + 1):=⟨h.p,fun a b h1 h2=>by
 have:=h.Ji
 by_cases h3 : a = j + 1
 . subst h3; exact h.t b h1 (by omega)
 . by_cases h4 : b = j + 1
   . subst h4
     by_cases h5 : a = j
     . subst h5; exact hle
     . exact kle_trans (h.s a j (by omega) (by omega) h3 (by omega)) hle
   . exact h.s a b h1 (by omega) h3 h4⟩
theorem Inn.step (h : Inn ks0 ks i (j + 1)) (hle : ¬ kle (kat ks j) (kat ks (j + 1))) : Inn ks0 (swp ks j) i j:=by
 have hJ:=h.Ji
 have hl:=h.l
 have hj : j + 1 < ks.length:=by omega
 refine ⟨(swp_perm hj).trans h.p,by rw [swp_len]; exact hl,by omega,fun a b h1 h2 h3 h4=>?_,fun b h1 h2=>?_⟩
 . rw [swp_kat hj,swp_kat hj,if_neg h3,if_neg h4]
   by_cases h5 : a = j + 1
   . rw [if_pos h5,if_neg (by omega)]
     exact h.s j b (by omega) h2 (by omega) (by omega)
   . rw [if_neg h5]
     by_cases h6 : b = j + 1
     . rw [if_pos h6]
       exact h.s a j (by omega) (by omega) h5 (by omega)
     . rw [if_neg h6]
       exact h.s a b h1 h2 h5 h6
 . rw [swp_kat hj,swp_kat hj,if_pos rfl,if_neg (by omega)]
   by_cases h6 : b = j + 1
   . rw [if_pos h6]; exact kle_total hle
   . rw [if_neg h6]; exact h.t b (by omega) h2
end
theorem cond_atK {T : Array Value} {j : Nat} {b : Bool} (h : T[j]? = some (.bool b)) : (⟨T,[]⟩ : Act).eval (.tmp j) = .bool b:=by
 show T.getD j undef = _
 simp [Array.getD_eq_getD_getElem?,h]
structure SoG (V0 V : World) (g : Nat) : Prop where
 sz : V0.heap.size <= V.heap.size
 keep : ∀ b,b < V0.heap.size -> b ≠ g -> V.heap[b]? = V0.heap[b]?
theorem SoG.kp {V0 V V' : World} {g : Nat} (h : SoG V0 V g) (k : Kp V V') : SoG V0 V' g:=⟨Nat.le_trans h.sz k.size,fun b hb hne=>(k.keep b (Nat.lt_of_lt_of_le hb h.sz)).trans (h.keep b hb hne)⟩
theorem swW_heap {V : World} {g j J : Nat} {ka kb : Int × Int} {b : Nat} (hb : b ≠ g) : (swW V g j J ka kb).heap[b]? = V.heap[b]?:=by
 unfold swW
 rw [setCell_heap,if_neg hb,setCell_heap,if_neg hb,setCell_heap,if_neg hb,setCell_heap,if_neg hb]
theorem SoG.sw {V0 V : World} {g j J : Nat} {ka kb : Int × Int} (h : SoG V0 V g) : SoG V0 (swW V g j J ka kb) g:=⟨Nat.le_trans h.sz (by simp [swW,World.setCell]),fun b hb hne=>(swW_heap hne).trans (h.keep b hb hne)⟩
theorem kat_of {ks : List (Int × Int)} {j : Nat} (hj : j < ks.length) : ks[j]'hj = kat ks j:=by simp [kat,List.getElem?_eq_getElem hj]
theorem RowK.at_ {V : World} {g c : Nat} {ks : List (Int × Int)} (h : RowK V g c ks) {j : Nat} (hj : j < ks.length) : V.cell? ⟨g,j * 2,none⟩ = some (.int .i64 (kat ks j).1) /\ V.cell? ⟨g,j * 2 + 1,none⟩ = some (.int .i64 (kat ks j).2):=by
 rw [← kat_of hj]
 exact h.cell hj
theorem RowK.sw {V : World} {g c j : Nat} {ks : List (Int × Int)} (h : RowK V g c ks) : RowK (swW V g j (j + 1) (kat ks (j + 1)) (kat ks j)) g c (swp ks j):=(h.set (j + 1) (kat ks j)).set j (kat ks (j + 1))
section
variable {main : Bool} {Z : Cuts} {KK : Nat -> Goroutine -> World -> Prop} {d : Nat} {V : World} {kt : List Item} {cs : List Frame} {g c n i j J : Nat} {ks : List (Int × Int)} {T : Array Value} {ka kb : Int × Int} {V0 : World} {ks0 : List (Int × Int)} {bQ : Frame} {aQ : Act} {opsQ : Array Oper} {iQ : Nat} {restQ : List Nat} {kQ : List Item} {cs0 : List Frame} {cv : Value}
theorem s_r0 (hM : MarkK Try.prog main Z KK) (hn : norm V = V) (hT : Fg 53 [(0,.slice (some ⟨g,0,none⟩) n c),(1,.int .i64 0),(2,.int .i64 (n : Int)),(3,.func (.func 105) #[] #[])] T) (K : ∀ T',Fg 53 [(0,.slice (some ⟨g,0,none⟩) n c),(1,.int .i64 0),(2,.int .i64 (n : Int)),(3,.func (.func 105) #[] #[]),(8,.int .i64 ((1 : Nat) : Int))] T' -> KK d (G ((base 164).at ⟨T',[]⟩ (kt)) cs) V) : KK d (G ((base 164).at ⟨T,[]⟩ (.code sR0 :: kt)) cs) V:=by
 have hK0:=K
 clear K
 have w1 : IntKind.i64.wrap 1 = 1:=by decide
 refine foQJ1153 hT fun f=>?_
 generalize hX0 : sR0 = X0
 simp only [sR0,sB,nva,Try.f164,Option.getD_some] at hX0
 subst hX0
 refine wM hM hn fun kk hkk=>?_
 exact hK0 _ fgm
theorem s_r1 (hM : MarkK Try.prog main Z KK) (hn : norm V = V) (hT : (PQJ111 g n c i) T) (K : ∀ T',(PQJ111 g n c i) T' -> T'[14]? = some (.bool (decide (i < n))) -> KK d (G ((base 164).at ⟨T',[]⟩ (kt)) cs) V) : KK d (G ((base 164).at ⟨T,[]⟩ (.code sR1 :: kt)) cs) V:=by
 have hK0:=K
 clear K
 refine foQJ1153 hT fun f=>?_
 generalize hX0 : sR1 = X0
 simp only [sR1,sL,sB,nva,nvb,nvk,nvl,Try.f164,Option.getD_some] at hX0
 subst hX0
 refine wM hM hn fun kk hkk=>?_
 exact hK0 _ fgm (by simp <;> omega)
theorem s_r3 (hM : MarkK Try.prog main Z KK) (hn : norm V = V) (hT : (PQJ111 g n c i) T) (K : ∀ T',Fg 53 [(0,.slice (some ⟨g,0,none⟩) n c),(1,.int .i64 0),(2,.int .i64 (n : Int)),(3,.func (.func 105) #[] #[]),(8,.int .i64 (i : Int)),(9,.int .i64 (i : Int))] T' -> KK d (G ((base 164).at ⟨T',[]⟩ (kt)) cs) V) : KK d (G ((base 164).at ⟨T,[]⟩ (.code sR3 :: kt)) cs) V:=by
 have hK0:=K
 clear K
 refine foQJ1153 hT fun f=>?_
 generalize hX0 : sR3 = X0
 simp only [sR3,sK1,sL,sB,nva,nvb,nvk,nvl,Try.f164,Option.getD_some] at hX0
 subst hX0
 refine wM hM hn fun kk hkk=>?_
 exact hK0 _ fgm
theorem s_r5 (hM : MarkK Try.prog main Z KK) (hn : norm V = V) (hJ0 : J = j + 1) (hJn : J < 1000) (hT : (PQJ110 g n c i J) T) (K : ∀ T',Fg 53 [(0,.slice (some ⟨g,0,none⟩) n c),(1,.int .i64 0),(2,.int .i64 (n : Int)),(3,.func (.func 105) #[] #[]),(8,.int .i64 (i : Int)),(9,.int .i64 (j : Int))] T' -> KK d (G ((base 164).at ⟨T',[]⟩ (kt)) cs) V) : KK d (G ((base 164).at ⟨T,[]⟩ (.code sR5 :: kt)) cs) V:=by
 have hK0:=K
 clear K
 have w1 : IntKind.i64.wrap ((J : Int) - 1) = (j : Int):=by rw [IntKind.wrap_i64]; omega
 clear hJ0
 refine foQJ1153 hT fun f=>?_
 generalize hX0 : sR5 = X0
 simp only [sR5,sM,sK1,sL,sB,nva,nvb,nvk,nvl,Try.f164,Option.getD_some] at hX0
 subst hX0
 refine wM hM hn fun kk hkk=>?_
 exact hK0 _ fgm
theorem s_r2 (hM : MarkK Try.prog main Z KK) (hn : norm V = V) (hi : i < 1000) (hT : (PQJ111 g n c i) T) (K : ∀ T',Fg 53 [(0,.slice (some ⟨g,0,none⟩) n c),(1,.int .i64 0),(2,.int .i64 (n : Int)),(3,.func (.func 105) #[] #[]),(8,.int .i64 ((i + 1 : Nat) : Int))] T' -> KK d (G ((base 164).at ⟨T',[]⟩ (kt)) cs) V) : KK d (G ((base 164).at ⟨T,[]⟩ (.code sR2 :: kt)) cs) V:=by
 have hK0:=K
 clear K
 have w1 : IntKind.i64.wrap ((i : Int) + 1) = ((i + 1 : Nat) : Int):=by rw [IntKind.wrap_i64]; omega
 refine foQJ1153 hT fun f=>?_
 generalize hX0 : sR2 = X0
 simp only [sR2,sL,sB,nvb,nvk,nvl,Try.f164,Option.getD_some] at hX0
 subst hX0
 refine wM hM hn fun kk hkk=>?_
 exact hK0 _ fgm
theorem inner_go (hM : MarkK Try.prog main Z KK) (hn1 : n < 1000)
   (K : ∀ T' V' ks',norm V' = V' -> SoG V0 V' g -> RowK V' g c ks' -> ks'.length = n -> Srt ks0 ks' (i + 1) -> (PQJ111 g n c i) T' -> KK d (G ((base 164).at ⟨T',[]⟩ (kt)) cs) V') :
   ∀ (J : Nat) (V : World) (ks : List (Int × Int)) (T : Array Value),norm V = V -> SoG V0 V g -> RowK V g c ks -> ks.length = n -> Inn ks0 ks i J -> (PQJ110 g n c i J) T -> KK d (G ((base 164).at ⟨T,[]⟩ (.code sM :: .inLoop sM :: .inBlock 2 :: kt)) cs) V:=by
 intro J
 induction J with
 | zero =>
   intro V ks T hn hG hR hl hI hT
   refine (fun (h : ∀ Y,Y = sM -> KK d (G ((base 164).at ⟨T,[]⟩ (.code Y :: .inLoop sM :: .inBlock 2 :: kt)) cs) V)=>h sM rfl) ?_
   intro Y hY
   rw [sM_eq] at hY
   subst hY
   refine mu_seq hM.mu (mu_seq hM.mu ?_)
   refine s_r4z (i:=i) hM hn hT fun T1 hT1 h34=>?_
   refine mu_cond hM.mu false (cond_atK h34) ?_
   refine mu_exit hM.mu rfl ?_
   exact K T1 V ks hn hG hR hl hI.out0 hT1
 | succ j ih =>
   intro V ks T hn hG hR hl hI hT
   refine (fun (h : ∀ Y,Y = sM -> KK d (G ((base 164).at ⟨T,[]⟩ (.code Y :: .inLoop sM :: .inBlock 2 :: kt)) cs) V)=>h sM rfl) ?_
   intro Y hY
   rw [sM_eq] at hY
   subst hY
   have hJi:=hI.Ji
   have hIl:=hI.l
   refine mu_seq hM.mu (mu_seq hM.mu ?_)
   refine s_r4 (i:=i) (ka:=kat ks (j + 1)) (kb:=kat ks j) (j:=j) hM hn rfl (by omega) hn1 (hR.at_ (by omega)) (hR.at_ (by omega)) hT fun T1 V1 n1 k1 hT1 h34=>?_
   have hR1:=hR.keep (k1.keep g hR.lt)
   have hG1:=hG.kp k1
   by_cases hk : kcmp (kat ks (j + 1)) (kat ks j) < 0
   . rw [decide_eq_true hk] at h34
     refine mu_cond hM.mu true (cond_atK h34) ?_
     refine mu_skip hM.mu (mu_seq hM.mu (mu_block hM.mu ?_))
     refine s_r6 (i:=i) (ka:=kat ks (j + 1)) (kb:=kat ks j) (j:=j) hM n1 rfl (by omega) hn1 (hR1.at_ (by omega)) (hR1.at_ (by omega)) (fun o=>hR1.thaw o) hT1 fun T2 n2 hT2=>?_
     refine mu_inBlock hM.mu ?_
     refine s_r5 (i:=i) (j:=j) hM n2 rfl (by omega) hT2 fun T3 hT3=>?_
     refine mu_inLoop hM.mu ?_
     exact ih _ (swp ks j) T3 n2 hG1.sw hR1.sw (by rw [swp_len]; exact hl) (hI.step ((kcmp_lt _ _).1 hk)) hT3
   . rw [decide_eq_false hk] at h34
     refine mu_cond hM.mu false (cond_atK h34) ?_
     refine mu_exit hM.mu rfl ?_
     refine K T1 V1 ks n1 hG1 hR1 hl (hI.out (Classical.byContradiction fun h=>hk ((kcmp_lt _ _).2 h))) ?_
     obtain ⟨hs,h0,h1,h2,h3,h8,-⟩:=hT1
     exact ⟨hs,h0,h1,h2,h3,h8,trivial⟩
theorem outer_go (hM : MarkK Try.prog main Z KK) (hn1 : n < 1000)
   (K : ∀ T' V' ks',norm V' = V' -> SoG V0 V' g -> RowK V' g c ks' -> ks'.length = n -> Srt ks0 ks' n -> KK d (G ((base 164).at ⟨T',[]⟩ (kt)) cs) V') :
   ∀ (m i : Nat) (V : World) (ks : List (Int × Int)) (T : Array Value),i + m = n -> norm V = V -> SoG V0 V g -> RowK V g c ks -> ks.length = n -> Srt ks0 ks i -> (PQJ111 g n c i) T -> KK d (G ((base 164).at ⟨T,[]⟩ (.code sL :: .inLoop sL :: .inBlock 0 :: kt)) cs) V:=by
 intro m
 induction m with
 | zero =>
   intro i V ks T him hn hG hR hl hO hT
   refine (fun (h : ∀ Y,Y = sL -> KK d (G ((base 164).at ⟨T,[]⟩ (.code Y :: .inLoop sL :: .inBlock 0 :: kt)) cs) V)=>h sL rfl) ?_
   intro Y hY
   rw [sL_eq] at hY
   subst hY
   refine mu_seq hM.mu (mu_seq hM.mu ?_)
   refine s_r1 (i:=i) hM hn hT fun T1 hT1 h14=>?_
   rw [decide_eq_false (by omega)] at h14
   refine mu_cond hM.mu false (cond_atK h14) ?_
   refine mu_exit hM.mu rfl ?_
   obtain rfl : i = n:=by omega
   exact K T1 V ks hn hG hR hl hO
 | succ m ih =>
   intro i V ks T him hn hG hR hl hO hT
   refine (fun (h : ∀ Y,Y = sL -> KK d (G ((base 164).at ⟨T,[]⟩ (.code Y :: .inLoop sL :: .inBlock 0 :: kt)) cs) V)=>h sL rfl) ?_
   intro Y hY
   rw [sL_eq] at hY
   subst hY
   refine mu_seq hM.mu (mu_seq hM.mu ?_)
   refine s_r1 (i:=i) hM hn hT fun T1 hT1 h14=>?_
   rw [decide_eq_true (by omega)] at h14
   refine mu_cond hM.mu true (cond_atK h14) ?_
   refine mu_skip hM.mu (mu_seq hM.mu (mu_block hM.mu (mu_seq hM.mu ?_)))
   refine s_r3 (i:=i) hM hn hT1 fun T2 hT2=>?_
   refine mu_block hM.mu (mu_loop hM.mu ?_)
   refine inner_go (i:=i) (V0:=V0) (ks0:=ks0) hM hn1 (fun T3 V3 ks3 n3 hG3 hR3 hl3 hO3 hT3=>?_) i V ks T2 hn hG hR hl (hO.inn (by omega)) hT2
   refine mu_inBlock hM.mu ?_
   refine s_r2 (i:=i) hM n3 (by omega) hT3 fun T4 hT4=>?_
   refine mu_inLoop hM.mu ?_
   exact ih (i + 1) V3 ks3 T4 (by omega) n3 hG3 hR3 hl3 hO3 hT4
theorem sB_body : Try.f164.body = some sB:=rfl
theorem isort_go (hM : MarkK Try.prog main Z KK) (hn : norm V = V) (hn1 : n < 1000) (hn0 : 0 < n) (hR : RowK V g c ks) (hl : ks.length = n) (h : ∀ V' ks',norm V' = V' -> SoG V V' g -> RowK V' g c ks' -> ks'.length = n -> Srt ks ks' n -> KK d (G (bQ.at (aQ.put ((opsQ[iQ]?).bind (·.dst)) (.tuple #[])) (.inRegion opsQ restQ :: kQ)) cs0 ) V') : KK d (G (Frame.enter Try.prog 164 #[.slice (some ⟨g,0,none⟩) n c,.int .i64 0,.int .i64 (n : Int),.func (.func 105) #[] #[]] .normal) (bQ.at aQ (.inRegion opsQ (iQ :: restQ) :: kQ) :: cs0)) V:=by
 rw [enter_at (P:=Try.prog) _ Try.func164 sB_body]
 have hnt : Try.f164.ntmps = 53:=rfl
 rw [hnt]
 clear hnt
 rw [sB_eq]
 refine mu_seq (K:=fun g=>KK d g V) hM.mu ?_
 walk_nrm
 refine s_r0 (g:=g) (n:=n) (c:=c) hM hn fgm fun T1 hT1=>?_
 refine mu_block hM.mu (mu_loop hM.mu ?_)
 refine outer_go (V0:=V) (ks0:=ks) hM hn1 (fun T2 V2 ks2 n2 hG2 hR2 hl2 hO2=>?_) (n - 1) 1 V ks T1 (by omega) hn ⟨Nat.le_refl _,fun _ _ _=>rfl⟩ hR hl ⟨List.Perm.refl _,fun a b h1 h2=>by omega⟩ hT1
 refine wM hM n2 fun kk hkk=>?_
 refine mu_leave0 (K:=fun g=>KK d g V2) hM.mu rfl rfl Try.func164 rfl ?_
 exact h V2 ks2 n2 hG2 hR2 hl2 hO2
end
structure Js where
 p : Nat
 j : Nat -> Nat
 q : List Nat
 w : List Nat
 o : Nat
 a : Nat
 z : Nat
 t : Int
def jwk (x : Nat) : Nat:=if x = 4 then 8 else if x = 5 then 6 else x
def hdj (j : Nat -> Nat) : List Nat -> Nat -> Nat
 | []=>j
 | x :: _=>upd j x (jwk (j x))
def hdo : List Nat -> Nat
 | []=>0
 | x :: _=>x + 1
def Js.hand (s : Js) : Js:={ s with q:=s.q.tail,o:=hdo s.q,j:=hdj s.j s.q }
def Js.turn (s : Js) (i : Nat) : Js :=
 if i = 0 then
   (if s.p = 42 then ({ s with p:=43,t:=s.w.length,q:=s.q ++ s.w,w:=[] } : Js).hand else { s with p:=s.p + 1 })
 else if s.j i = 3 then
   (if s.o = 0 then (if 2 <= s.p /\ s.p <= 42 then { s with j:=upd s.j i 4,w:=s.w ++ [i] } else { s with j:=upd s.j i 7,z:=s.z + 1 })
    else { s with j:=upd s.j i 5,q:=s.q ++ [i] })
 else if s.j i = 6 then ({ s with j:=upd s.j i 7,z:=s.z + 1 } : Js).hand
 else if s.j i = 8 then ({ s with j:=upd s.j i 7,a:=s.a + 1 } : Js).hand
 else { s with j:=upd s.j i (s.j i + 1) }
def Js.stl (p : Nat) : Int:=if p = 0 then 0 else if p <= 42 then 1 else 3
def Js.stj (x : Nat) : Int:=if x = 0 then 0 else if x = 4 ∨ x = 5 then 2 else if x <= 3 ∨ x = 6 ∨ x = 8 then 1 else 3
def Js.st (s : Js) (i : Nat) : Int:=if i = 0 then Js.stl s.p else Js.stj (s.j i)
structure Jok (n : Nat) (s : Js) : Prop where
 p43 : s.p <= 43
 o0 : s.p < 43 -> s.o = 0
 q0 : s.o = 0 -> s.q = []
 w0 : ¬ (2 <= s.p /\ s.p <= 42) -> s.w = []
 wj : ∀ x ∈ s.w,1 <= x /\ x < n /\ s.j x = 4
 qj : ∀ x ∈ s.q,1 <= x /\ x < n /\ (s.j x = 4 ∨ s.j x = 5)
 wd : s.w.Nodup
 qd : s.q.Nodup
 ho : ∀ i,1 <= i -> (s.j i = 6 ∨ s.j i = 8) -> s.o = i + 1
 oh : ∀ i,s.o = i + 1 -> 1 <= i /\ i < n /\ (s.j i = 6 ∨ s.j i = 8)
theorem stj_jwk {x : Nat} (h : x = 4 ∨ x = 5) : Js.stj (jwk x) = 1:=by rcases h with rfl | rfl <;> decide
theorem stj_r (x : Nat) : Js.stj x = 0 ∨ Js.stj x = 1 ∨ Js.stj x = 2 ∨ Js.stj x = 3:=by
 unfold Js.stj
 split
 . exact .inl rfl
 . split
   . exact .inr (.inr (.inl rfl))
   . split
     . exact .inr (.inl rfl)
     . exact .inr (.inr (.inr rfl))
theorem stl_r (p : Nat) : Js.stl p = 0 ∨ Js.stl p = 1 ∨ Js.stl p = 2 ∨ Js.stl p = 3:=by
 unfold Js.stl
 split
 . exact .inl rfl
 . split
   . exact .inr (.inl rfl)
   . exact .inr (.inr (.inr rfl))
theorem stj_0 {x : Nat} (h : Js.stj x = 0) : x = 0:=by
 unfold Js.stj at h
 split at h
 . assumption
 . split at h
   . cases h
   . split at h <;> cases h
theorem stj_1 {x : Nat} (h : Js.stj x = 1) : x = 1 ∨ x = 2 ∨ x = 3 ∨ x = 6 ∨ x = 8:=by
 unfold Js.stj at h
 split at h
 . cases h
 . split at h
   . cases h
   . split at h
     . omega
     . cases h
theorem stl_0 {p : Nat} (h : Js.stl p = 0) : p = 0:=by
 unfold Js.stl at h
 split at h
 . assumption
 . split at h <;> cases h
theorem jwk_stj (x : Nat) : Js.stj (jwk x) = Js.stj x ∨ (Js.stj x = 2 /\ Js.stj (jwk x) = 1):=by
 unfold jwk
 split
 . rename_i h; subst h; exact .inr (by decide)
 . split
   . rename_i h; subst h; exact .inr (by decide)
   . exact .inl rfl
theorem hdj_stj (f : Nat -> Nat) (q : List Nat) (j : Nat) : Js.stj (hdj f q j) = Js.stj (f j) ∨ (Js.stj (f j) = 2 /\ Js.stj (hdj f q j) = 1):=by
 cases q with
 | nil=>exact .inl rfl
 | cons x q =>
   by_cases e : j = x
   . subst e
     show Js.stj (upd f j (jwk (f j)) j) = _ ∨ (_ /\ Js.stj (upd f j (jwk (f j)) j) = 1)
     rw [upd_same]
     exact jwk_stj _
   . exact .inl (by show Js.stj (upd f x _ j) = _; rw [upd_ne _ _ e])
theorem Js.stT (s : Js) {i j : Nat} (hji : j ≠ i) : Js.st (s.turn i) j = Js.st s j ∨ (Js.st s j = 2 /\ Js.st (s.turn i) j = 1):=by
 unfold Js.turn
 by_cases hi : i = 0
 . rw [if_pos hi]
   subst hi
   unfold Js.st
   rw [if_neg hji,if_neg hji]
   split
   . exact hdj_stj _ _ _
   . exact .inl rfl
 . rw [if_neg hi]
   by_cases hj : j = 0
   . subst hj
     refine .inl ?_
     unfold Js.st
     rw [if_pos rfl,if_pos rfl]
     split
     . split
       . split <;> rfl
       . rfl
     . split
       . rfl
       . split <;> rfl
   . unfold Js.st
     rw [if_neg hj,if_neg hj]
     split
     . split
       . split
         . exact .inl (by show Js.stj (upd s.j i 4 j) = _; rw [upd_ne _ _ hji])
         . exact .inl (by show Js.stj (upd s.j i 7 j) = _; rw [upd_ne _ _ hji])
       . exact .inl (by show Js.stj (upd s.j i 5 j) = _; rw [upd_ne _ _ hji])
     . split
       . have h:=hdj_stj (upd s.j i 7) s.q j
         rw [upd_ne _ _ hji] at h
         exact h
       . split
         . have h:=hdj_stj (upd s.j i 7) s.q j
           rw [upd_ne _ _ hji] at h
           exact h
         . exact .inl (by show Js.stj (upd s.j i _ j) = _; rw [upd_ne _ _ hji])
theorem hdj_at {f : Nat -> Nat} {q : List Nat} {x : Nat} (h : x ∉ q) : hdj f q x = f x:=by
 cases q with
 | nil=>rfl
 | cons y q=>exact upd_ne _ _ fun e=>h (e ▸ List.mem_cons_self ..)
theorem jok_hand {n : Nat} {s : Js} (hp : s.p = 43) (hw : s.w = []) (hq : ∀ x ∈ s.q,1 <= x /\ x < n /\ (s.j x = 4 ∨ s.j x = 5)) (hd : s.q.Nodup) (hno : ∀ i,1 <= i -> ¬ (s.j i = 6 ∨ s.j i = 8)) : Jok n s.hand:=by
 obtain ⟨p,j,q,w,o,a,z,t⟩:=s
 simp only at hp hw hq hd hno
 subst hp hw
 unfold Js.hand
 cases q with
 | nil=>exact ⟨Nat.le_refl 43,fun h=>absurd h (Nat.lt_irrefl 43),fun _=>rfl,fun _=>rfl,fun x hx=>(by cases hx),fun x hx=>(by cases hx),.nil,.nil,fun i hi h=>absurd h (hno i hi),fun i h=>(by cases h)⟩
 | cons x q =>
   rw [List.nodup_cons] at hd
   obtain ⟨hx,hd⟩:=hd
   obtain ⟨x1,x2,x3⟩:=hq x (List.mem_cons_self ..)
   have hjx : jwk (j x) = 6 ∨ jwk (j x) = 8:=by rcases x3 with h | h <;> rw [h] <;> decide
   refine ⟨Nat.le_refl 43,fun h=>absurd h (Nat.lt_irrefl 43),fun h=>(by cases h),fun _=>rfl,fun y hy=>(by cases hy),fun y hy=>?_,.nil,hd,fun i hi h=>?_,fun i h=>?_⟩
   . have hyx : y ≠ x:=fun e=>hx (e ▸ hy)
     obtain ⟨h1,h2,h3⟩:=hq y (List.mem_cons_of_mem _ hy)
     refine ⟨h1,h2,?_⟩
     show upd j x (jwk (j x)) y = 4 ∨ upd j x (jwk (j x)) y = 5
     rw [upd_ne _ _ hyx]
     exact h3
   . by_cases e : i = x
     . rw [e]; rfl
     . refine absurd ?_ (hno i hi)
       have h' : upd j x (jwk (j x)) i = 6 ∨ upd j x (jwk (j x)) i = 8:=h
       rw [upd_ne _ _ e] at h'
       exact h'
   . have e : x + 1 = i + 1:=h
     obtain rfl : x = i:=by omega
     refine ⟨x1,x2,?_⟩
     show upd j x (jwk (j x)) x = 6 ∨ upd j x (jwk (j x)) x = 8
     rw [upd_same]
     exact hjx
section
variable {n : Nat} {s : Js} {i : Nat}
theorem Jok.lead (h : Jok n s) (hp : s.p < 42) : Jok n (s.turn 0):=by
 unfold Js.turn
 rw [if_pos rfl,if_neg (by omega)]
 refine ⟨by show s.p + 1 <= 43; omega,fun _=>h.o0 (by omega),h.q0,fun hw=>?_,h.wj,h.qj,h.wd,h.qd,h.ho,h.oh⟩
 have hw' : ¬ (2 <= s.p + 1 /\ s.p + 1 <= 42):=hw
 exact h.w0 (by omega)
theorem Jok.no (h : Jok n s) (hp : s.p < 43) : ∀ i,1 <= i -> ¬ (s.j i = 6 ∨ s.j i = 8):=fun i hi h1=>by
 have:=h.ho i hi h1
 have:=h.o0 hp
 omega
theorem Jok.end_ (h : Jok n s) (hp : s.p = 42) : Jok n (s.turn 0):=by
 unfold Js.turn
 rw [if_pos rfl,if_pos hp]
 have hq:=h.q0 (h.o0 (by omega))
 refine jok_hand rfl rfl ?_ ?_ (h.no (by omega))
 . show ∀ x ∈ s.q ++ s.w,_
   rw [hq,List.nil_append]
   exact fun x hx=>⟨(h.wj x hx).1,(h.wj x hx).2.1,.inl (h.wj x hx).2.2⟩
 . show (s.q ++ s.w).Nodup
   rw [hq,List.nil_append]
   exact h.wd
theorem Jok.step (h : Jok n s) (hi : i ≠ 0) (hs : s.j i <= 2) : Jok n (s.turn i):=by
 unfold Js.turn
 rw [if_neg hi,if_neg (by omega),if_neg (by omega),if_neg (by omega)]
 refine ⟨h.p43,h.o0,h.q0,h.w0,fun x hx=>?_,fun x hx=>?_,h.wd,h.qd,fun k hk h1=>?_,fun k h1=>?_⟩
 . obtain ⟨h1,h2,h3⟩:=h.wj x hx
   refine ⟨h1,h2,?_⟩
   show upd s.j i _ x = 4
   rw [upd_ne _ _ (fun e=>by subst e; omega)]
   exact h3
 . obtain ⟨h1,h2,h3⟩:=h.qj x hx
   refine ⟨h1,h2,?_⟩
   show upd s.j i _ x = 4 ∨ upd s.j i _ x = 5
   rw [upd_ne _ _ (fun e=>by subst e; omega)]
   exact h3
 . have h1' : upd s.j i (s.j i + 1) k = 6 ∨ upd s.j i (s.j i + 1) k = 8:=h1
   by_cases e : k = i
   . subst e; rw [upd_same] at h1'; omega
   . rw [upd_ne _ _ e] at h1'; exact h.ho k hk h1'
 . obtain ⟨a1,a2,a3⟩:=h.oh k h1
   refine ⟨a1,a2,?_⟩
   show upd s.j i _ k = 6 ∨ upd s.j i _ k = 8
   rw [upd_ne _ _ (fun e=>by subst e; omega)]
   exact a3
theorem Jok.wait (h : Jok n s) (hi : i ≠ 0) (hin : i < n) (hs : s.j i = 3) (ho : s.o = 0) (hp : 2 <= s.p /\ s.p <= 42) : Jok n (s.turn i):=by
 unfold Js.turn
 rw [if_neg hi,if_pos hs,if_pos ho,if_pos hp]
 refine ⟨h.p43,h.o0,h.q0,fun hw=>absurd hp hw,fun x hx=>?_,fun x hx=>?_,?_,h.qd,fun k hk h1=>?_,fun k h1=>?_⟩
 . show 1 <= x /\ x < n /\ upd s.j i 4 x = 4
   rcases List.mem_append.1 hx with hx | hx
   . obtain ⟨h1,h2,h3⟩:=h.wj x hx
     refine ⟨h1,h2,?_⟩
     rw [upd_ne _ _ (fun e=>by subst e; omega)]
     exact h3
   . obtain rfl : x = i:=by simpa using hx
     exact ⟨by omega,hin,upd_same _ _ _⟩
 . have hx' : x ∈ s.q:=hx
   rw [h.q0 ho] at hx'
   cases hx'
 . show (s.w ++ [i]).Nodup
   refine List.nodup_append.2 ⟨h.wd,by simp,fun a ha b hb e=>?_⟩
   obtain rfl : b = i:=by simpa using hb
   subst e
   have:=(h.wj a ha).2.2
   omega
 . have h1' : upd s.j i 4 k = 6 ∨ upd s.j i 4 k = 8:=h1
   by_cases e : k = i
   . subst e; rw [upd_same] at h1'; omega
   . rw [upd_ne _ _ e] at h1'; exact h.ho k hk h1'
 . have h1' : s.o = k + 1:=h1
   omega
theorem Jok.none_ (h : Jok n s) (hi : i ≠ 0) (hs : s.j i = 3) (ho : s.o = 0) (hp : ¬ (2 <= s.p /\ s.p <= 42)) : Jok n (s.turn i):=by
 unfold Js.turn
 rw [if_neg hi,if_pos hs,if_pos ho,if_neg hp]
 refine ⟨h.p43,h.o0,h.q0,h.w0,fun x hx=>?_,fun x hx=>?_,h.wd,h.qd,fun k hk h1=>?_,fun k h1=>?_⟩
 . have hx' : x ∈ s.w:=hx
   rw [h.w0 hp] at hx'
   cases hx'
 . have hx' : x ∈ s.q:=hx
   rw [h.q0 ho] at hx'
   cases hx'
 . have h1' : upd s.j i 7 k = 6 ∨ upd s.j i 7 k = 8:=h1
   by_cases e : k = i
   . subst e; rw [upd_same] at h1'; omega
   . rw [upd_ne _ _ e] at h1'; exact h.ho k hk h1'
 . have h1' : s.o = k + 1:=h1
   omega
theorem Jok.push (h : Jok n s) (hi : i ≠ 0) (hin : i < n) (hs : s.j i = 3) (ho : s.o ≠ 0) : Jok n (s.turn i):=by
 unfold Js.turn
 rw [if_neg hi,if_pos hs,if_neg ho]
 have hp : s.p = 43:=by
   have:=h.p43
   by_cases hp : s.p < 43
   . exact absurd (h.o0 hp) ho
   . omega
 refine ⟨h.p43,h.o0,fun h1=>absurd h1 ho,h.w0,fun x hx=>?_,fun x hx=>?_,h.wd,?_,fun k hk h1=>?_,fun k h1=>?_⟩
 . have hx' : x ∈ s.w:=hx
   rw [h.w0 (by omega)] at hx'
   cases hx'
 . show 1 <= x /\ x < n /\ (upd s.j i 5 x = 4 ∨ upd s.j i 5 x = 5)
   rcases List.mem_append.1 hx with hx | hx
   . obtain ⟨h1,h2,h3⟩:=h.qj x hx
     refine ⟨h1,h2,?_⟩
     rw [upd_ne _ _ (fun e=>by subst e; omega)]
     exact h3
   . obtain rfl : x = i:=by simpa using hx
     exact ⟨by omega,hin,.inr (upd_same _ _ _)⟩
 . show (s.q ++ [i]).Nodup
   refine List.nodup_append.2 ⟨h.qd,by simp,fun a ha b hb e=>?_⟩
   obtain rfl : b = i:=by simpa using hb
   subst e
   have:=(h.qj a ha).2.2
   omega
 . have h1' : upd s.j i 5 k = 6 ∨ upd s.j i 5 k = 8:=h1
   by_cases e : k = i
   . subst e; rw [upd_same] at h1'; omega
   . rw [upd_ne _ _ e] at h1'; exact h.ho k hk h1'
 . obtain ⟨a1,a2,a3⟩:=h.oh k h1
   refine ⟨a1,a2,?_⟩
   show upd s.j i 5 k = 6 ∨ upd s.j i 5 k = 8
   rw [upd_ne _ _ (fun e=>by subst e; omega)]
   exact a3
theorem Jok.p_of (h : Jok n s) (hi : i ≠ 0) (hs : s.j i = 6 ∨ s.j i = 8) : s.p = 43 /\ s.o = i + 1:=by
 have h1:=h.ho i (by omega) hs
 have:=h.p43
 by_cases hp : s.p < 43
 . have:=h.o0 hp; omega
 . exact ⟨by omega,h1⟩
theorem Jok.over (h : Jok n s) (hi : i ≠ 0) (hs : s.j i = 6 ∨ s.j i = 8) : Jok n (s.turn i):=by
 obtain ⟨hp,ho⟩:=h.p_of hi hs
 have hw:=h.w0 (by omega)
 have hq : ∀ x ∈ s.q,1 <= x /\ x < n /\ (upd s.j i 7 x = 4 ∨ upd s.j i 7 x = 5):=fun x hx=>by
   obtain ⟨h1,h2,h3⟩:=h.qj x hx
   refine ⟨h1,h2,?_⟩
   rw [upd_ne _ _ (fun e=>by subst e; omega)]
   exact h3
 have hno : ∀ k,1 <= k -> ¬ (upd s.j i 7 k = 6 ∨ upd s.j i 7 k = 8):=fun k hk h1=>by
   by_cases e : k = i
   . subst e; rw [upd_same] at h1; omega
   . rw [upd_ne _ _ e] at h1
     have:=h.ho k hk h1
     omega
 unfold Js.turn
 rw [if_neg hi,if_neg (by omega)]
 rcases hs with h6 | h8
 . rw [if_pos h6]
   exact jok_hand hp hw hq h.qd hno
 . rw [if_neg (by omega),if_pos h8]
   exact jok_hand hp hw hq h.qd hno
end
def Js.zero : Js:=⟨0,fun _=>0,[],[],0,0,0,-1⟩
theorem jok_zero (n : Nat) : Jok n Js.zero:=⟨Nat.zero_le _,fun _=>rfl,fun _=>rfl,fun _=>rfl,fun x hx=>(by cases hx),fun x hx=>(by cases hx),.nil,.nil,fun i _ h=>(by rcases h with h | h <;> cases h),fun i h=>(by cases h)⟩
def jstp (x : Js × List Nat) (i : Nat) : Js × List Nat:=if Js.st x.1 i = 0 ∨ Js.st x.1 i = 1 then (x.1.turn i,x.2 ++ [i]) else x
def jrnd (n : Nat) (x : Js × List Nat) : Js × List Nat:=(List.range n).foldl jstp x
def jrnds (n : Nat) : Nat -> Js × List Nat -> Js × List Nat
 | 0,x=>x
 | m + 1,x=>if (jrnd n x).2.length = x.2.length then jrnd n x else jrnds n m (jrnd n x)
theorem jrun_all {m : Nat} (h : m < 7) : ∀ s,s = (jrnds (m + 1) 200 (Js.zero,[])).1 -> s.p = 43 /\ s.a = m /\ s.z = 0 /\ s.t = (m : Int):=by
 have key : ∀ m : _root_.Fin 7,(jrnds (m.1 + 1) 200 (Js.zero,[])).1.p = 43 /\ (jrnds (m.1 + 1) 200 (Js.zero,[])).1.a = m.1 /\ (jrnds (m.1 + 1) 200 (Js.zero,[])).1.z = 0 /\ (jrnds (m.1 + 1) 200 (Js.zero,[])).1.t = (m.1 : Int):=by decide +kernel
 rintro s rfl
 exact key ⟨m,h⟩
end
end Go.Proofs.Ytibcdikfbhmheaa
