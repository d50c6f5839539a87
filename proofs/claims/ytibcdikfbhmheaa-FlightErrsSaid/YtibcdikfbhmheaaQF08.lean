import Derived.Test.YtibcdikfbhmheaaQF07
import Derived.Test.YtibcdikfbhmheaaB24
set_option linter.unusedSimpArgs false
set_option linter.unusedVariables false
set_option maxRecDepth 100000
set_option maxHeartbeats 4000000
namespace Go.Proofs.Ytibcdikfbhmheaa
open Go Go.Conc Go.Proofs
open Go.ConcN (sumTo upd sumTo_upd upd_ne upd_same)
set_option linter.unusedVariables false
structure Fd where
 k : Int × Int
 kb : Nat
 rb : Nat
 gb : Nat
 xb : Nat
 nb : Nat
 mb : Nat
 okb : Nat
structure FdE (D : Fd) (own : Nat → Prop) (V : World) : Prop where
 n : V.heap[D.nb]? = some (.cells #[.pointer none] 130 (0,0))
 k : V.heap[D.kb]? = some (.cells #[.int .i64 D.k.1,.int .i64 D.k.2] 139 (0,0))
 ok : V.heap[D.okb]? = some (.cells #[.bool true] 4 (0,0))
 on : own D.nb
 ok' : own D.kb
 oo : own D.okb
structure FdI (D : Fd) (own : Nat → Prop) (V : World) : Prop where
 e : FdE D own V
 x : V.heap[D.xb]? = some (.cells #[.pointer (some ⟨D.gb,0,none⟩)] 130 (0,0))
 g : V.heap[D.gb]? = some (.cells #[.map (some D.rb)] 190 (0,0))
 m : V.heap[D.rb]? = some (.map #[] 0)
 u : V.heap[D.mb]? = some (.cells #[.slice none 0 0,.int .i64 0] 95 (0,0))
 ox : own D.xb
 og : own D.gb
 or : own D.rb
 ou : own D.mb
 lt : D.kb < D.rb ∧ D.rb < D.gb ∧ D.gb < D.xb ∧ D.xb < D.nb ∧ D.nb < D.mb ∧ D.mb < D.okb
def FdV (D : Fd) (σ : Bool) (own : Nat → Prop) (V : World) : Prop:=if σ then FdE D own V else FdI D own V
def Ufd (D : Fd) (C : Cw) : Usr:={ S:=Bool,inv:=FdV D,st:=fun s _=>if s then 3 else 0,loc:=fun _ _ _=>False,turn:=fun _ _=>true,fid:=fun _=>72,first:=fun _=>#[],caps:=fun _=>#[bp D.nb,bp D.mb,bp D.kb,bp D.xb,bp D.okb] }
section
variable {D : Fd} {C : Cw} {E : Env} {i : Nat} {own : Nat → Prop} {V : World} {a₁ : Act} {ops₁ : Array Oper} {i₁ : Nat} {rest₁ : List Nat} {k₁ : List Item}
theorem FdE.frame {V' : World} (A : FdE D own V) (hk : ∀ b,own b → V'.heap[b]? = V.heap[b]?) : FdE D own V':=⟨(hk _ A.on).trans A.n,(hk _ A.ok').trans A.k,(hk _ A.oo).trans A.ok,A.on,A.ok',A.oo⟩
theorem FdV.frame {σ : Bool} {V' : World} (A : FdV D σ own V) (hk : ∀ b,own b → V'.heap[b]? = V.heap[b]?) : FdV D σ own V':=by
 cases σ with
 | true=>exact FdE.frame A hk
 | false =>
   have A : FdI D own V:=A
   exact ⟨A.e.frame hk,(hk _ A.ox).trans A.x,(hk _ A.og).trans A.g,(hk _ A.or).trans A.m,(hk _ A.ou).trans A.u,A.ox,A.og,A.or,A.ou,A.lt⟩
theorem kp_store {W : World} {b : Nat} {v : Value} {t : TypeId} (h : W.heap[b]? = some (.cells #[v] t (0,0))) : Kp W (W.setCell ⟨b,0,none⟩ v):=⟨by simp [World.setCell],fun c hc=>by
 rw [setCell_heap]
 by_cases e : c = b
 · subst e; rw [if_pos rfl,h]; simp
 · rw [if_neg e]⟩
theorem ufd_start (hi : i < C.n) (hn1 : C.n < 1000) (hn : norm V = V) {st : Nat → Int} (H : CwAt C false st V) (A : FdI D own V) (hown : ∀ b,own b → b < V.heap.size ∧ b ≠ C.cb ∧ ∀ j,j < C.n → b ≠ C.tb j)
   {Post : Goroutine → World → Prop} (hS : ∀ V' v,norm V' = V' → V.heap.size ≤ V'.heap.size → (∀ b,b < V.heap.size → ¬ own b → V'.heap[b]? = V.heap[b]?) → FdE D own V' → CwAt C false st V' → Post (G ((baseD 141).at (a₁.put ((ops₁[i₁]?).bind (·.dst)) v) (.inRegion ops₁ rest₁ :: k₁)) [rootF]) V') :
   WillM Try.prog false E.Z Post 0 (G (Frame.enter Try.prog 72 #[C.tp i,.pointer (some ⟨D.nb,0,none⟩),.pointer (some ⟨D.mb,0,none⟩),.pointer (some ⟨D.kb,0,none⟩),.pointer (some ⟨D.xb,0,none⟩),.pointer (some ⟨D.okb,0,none⟩)] .normal) [(baseD 141).at a₁ (.inRegion ops₁ (i₁ :: rest₁) :: k₁),rootF]) V:=by
 intro KK hM hS0
 have hfin : ∀ V' v,norm V' = V' → V.heap.size ≤ V'.heap.size → (∀ b,b < V.heap.size → ¬ own b → V'.heap[b]? = V.heap[b]?) → FdE D own V' → CwAt C false st V' → KK 0 (G ((baseD 141).at (a₁.put ((ops₁[i₁]?).bind (·.dst)) v) (.inRegion ops₁ rest₁ :: k₁)) [rootF]) V':=fun V' v a b c d e=>hS0 _ _ (hS V' v a b c d e)
 clear hS hS0
 obtain ⟨D1,D2,D3,D4,D5,D6⟩:=A.lt
 have e_n:=A.e.n
 have e_k:=A.e.k
 have e_ok:=A.e.ok
 have e_x:=A.x
 have e_g:=A.g
 have e_m:=A.m
 have e_u:=A.u
 have kp : Kp V V:=⟨Nat.le_refl _,fun _ _=>rfl⟩
 have hm0 : Mp (#[] : Array MapEntry) []:=rfl
 have hkn : kpos D.k ([] : List ((Int × Int) × Nat)) 0 = none:=rfl
 have l_n:=(hown _ A.e.on).1
 have l_k:=(hown _ A.e.ok').1
 have l_ok:=(hown _ A.e.oo).1
 have l_x:=(hown _ A.ox).1
 have l_g:=(hown _ A.og).1
 have l_m:=(hown _ A.or).1
 have l_u:=(hown _ A.ou).1
 rw [enter_at (P:=Try.prog) _ Try.func72 rfl]
 simp only [Try.f72,Cw.tp]
 walk_nrm
 have q_n : ∀ τ,(re V τ 0).cell? ⟨D.nb,0,none⟩ = some (.pointer none):=fun τ=>cell_of ((kp.keep _ (l_n)).trans e_n) (by simp)
 have q_k1 : ∀ τ,(re V τ 0).cell? ⟨D.kb,0,none⟩ = some (.int .i64 D.k.1):=fun τ=>cell_of ((kp.keep _ (l_k)).trans e_k) (by simp)
 have q_k2 : ∀ τ,(re V τ 0).cell? ⟨D.kb,1,none⟩ = some (.int .i64 D.k.2):=fun τ=>cell_of ((kp.keep _ (l_k)).trans e_k) (by simp)
 have q_ok : ∀ τ,(re V τ 0).cell? ⟨D.okb,0,none⟩ = some (.bool true):=fun τ=>cell_of ((kp.keep _ (l_ok)).trans e_ok) (by simp)
 have q_x : ∀ τ,(re V τ 0).cell? ⟨D.xb,0,none⟩ = some (.pointer (some ⟨D.gb,0,none⟩)):=fun τ=>cell_of ((kp.keep _ (l_x)).trans e_x) (by simp)
 have z_ok : ∀ τ,(re V τ 0).frozen? ⟨D.okb,0,none⟩ = false:=fun τ=>by simp [World.frozen?,re,(kp.keep _ (l_ok)).trans e_ok]
 try walk_nrm
 obtain ⟨K,hK,hV,key,yek⟩:=kKV (L:=Lone) (J:=fun g=>KK 0 g V) hM.mu (hM.muv hn)
 refine key _ ?_
 repeat (first|(with_reducible first|apply hK.sq|apply hK.sk|(apply hK.re;try subst hkk)|apply hK.bl|apply hK.ib|apply hK.rt|apply hK.nd)|refine hK.ex rfl ?_|(with_reducible refine hK.rg fun kk hkk=>?_;simp only [ix,Nat.reduceAdd])|(with_reducible first|refine hK.cf ?_|refine hK.ct ?_)|(refine hK.uw rfl rfl ?_;walk_nrm)|(refine hV.vl rfl rfl fun J hJ=>?_;go_simp;with_reducible refine hJ _ ?_;clear hJ J;walk_nrm))
 refine hK.cl rfl rfl rfl Try.func71 rfl ?_
 walk_nrm
 refine yek _ ?_
 clear hK hV key yek K
 clear q_n q_k1 q_k2 q_ok q_x z_ok
 refine join_nilg (k:=D.k) hM hn fun U1 hnU1 kU1=>?_
 have kpU1:=kp.trans kU1
 have q_n : ∀ τ,(re U1 τ 0).cell? ⟨D.nb,0,none⟩ = some (.pointer none):=fun τ=>cell_of ((kpU1.keep _ (l_n)).trans e_n) (by simp)
 have q_k1 : ∀ τ,(re U1 τ 0).cell? ⟨D.kb,0,none⟩ = some (.int .i64 D.k.1):=fun τ=>cell_of ((kpU1.keep _ (l_k)).trans e_k) (by simp)
 have q_k2 : ∀ τ,(re U1 τ 0).cell? ⟨D.kb,1,none⟩ = some (.int .i64 D.k.2):=fun τ=>cell_of ((kpU1.keep _ (l_k)).trans e_k) (by simp)
 have q_ok : ∀ τ,(re U1 τ 0).cell? ⟨D.okb,0,none⟩ = some (.bool true):=fun τ=>cell_of ((kpU1.keep _ (l_ok)).trans e_ok) (by simp)
 have q_x : ∀ τ,(re U1 τ 0).cell? ⟨D.xb,0,none⟩ = some (.pointer (some ⟨D.gb,0,none⟩)):=fun τ=>cell_of ((kpU1.keep _ (l_x)).trans e_x) (by simp)
 have z_ok : ∀ τ,(re U1 τ 0).frozen? ⟨D.okb,0,none⟩ = false:=fun τ=>by simp [World.frozen?,re,(kpU1.keep _ (l_ok)).trans e_ok]
 try walk_nrm
 obtain ⟨K,hK,hV,key,yek⟩:=kKV (L:=Lone) (J:=fun g=>KK 0 g U1) hM.mu (hM.muv hnU1)
 refine key _ ?_
 repeat (first|(with_reducible first|apply hK.sq|apply hK.sk|(apply hK.re;try subst hkk)|apply hK.bl|apply hK.ib|apply hK.rt|apply hK.nd)|refine hK.ex rfl ?_|(with_reducible refine hK.rg fun kk hkk=>?_;simp only [ix,Nat.reduceAdd])|(with_reducible first|refine hK.cf ?_|refine hK.ct ?_)|(refine hK.uw rfl rfl ?_;walk_nrm)|(refine hV.vl rfl rfl fun J hJ=>?_;go_simp;with_reducible refine hJ _ ?_;clear hJ J;walk_nrm))
 refine hK.cl rfl rfl rfl Try.func71 rfl ?_
 walk_nrm
 refine yek _ ?_
 clear hK hV key yek K
 clear q_n q_k1 q_k2 q_ok q_x z_ok
 refine join_nilt (k:=D.k) hM hnU1 ((kpU1.keep _ (l_g)).trans e_g) ((kpU1.keep _ (l_m)).trans e_m) hm0 fun U2 hnU2 kU2=>?_
 have kpU2:=kpU1.trans kU2
 have q_n : ∀ τ,(re U2 τ 0).cell? ⟨D.nb,0,none⟩ = some (.pointer none):=fun τ=>cell_of ((kpU2.keep _ (l_n)).trans e_n) (by simp)
 have q_k1 : ∀ τ,(re U2 τ 0).cell? ⟨D.kb,0,none⟩ = some (.int .i64 D.k.1):=fun τ=>cell_of ((kpU2.keep _ (l_k)).trans e_k) (by simp)
 have q_k2 : ∀ τ,(re U2 τ 0).cell? ⟨D.kb,1,none⟩ = some (.int .i64 D.k.2):=fun τ=>cell_of ((kpU2.keep _ (l_k)).trans e_k) (by simp)
 have q_ok : ∀ τ,(re U2 τ 0).cell? ⟨D.okb,0,none⟩ = some (.bool true):=fun τ=>cell_of ((kpU2.keep _ (l_ok)).trans e_ok) (by simp)
 have q_x : ∀ τ,(re U2 τ 0).cell? ⟨D.xb,0,none⟩ = some (.pointer (some ⟨D.gb,0,none⟩)):=fun τ=>cell_of ((kpU2.keep _ (l_x)).trans e_x) (by simp)
 have z_ok : ∀ τ,(re U2 τ 0).frozen? ⟨D.okb,0,none⟩ = false:=fun τ=>by simp [World.frozen?,re,(kpU2.keep _ (l_ok)).trans e_ok]
 try walk_nrm
 obtain ⟨K,hK,hV,key,yek⟩:=kKV (L:=Lone) (J:=fun g=>KK 0 g U2) hM.mu (hM.muv hnU2)
 refine key _ ?_
 repeat (first|(with_reducible first|apply hK.sq|apply hK.sk|(apply hK.re;try subst hkk)|apply hK.bl|apply hK.ib|apply hK.rt|apply hK.nd)|refine hK.ex rfl ?_|(with_reducible refine hK.rg fun kk hkk=>?_;simp only [ix,Nat.reduceAdd])|(with_reducible first|refine hK.cf ?_|refine hK.ct ?_)|(refine hK.uw rfl rfl ?_;walk_nrm)|(refine hV.vl rfl rfl fun J hJ=>?_;go_simp;with_reducible refine hJ _ ?_;clear hJ J;walk_nrm))
 refine hK.cl rfl rfl rfl Try.func71 rfl ?_
 walk_nrm
 refine yek _ ?_
 clear hK hV key yek K
 clear q_n q_k1 q_k2 q_ok q_x z_ok
 refine join_nilm (k:=D.k) hM hnU2 ((kpU2.keep _ (l_g)).trans e_g) ((kpU2.keep _ (l_m)).trans e_m) hm0 fun U3 hnU3 kU3=>?_
 have kpU3:=kpU2.trans kU3
 have q_n : ∀ τ,(re U3 τ 0).cell? ⟨D.nb,0,none⟩ = some (.pointer none):=fun τ=>cell_of ((kpU3.keep _ (l_n)).trans e_n) (by simp)
 have q_k1 : ∀ τ,(re U3 τ 0).cell? ⟨D.kb,0,none⟩ = some (.int .i64 D.k.1):=fun τ=>cell_of ((kpU3.keep _ (l_k)).trans e_k) (by simp)
 have q_k2 : ∀ τ,(re U3 τ 0).cell? ⟨D.kb,1,none⟩ = some (.int .i64 D.k.2):=fun τ=>cell_of ((kpU3.keep _ (l_k)).trans e_k) (by simp)
 have q_ok : ∀ τ,(re U3 τ 0).cell? ⟨D.okb,0,none⟩ = some (.bool true):=fun τ=>cell_of ((kpU3.keep _ (l_ok)).trans e_ok) (by simp)
 have q_x : ∀ τ,(re U3 τ 0).cell? ⟨D.xb,0,none⟩ = some (.pointer (some ⟨D.gb,0,none⟩)):=fun τ=>cell_of ((kpU3.keep _ (l_x)).trans e_x) (by simp)
 have z_ok : ∀ τ,(re U3 τ 0).frozen? ⟨D.okb,0,none⟩ = false:=fun τ=>by simp [World.frozen?,re,(kpU3.keep _ (l_ok)).trans e_ok]
 try walk_nrm
 obtain ⟨K,hK,hV,key,yek⟩:=kKV (L:=Lone) (J:=fun g=>KK 0 g U3) hM.mu (hM.muv hnU3)
 refine key _ ?_
 repeat (first|(with_reducible first|apply hK.sq|apply hK.sk|(apply hK.re;try subst hkk)|apply hK.bl|apply hK.ib|apply hK.rt|apply hK.nd)|refine hK.ex rfl ?_|(with_reducible refine hK.rg fun kk hkk=>?_;simp only [ix,Nat.reduceAdd])|(with_reducible first|refine hK.cf ?_|refine hK.ct ?_)|(refine hK.uw rfl rfl ?_;walk_nrm)|(refine hV.vl rfl rfl fun J hJ=>?_;go_simp;with_reducible refine hJ _ ?_;clear hJ J;walk_nrm))
 refine hK.cl rfl rfl rfl Try.func71 rfl ?_
 walk_nrm
 refine yek _ ?_
 clear hK hV key yek K
 clear q_n q_k1 q_k2 q_ok q_x z_ok
 refine join_none (k:=D.k) hM hnU3 ((kpU3.keep _ (l_g)).trans e_g) ((kpU3.keep _ (l_m)).trans e_m) hm0 hkn fun U4 hnU4 kU4=>?_
 have kpU4:=kpU3.trans kU4
 have q_n : ∀ τ,(re U4 τ 0).cell? ⟨D.nb,0,none⟩ = some (.pointer none):=fun τ=>cell_of ((kpU4.keep _ (l_n)).trans e_n) (by simp)
 have q_k1 : ∀ τ,(re U4 τ 0).cell? ⟨D.kb,0,none⟩ = some (.int .i64 D.k.1):=fun τ=>cell_of ((kpU4.keep _ (l_k)).trans e_k) (by simp)
 have q_k2 : ∀ τ,(re U4 τ 0).cell? ⟨D.kb,1,none⟩ = some (.int .i64 D.k.2):=fun τ=>cell_of ((kpU4.keep _ (l_k)).trans e_k) (by simp)
 have q_ok : ∀ τ,(re U4 τ 0).cell? ⟨D.okb,0,none⟩ = some (.bool true):=fun τ=>cell_of ((kpU4.keep _ (l_ok)).trans e_ok) (by simp)
 have q_x : ∀ τ,(re U4 τ 0).cell? ⟨D.xb,0,none⟩ = some (.pointer (some ⟨D.gb,0,none⟩)):=fun τ=>cell_of ((kpU4.keep _ (l_x)).trans e_x) (by simp)
 have z_ok : ∀ τ,(re U4 τ 0).frozen? ⟨D.okb,0,none⟩ = false:=fun τ=>by simp [World.frozen?,re,(kpU4.keep _ (l_ok)).trans e_ok]
 try walk_nrm
 obtain ⟨K,hK,hV,key,yek⟩:=kKV (L:=Lone) (J:=fun g=>KK 0 g U4) hM.mu (hM.muv hnU4)
 refine key _ ?_
 repeat (first|(with_reducible first|apply hK.sq|apply hK.sk|(apply hK.re;try subst hkk)|apply hK.bl|apply hK.ib|apply hK.rt|apply hK.nd)|refine hK.ex rfl ?_|(with_reducible refine hK.rg fun kk hkk=>?_;simp only [ix,Nat.reduceAdd])|(with_reducible first|refine hK.cf ?_|refine hK.ct ?_)|(refine hK.uw rfl rfl ?_;walk_nrm)|(refine hV.vl rfl rfl fun J hJ=>?_;go_simp;with_reducible refine hJ _ ?_;clear hJ J;walk_nrm))
 refine yek _ ?_
 clear hK hV key yek K
 have e_okS:=(kpU4.keep _ (l_ok)).trans e_ok
 have hnU5:=norm_set hnU4 ⟨D.okb,0,none⟩ (.bool true)
 have kU5:=kp_store e_okS
 refine mus_put (L:=Lone) (hM.mus hnU5) (K:=fun g=>KK 0 g U4) (K':=fun g=>KK 0 g (U4.setCell ⟨D.okb,0,none⟩ (.bool true))) rfl (.inl rfl) rfl (by kernel_rfl) (fun τ=>?_) ?_
 · go_simp
   try rfl
 clear q_n q_k1 q_k2 q_ok q_x z_ok
 clear e_okS
 generalize U4.setCell ⟨D.okb,0,none⟩ (.bool true) = U5 at *
 have kpU5:=kpU4.trans kU5
 have q_n : ∀ τ,(re U5 τ 0).cell? ⟨D.nb,0,none⟩ = some (.pointer none):=fun τ=>cell_of ((kpU5.keep _ (l_n)).trans e_n) (by simp)
 have q_k1 : ∀ τ,(re U5 τ 0).cell? ⟨D.kb,0,none⟩ = some (.int .i64 D.k.1):=fun τ=>cell_of ((kpU5.keep _ (l_k)).trans e_k) (by simp)
 have q_k2 : ∀ τ,(re U5 τ 0).cell? ⟨D.kb,1,none⟩ = some (.int .i64 D.k.2):=fun τ=>cell_of ((kpU5.keep _ (l_k)).trans e_k) (by simp)
 have q_ok : ∀ τ,(re U5 τ 0).cell? ⟨D.okb,0,none⟩ = some (.bool true):=fun τ=>cell_of ((kpU5.keep _ (l_ok)).trans e_ok) (by simp)
 have q_x : ∀ τ,(re U5 τ 0).cell? ⟨D.xb,0,none⟩ = some (.pointer (some ⟨D.gb,0,none⟩)):=fun τ=>cell_of ((kpU5.keep _ (l_x)).trans e_x) (by simp)
 have z_ok : ∀ τ,(re U5 τ 0).frozen? ⟨D.okb,0,none⟩ = false:=fun τ=>by simp [World.frozen?,re,(kpU5.keep _ (l_ok)).trans e_ok]
 try walk_nrm
 obtain ⟨K,hK,hV,key,yek⟩:=kKV (L:=Lone) (J:=fun g=>KK 0 g U5) hM.mu (hM.muv hnU5)
 refine key _ ?_
 repeat (first|(with_reducible first|apply hK.sq|apply hK.sk|(apply hK.re;try subst hkk)|apply hK.bl|apply hK.ib|apply hK.rt|apply hK.nd)|refine hK.ex rfl ?_|(with_reducible refine hK.rg fun kk hkk=>?_;simp only [ix,Nat.reduceAdd])|(with_reducible first|refine hK.cf ?_|refine hK.ct ?_)|(refine hK.uw rfl rfl ?_;walk_nrm)|(refine hV.vl rfl rfl fun J hJ=>?_;go_simp;with_reducible refine hJ _ ?_;clear hJ J;walk_nrm))
 refine hK.cl rfl rfl rfl Try.func69 rfl ?_
 walk_nrm
 refine yek _ ?_
 clear hK hV key yek K
 clear q_n q_k1 q_k2 q_ok q_x z_ok
 refine end_nilg (k:=D.k) hM hnU5 fun U6 hnU6 kU6=>?_
 have kpU6:=kpU5.trans kU6
 have q_n : ∀ τ,(re U6 τ 0).cell? ⟨D.nb,0,none⟩ = some (.pointer none):=fun τ=>cell_of ((kpU6.keep _ (l_n)).trans e_n) (by simp)
 have q_k1 : ∀ τ,(re U6 τ 0).cell? ⟨D.kb,0,none⟩ = some (.int .i64 D.k.1):=fun τ=>cell_of ((kpU6.keep _ (l_k)).trans e_k) (by simp)
 have q_k2 : ∀ τ,(re U6 τ 0).cell? ⟨D.kb,1,none⟩ = some (.int .i64 D.k.2):=fun τ=>cell_of ((kpU6.keep _ (l_k)).trans e_k) (by simp)
 have q_ok : ∀ τ,(re U6 τ 0).cell? ⟨D.okb,0,none⟩ = some (.bool true):=fun τ=>cell_of ((kpU6.keep _ (l_ok)).trans e_ok) (by simp)
 have q_x : ∀ τ,(re U6 τ 0).cell? ⟨D.xb,0,none⟩ = some (.pointer (some ⟨D.gb,0,none⟩)):=fun τ=>cell_of ((kpU6.keep _ (l_x)).trans e_x) (by simp)
 have z_ok : ∀ τ,(re U6 τ 0).frozen? ⟨D.okb,0,none⟩ = false:=fun τ=>by simp [World.frozen?,re,(kpU6.keep _ (l_ok)).trans e_ok]
 try walk_nrm
 obtain ⟨K,hK,hV,key,yek⟩:=kKV (L:=Lone) (J:=fun g=>KK 0 g U6) hM.mu (hM.muv hnU6)
 refine key _ ?_
 repeat (first|(with_reducible first|apply hK.sq|apply hK.sk|(apply hK.re;try subst hkk)|apply hK.bl|apply hK.ib|apply hK.rt|apply hK.nd)|refine hK.ex rfl ?_|(with_reducible refine hK.rg fun kk hkk=>?_;simp only [ix,Nat.reduceAdd])|(with_reducible first|refine hK.cf ?_|refine hK.ct ?_)|(refine hK.uw rfl rfl ?_;walk_nrm)|(refine hV.vl rfl rfl fun J hJ=>?_;go_simp;with_reducible refine hJ _ ?_;clear hJ J;walk_nrm))
 refine hK.cl rfl rfl rfl Try.func69 rfl ?_
 walk_nrm
 refine yek _ ?_
 clear hK hV key yek K
 clear q_n q_k1 q_k2 q_ok q_x z_ok
 refine end_nilt (k:=D.k) hM hnU6 fun U7 hnU7 kU7=>?_
 have kpU7:=kpU6.trans kU7
 have q_n : ∀ τ,(re U7 τ 0).cell? ⟨D.nb,0,none⟩ = some (.pointer none):=fun τ=>cell_of ((kpU7.keep _ (l_n)).trans e_n) (by simp)
 have q_k1 : ∀ τ,(re U7 τ 0).cell? ⟨D.kb,0,none⟩ = some (.int .i64 D.k.1):=fun τ=>cell_of ((kpU7.keep _ (l_k)).trans e_k) (by simp)
 have q_k2 : ∀ τ,(re U7 τ 0).cell? ⟨D.kb,1,none⟩ = some (.int .i64 D.k.2):=fun τ=>cell_of ((kpU7.keep _ (l_k)).trans e_k) (by simp)
 have q_ok : ∀ τ,(re U7 τ 0).cell? ⟨D.okb,0,none⟩ = some (.bool true):=fun τ=>cell_of ((kpU7.keep _ (l_ok)).trans e_ok) (by simp)
 have q_x : ∀ τ,(re U7 τ 0).cell? ⟨D.xb,0,none⟩ = some (.pointer (some ⟨D.gb,0,none⟩)):=fun τ=>cell_of ((kpU7.keep _ (l_x)).trans e_x) (by simp)
 have z_ok : ∀ τ,(re U7 τ 0).frozen? ⟨D.okb,0,none⟩ = false:=fun τ=>by simp [World.frozen?,re,(kpU7.keep _ (l_ok)).trans e_ok]
 try walk_nrm
 obtain ⟨K,hK,hV,key,yek⟩:=kKV (L:=Lone) (J:=fun g=>KK 0 g U7) hM.mu (hM.muv hnU7)
 refine key _ ?_
 repeat (first|(with_reducible first|apply hK.sq|apply hK.sk|(apply hK.re;try subst hkk)|apply hK.bl|apply hK.ib|apply hK.rt|apply hK.nd)|refine hK.ex rfl ?_|(with_reducible refine hK.rg fun kk hkk=>?_;simp only [ix,Nat.reduceAdd])|(with_reducible first|refine hK.cf ?_|refine hK.ct ?_)|(refine hK.uw rfl rfl ?_;walk_nrm)|(refine hV.vl rfl rfl fun J hJ=>?_;go_simp;with_reducible refine hJ _ ?_;clear hJ J;walk_nrm))
 refine hK.cl rfl rfl rfl Try.func69 rfl ?_
 walk_nrm
 refine yek _ ?_
 clear hK hV key yek K
 clear q_n q_k1 q_k2 q_ok q_x z_ok
 refine end_none (k:=D.k) hM hnU7 ((kpU7.keep _ (l_g)).trans e_g) ((kpU7.keep _ (l_m)).trans e_m) hm0 hkn fun U8 hnU8 kU8=>?_
 have kpU8:=kpU7.trans kU8
 have q_n : ∀ τ,(re U8 τ 0).cell? ⟨D.nb,0,none⟩ = some (.pointer none):=fun τ=>cell_of ((kpU8.keep _ (l_n)).trans e_n) (by simp)
 have q_k1 : ∀ τ,(re U8 τ 0).cell? ⟨D.kb,0,none⟩ = some (.int .i64 D.k.1):=fun τ=>cell_of ((kpU8.keep _ (l_k)).trans e_k) (by simp)
 have q_k2 : ∀ τ,(re U8 τ 0).cell? ⟨D.kb,1,none⟩ = some (.int .i64 D.k.2):=fun τ=>cell_of ((kpU8.keep _ (l_k)).trans e_k) (by simp)
 have q_ok : ∀ τ,(re U8 τ 0).cell? ⟨D.okb,0,none⟩ = some (.bool true):=fun τ=>cell_of ((kpU8.keep _ (l_ok)).trans e_ok) (by simp)
 have q_x : ∀ τ,(re U8 τ 0).cell? ⟨D.xb,0,none⟩ = some (.pointer (some ⟨D.gb,0,none⟩)):=fun τ=>cell_of ((kpU8.keep _ (l_x)).trans e_x) (by simp)
 have z_ok : ∀ τ,(re U8 τ 0).frozen? ⟨D.okb,0,none⟩ = false:=fun τ=>by simp [World.frozen?,re,(kpU8.keep _ (l_ok)).trans e_ok]
 try walk_nrm
 obtain ⟨K,hK,hV,key,yek⟩:=kKV (L:=Lone) (J:=fun g=>KK 0 g U8) hM.mu (hM.muv hnU8)
 refine key _ ?_
 repeat (first|(with_reducible first|apply hK.sq|apply hK.sk|(apply hK.re;try subst hkk)|apply hK.bl|apply hK.ib|apply hK.rt|apply hK.nd)|refine hK.ex rfl ?_|(with_reducible refine hK.rg fun kk hkk=>?_;simp only [ix,Nat.reduceAdd])|(with_reducible first|refine hK.cf ?_|refine hK.ct ?_)|(refine hK.uw rfl rfl ?_;walk_nrm)|(refine hV.vl rfl rfl fun J hJ=>?_;go_simp;with_reducible refine hJ _ ?_;clear hJ J;walk_nrm))
 refine yek _ ?_
 clear hK hV key yek K
 have e_okS:=(kpU8.keep _ (l_ok)).trans e_ok
 have hnU9:=norm_set hnU8 ⟨D.okb,0,none⟩ (.bool true)
 have kU9:=kp_store e_okS
 refine mus_put (L:=Lone) (hM.mus hnU9) (K:=fun g=>KK 0 g U8) (K':=fun g=>KK 0 g (U8.setCell ⟨D.okb,0,none⟩ (.bool true))) rfl (.inl rfl) rfl (by kernel_rfl) (fun τ=>?_) ?_
 · go_simp
   try rfl
 clear q_n q_k1 q_k2 q_ok q_x z_ok
 clear e_okS
 generalize U8.setCell ⟨D.okb,0,none⟩ (.bool true) = U9 at *
 have kpU9:=kpU8.trans kU9
 have q_n : ∀ τ,(re U9 τ 0).cell? ⟨D.nb,0,none⟩ = some (.pointer none):=fun τ=>cell_of ((kpU9.keep _ (l_n)).trans e_n) (by simp)
 have q_k1 : ∀ τ,(re U9 τ 0).cell? ⟨D.kb,0,none⟩ = some (.int .i64 D.k.1):=fun τ=>cell_of ((kpU9.keep _ (l_k)).trans e_k) (by simp)
 have q_k2 : ∀ τ,(re U9 τ 0).cell? ⟨D.kb,1,none⟩ = some (.int .i64 D.k.2):=fun τ=>cell_of ((kpU9.keep _ (l_k)).trans e_k) (by simp)
 have q_ok : ∀ τ,(re U9 τ 0).cell? ⟨D.okb,0,none⟩ = some (.bool true):=fun τ=>cell_of ((kpU9.keep _ (l_ok)).trans e_ok) (by simp)
 have q_x : ∀ τ,(re U9 τ 0).cell? ⟨D.xb,0,none⟩ = some (.pointer (some ⟨D.gb,0,none⟩)):=fun τ=>cell_of ((kpU9.keep _ (l_x)).trans e_x) (by simp)
 have z_ok : ∀ τ,(re U9 τ 0).frozen? ⟨D.okb,0,none⟩ = false:=fun τ=>by simp [World.frozen?,re,(kpU9.keep _ (l_ok)).trans e_ok]
 try walk_nrm
 obtain ⟨K,hK,hV,key,yek⟩:=kKV (L:=Lone) (J:=fun g=>KK 0 g U9) hM.mu (hM.muv hnU9)
 refine key _ ?_
 repeat (first|(with_reducible first|apply hK.sq|apply hK.sk|(apply hK.re;try subst hkk)|apply hK.bl|apply hK.ib|apply hK.rt|apply hK.nd)|refine hK.ex rfl ?_|(with_reducible refine hK.rg fun kk hkk=>?_;simp only [ix,Nat.reduceAdd])|(with_reducible first|refine hK.cf ?_|refine hK.ct ?_)|(refine hK.uw rfl rfl ?_;walk_nrm)|(refine hV.vl rfl rfl fun J hJ=>?_;go_simp;with_reducible refine hJ _ ?_;clear hJ J;walk_nrm))
 refine hK.cl rfl rfl rfl Try.func67 rfl ?_
 walk_nrm
 refine yek _ ?_
 clear hK hV key yek K
 clear q_n q_k1 q_k2 q_ok q_x z_ok
 refine begin_off (k:=D.k) hM hnU9 ((kpU9.keep _ (l_g)).trans e_g) ((kpU9.keep _ (l_m)).trans e_m) hm0 hkn (by omega) fun B hnB sB0 ⟨ob,lo1,lo2,eo,emB⟩ kB=>?_
 have sB : V.heap.size ≤ B.heap.size:=Nat.le_trans kpU9.size sB0
 have kqB : ∀ b,b < V.heap.size → b ≠ D.rb → B.heap[b]? = V.heap[b]?:=fun b hb hne=>(kB b (Nat.lt_of_lt_of_le hb kpU9.size) hne).trans (kpU9.keep b hb)
 have lo3 : V.heap.size ≤ ob:=Nat.le_trans kpU9.size lo1
 have b_n:=(kqB _ l_n (by omega)).trans e_n
 have b_k:=(kqB _ l_k (by omega)).trans e_k
 have b_ok:=(kqB _ l_ok (by omega)).trans e_ok
 have b_x:=(kqB _ l_x (by omega)).trans e_x
 have b_g:=(kqB _ l_g (by omega)).trans e_g
 have b_u:=(kqB _ l_u (by omega)).trans e_u
 have hm1 : Mp (#[{ key:=kv D.k,val:=.pointer (some ⟨ob,0,none⟩),born:=0 }] : Array MapEntry) [(D.k,ob)]:=rfl
 have hk1 : kpos D.k [(D.k,ob)] 0 = some (0,ob):=by simp [kpos]
 have emB : B.heap[D.rb]? = some (.map #[{ key:=kv D.k,val:=.pointer (some ⟨ob,0,none⟩),born:=0 }] 1):=emB
 have HB : CwAt C false st B:=H.keep (kqB _ (Array.getElem?_eq_some_iff.1 H.crew).1 (fun e=>(hown _ A.or).2.1 e.symm)) fun j hj=>kqB _ (Array.getElem?_eq_some_iff.1 (H.thr j hj)).1 fun e=>(hown _ A.or).2.2 j hj e.symm
 have kpB : Kp B B:=⟨Nat.le_refl _,fun _ _=>rfl⟩
 have q_n : ∀ τ,(re B τ 0).cell? ⟨D.nb,0,none⟩ = some (.pointer none):=fun τ=>cell_of ((kpB.keep _ (Nat.lt_of_lt_of_le l_n sB)).trans b_n) (by simp)
 have q_k1 : ∀ τ,(re B τ 0).cell? ⟨D.kb,0,none⟩ = some (.int .i64 D.k.1):=fun τ=>cell_of ((kpB.keep _ (Nat.lt_of_lt_of_le l_k sB)).trans b_k) (by simp)
 have q_k2 : ∀ τ,(re B τ 0).cell? ⟨D.kb,1,none⟩ = some (.int .i64 D.k.2):=fun τ=>cell_of ((kpB.keep _ (Nat.lt_of_lt_of_le l_k sB)).trans b_k) (by simp)
 have q_ok : ∀ τ,(re B τ 0).cell? ⟨D.okb,0,none⟩ = some (.bool true):=fun τ=>cell_of ((kpB.keep _ (Nat.lt_of_lt_of_le l_ok sB)).trans b_ok) (by simp)
 have q_x : ∀ τ,(re B τ 0).cell? ⟨D.xb,0,none⟩ = some (.pointer (some ⟨D.gb,0,none⟩)):=fun τ=>cell_of ((kpB.keep _ (Nat.lt_of_lt_of_le l_x sB)).trans b_x) (by simp)
 have z_ok : ∀ τ,(re B τ 0).frozen? ⟨D.okb,0,none⟩ = false:=fun τ=>by simp [World.frozen?,re,(kpB.keep _ (Nat.lt_of_lt_of_le l_ok sB)).trans b_ok]
 try walk_nrm
 obtain ⟨K,hK,hV,key,yek⟩:=kKV (L:=Lone) (J:=fun g=>KK 0 g B) hM.mu (hM.muv hnB)
 refine key _ ?_
 repeat (first|(with_reducible first|apply hK.sq|apply hK.sk|(apply hK.re;try subst hkk)|apply hK.bl|apply hK.ib|apply hK.rt|apply hK.nd)|refine hK.ex rfl ?_|(with_reducible refine hK.rg fun kk hkk=>?_;simp only [ix,Nat.reduceAdd])|(with_reducible first|refine hK.cf ?_|refine hK.ct ?_)|(refine hK.uw rfl rfl ?_;walk_nrm)|(refine hV.vl rfl rfl fun J hJ=>?_;go_simp;with_reducible refine hJ _ ?_;clear hJ J;walk_nrm))
 refine hK.cl rfl rfl rfl Try.func67 rfl ?_
 walk_nrm
 refine yek _ ?_
 clear hK hV key yek K
 clear q_n q_k1 q_k2 q_ok q_x z_ok
 refine begin_nil (k:=D.k) hM hnB fun U10 hnU10 kU10=>?_
 have kpU10:=kpB.trans kU10
 have q_n : ∀ τ,(re U10 τ 0).cell? ⟨D.nb,0,none⟩ = some (.pointer none):=fun τ=>cell_of ((kpU10.keep _ (Nat.lt_of_lt_of_le l_n sB)).trans b_n) (by simp)
 have q_k1 : ∀ τ,(re U10 τ 0).cell? ⟨D.kb,0,none⟩ = some (.int .i64 D.k.1):=fun τ=>cell_of ((kpU10.keep _ (Nat.lt_of_lt_of_le l_k sB)).trans b_k) (by simp)
 have q_k2 : ∀ τ,(re U10 τ 0).cell? ⟨D.kb,1,none⟩ = some (.int .i64 D.k.2):=fun τ=>cell_of ((kpU10.keep _ (Nat.lt_of_lt_of_le l_k sB)).trans b_k) (by simp)
 have q_ok : ∀ τ,(re U10 τ 0).cell? ⟨D.okb,0,none⟩ = some (.bool true):=fun τ=>cell_of ((kpU10.keep _ (Nat.lt_of_lt_of_le l_ok sB)).trans b_ok) (by simp)
 have q_x : ∀ τ,(re U10 τ 0).cell? ⟨D.xb,0,none⟩ = some (.pointer (some ⟨D.gb,0,none⟩)):=fun τ=>cell_of ((kpU10.keep _ (Nat.lt_of_lt_of_le l_x sB)).trans b_x) (by simp)
 have z_ok : ∀ τ,(re U10 τ 0).frozen? ⟨D.okb,0,none⟩ = false:=fun τ=>by simp [World.frozen?,re,(kpU10.keep _ (Nat.lt_of_lt_of_le l_ok sB)).trans b_ok]
 try walk_nrm
 obtain ⟨K,hK,hV,key,yek⟩:=kKV (L:=Lone) (J:=fun g=>KK 0 g U10) hM.mu (hM.muv hnU10)
 refine key _ ?_
 repeat (first|(with_reducible first|apply hK.sq|apply hK.sk|(apply hK.re;try subst hkk)|apply hK.bl|apply hK.ib|apply hK.rt|apply hK.nd)|refine hK.ex rfl ?_|(with_reducible refine hK.rg fun kk hkk=>?_;simp only [ix,Nat.reduceAdd])|(with_reducible first|refine hK.cf ?_|refine hK.ct ?_)|(refine hK.uw rfl rfl ?_;walk_nrm)|(refine hV.vl rfl rfl fun J hJ=>?_;go_simp;with_reducible refine hJ _ ?_;clear hJ J;walk_nrm))
 refine yek _ ?_
 clear hK hV key yek K
 have e_okS:=(kpU10.keep _ (Nat.lt_of_lt_of_le l_ok sB)).trans b_ok
 have hnU11:=norm_set hnU10 ⟨D.okb,0,none⟩ (.bool true)
 have kU11:=kp_store e_okS
 refine mus_put (L:=Lone) (hM.mus hnU11) (K:=fun g=>KK 0 g U10) (K':=fun g=>KK 0 g (U10.setCell ⟨D.okb,0,none⟩ (.bool true))) rfl (.inl rfl) rfl (by kernel_rfl) (fun τ=>?_) ?_
 · go_simp
   try rfl
 clear q_n q_k1 q_k2 q_ok q_x z_ok
 clear e_okS
 generalize U10.setCell ⟨D.okb,0,none⟩ (.bool true) = U11 at *
 have kpU11:=kpU10.trans kU11
 have q_n : ∀ τ,(re U11 τ 0).cell? ⟨D.nb,0,none⟩ = some (.pointer none):=fun τ=>cell_of ((kpU11.keep _ (Nat.lt_of_lt_of_le l_n sB)).trans b_n) (by simp)
 have q_k1 : ∀ τ,(re U11 τ 0).cell? ⟨D.kb,0,none⟩ = some (.int .i64 D.k.1):=fun τ=>cell_of ((kpU11.keep _ (Nat.lt_of_lt_of_le l_k sB)).trans b_k) (by simp)
 have q_k2 : ∀ τ,(re U11 τ 0).cell? ⟨D.kb,1,none⟩ = some (.int .i64 D.k.2):=fun τ=>cell_of ((kpU11.keep _ (Nat.lt_of_lt_of_le l_k sB)).trans b_k) (by simp)
 have q_ok : ∀ τ,(re U11 τ 0).cell? ⟨D.okb,0,none⟩ = some (.bool true):=fun τ=>cell_of ((kpU11.keep _ (Nat.lt_of_lt_of_le l_ok sB)).trans b_ok) (by simp)
 have q_x : ∀ τ,(re U11 τ 0).cell? ⟨D.xb,0,none⟩ = some (.pointer (some ⟨D.gb,0,none⟩)):=fun τ=>cell_of ((kpU11.keep _ (Nat.lt_of_lt_of_le l_x sB)).trans b_x) (by simp)
 have z_ok : ∀ τ,(re U11 τ 0).frozen? ⟨D.okb,0,none⟩ = false:=fun τ=>by simp [World.frozen?,re,(kpU11.keep _ (Nat.lt_of_lt_of_le l_ok sB)).trans b_ok]
 try walk_nrm
 obtain ⟨K,hK,hV,key,yek⟩:=kKV (L:=Lone) (J:=fun g=>KK 0 g U11) hM.mu (hM.muv hnU11)
 refine key _ ?_
 repeat (first|(with_reducible first|apply hK.sq|apply hK.sk|(apply hK.re;try subst hkk)|apply hK.bl|apply hK.ib|apply hK.rt|apply hK.nd)|refine hK.ex rfl ?_|(with_reducible refine hK.rg fun kk hkk=>?_;simp only [ix,Nat.reduceAdd])|(with_reducible first|refine hK.cf ?_|refine hK.ct ?_)|(refine hK.uw rfl rfl ?_;walk_nrm)|(refine hV.vl rfl rfl fun J hJ=>?_;go_simp;with_reducible refine hJ _ ?_;clear hJ J;walk_nrm))
 refine hK.cl rfl rfl rfl Try.func71 rfl ?_
 walk_nrm
 refine yek _ ?_
 clear hK hV key yek K
 clear q_n q_k1 q_k2 q_ok q_x z_ok
 have eo1:=(kpU11.keep _ lo2).trans eo
 refine join_in (k:=D.k) hM hnU11 ((kpU11.keep _ (Nat.lt_of_lt_of_le l_g sB)).trans b_g) ((kpU11.keep _ (Nat.lt_of_lt_of_le l_m sB)).trans emB) hm1 hk1 eo1 fun U12 fw hnU12 kU12 hfw=>?_
 have kpU12:=kpU11.trans kU12
 have HW : CwAt C false st U12:=HB.keep (kpU12.keep _ (Array.getElem?_eq_some_iff.1 HB.crew).1) fun j hj=>kpU12.keep _ (Array.getElem?_eq_some_iff.1 (HB.thr j hj)).1
 have uW:=(kpU12.keep _ (Nat.lt_of_lt_of_le l_u sB)).trans b_u
 obtain ⟨T,hsT,t1,t2,t10,t11,rfl⟩:=id hfw
 refine hM.walk _ _ _ (w49_no (C:=C) (i:=i) (mb:=D.mb) (cb:=ob) (ow:=0) hnU12 hi hn1 HW (cell_of uW (by simp)) (by simp; omega) (.stop ?_))
 refine join_b13 hM hnU12 hfw ?_
 clear hfw t1 t2 t10 t11
 have q_n : ∀ τ,(re U12 τ 0).cell? ⟨D.nb,0,none⟩ = some (.pointer none):=fun τ=>cell_of ((kpU12.keep _ (Nat.lt_of_lt_of_le l_n sB)).trans b_n) (by simp)
 have q_k1 : ∀ τ,(re U12 τ 0).cell? ⟨D.kb,0,none⟩ = some (.int .i64 D.k.1):=fun τ=>cell_of ((kpU12.keep _ (Nat.lt_of_lt_of_le l_k sB)).trans b_k) (by simp)
 have q_k2 : ∀ τ,(re U12 τ 0).cell? ⟨D.kb,1,none⟩ = some (.int .i64 D.k.2):=fun τ=>cell_of ((kpU12.keep _ (Nat.lt_of_lt_of_le l_k sB)).trans b_k) (by simp)
 have q_ok : ∀ τ,(re U12 τ 0).cell? ⟨D.okb,0,none⟩ = some (.bool true):=fun τ=>cell_of ((kpU12.keep _ (Nat.lt_of_lt_of_le l_ok sB)).trans b_ok) (by simp)
 have q_x : ∀ τ,(re U12 τ 0).cell? ⟨D.xb,0,none⟩ = some (.pointer (some ⟨D.gb,0,none⟩)):=fun τ=>cell_of ((kpU12.keep _ (Nat.lt_of_lt_of_le l_x sB)).trans b_x) (by simp)
 have z_ok : ∀ τ,(re U12 τ 0).frozen? ⟨D.okb,0,none⟩ = false:=fun τ=>by simp [World.frozen?,re,(kpU12.keep _ (Nat.lt_of_lt_of_le l_ok sB)).trans b_ok]
 try walk_nrm
 obtain ⟨K,hK,hV,key,yek⟩:=kKV (L:=Lone) (J:=fun g=>KK 0 g U12) hM.mu (hM.muv hnU12)
 refine key _ ?_
 repeat (first|(with_reducible first|apply hK.sq|apply hK.sk|(apply hK.re;try subst hkk)|apply hK.bl|apply hK.ib|apply hK.rt|apply hK.nd)|refine hK.ex rfl ?_|(with_reducible refine hK.rg fun kk hkk=>?_;simp only [ix,Nat.reduceAdd])|(with_reducible first|refine hK.cf ?_|refine hK.ct ?_)|(refine hK.uw rfl rfl ?_;walk_nrm)|(refine hV.vl rfl rfl fun J hJ=>?_;go_simp;with_reducible refine hJ _ ?_;clear hJ J;walk_nrm))
 refine hK.cl rfl rfl rfl Try.func69 rfl ?_
 walk_nrm
 refine yek _ ?_
 clear hK hV key yek K
 clear q_n q_k1 q_k2 q_ok q_x z_ok
 have eo2:=(kpU12.keep _ lo2).trans eo
 refine end_on (k:=D.k) (i:=0) (ob:=ob) hM hnU12 ((kpU12.keep _ (Nat.lt_of_lt_of_le l_g sB)).trans b_g) ((kpU12.keep _ (Nat.lt_of_lt_of_le l_m sB)).trans emB) hm1 hk1 (by omega) eo2 (by omega) (by omega) (fun V5 V6=>Kp V5 V6) (fun V5 b₁ a₁ ops₁ i₁ rest₁ k₁ cs1 hn5 s5 o5 m5 k5 hK=>hM.walk _ _ _ (bc_empty (b:=none) (c:=0) hn5 (cell_of (k:=0) o5 (by simp)) fun V6 hn6 k6=>.stop (hK V6 hn6 k6))) fun V5 V6 s5 o5 m5 k5 hn6 k6=>?_
 have s6 : V.heap.size ≤ V6.heap.size:=Nat.le_trans sB (Nat.le_trans kpU12.size (Nat.le_trans s5 k6.size))
 have kq6 : ∀ b,b < V.heap.size → b ≠ D.rb → V6.heap[b]? = V.heap[b]?:=fun b hb hne=>by
   have h1:=Nat.lt_of_lt_of_le hb sB
   have h2:=Nat.lt_of_lt_of_le h1 kpU12.size
   rw [k6.keep b (Nat.lt_of_lt_of_le h2 s5),k5 b h2 (by omega) hne,kpU12.keep b h1]
   exact kqB b hb hne
 have q_ok : ∀ τ,(re V6 τ 0).cell? ⟨D.okb,0,none⟩ = some (.bool true):=fun τ=>cell_of ((kq6 _ l_ok (by omega)).trans e_ok) (by simp)
 have z_ok : ∀ τ,(re V6 τ 0).frozen? ⟨D.okb,0,none⟩ = false:=fun τ=>by simp [World.frozen?,re,(kq6 _ l_ok (by omega)).trans e_ok]
 walk_nrm
 obtain ⟨K,hK,hV,key,yek⟩:=kKV (L:=Lone) (J:=fun g=>KK 0 g V6) hM.mu (hM.muv hn6)
 refine key _ ?_
 repeat (first|(with_reducible first|apply hK.sq|apply hK.sk|(apply hK.re;try subst hkk)|apply hK.bl|apply hK.ib|apply hK.rt|apply hK.nd)|refine hK.ex rfl ?_|(with_reducible refine hK.rg fun kk hkk=>?_;simp only [ix,Nat.reduceAdd])|(with_reducible first|refine hK.cf ?_|refine hK.ct ?_)|(refine hK.uw rfl rfl ?_;walk_nrm)|(refine hV.vl rfl rfl fun J hJ=>?_;go_simp;with_reducible refine hJ _ ?_;clear hJ J;walk_nrm))
 refine yek _ ?_
 clear hK hV key yek K
 have e_okS:=(kq6 _ l_ok (by omega)).trans e_ok
 have hn7:=norm_set hn6 ⟨D.okb,0,none⟩ (.bool true)
 have k7:=kp_store e_okS
 refine mus_put (L:=Lone) (hM.mus hn7) (K:=fun g=>KK 0 g V6) (K':=fun g=>KK 0 g (V6.setCell ⟨D.okb,0,none⟩ (.bool true))) rfl (.inl rfl) rfl (by kernel_rfl) (fun τ=>?_) ?_
 · go_simp
   try rfl
 clear q_ok z_ok e_okS
 generalize V6.setCell ⟨D.okb,0,none⟩ (.bool true) = V7 at *
 walk_nrm
 obtain ⟨K,hK,hV,key,yek⟩:=kKV (L:=Lone) (J:=fun g=>KK 0 g V7) hM.mu (hM.muv hn7)
 refine key _ ?_
 repeat (first|(with_reducible first|apply hK.sq|apply hK.sk|(apply hK.re;try subst hkk)|apply hK.bl|apply hK.ib|apply hK.rt|apply hK.nd)|refine hK.ex rfl ?_|(with_reducible refine hK.rg fun kk hkk=>?_;simp only [ix,Nat.reduceAdd])|(with_reducible first|refine hK.cf ?_|refine hK.ct ?_)|(refine hK.uw rfl rfl ?_;walk_nrm)|(refine hV.vl rfl rfl fun J hJ=>?_;go_simp;with_reducible refine hJ _ ?_;clear hJ J;walk_nrm))
 refine yek _ ?_
 clear hK hV key yek K
 refine mu_leave0 (K:=fun g=>KK 0 g V7) hM.mu rfl rfl Try.func72 rfl ?_
 have kq7 : ∀ b,b < V.heap.size → b ≠ D.rb → V7.heap[b]? = V.heap[b]?:=fun b hb hne=>(k7.keep b (Nat.lt_of_lt_of_le hb s6)).trans (kq6 b hb hne)
 refine hfin V7 _ hn7 (Nat.le_trans s6 k7.size) (fun b hb ho=>kq7 b hb fun e=>ho (e ▸ A.or)) ⟨(kq7 _ l_n (by omega)).trans e_n,(kq7 _ l_k (by omega)).trans e_k,(kq7 _ l_ok (by omega)).trans e_ok,A.e.on,A.e.ok',A.e.oo⟩ ?_
 exact H.keep (kq7 _ (Array.getElem?_eq_some_iff.1 H.crew).1 (fun e=>(hown _ A.or).2.1 e.symm)) fun j hj=>kq7 _ (Array.getElem?_eq_some_iff.1 (H.thr j hj)).1 fun e=>(hown _ A.or).2.2 j hj e.symm
end
end Go.Proofs.Ytibcdikfbhmheaa

namespace Go.Proofs.Ytibcdikfbhmheaa
open Go Go.Conc Go.Proofs
open Go.ConcN (sumTo upd sumTo_upd upd_ne upd_same)
set_option linter.unusedVariables false
structure Gs where
 p : Nat
 j : Nat
 g : Bool
def Gs.turn (s : Gs) (i : Nat) : Gs :=
 if i = 0 then (if s.p = 5 ∧ s.j = 2 then { s with p:=6,j:=3 } else { s with p:=s.p + 1 })
 else if s.j = 1 then (if 2 ≤ s.p ∧ s.p ≤ 5 then { s with j:=2 } else { s with j:=4 })
 else if s.j = 3 then { s with j:=4,g:=true } else { s with j:=s.j + 1 }
def Gs.stp (p : Nat) : Int:=if p = 0 then 0 else if p ≤ 5 then 1 else 3
def Gs.stj : Nat → Int | 0=>0 | 1=>1 | 2=>2 | 3=>1 | _=>3
def Gs.st (s : Gs) (i : Nat) : Int:=if i = 0 then Gs.stp s.p else Gs.stj s.j
def k8 : Int × Int:=(8,0)
structure GInv (r : Nat) (s : Gs) (own : Nat → Prop) (V : World) : Prop where
 ok : s.p ≤ 6 ∧ s.j ≤ 4 ∧ (s.j = 2 → 2 ≤ s.p ∧ s.p ≤ 5) ∧ (s.j = 3 → s.p = 6) ∧ (s.j ≠ 4 → s.g = false)
 ow : ∀ b,r ≤ b → b ≤ r + 7 → own b
 x : V.heap[r + 2]? = some (.cells #[.pointer (some ⟨r + 1,0,none⟩)] 130 (0,0))
 gg : V.heap[r + 1]? = some (.cells #[.map (some r)] 190 (0,0))
 kk : V.heap[r + 4]? = some (.cells #[.int .i64 8,.int .i64 0] 139 (0,0))
 v : V.heap[r + 5]? = some (.cells #[.int .i64 (if s.g then 5 else 0)] 3 (0,0))
 f : V.heap[r + 6]? = some (.cells #[.bool (decide (2 ≤ s.p))] 4 (0,0))
 se : V.heap[r + 7]? = some (.cells #[.bool (decide (s.p < 2))] 4 (0,0))
 mu : ∃ qv,MuI V own (r + 3) 0 (if s.j = 3 then 2 else 0) [] qv ∧ (s.p ≤ 5 → qv.ownBlock = none) ∧ ∀ b,qv.ownBlock = some b → r + 7 < b
 mp0 : ¬ (2 ≤ s.p ∧ s.p ≤ 5) → ∃ es clk,V.heap[r]? = some (.map es clk) ∧ Mp es []
 mp1 : 2 ≤ s.p ∧ s.p ≤ 5 → ∃ es clk ob cv,V.heap[r]? = some (.map es clk) ∧ Mp es [(k8,ob)] ∧ own ob ∧ r + 7 < ob ∧ V.heap[ob]? = some (.cells #[cv,.bool false,.int .i64 0,.int .i64 0] 201 (0,0)) ∧
   (s.j = 2 → Qu V 183 2 cv 1 (wts (r + 3) [1]) ∧ ∀ b,cv.ownBlock = some b → own b ∧ r + 7 < b ∧ b ≠ ob) ∧ (s.j ≠ 2 → cv = .slice none 0 0)
def GMem (r : Nat) (cs : List Frame) (own : Nat → Prop) (V : World) : Prop:=∀ f ∈ cs,∀ ob tp mp,JnR ob tp mp f → own ob ∧ own r ∧ r + 7 < ob ∧
 ((∃ es clk,V.heap[r]? = some (.map es clk) ∧ Mp es [(k8,ob)]) ∨ ∃ cv,V.heap[ob]? = some (.cells #[cv,.bool true,.int .i64 5,.int .i64 0] 201 (0,0)))
theorem Mp.inj {es : Array MapEntry} {m m' : List ((Int × Int) × Nat)} (h : Mp es m) (h' : Mp es m') : m = m':=by
 unfold Mp at h h'
 rw [h] at h'
 refine List.map_inj_right (f:=fun x : (Int × Int) × Nat=>(kv x.1,Value.pointer (some ⟨x.2,0,none⟩))) (fun x y e=>?_) |>.1 h'
 obtain ⟨⟨a,b⟩,c⟩:=x
 obtain ⟨⟨a',b'⟩,c'⟩:=y
 simp only [kv,Prod.mk.injEq,Value.agg.injEq,Value.pointer.injEq,Option.some.injEq,Addr.mk.injEq,and_true] at e
 obtain ⟨e1,e2⟩:=e
 simp at e1
 obtain ⟨rfl,rfl⟩:=e1
 rw [e2]
theorem GInv.frame {r : Nat} {s : Gs} {own : Nat → Prop} {V V' : World} (A : GInv r s own V) (hk : ∀ b,own b → V'.heap[b]? = V.heap[b]?) : GInv r s own V':=by
 have h : ∀ d,d ≤ 7 → V'.heap[r + d]? = V.heap[r + d]?:=fun d hd=>hk _ (A.ow _ (by omega) (by omega))
 refine ⟨A.ok,A.ow,(h 2 (by omega)).trans A.x,(h 1 (by omega)).trans A.gg,(h 4 (by omega)).trans A.kk,(h 5 (by omega)).trans A.v,(h 6 (by omega)).trans A.f,(h 7 (by omega)).trans A.se,?_,fun hp=>?_,fun hp=>?_⟩
 · obtain ⟨qv,M,hq⟩:=A.mu
   exact ⟨qv,M.keep hk,hq⟩
 · obtain ⟨es,clk,h1,h2⟩:=A.mp0 hp
   exact ⟨es,clk,(h 0 (by omega)).trans h1,h2⟩
 · obtain ⟨es,clk,ob,cv,h1,h2,h3,h4,h5,h6,h7⟩:=A.mp1 hp
   refine ⟨es,clk,ob,cv,(h 0 (by omega)).trans h1,h2,h3,h4,(hk _ h3).trans h5,fun hj=>?_,h7⟩
   obtain ⟨q1,q2⟩:=h6 hj
   exact ⟨q1.keep fun b hb=>hk b (q2 b hb).1,q2⟩
theorem GMem.frame {r : Nat} {cs : List Frame} {own : Nat → Prop} {V V' : World} (A : GMem r cs own V) (hk : ∀ b,own b → V'.heap[b]? = V.heap[b]?) : GMem r cs own V':=fun f hf ob tp mp h=>by
 obtain ⟨h1,h2,h3,h4⟩:=A f hf ob tp mp h
 refine ⟨h1,h2,h3,?_⟩
 rw [hk _ h1,hk _ h2]
 exact h4
noncomputable def lB : Code:=Try.f100.body.getD .skip
noncomputable def lc0 : Array Oper:=rops (nva lB)
noncomputable def lX1 : Code:=nvb lB
noncomputable def lX4 : Code:=nvb (nvb (nvb lX1))
noncomputable def lc4 : Array Oper:=rops (nva lX4)
noncomputable def lX5 : Code:=nvb lX4
noncomputable def lc5 : Array Oper:=rops (nva lX5)
noncomputable def lX6 : Code:=nvb lX5
noncomputable def lc6 : Array Oper:=rops (nva lX6)
noncomputable def lX7 : Code:=nvb lX6
noncomputable def lc7 : Array Oper:=rops (nva lX7)
noncomputable def lX8 : Code:=nvb lX7
noncomputable def iB : Code:=Try.f101.body.getD .skip
noncomputable def ic0 : Array Oper:=rops (nva iB)
noncomputable def iX1 : Code:=nvb iB
noncomputable def ic1 : Array Oper:=rops (nva iX1)
noncomputable def iX2 : Code:=nvb iX1
def LF1 (r : Nat) (tp : Value) (T : Array Value) : Prop:=T.size = 31 ∧ T[0]? = some tp ∧ T[1]? = some (.pointer (some ⟨r + 3,0,none⟩)) ∧ T[2]? = some (.pointer (some ⟨r + 2,0,none⟩)) ∧ T[3]? = some (.pointer (some ⟨r + 4,0,none⟩)) ∧ T[4]? = some (.pointer (some ⟨r + 6,0,none⟩)) ∧ T[5]? = some (.pointer (some ⟨r + 7,0,none⟩))
def IF1 (r : Nat) (tp : Value) (T : Array Value) : Prop:=T.size = 17 ∧ T[0]? = some tp ∧ T[1]? = some (.pointer (some ⟨r + 3,0,none⟩)) ∧ T[2]? = some (.pointer (some ⟨r + 2,0,none⟩)) ∧ T[3]? = some (.pointer (some ⟨r + 4,0,none⟩)) ∧ T[4]? = some (.pointer (some ⟨r + 5,0,none⟩))
def GLoc (r : Nat) (C : Cw) (s : Gs) (i : Nat) (cs : List Frame) : Prop :=
 (i = 0 → (s.p = 1 → ∃ f T,LkY (r + 3) 0 (C.tp 0) f ∧ LF1 r (C.tp 0) T ∧ cs = [f,(base 100).at ⟨T,[]⟩ [.inRegion lc0 [1],.code lX1]]) ∧
   (s.p = 2 → ∃ T,LF1 r (C.tp 0) T ∧ cs = [(base 100).at ⟨T,[]⟩ [.inRegion lc4 [1],.code lX5]]) ∧
   (s.p = 3 → ∃ T,LF1 r (C.tp 0) T ∧ cs = [(base 100).at ⟨T,[]⟩ [.inRegion lc5 [1],.code lX6]]) ∧
   (s.p = 4 → ∃ T,LF1 r (C.tp 0) T ∧ cs = [(base 100).at ⟨T,[]⟩ [.inRegion lc6 [1],.code lX7]]) ∧
   (s.p = 5 → ∃ f T,LkY (r + 3) 0 (C.tp 0) f ∧ LF1 r (C.tp 0) T ∧ cs = [f,(base 100).at ⟨T,[]⟩ [.inRegion lc7 [1],.code lX8]]) ∧ 1 ≤ s.p ∧ s.p ≤ 5) ∧
 (i ≠ 0 → i = 1 ∧ (s.j = 1 → ∃ f T,LkY (r + 3) 0 (C.tp 1) f ∧ IF1 r (C.tp 1) T ∧ cs = [f,(base 101).at ⟨T,[]⟩ [.inRegion ic0 [1],.code iX1]]) ∧
   (s.j = 2 ∨ s.j = 3 → ∃ f g h ob T,RsP (r + 3) 0 (C.tp 1) f ∧ WtR g ∧ JnR ob (C.tp 1) (.pointer (some ⟨r + 3,0,none⟩)) h ∧ IF1 r (C.tp 1) T ∧ cs = [f,g,h,(base 101).at ⟨T,[]⟩ [.inRegion ic1 [3,4,5,6,7],.code iX2]]) ∧ 1 ≤ s.j ∧ s.j ≤ 3)
def Ufl (r : Nat) (C : Cw) : Usr:={ S:=Gs,inv:=GInv r,st:=Gs.st,loc:=GLoc r C,turn:=Gs.turn,fid:=fun i=>if i = 0 then 100 else 101,first:=fun _=>#[],caps:=fun i=>if i = 0 then #[bp (r + 3),bp (r + 2),bp (r + 4),bp (r + 6),bp (r + 7)] else #[bp (r + 3),bp (r + 2),bp (r + 4),bp (r + 5)],mem:=GMem r }
end Go.Proofs.Ytibcdikfbhmheaa
