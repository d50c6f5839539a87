import Derived.Test.YtibcdikfbhmheaaQJ06
import Derived.Test.YtibcdikfbhmheaaB16
import Derived.Test.YtibcdikfbhmheaaQJ01
import Derived.Test.YtibcdikfbhmheaaB17
set_option linter.unusedSimpArgs false
set_option linter.unusedVariables false
set_option maxRecDepth 100000
set_option maxHeartbeats 4000000
namespace Go.Proofs.Ytibcdikfbhmheaa
open Go Go.Conc Go.Proofs
open Go.ConcN (sumTo upd sumTo_upd upd_ne upd_same)
noncomputable section
noncomputable def jB : Code:=Try.f71.body.getD .skip
def jX3 : Code:=nvb (nvb (nvb jB))
def jL : Code:=nvl (nvk (nva (nvb jX3)))
def jR11 : Code:=nvb (nvb jX3)
def jW : Code:=nvk (nvb jL)
def j8 : Array Oper:=rops (nva jW)
def j9 : Code:=nvb jW
theorem jB_eq : Try.f71.body = some (.seq (nva jB) (.seq (nva (nvb jB)) (.seq (nva (nvb (nvb jB))) (.seq (nva jX3) (.seq (.block 1 (.loop jL)) jR11))))):=by kernel_rfl
theorem jL_eq : jL = .seq (nva jL) (.block 2 (.seq (.region 8 j8 false) j9)):=by kernel_rfl
def JnR (ob : Nat) (tp mp : Value) (f : Frame) : Prop:=∃ T : Array Value,T.size = 55 /\ T[1]? = some tp /\ T[2]? = some mp /\ T[10]? = some (.int .i64 0) /\ T[11]? = some (.pointer (some ⟨ob,0,none⟩)) /\ f = (base 71).at ⟨T,[]⟩ [.inRegion j8 [5,6],.code j9,.inBlock 2,.inLoop jL,.inBlock 1,.code jR11]
theorem mixed_yes : Try.prog.follows .mixedOrders = true:=by kernel_rfl
theorem mu_drawM {R : World -> Prop} {L : List FuncId} {V : World} {K : Goroutine -> Prop} {b : Frame} {a : Act} {k : List Item} {cs : List Frame} {ops : Array Oper} {id : Nat} (j : Nat) (hK : Mu Try.prog R K) (hV : MuV Try.prog L V K) (hD : MuD Try.prog K) (hb : b.kind = .normal ∨ b.kind = .deferred)
   (h : AnyP Try.prog L .any ops V j (fun n listed a=>∀ t,K (G (b.at a (.inRegion ops (j :: Region.linearise.go .any ops n t listed []) :: k)) cs)) (fun a=>K (G (b.at a k) cs)) ops.size (Array.replicate ops.size false) a) : K (G (b.at a (.code (.region id ops true) :: k)) cs):=by
 refine hD b a k cs id ops fun t=>?_
 unfold Region.schedule
 rw [mixed_yes]
 simp only [Bool.true_or,if_true]
 exact anyP_K hK hV hb _ _ _ _ h
theorem array55f (T : Array Value) (h : T.size = 55) : ∃ f : Nat -> Value,(∀ i v,T[i]? = some v -> f i = v) /\ T = #[f 0,f 1,f 2,f 3,f 4,f 5,f 6,f 7,f 8,f 9,f 10,f 11,f 12,f 13,f 14,f 15,f 16,f 17,f 18,f 19,f 20,f 21,f 22,f 23,f 24,f 25,f 26,f 27,f 28,f 29,f 30,f 31,f 32,f 33,f 34,f 35,f 36,f 37,f 38,f 39,f 40,f 41,f 42,f 43,f 44,f 45,f 46,f 47,f 48,f 49,f 50,f 51,f 52,f 53,f 54]:=arrg T h
section
variable {main : Bool} {Z : Cuts} {KK : Nat -> Goroutine -> World -> Prop} {d : Nat} {V : World} {bQ fr : Frame} {aQ : Act} {opsQ : Array Oper} {iQ : Nat} {restQ : List Nat} {kQ kt : List Item} {cs0 cs : List Frame} {gb rb clk : Nat} {es : Array MapEntry} {m : List ((Int × Int) × Nat)} {k : Int × Int} {tp mp : Value} {v e : Int} {ob i tb mb : Nat} {cv xa xb xc : Value}
theorem wQJ070 {A : Prop} {k0 : List Item} {B : List Item -> Prop} (h : ∀ kk,kk = k0 -> B kk) (w : Hd (∀ kk,kk = k0 -> B kk) -> A:=by
 intro h
 repeat (first|(with_reducible first|apply hK.sq|apply hK.sk|(apply hK.re;try rw [hkk])|apply hK.bl|apply hK.ib|apply hK.rt|apply hK.nd)|refine hK.ex rfl ?_|(with_reducible refine mu_regionH hK (fun kk hkk=>?_);simp only [List.size_toArray,List.length_cons,List.length_nil,Nat.reduceAdd,Nat.zero_add,List.range,List.range.loop])|(with_reducible refine mu_cf hK ?_ ?_;(· first|(walk_nrm;done)|(simp [Act.eval];done)))|(with_reducible refine mu_ct hK ?_ ?_;(· first|(walk_nrm;done)|(simp [Act.eval];done)))|(refine hK.uw rfl rfl ?_;walk_nrm)|(refine hV.vl rfl rfl fun J hJ=>?_;go_simp;with_reducible refine hJ _ ?_;clear hJ J;walk_nrm))
 first | exact h.h kk hkk | (obtain ⟨k2,e⟩ : ∃ x,x = kk:=⟨_,rfl⟩;rw [← e];exact h.h k2 (e.trans hkk)) | (obtain ⟨kk,hkk⟩ : ∃ kk : List Item,kk = []:=⟨_,rfl⟩;exact h.h kk hkk)) : A:=w ⟨h⟩
theorem join_none (hM : MarkK Try.prog main Z KK) (hn : norm V = V) (e_g : V.heap[gb]? = some (.cells #[.map (some rb)] 190 (0,0))) (e_m : V.heap[rb]? = some (.map es clk)) (hm : Mp es m) (hk : kpos k m 0 = none) (h : ∀ V2,norm V2 = V2 -> Kp V V2 -> KK d (G (bQ.at (aQ.put ((opsQ[iQ]?).bind (·.dst)) (.tuple #[.int .i64 0,.int .i64 7])) (.inRegion opsQ restQ :: kQ)) cs0) V2) : KK d (G (Frame.enter Try.prog 71 #[.pointer (some ⟨gb,0,none⟩),.pointer (some ⟨tb,0,none⟩),.pointer (some ⟨mb,0,none⟩),kv k] .normal) (bQ.at aQ (.inRegion opsQ (iQ :: restQ) :: kQ) :: cs0)) V:=by
 have l_g:=(glt e_g)
 have l_m:=(glt e_m)
 have kp : Kp V V:=⟨Nat.le_refl _,fun _ _=>rfl⟩
 rw [enter_at (P:=Try.prog) _ Try.func71 jB_eq]
 refine (fun (hh : ∀ X0 X1 X2 X3 L R,X0 = nva jB -> X1 = nva (nvb jB) -> X2 = nva (nvb (nvb jB)) -> X3 = nva jX3 -> L = jL -> R = jR11 -> KK d (G ((base 71).at _ [.code (.seq X0 (.seq X1 (.seq X2 (.seq X3 (.seq (.block 1 (.loop L)) R)))))]) (bQ.at aQ (.inRegion opsQ (iQ :: restQ) :: kQ) :: cs0)) V)=>hh _ _ _ _ _ _ rfl rfl rfl rfl rfl rfl) ?_
 intro X0 X1 X2 X3 L R h0 h1 h2 h3 hL hR
 simp only [jB,jX3,Try.f71,Option.getD_some,nva,nvb] at h0 h1 h2 h3
 subst h0 h1 h2 h3
 have hnt : Try.f71.ntmps = 55:=rfl
 rw [hnt]
 clear hnt
 simp only [kv]
 walk_nrm
 obtain ⟨K,hK,hV,key,yek⟩:=kKV (L:=Lone) (J:=fun g=>KK d g V) hM.mu (hM.muv hn)
 refine key _ ?_
 refine wQJ070 fun kk hkk=>?_
 refine yek _ ?_
 clear hK hV key yek K
 refine hM.al hn #[.int .i64 k.1,.int .i64 k.2] 139 (.pointer (some ⟨V.heap.size,0,none⟩)) rfl rfl fun W1 hnW1 kW1 l0 Bk=>?_
 have lW1 : V.heap.size < W1.heap.size:=by omega
 clear l0
 have tW1 : V.heap.size < W1.heap.size /\ V.heap.size <= V.heap.size:=⟨lW1,Nat.le_refl _⟩
 generalize hbW1 : V.heap.size = b_Bk at Bk ⊢
 have l_b_Bk : V.heap.size <= b_Bk /\ b_Bk < W1.heap.size:=by omega
 clear hbW1 tW1
 replace kp:=kp.upA (Nat.le_of_lt lW1) kW1
 clear kW1
 walk_nrm
 have r_Bk_0:=qc 0 Bk rfl
 have r_Bk_1:=qc 1 Bk rfl
 obtain ⟨K,hK,hV,key,yek⟩:=kKV (L:=Lone) (J:=fun g=>KK d g W1) hM.mu (hM.muv hnW1)
 refine key _ ?_
 refine wQJ070 fun kk hkk=>?_
 refine hK.cl rfl rfl rfl Try.func106 rfl ?_
 walk_nrm
 refine yek _ ?_
 clear hK hV key yek K
 have e_g2:=(kp.keep _ l_g).trans e_g
 have e_m2:=(kp.keep _ l_m).trans e_m
 have hkp : kptr m k = .pointer none:=by unfold kptr; rw [hk]
 refine find_go (k:=k) hM hnW1 e_g2 e_m2 hm fun V3 hn3 k3=>?_
 rw [hkp]
 clear hkp
 have kp3:=kp.trans k3
 walk_nrm
 obtain ⟨K,hK,hV,key,yek⟩:=kKV (L:=Lone) (J:=fun g=>KK d g V3) hM.mu (hM.muv hn3)
 refine key _ ?_
 refine wQJ070 fun kk hkk=>?_
 refine yek _ ?_
 clear hK hV key yek K
 refine mu_leave2 (K:=fun g=>KK d g V3) hM.mu rfl rfl Try.func71 rfl ?_
 exact h V3 hn3 kp3
theorem join_in (hM : MarkK Try.prog main Z KK) (hn : norm V = V) (e_g : V.heap[gb]? = some (.cells #[.map (some rb)] 190 (0,0))) (e_m : V.heap[rb]? = some (.map es clk)) (hm : Mp es m) (hk : kpos k m 0 = some (i,ob)) (e_o : V.heap[ob]? = some (.cells #[cv,.bool false,xb,xc] 201 (0,0)))
   (h : ∀ V2 f,norm V2 = V2 -> Kp V V2 -> JnR ob (.pointer (some ⟨tb,0,none⟩)) (.pointer (some ⟨mb,0,none⟩)) f -> KK d (G (Frame.enter Try.prog 49 #[.pointer (some ⟨ob,0,none⟩),.pointer (some ⟨tb,0,none⟩),.pointer (some ⟨mb,0,none⟩)] .normal) (f :: bQ.at aQ (.inRegion opsQ (iQ :: restQ) :: kQ) :: cs0)) V2) : KK d (G (Frame.enter Try.prog 71 #[.pointer (some ⟨gb,0,none⟩),.pointer (some ⟨tb,0,none⟩),.pointer (some ⟨mb,0,none⟩),kv k] .normal) (bQ.at aQ (.inRegion opsQ (iQ :: restQ) :: kQ) :: cs0)) V:=by
 have l_g:=(glt e_g)
 have l_m:=(glt e_m)
 have l_o:=(glt e_o)
 have kp : Kp V V:=⟨Nat.le_refl _,fun _ _=>rfl⟩
 rw [enter_at (P:=Try.prog) _ Try.func71 jB_eq]
 refine (fun (hh : ∀ X0 X1 X2 X3 L R,X0 = nva jB -> X1 = nva (nvb jB) -> X2 = nva (nvb (nvb jB)) -> X3 = nva jX3 -> L = jL -> R = jR11 -> KK d (G ((base 71).at _ [.code (.seq X0 (.seq X1 (.seq X2 (.seq X3 (.seq (.block 1 (.loop L)) R)))))]) (bQ.at aQ (.inRegion opsQ (iQ :: restQ) :: kQ) :: cs0)) V)=>hh _ _ _ _ _ _ rfl rfl rfl rfl rfl rfl) ?_
 intro X0 X1 X2 X3 L R h0 h1 h2 h3 hL hR
 simp only [jB,jX3,Try.f71,Option.getD_some,nva,nvb] at h0 h1 h2 h3
 subst h0 h1 h2 h3
 have hnt : Try.f71.ntmps = 55:=rfl
 rw [hnt]
 clear hnt
 simp only [kv]
 walk_nrm
 obtain ⟨K,hK,hV,key,yek⟩:=kKV (L:=Lone) (J:=fun g=>KK d g V) hM.mu (hM.muv hn)
 refine key _ ?_
 refine wQJ070 fun kk hkk=>?_
 refine yek _ ?_
 clear hK hV key yek K
 refine hM.al hn #[.int .i64 k.1,.int .i64 k.2] 139 (.pointer (some ⟨V.heap.size,0,none⟩)) rfl rfl fun W1 hnW1 kW1 l0 Bk=>?_
 have lW1 : V.heap.size < W1.heap.size:=by omega
 clear l0
 have tW1 : V.heap.size < W1.heap.size /\ V.heap.size <= V.heap.size:=⟨lW1,Nat.le_refl _⟩
 generalize hbW1 : V.heap.size = b_Bk at Bk ⊢
 have l_b_Bk : V.heap.size <= b_Bk /\ b_Bk < W1.heap.size:=by omega
 clear hbW1 tW1
 replace kp:=kp.upA (Nat.le_of_lt lW1) kW1
 clear kW1
 walk_nrm
 have r_Bk_0:=qc 0 Bk rfl
 have r_Bk_1:=qc 1 Bk rfl
 obtain ⟨K,hK,hV,key,yek⟩:=kKV (L:=Lone) (J:=fun g=>KK d g W1) hM.mu (hM.muv hnW1)
 refine key _ ?_
 refine wQJ070 fun kk hkk=>?_
 refine hK.cl rfl rfl rfl Try.func106 rfl ?_
 walk_nrm
 refine yek _ ?_
 clear hK hV key yek K
 have e_g2:=(kp.keep _ l_g).trans e_g
 have e_m2:=(kp.keep _ l_m).trans e_m
 have hkp : kptr m k = .pointer (some ⟨ob,0,none⟩):=by unfold kptr; rw [hk]
 refine find_go (k:=k) hM hnW1 e_g2 e_m2 hm fun V3 hn3 k3=>?_
 rw [hkp]
 clear hkp
 have kp3:=kp.trans k3
 have O:=(kp3.keep _ l_o).trans e_o
 have r_o:=qc 1 O rfl
 walk_nrm
 obtain ⟨K,hK,hV,key,yek⟩:=kKV (L:=Lone) (J:=fun g=>KK d g V3) hM.mu (hM.muv hn3)
 refine key _ ?_
 refine wQJ070 fun kk hkk=>?_
 refine mu_loop hK ?_
 refine (fun (hh : ∀ Y,Y = jL -> K (G ((base 71).at _ [.code Y,.inLoop jL,.inBlock 1,.code jR11]) _))=>by rw [hL,hR]; exact hh _ rfl) ?_
 clear hL hR
 intro Y hY
 rw [jL_eq] at hY
 subst hY
 refine mu_seq hK ?_
 refine (fun (hh : ∀ Y,Y = nva jL -> K (G ((base 71).at _ (.code Y :: _)) _))=>hh _ rfl) ?_
 intro Y hY
 simp only [jL,jX3,jB,nva,nvb,nvk,nvl,Try.f71,Option.getD_some] at hY
 subst hY
 refine wQJ070 fun kk hkk=>?_
 have hr : List.range.loop j8.size [] = [0,1,2,3,4,5,6]:=by kernel_rfl
 rw [hr]
 clear hr
 refine opv (K:=K) (L:=Lone) hV (.inl rfl) (i:=0) (d:=37) (op:=.move (.tmp 11)) (v:=.pointer (some ⟨ob,0,none⟩)) (by kernel_rfl) (by kernel_rfl) (fun o ho τ=>?_) ?_
 . simp only [execOp,ho]
   go_simp
 walk_nrm
 refine opv (K:=K) (L:=Lone) hV (.inl rfl) (i:=1) (d:=38) (op:=.nilCheck (.tmp 37)) (v:=.pointer (some ⟨ob,0,none⟩)) (by kernel_rfl) (by kernel_rfl) (fun o ho τ=>?_) ?_
 . simp only [execOp,ho]
   go_simp
 walk_nrm
 refine opv (K:=K) (L:=Lone) hV (.inl rfl) (i:=2) (d:=39) (op:=.fieldAddr 201 (.tmp 38) 0) (v:=.pointer (some ⟨ob,0,none⟩)) (by kernel_rfl) (by kernel_rfl) (fun o ho τ=>?_) ?_
 . simp only [execOp,ho]
   go_simp
 walk_nrm
 refine opv (K:=K) (L:=Lone) hV (.inl rfl) (i:=3) (d:=40) (op:=.move (.tmp 1)) (v:=.pointer (some ⟨tb,0,none⟩)) (by kernel_rfl) (by kernel_rfl) (fun o ho τ=>?_) ?_
 . simp only [execOp,ho]
   go_simp
 walk_nrm
 refine opv (K:=K) (L:=Lone) hV (.inl rfl) (i:=4) (d:=41) (op:=.move (.tmp 2)) (v:=.pointer (some ⟨mb,0,none⟩)) (by kernel_rfl) (by kernel_rfl) (fun o ho τ=>?_) ?_
 . simp only [execOp,ho]
   go_simp
 walk_nrm
 refine opc (K:=K) hK (base_ne _) (i:=5) (d:=some 42) (f:=49) (args:=#[.tmp 39,.tmp 40,.tmp 41]) (ats:=#[102,50,104]) (by kernel_rfl) Try.func49 (by kernel_rfl) rfl fun hd=>?_
 walk_nrm
 refine yek _ ?_
 clear hK hV key yek K
 refine h V3 _ hn3 kp3 ⟨_,?_,?_,?_,?_,?_,by rw [hkk]⟩ <;> rfl
theorem join_b0 (hM : MarkK Try.prog main Z KK) (hn : norm V = V) (e_o : V.heap[ob]? = some (.cells #[cv,.bool true,.int .i64 v,.int .i64 e] 201 (0,0))) {b : Frame} {a : Act} {ops : Array Oper} {j : Nat} {rest : List Nat} {kx : List Item} (hfr : JnR ob tp mp (b.at a (.inRegion ops (j :: rest) :: kx)))
   (h : KK d (G (bQ.at (aQ.put ((opsQ[iQ]?).bind (·.dst)) (.tuple #[.int .i64 v,.int .i64 e])) (.inRegion opsQ restQ :: kQ)) cs0) V) : KK d (G (b.at (a.put ((ops[j]?).bind (·.dst)) (.int .i64 0)) (.inRegion ops rest :: kx)) (bQ.at aQ (.inRegion opsQ (iQ :: restQ) :: kQ) :: cs0)) V:=by
 obtain ⟨T,hs,t1,t2,t10,t11,e⟩:=hfr
 obtain ⟨rfl,e2,e3⟩:=at_inj e
 obtain ⟨rfl,e4,rfl⟩:=item_inj e2
 obtain ⟨rfl,rfl⟩:=List.cons.inj e4
 rw [e3]
 clear e e2 e3 e4
 have hd : ((j8[5]?).bind (·.dst)) = some 42:=by kernel_rfl
 rw [hd]
 clear hd
 have hK0:=h
 clear h
 obtain ⟨f,hf,hT⟩:=array55f T hs
 rw [hT]
 simp only [hf _ _ t1,hf _ _ t2,hf _ _ t10,hf _ _ t11]
 clear hf hs t1 t2 t10 t11
 subst hT
 generalize hX : j8 = X
 generalize hY : j9 = Y
 simp only [j8,j9,rops,jW,jL,jX3,jB,nva,nvb,nvk,nvl,Try.f71,Option.getD_some] at hX hY
 subst hX hY
 walk_nrm
 have r1:=qc 1 e_o rfl
 have r2:=qc 2 e_o rfl
 have r3:=qc 3 e_o rfl
 obtain ⟨K,hK,hV,key,yek⟩:=kKV (L:=Lone) (J:=fun g=>KK d g V) hM.mu (hM.muv hn)
 refine key _ ?_
 refine wQJ070 fun kk hkk=>?_
 refine mu_inLoop hK ?_
 refine (fun (hh : ∀ Y,Y = jL -> K (G ((base 71).at _ (.code Y :: _)) _))=>hh _ rfl) ?_
 intro Y hY
 rw [jL_eq] at hY
 subst hY
 refine mu_seq hK ?_
 refine (fun (hh : ∀ Y,Y = nva jL -> K (G ((base 71).at _ (.code Y :: _)) _))=>hh _ rfl) ?_
 intro Y hY
 simp only [jL,jX3,jB,nva,nvb,nvk,nvl,Try.f71,Option.getD_some] at hY
 subst hY
 refine wQJ070 fun kk hkk=>?_
 refine (fun (hh : ∀ Y,Y = jR11 -> K (G ((base 71).at _ [.code Y]) _))=>hh _ rfl) ?_
 intro Y hY
 simp only [jR11,jX3,jB,nva,nvb,nvk,nvl,Try.f71,Option.getD_some] at hY
 subst hY
 refine mu_seq hK ?_
 have hD : MuD Try.prog K:=fun b a k cs id ops h=>yek _ (hM.mud b a k cs id ops fun t=>key _ (h t))
 refine mu_drawM 9 hK hV hD (.inl rfl) ?_
 refine wS ?_
 refine anyQ 0 20 rfl ?_
 refine anyQ 1 20 rfl ?_
 refine anyQ 2 20 rfl ?_
 refine anyQ 3 20 rfl ?_
 refine anyQ 4 20 rfl ?_
 refine anyQ 5 20 rfl ?_
 refine anyQ 6 20 rfl ?_
 refine anyQ 7 20 rfl ?_
 refine anyQ 8 20 rfl ?_
 refine anyP_last (by kernel_rfl) (fun t=>?_)
 rw [lin_nilA]
 refine wQJ070 fun kk hkk=>?_
 refine yek _ ?_
 refine mu_leave2 (K:=fun g=>KK d g V) hM.mu rfl rfl Try.func71 rfl ?_
 exact hK0
end
section
variable {main : Bool} {Z : Cuts} {Stop : Goroutine -> World -> Prop} {V : World} {b : Frame} {a : Act} {ops : Array Oper} {i : Nat} {rest : List Nat} {k : List Item} {cs : List Frame} {o : Oper} {ats : Array TypeId}
end
structure Ad where
 n : Nat
 d : Nat -> Int
 ab : Nat
 lbx : Nat
 ibx : Nat -> Nat
 la : Option Addr
 ln : Nat
 lc : Nat
 Vr : World
structure AS where
 st : Nat -> Nat
 v : Int
def AS.step (D : Ad) (s : AS) (i : Nat) : AS:=if s.st i = 0 then { s with st:=upd s.st i 1 } else { st:=upd s.st i 2,v:=IntKind.i64.wrap (s.v + D.d i) }
noncomputable def B34 : Code:=Try.f34.body.getD .skip
def A3 : Code:=nvb (nvb B34)
def A4 : Code:=nvb A3
section
variable {D : Ad} {C : Cw} {E : Env} {i : Nat} {own : Nat -> Prop} {V : World} {σ : AS} {aY : Act} {opsY : Array Oper} {iY : Nat} {restY : List Nat} {kY : List Item}
end
end
end Go.Proofs.Ytibcdikfbhmheaa
