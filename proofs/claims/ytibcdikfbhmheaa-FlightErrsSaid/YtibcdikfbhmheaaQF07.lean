import Derived.Test.YtibcdikfbhmheaaQF06
import Derived.Test.YtibcdikfbhmheaaB16
import Derived.Test.YtibcdikfbhmheaaQF01
import Derived.Test.YtibcdikfbhmheaaB17
set_option linter.unusedSimpArgs false
set_option linter.unusedVariables false
set_option maxRecDepth 100000
set_option maxHeartbeats 4000000
namespace Go.Proofs.Ytibcdikfbhmheaa
open Go Go.Conc Go.Proofs
open Go.ConcN (sumTo upd sumTo_upd upd_ne upd_same)
set_option linter.unusedVariables false
noncomputable def jB : Code:=Try.f71.body.getD .skip
noncomputable def jX3 : Code:=nvb (nvb (nvb jB))
noncomputable def jL : Code:=nvl (nvk (nva (nvb jX3)))
noncomputable def jR11 : Code:=nvb (nvb jX3)
noncomputable def jW : Code:=nvk (nvb jL)
noncomputable def j8 : Array Oper:=rops (nva jW)
noncomputable def j9 : Code:=nvb jW
theorem jB_eq : Try.f71.body = some (.seq (nva jB) (.seq (nva (nvb jB)) (.seq (nva (nvb (nvb jB))) (.seq (nva jX3) (.seq (.block 1 (.loop jL)) jR11))))):=by kernel_rfl
theorem jL_eq : jL = .seq (nva jL) (.block 2 (.seq (.region 8 j8 false) j9)):=by kernel_rfl
def JnR (ob : Nat) (tp mp : Value) (f : Frame) : Prop:=∃ T : Array Value,T.size = 55 ∧ T[1]? = some tp ∧ T[2]? = some mp ∧ T[10]? = some (.int .i64 0) ∧ T[11]? = some (.pointer (some ⟨ob,0,none⟩)) ∧ f = (base 71).at ⟨T,[]⟩ [.inRegion j8 [5,6],.code j9,.inBlock 2,.inLoop jL,.inBlock 1,.code jR11]
theorem mixed_yes : Try.prog.follows .mixedOrders = true:=by kernel_rfl
theorem mu_drawM {R : World → Prop} {L : List FuncId} {V : World} {K : Goroutine → Prop} {b : Frame} {a : Act} {k : List Item} {cs : List Frame} {ops : Array Oper} {id : Nat} (j : Nat) (hK : Mu Try.prog R K) (hV : MuV Try.prog L V K) (hD : MuD Try.prog K) (hb : b.kind = .normal ∨ b.kind = .deferred)
   (h : AnyP Try.prog L .any ops V j (fun n listed a=>∀ t,K (G (b.at a (.inRegion ops (j :: Region.linearise.go .any ops n t listed []) :: k)) cs)) (fun a=>K (G (b.at a k) cs)) ops.size (Array.replicate ops.size false) a) : K (G (b.at a (.code (.region id ops true) :: k)) cs):=by
 refine hD b a k cs id ops fun t=>?_
 unfold Region.schedule
 rw [mixed_yes]
 simp only [Bool.true_or,if_true]
 exact anyP_K hK hV hb _ _ _ _ h
theorem arrg_QF07 {n : Nat} (T : Array Value) (h : T.size = n) : ∃ f : Nat → Value,(∀ i v,T[i]? = some v → f i = v) ∧ T = ((List.range n).map f).toArray:=by
 refine ⟨fun i=>T.getD i undef,fun i v hv=>by simp [Array.getD_eq_getD_getElem?,hv],?_⟩
 generalize hf : (fun i=>T.getD i undef) = f
 have e : T.toList = (List.range n).map f:=by
   apply List.ext_getElem?
   intro i
   rw [List.getElem?_map,Array.getElem?_toList]
   by_cases hi : i < n
   · rw [List.getElem?_range hi,Option.map_some,← hf]
     simp [Array.getD_eq_getD_getElem?,Array.getElem?_eq_getElem (show i < T.size by omega)]
   · rw [List.getElem?_eq_none (by simp; omega),Array.getElem?_eq_none (by omega)]
     rfl
 rw [← Array.toArray_toList (xs:=T),e]
theorem array55f (T : Array Value) (h : T.size = 55) : ∃ f : Nat → Value,(∀ i v,T[i]? = some v → f i = v) ∧ T = #[f 0,f 1,f 2,f 3,f 4,f 5,f 6,f 7,f 8,f 9,f 10,f 11,f 12,f 13,f 14,f 15,f 16,f 17,f 18,f 19,f 20,f 21,f 22,f 23,f 24,f 25,f 26,f 27,f 28,f 29,f 30,f 31,f 32,f 33,f 34,f 35,f 36,f 37,f 38,f 39,f 40,f 41,f 42,f 43,f 44,f 45,f 46,f 47,f 48,f 49,f 50,f 51,f 52,f 53,f 54]:=arrg_QF07 T h
section
variable {main : Bool} {Z : Cuts} {KK : Nat → Goroutine → World → Prop} {d : Nat} {V : World} {b₀ fr : Frame} {a₀ : Act} {ops₀ : Array Oper} {i₀ : Nat} {rest₀ : List Nat} {k₀ kt : List Item} {cs0 cs : List Frame} {gb rb clk : Nat} {es : Array MapEntry} {m : List ((Int × Int) × Nat)} {k : Int × Int} {tp mp : Value} {v e : Int} {ob i tb mb : Nat} {cv xa xb xc : Value}
theorem join_nilg (hM : MarkK Try.prog main Z KK) (hn : norm V = V) (h : ∀ V2,norm V2 = V2 → Kp V V2 → KK d (G (b₀.at (a₀.put ((ops₀[i₀]?).bind (·.dst)) (.tuple #[.int .i64 0,.int .i64 1])) (.inRegion ops₀ rest₀ :: k₀)) cs0) V2) : KK d (G (Frame.enter Try.prog 71 #[.pointer none,tp,mp,kv k] .normal) (b₀.at a₀ (.inRegion ops₀ (i₀ :: rest₀) :: k₀) :: cs0)) V:=by
 have kp : Kp V V:=⟨Nat.le_refl _,fun _ _=>rfl⟩
 rw [enter_at (P:=Try.prog) _ Try.func71 jB_eq]
 refine (fun (hh : ∀ X0 X1 X2 X3 L R,X0 = nva jB → X1 = nva (nvb jB) → X2 = nva (nvb (nvb jB)) → X3 = nva jX3 → L = jL → R = jR11 → KK d (G ((base 71).at _ [.code (.seq X0 (.seq X1 (.seq X2 (.seq X3 (.seq (.block 1 (.loop L)) R)))))]) (b₀.at a₀ (.inRegion ops₀ (i₀ :: rest₀) :: k₀) :: cs0)) V)=>hh _ _ _ _ _ _ rfl rfl rfl rfl rfl rfl) ?_
 intro X0 X1 X2 X3 L R h0 h1 h2 h3 hL hR
 simp only [jB,jX3,Try.f71,Option.getD_some,nva,nvb] at h0 h1 h2 h3
 subst h0 h1 h2 h3
 have hnt : Try.f71.ntmps = 55:=rfl
 rw [hnt]
 clear hnt
 simp only [kv]
 walk_nrm
 obtain ⟨K,hK,hV,key,yek⟩:=kKV (L:=Lone) (J:=fun g=>KK d g V) hM.mu (hM.muv hn)
 refine key _ ?_
 repeat (first|(with_reducible first|apply hK.sq|apply hK.sk|(apply hK.re;try subst hkk)|apply hK.bl|apply hK.ib|apply hK.rt|apply hK.nd)|refine hK.ex rfl ?_|(with_reducible refine mu_regionH hK (fun kk hkk=>?_);simp only [List.size_toArray,List.length_cons,List.length_nil,Nat.reduceAdd,Nat.zero_add,List.range,List.range.loop])|(with_reducible refine mu_cf hK ?_ ?_;(· first|(walk_nrm;done)|(simp [Act.eval];done)))|(with_reducible refine mu_ct hK ?_ ?_;(· first|(walk_nrm;done)|(simp [Act.eval];done)))|(refine hK.uw rfl rfl ?_;walk_nrm)|(refine hV.vl rfl rfl fun J hJ=>?_;go_simp;with_reducible refine hJ _ ?_;clear hJ J;walk_nrm))
 refine yek _ ?_
 clear hK hV key yek K
 have hnW1:=norm_al hn (.cells #[.int .i64 k.1,.int .i64 k.2] 139)
 refine mua_put (L:=Lone) (v:=.pointer (some ⟨V.heap.size,0,none⟩)) (hM.mua hnW1) (K:=fun g=>KK d g V) (K':=fun g=>KK d g (V.alloc (.cells #[.int .i64 k.1,.int .i64 k.2] 139))) rfl (.inl rfl) rfl (by kernel_rfl) (fun τ=>?_) ?_
 · go_simp
   first | exact ⟨by first | rfl | assumption | (simp only [re]; omega),rfl⟩ | rfl | (simp; done)
 have kW1:=al_kp V (.cells #[.int .i64 k.1,.int .i64 k.2] 139)
 have lW1:=al_lt V (.cells #[.int .i64 k.1,.int .i64 k.2] 139)
 have Bk:=al_at V (.cells #[.int .i64 k.1,.int .i64 k.2] 139)
 generalize (V.alloc (.cells #[.int .i64 k.1,.int .i64 k.2] 139)) = W1 at *
 have tW1 : V.heap.size < W1.heap.size ∧ V.heap.size ≤ V.heap.size:=⟨lW1,Nat.le_refl _⟩
 generalize hbW1 : V.heap.size = b_Bk at Bk ⊢
 have l_b_Bk : V.heap.size ≤ b_Bk ∧ b_Bk < W1.heap.size:=by omega
 clear hbW1 tW1
 replace kp : Kp V W1:=⟨Nat.le_trans kp.size (Nat.le_of_lt lW1),fun b hb=>(kW1 b (Nat.lt_of_lt_of_le hb kp.size) (by omega)).trans (kp.keep b hb)⟩
 clear kW1
 walk_nrm
 have r_Bk_0 : ∀ τ,(re W1 τ 0).cell? ⟨b_Bk,0,none⟩ = some (.int .i64 k.1):=fun τ=>cell_of Bk (by simp)
 have r_Bk_1 : ∀ τ,(re W1 τ 0).cell? ⟨b_Bk,1,none⟩ = some (.int .i64 k.2):=fun τ=>cell_of Bk (by simp)
 obtain ⟨K,hK,hV,key,yek⟩:=kKV (L:=Lone) (J:=fun g=>KK d g W1) hM.mu (hM.muv hnW1)
 refine key _ ?_
 repeat (first|(with_reducible first|apply hK.sq|apply hK.sk|(apply hK.re;try subst hkk)|apply hK.bl|apply hK.ib|apply hK.rt|apply hK.nd)|refine hK.ex rfl ?_|(with_reducible refine mu_regionH hK (fun kk hkk=>?_);simp only [List.size_toArray,List.length_cons,List.length_nil,Nat.reduceAdd,Nat.zero_add,List.range,List.range.loop])|(with_reducible refine mu_cf hK ?_ ?_;(· first|(walk_nrm;done)|(simp [Act.eval];done)))|(with_reducible refine mu_ct hK ?_ ?_;(· first|(walk_nrm;done)|(simp [Act.eval];done)))|(refine hK.uw rfl rfl ?_;walk_nrm)|(refine hV.vl rfl rfl fun J hJ=>?_;go_simp;with_reducible refine hJ _ ?_;clear hJ J;walk_nrm))
 refine hK.cl rfl rfl rfl Try.func106 rfl ?_
 walk_nrm
 refine yek _ ?_
 clear hK hV key yek K
 refine find_nil (k:=k) hM hnW1 fun V3 hn3 k3=>?_
 have kp3:=kp.trans k3
 walk_nrm
 obtain ⟨K,hK,hV,key,yek⟩:=kKV (L:=Lone) (J:=fun g=>KK d g V3) hM.mu (hM.muv hn3)
 refine key _ ?_
 repeat (first|(with_reducible first|apply hK.sq|apply hK.sk|(apply hK.re;try subst hkk)|apply hK.bl|apply hK.ib|apply hK.rt|apply hK.nd)|refine hK.ex rfl ?_|(with_reducible refine mu_regionH hK (fun kk hkk=>?_);simp only [List.size_toArray,List.length_cons,List.length_nil,Nat.reduceAdd,Nat.zero_add,List.range,List.range.loop])|(with_reducible refine mu_cf hK ?_ ?_;(· first|(walk_nrm;done)|(simp [Act.eval];done)))|(with_reducible refine mu_ct hK ?_ ?_;(· first|(walk_nrm;done)|(simp [Act.eval];done)))|(refine hK.uw rfl rfl ?_;walk_nrm)|(refine hV.vl rfl rfl fun J hJ=>?_;go_simp;with_reducible refine hJ _ ?_;clear hJ J;walk_nrm))
 refine yek _ ?_
 clear hK hV key yek K
 refine mu_leave2 (K:=fun g=>KK d g V3) hM.mu rfl rfl Try.func71 rfl ?_
 exact h V3 hn3 kp3
theorem join_nilt (hM : MarkK Try.prog main Z KK) (hn : norm V = V) (e_g : V.heap[gb]? = some (.cells #[.map (some rb)] 190 (0,0))) (e_m : V.heap[rb]? = some (.map es clk)) (hm : Mp es m) (h : ∀ V2,norm V2 = V2 → Kp V V2 → KK d (G (b₀.at (a₀.put ((ops₀[i₀]?).bind (·.dst)) (.tuple #[.int .i64 0,.int .i64 1])) (.inRegion ops₀ rest₀ :: k₀)) cs0) V2) : KK d (G (Frame.enter Try.prog 71 #[.pointer (some ⟨gb,0,none⟩),.pointer none,mp,kv k] .normal) (b₀.at a₀ (.inRegion ops₀ (i₀ :: rest₀) :: k₀) :: cs0)) V:=by
 have l_g:=(glt e_g)
 have l_m:=(glt e_m)
 have kp : Kp V V:=⟨Nat.le_refl _,fun _ _=>rfl⟩
 rw [enter_at (P:=Try.prog) _ Try.func71 jB_eq]
 refine (fun (hh : ∀ X0 X1 X2 X3 L R,X0 = nva jB → X1 = nva (nvb jB) → X2 = nva (nvb (nvb jB)) → X3 = nva jX3 → L = jL → R = jR11 → KK d (G ((base 71).at _ [.code (.seq X0 (.seq X1 (.seq X2 (.seq X3 (.seq (.block 1 (.loop L)) R)))))]) (b₀.at a₀ (.inRegion ops₀ (i₀ :: rest₀) :: k₀) :: cs0)) V)=>hh _ _ _ _ _ _ rfl rfl rfl rfl rfl rfl) ?_
 intro X0 X1 X2 X3 L R h0 h1 h2 h3 hL hR
 simp only [jB,jX3,Try.f71,Option.getD_some,nva,nvb] at h0 h1 h2 h3
 subst h0 h1 h2 h3
 have hnt : Try.f71.ntmps = 55:=rfl
 rw [hnt]
 clear hnt
 simp only [kv]
 walk_nrm
 obtain ⟨K,hK,hV,key,yek⟩:=kKV (L:=Lone) (J:=fun g=>KK d g V) hM.mu (hM.muv hn)
 refine key _ ?_
 repeat (first|(with_reducible first|apply hK.sq|apply hK.sk|(apply hK.re;try subst hkk)|apply hK.bl|apply hK.ib|apply hK.rt|apply hK.nd)|refine hK.ex rfl ?_|(with_reducible refine mu_regionH hK (fun kk hkk=>?_);simp only [List.size_toArray,List.length_cons,List.length_nil,Nat.reduceAdd,Nat.zero_add,List.range,List.range.loop])|(with_reducible refine mu_cf hK ?_ ?_;(· first|(walk_nrm;done)|(simp [Act.eval];done)))|(with_reducible refine mu_ct hK ?_ ?_;(· first|(walk_nrm;done)|(simp [Act.eval];done)))|(refine hK.uw rfl rfl ?_;walk_nrm)|(refine hV.vl rfl rfl fun J hJ=>?_;go_simp;with_reducible refine hJ _ ?_;clear hJ J;walk_nrm))
 refine yek _ ?_
 clear hK hV key yek K
 have hnW1:=norm_al hn (.cells #[.int .i64 k.1,.int .i64 k.2] 139)
 refine mua_put (L:=Lone) (v:=.pointer (some ⟨V.heap.size,0,none⟩)) (hM.mua hnW1) (K:=fun g=>KK d g V) (K':=fun g=>KK d g (V.alloc (.cells #[.int .i64 k.1,.int .i64 k.2] 139))) rfl (.inl rfl) rfl (by kernel_rfl) (fun τ=>?_) ?_
 · go_simp
   first | exact ⟨by first | rfl | assumption | (simp only [re]; omega),rfl⟩ | rfl | (simp; done)
 have kW1:=al_kp V (.cells #[.int .i64 k.1,.int .i64 k.2] 139)
 have lW1:=al_lt V (.cells #[.int .i64 k.1,.int .i64 k.2] 139)
 have Bk:=al_at V (.cells #[.int .i64 k.1,.int .i64 k.2] 139)
 generalize (V.alloc (.cells #[.int .i64 k.1,.int .i64 k.2] 139)) = W1 at *
 have tW1 : V.heap.size < W1.heap.size ∧ V.heap.size ≤ V.heap.size:=⟨lW1,Nat.le_refl _⟩
 generalize hbW1 : V.heap.size = b_Bk at Bk ⊢
 have l_b_Bk : V.heap.size ≤ b_Bk ∧ b_Bk < W1.heap.size:=by omega
 clear hbW1 tW1
 replace kp : Kp V W1:=⟨Nat.le_trans kp.size (Nat.le_of_lt lW1),fun b hb=>(kW1 b (Nat.lt_of_lt_of_le hb kp.size) (by omega)).trans (kp.keep b hb)⟩
 clear kW1
 walk_nrm
 have r_Bk_0 : ∀ τ,(re W1 τ 0).cell? ⟨b_Bk,0,none⟩ = some (.int .i64 k.1):=fun τ=>cell_of Bk (by simp)
 have r_Bk_1 : ∀ τ,(re W1 τ 0).cell? ⟨b_Bk,1,none⟩ = some (.int .i64 k.2):=fun τ=>cell_of Bk (by simp)
 obtain ⟨K,hK,hV,key,yek⟩:=kKV (L:=Lone) (J:=fun g=>KK d g W1) hM.mu (hM.muv hnW1)
 refine key _ ?_
 repeat (first|(with_reducible first|apply hK.sq|apply hK.sk|(apply hK.re;try subst hkk)|apply hK.bl|apply hK.ib|apply hK.rt|apply hK.nd)|refine hK.ex rfl ?_|(with_reducible refine mu_regionH hK (fun kk hkk=>?_);simp only [List.size_toArray,List.length_cons,List.length_nil,Nat.reduceAdd,Nat.zero_add,List.range,List.range.loop])|(with_reducible refine mu_cf hK ?_ ?_;(· first|(walk_nrm;done)|(simp [Act.eval];done)))|(with_reducible refine mu_ct hK ?_ ?_;(· first|(walk_nrm;done)|(simp [Act.eval];done)))|(refine hK.uw rfl rfl ?_;walk_nrm)|(refine hV.vl rfl rfl fun J hJ=>?_;go_simp;with_reducible refine hJ _ ?_;clear hJ J;walk_nrm))
 refine hK.cl rfl rfl rfl Try.func106 rfl ?_
 walk_nrm
 refine yek _ ?_
 clear hK hV key yek K
 have e_g2:=(kp.keep _ l_g).trans e_g
 have e_m2:=(kp.keep _ l_m).trans e_m
 refine find_go (k:=k) hM hnW1 e_g2 e_m2 hm fun V3 hn3 k3=>?_
 generalize kptr m k = kr
 have kp3:=kp.trans k3
 walk_nrm
 obtain ⟨K,hK,hV,key,yek⟩:=kKV (L:=Lone) (J:=fun g=>KK d g V3) hM.mu (hM.muv hn3)
 refine key _ ?_
 repeat (first|(with_reducible first|apply hK.sq|apply hK.sk|(apply hK.re;try subst hkk)|apply hK.bl|apply hK.ib|apply hK.rt|apply hK.nd)|refine hK.ex rfl ?_|(with_reducible refine mu_regionH hK (fun kk hkk=>?_);simp only [List.size_toArray,List.length_cons,List.length_nil,Nat.reduceAdd,Nat.zero_add,List.range,List.range.loop])|(with_reducible refine mu_cf hK ?_ ?_;(· first|(walk_nrm;done)|(simp [Act.eval];done)))|(with_reducible refine mu_ct hK ?_ ?_;(· first|(walk_nrm;done)|(simp [Act.eval];done)))|(refine hK.uw rfl rfl ?_;walk_nrm)|(refine hV.vl rfl rfl fun J hJ=>?_;go_simp;with_reducible refine hJ _ ?_;clear hJ J;walk_nrm))
 refine yek _ ?_
 clear hK hV key yek K
 refine mu_leave2 (K:=fun g=>KK d g V3) hM.mu rfl rfl Try.func71 rfl ?_
 exact h V3 hn3 kp3
theorem join_nilm (hM : MarkK Try.prog main Z KK) (hn : norm V = V) (e_g : V.heap[gb]? = some (.cells #[.map (some rb)] 190 (0,0))) (e_m : V.heap[rb]? = some (.map es clk)) (hm : Mp es m) (h : ∀ V2,norm V2 = V2 → Kp V V2 → KK d (G (b₀.at (a₀.put ((ops₀[i₀]?).bind (·.dst)) (.tuple #[.int .i64 0,.int .i64 1])) (.inRegion ops₀ rest₀ :: k₀)) cs0) V2) : KK d (G (Frame.enter Try.prog 71 #[.pointer (some ⟨gb,0,none⟩),.pointer (some ⟨tb,0,none⟩),.pointer none,kv k] .normal) (b₀.at a₀ (.inRegion ops₀ (i₀ :: rest₀) :: k₀) :: cs0)) V:=by
 have l_g:=(glt e_g)
 have l_m:=(glt e_m)
 have kp : Kp V V:=⟨Nat.le_refl _,fun _ _=>rfl⟩
 rw [enter_at (P:=Try.prog) _ Try.func71 jB_eq]
 refine (fun (hh : ∀ X0 X1 X2 X3 L R,X0 = nva jB → X1 = nva (nvb jB) → X2 = nva (nvb (nvb jB)) → X3 = nva jX3 → L = jL → R = jR11 → KK d (G ((base 71).at _ [.code (.seq X0 (.seq X1 (.seq X2 (.seq X3 (.seq (.block 1 (.loop L)) R)))))]) (b₀.at a₀ (.inRegion ops₀ (i₀ :: rest₀) :: k₀) :: cs0)) V)=>hh _ _ _ _ _ _ rfl rfl rfl rfl rfl rfl) ?_
 intro X0 X1 X2 X3 L R h0 h1 h2 h3 hL hR
 simp only [jB,jX3,Try.f71,Option.getD_some,nva,nvb] at h0 h1 h2 h3
 subst h0 h1 h2 h3
 have hnt : Try.f71.ntmps = 55:=rfl
 rw [hnt]
 clear hnt
 simp only [kv]
 walk_nrm
 obtain ⟨K,hK,hV,key,yek⟩:=kKV (L:=Lone) (J:=fun g=>KK d g V) hM.mu (hM.muv hn)
 refine key _ ?_
 repeat (first|(with_reducible first|apply hK.sq|apply hK.sk|(apply hK.re;try subst hkk)|apply hK.bl|apply hK.ib|apply hK.rt|apply hK.nd)|refine hK.ex rfl ?_|(with_reducible refine mu_regionH hK (fun kk hkk=>?_);simp only [List.size_toArray,List.length_cons,List.length_nil,Nat.reduceAdd,Nat.zero_add,List.range,List.range.loop])|(with_reducible refine mu_cf hK ?_ ?_;(· first|(walk_nrm;done)|(simp [Act.eval];done)))|(with_reducible refine mu_ct hK ?_ ?_;(· first|(walk_nrm;done)|(simp [Act.eval];done)))|(refine hK.uw rfl rfl ?_;walk_nrm)|(refine hV.vl rfl rfl fun J hJ=>?_;go_simp;with_reducible refine hJ _ ?_;clear hJ J;walk_nrm))
 refine yek _ ?_
 clear hK hV key yek K
 have hnW1:=norm_al hn (.cells #[.int .i64 k.1,.int .i64 k.2] 139)
 refine mua_put (L:=Lone) (v:=.pointer (some ⟨V.heap.size,0,none⟩)) (hM.mua hnW1) (K:=fun g=>KK d g V) (K':=fun g=>KK d g (V.alloc (.cells #[.int .i64 k.1,.int .i64 k.2] 139))) rfl (.inl rfl) rfl (by kernel_rfl) (fun τ=>?_) ?_
 · go_simp
   first | exact ⟨by first | rfl | assumption | (simp only [re]; omega),rfl⟩ | rfl | (simp; done)
 have kW1:=al_kp V (.cells #[.int .i64 k.1,.int .i64 k.2] 139)
 have lW1:=al_lt V (.cells #[.int .i64 k.1,.int .i64 k.2] 139)
 have Bk:=al_at V (.cells #[.int .i64 k.1,.int .i64 k.2] 139)
 generalize (V.alloc (.cells #[.int .i64 k.1,.int .i64 k.2] 139)) = W1 at *
 have tW1 : V.heap.size < W1.heap.size ∧ V.heap.size ≤ V.heap.size:=⟨lW1,Nat.le_refl _⟩
 generalize hbW1 : V.heap.size = b_Bk at Bk ⊢
 have l_b_Bk : V.heap.size ≤ b_Bk ∧ b_Bk < W1.heap.size:=by omega
 clear hbW1 tW1
 replace kp : Kp V W1:=⟨Nat.le_trans kp.size (Nat.le_of_lt lW1),fun b hb=>(kW1 b (Nat.lt_of_lt_of_le hb kp.size) (by omega)).trans (kp.keep b hb)⟩
 clear kW1
 walk_nrm
 have r_Bk_0 : ∀ τ,(re W1 τ 0).cell? ⟨b_Bk,0,none⟩ = some (.int .i64 k.1):=fun τ=>cell_of Bk (by simp)
 have r_Bk_1 : ∀ τ,(re W1 τ 0).cell? ⟨b_Bk,1,none⟩ = some (.int .i64 k.2):=fun τ=>cell_of Bk (by simp)
 obtain ⟨K,hK,hV,key,yek⟩:=kKV (L:=Lone) (J:=fun g=>KK d g W1) hM.mu (hM.muv hnW1)
 refine key _ ?_
 repeat (first|(with_reducible first|apply hK.sq|apply hK.sk|(apply hK.re;try subst hkk)|apply hK.bl|apply hK.ib|apply hK.rt|apply hK.nd)|refine hK.ex rfl ?_|(with_reducible refine mu_regionH hK (fun kk hkk=>?_);simp only [List.size_toArray,List.length_cons,List.length_nil,Nat.reduceAdd,Nat.zero_add,List.range,List.range.loop])|(with_reducible refine mu_cf hK ?_ ?_;(· first|(walk_nrm;done)|(simp [Act.eval];done)))|(with_reducible refine mu_ct hK ?_ ?_;(· first|(walk_nrm;done)|(simp [Act.eval];done)))|(refine hK.uw rfl rfl ?_;walk_nrm)|(refine hV.vl rfl rfl fun J hJ=>?_;go_simp;with_reducible refine hJ _ ?_;clear hJ J;walk_nrm))
 refine hK.cl rfl rfl rfl Try.func106 rfl ?_
 walk_nrm
 refine yek _ ?_
 clear hK hV key yek K
 have e_g2:=(kp.keep _ l_g).trans e_g
 have e_m2:=(kp.keep _ l_m).trans e_m
 refine find_go (k:=k) hM hnW1 e_g2 e_m2 hm fun V3 hn3 k3=>?_
 generalize kptr m k = kr
 have kp3:=kp.trans k3
 walk_nrm
 obtain ⟨K,hK,hV,key,yek⟩:=kKV (L:=Lone) (J:=fun g=>KK d g V3) hM.mu (hM.muv hn3)
 refine key _ ?_
 repeat (first|(with_reducible first|apply hK.sq|apply hK.sk|(apply hK.re;try subst hkk)|apply hK.bl|apply hK.ib|apply hK.rt|apply hK.nd)|refine hK.ex rfl ?_|(with_reducible refine mu_regionH hK (fun kk hkk=>?_);simp only [List.size_toArray,List.length_cons,List.length_nil,Nat.reduceAdd,Nat.zero_add,List.range,List.range.loop])|(with_reducible refine mu_cf hK ?_ ?_;(· first|(walk_nrm;done)|(simp [Act.eval];done)))|(with_reducible refine mu_ct hK ?_ ?_;(· first|(walk_nrm;done)|(simp [Act.eval];done)))|(refine hK.uw rfl rfl ?_;walk_nrm)|(refine hV.vl rfl rfl fun J hJ=>?_;go_simp;with_reducible refine hJ _ ?_;clear hJ J;walk_nrm))
 refine yek _ ?_
 clear hK hV key yek K
 refine mu_leave2 (K:=fun g=>KK d g V3) hM.mu rfl rfl Try.func71 rfl ?_
 exact h V3 hn3 kp3
theorem join_none (hM : MarkK Try.prog main Z KK) (hn : norm V = V) (e_g : V.heap[gb]? = some (.cells #[.map (some rb)] 190 (0,0))) (e_m : V.heap[rb]? = some (.map es clk)) (hm : Mp es m) (hk : kpos k m 0 = none) (h : ∀ V2,norm V2 = V2 → Kp V V2 → KK d (G (b₀.at (a₀.put ((ops₀[i₀]?).bind (·.dst)) (.tuple #[.int .i64 0,.int .i64 7])) (.inRegion ops₀ rest₀ :: k₀)) cs0) V2) : KK d (G (Frame.enter Try.prog 71 #[.pointer (some ⟨gb,0,none⟩),.pointer (some ⟨tb,0,none⟩),.pointer (some ⟨mb,0,none⟩),kv k] .normal) (b₀.at a₀ (.inRegion ops₀ (i₀ :: rest₀) :: k₀) :: cs0)) V:=by
 have l_g:=(glt e_g)
 have l_m:=(glt e_m)
 have kp : Kp V V:=⟨Nat.le_refl _,fun _ _=>rfl⟩
 rw [enter_at (P:=Try.prog) _ Try.func71 jB_eq]
 refine (fun (hh : ∀ X0 X1 X2 X3 L R,X0 = nva jB → X1 = nva (nvb jB) → X2 = nva (nvb (nvb jB)) → X3 = nva jX3 → L = jL → R = jR11 → KK d (G ((base 71).at _ [.code (.seq X0 (.seq X1 (.seq X2 (.seq X3 (.seq (.block 1 (.loop L)) R)))))]) (b₀.at a₀ (.inRegion ops₀ (i₀ :: rest₀) :: k₀) :: cs0)) V)=>hh _ _ _ _ _ _ rfl rfl rfl rfl rfl rfl) ?_
 intro X0 X1 X2 X3 L R h0 h1 h2 h3 hL hR
 simp only [jB,jX3,Try.f71,Option.getD_some,nva,nvb] at h0 h1 h2 h3
 subst h0 h1 h2 h3
 have hnt : Try.f71.ntmps = 55:=rfl
 rw [hnt]
 clear hnt
 simp only [kv]
 walk_nrm
 obtain ⟨K,hK,hV,key,yek⟩:=kKV (L:=Lone) (J:=fun g=>KK d g V) hM.mu (hM.muv hn)
 refine key _ ?_
 repeat (first|(with_reducible first|apply hK.sq|apply hK.sk|(apply hK.re;try subst hkk)|apply hK.bl|apply hK.ib|apply hK.rt|apply hK.nd)|refine hK.ex rfl ?_|(with_reducible refine mu_regionH hK (fun kk hkk=>?_);simp only [List.size_toArray,List.length_cons,List.length_nil,Nat.reduceAdd,Nat.zero_add,List.range,List.range.loop])|(with_reducible refine mu_cf hK ?_ ?_;(· first|(walk_nrm;done)|(simp [Act.eval];done)))|(with_reducible refine mu_ct hK ?_ ?_;(· first|(walk_nrm;done)|(simp [Act.eval];done)))|(refine hK.uw rfl rfl ?_;walk_nrm)|(refine hV.vl rfl rfl fun J hJ=>?_;go_simp;with_reducible refine hJ _ ?_;clear hJ J;walk_nrm))
 refine yek _ ?_
 clear hK hV key yek K
 have hnW1:=norm_al hn (.cells #[.int .i64 k.1,.int .i64 k.2] 139)
 refine mua_put (L:=Lone) (v:=.pointer (some ⟨V.heap.size,0,none⟩)) (hM.mua hnW1) (K:=fun g=>KK d g V) (K':=fun g=>KK d g (V.alloc (.cells #[.int .i64 k.1,.int .i64 k.2] 139))) rfl (.inl rfl) rfl (by kernel_rfl) (fun τ=>?_) ?_
 · go_simp
   first | exact ⟨by first | rfl | assumption | (simp only [re]; omega),rfl⟩ | rfl | (simp; done)
 have kW1:=al_kp V (.cells #[.int .i64 k.1,.int .i64 k.2] 139)
 have lW1:=al_lt V (.cells #[.int .i64 k.1,.int .i64 k.2] 139)
 have Bk:=al_at V (.cells #[.int .i64 k.1,.int .i64 k.2] 139)
 generalize (V.alloc (.cells #[.int .i64 k.1,.int .i64 k.2] 139)) = W1 at *
 have tW1 : V.heap.size < W1.heap.size ∧ V.heap.size ≤ V.heap.size:=⟨lW1,Nat.le_refl _⟩
 generalize hbW1 : V.heap.size = b_Bk at Bk ⊢
 have l_b_Bk : V.heap.size ≤ b_Bk ∧ b_Bk < W1.heap.size:=by omega
 clear hbW1 tW1
 replace kp : Kp V W1:=⟨Nat.le_trans kp.size (Nat.le_of_lt lW1),fun b hb=>(kW1 b (Nat.lt_of_lt_of_le hb kp.size) (by omega)).trans (kp.keep b hb)⟩
 clear kW1
 walk_nrm
 have r_Bk_0 : ∀ τ,(re W1 τ 0).cell? ⟨b_Bk,0,none⟩ = some (.int .i64 k.1):=fun τ=>cell_of Bk (by simp)
 have r_Bk_1 : ∀ τ,(re W1 τ 0).cell? ⟨b_Bk,1,none⟩ = some (.int .i64 k.2):=fun τ=>cell_of Bk (by simp)
 obtain ⟨K,hK,hV,key,yek⟩:=kKV (L:=Lone) (J:=fun g=>KK d g W1) hM.mu (hM.muv hnW1)
 refine key _ ?_
 repeat (first|(with_reducible first|apply hK.sq|apply hK.sk|(apply hK.re;try subst hkk)|apply hK.bl|apply hK.ib|apply hK.rt|apply hK.nd)|refine hK.ex rfl ?_|(with_reducible refine mu_regionH hK (fun kk hkk=>?_);simp only [List.size_toArray,List.length_cons,List.length_nil,Nat.reduceAdd,Nat.zero_add,List.range,List.range.loop])|(with_reducible refine mu_cf hK ?_ ?_;(· first|(walk_nrm;done)|(simp [Act.eval];done)))|(with_reducible refine mu_ct hK ?_ ?_;(· first|(walk_nrm;done)|(simp [Act.eval];done)))|(refine hK.uw rfl rfl ?_;walk_nrm)|(refine hV.vl rfl rfl fun J hJ=>?_;go_simp;with_reducible refine hJ _ ?_;clear hJ J;walk_nrm))
 refine hK.cl rfl rfl rfl Try.func106 rfl ?_
 walk_nrm
 refine yek _ ?_
 clear hK hV key yek K
 have e_g2:=(kp.keep _ l_g).trans e_g
 have e_m2:=(kp.keep _ l_m).trans e_m
 have hkp : kptr m k = .pointer none:=by unfold kptr; rw [hk]
 refine find_go (k:=k) hM hnW1 e_g2 e_m2 hm fun V3 hn3 k3=>?_
 rw [hkp]
 clear hkp
 have kp3:=kp.trans k3
 walk_nrm
 obtain ⟨K,hK,hV,key,yek⟩:=kKV (L:=Lone) (J:=fun g=>KK d g V3) hM.mu (hM.muv hn3)
 refine key _ ?_
 repeat (first|(with_reducible first|apply hK.sq|apply hK.sk|(apply hK.re;try subst hkk)|apply hK.bl|apply hK.ib|apply hK.rt|apply hK.nd)|refine hK.ex rfl ?_|(with_reducible refine mu_regionH hK (fun kk hkk=>?_);simp only [List.size_toArray,List.length_cons,List.length_nil,Nat.reduceAdd,Nat.zero_add,List.range,List.range.loop])|(with_reducible refine mu_cf hK ?_ ?_;(· first|(walk_nrm;done)|(simp [Act.eval];done)))|(with_reducible refine mu_ct hK ?_ ?_;(· first|(walk_nrm;done)|(simp [Act.eval];done)))|(refine hK.uw rfl rfl ?_;walk_nrm)|(refine hV.vl rfl rfl fun J hJ=>?_;go_simp;with_reducible refine hJ _ ?_;clear hJ J;walk_nrm))
 refine yek _ ?_
 clear hK hV key yek K
 refine mu_leave2 (K:=fun g=>KK d g V3) hM.mu rfl rfl Try.func71 rfl ?_
 exact h V3 hn3 kp3
theorem join_in (hM : MarkK Try.prog main Z KK) (hn : norm V = V) (e_g : V.heap[gb]? = some (.cells #[.map (some rb)] 190 (0,0))) (e_m : V.heap[rb]? = some (.map es clk)) (hm : Mp es m) (hk : kpos k m 0 = some (i,ob)) (e_o : V.heap[ob]? = some (.cells #[cv,.bool false,xb,xc] 201 (0,0)))
   (h : ∀ V2 f,norm V2 = V2 → Kp V V2 → JnR ob (.pointer (some ⟨tb,0,none⟩)) (.pointer (some ⟨mb,0,none⟩)) f → KK d (G (Frame.enter Try.prog 49 #[.pointer (some ⟨ob,0,none⟩),.pointer (some ⟨tb,0,none⟩),.pointer (some ⟨mb,0,none⟩)] .normal) (f :: b₀.at a₀ (.inRegion ops₀ (i₀ :: rest₀) :: k₀) :: cs0)) V2) : KK d (G (Frame.enter Try.prog 71 #[.pointer (some ⟨gb,0,none⟩),.pointer (some ⟨tb,0,none⟩),.pointer (some ⟨mb,0,none⟩),kv k] .normal) (b₀.at a₀ (.inRegion ops₀ (i₀ :: rest₀) :: k₀) :: cs0)) V:=by
 have l_g:=(glt e_g)
 have l_m:=(glt e_m)
 have l_o:=(glt e_o)
 have kp : Kp V V:=⟨Nat.le_refl _,fun _ _=>rfl⟩
 rw [enter_at (P:=Try.prog) _ Try.func71 jB_eq]
 refine (fun (hh : ∀ X0 X1 X2 X3 L R,X0 = nva jB → X1 = nva (nvb jB) → X2 = nva (nvb (nvb jB)) → X3 = nva jX3 → L = jL → R = jR11 → KK d (G ((base 71).at _ [.code (.seq X0 (.seq X1 (.seq X2 (.seq X3 (.seq (.block 1 (.loop L)) R)))))]) (b₀.at a₀ (.inRegion ops₀ (i₀ :: rest₀) :: k₀) :: cs0)) V)=>hh _ _ _ _ _ _ rfl rfl rfl rfl rfl rfl) ?_
 intro X0 X1 X2 X3 L R h0 h1 h2 h3 hL hR
 simp only [jB,jX3,Try.f71,Option.getD_some,nva,nvb] at h0 h1 h2 h3
 subst h0 h1 h2 h3
 have hnt : Try.f71.ntmps = 55:=rfl
 rw [hnt]
 clear hnt
 simp only [kv]
 walk_nrm
 obtain ⟨K,hK,hV,key,yek⟩:=kKV (L:=Lone) (J:=fun g=>KK d g V) hM.mu (hM.muv hn)
 refine key _ ?_
 repeat (first|(with_reducible first|apply hK.sq|apply hK.sk|(apply hK.re;try subst hkk)|apply hK.bl|apply hK.ib|apply hK.rt|apply hK.nd)|refine hK.ex rfl ?_|(with_reducible refine mu_regionH hK (fun kk hkk=>?_);simp only [List.size_toArray,List.length_cons,List.length_nil,Nat.reduceAdd,Nat.zero_add,List.range,List.range.loop])|(with_reducible refine mu_cf hK ?_ ?_;(· first|(walk_nrm;done)|(simp [Act.eval];done)))|(with_reducible refine mu_ct hK ?_ ?_;(· first|(walk_nrm;done)|(simp [Act.eval];done)))|(refine hK.uw rfl rfl ?_;walk_nrm)|(refine hV.vl rfl rfl fun J hJ=>?_;go_simp;with_reducible refine hJ _ ?_;clear hJ J;walk_nrm))
 refine yek _ ?_
 clear hK hV key yek K
 have hnW1:=norm_al hn (.cells #[.int .i64 k.1,.int .i64 k.2] 139)
 refine mua_put (L:=Lone) (v:=.pointer (some ⟨V.heap.size,0,none⟩)) (hM.mua hnW1) (K:=fun g=>KK d g V) (K':=fun g=>KK d g (V.alloc (.cells #[.int .i64 k.1,.int .i64 k.2] 139))) rfl (.inl rfl) rfl (by kernel_rfl) (fun τ=>?_) ?_
 · go_simp
   first | exact ⟨by first | rfl | assumption | (simp only [re]; omega),rfl⟩ | rfl | (simp; done)
 have kW1:=al_kp V (.cells #[.int .i64 k.1,.int .i64 k.2] 139)
 have lW1:=al_lt V (.cells #[.int .i64 k.1,.int .i64 k.2] 139)
 have Bk:=al_at V (.cells #[.int .i64 k.1,.int .i64 k.2] 139)
 generalize (V.alloc (.cells #[.int .i64 k.1,.int .i64 k.2] 139)) = W1 at *
 have tW1 : V.heap.size < W1.heap.size ∧ V.heap.size ≤ V.heap.size:=⟨lW1,Nat.le_refl _⟩
 generalize hbW1 : V.heap.size = b_Bk at Bk ⊢
 have l_b_Bk : V.heap.size ≤ b_Bk ∧ b_Bk < W1.heap.size:=by omega
 clear hbW1 tW1
 replace kp : Kp V W1:=⟨Nat.le_trans kp.size (Nat.le_of_lt lW1),fun b hb=>(kW1 b (Nat.lt_of_lt_of_le hb kp.size) (by omega)).trans (kp.keep b hb)⟩
 clear kW1
 walk_nrm
 have r_Bk_0 : ∀ τ,(re W1 τ 0).cell? ⟨b_Bk,0,none⟩ = some (.int .i64 k.1):=fun τ=>cell_of Bk (by simp)
 have r_Bk_1 : ∀ τ,(re W1 τ 0).cell? ⟨b_Bk,1,none⟩ = some (.int .i64 k.2):=fun τ=>cell_of Bk (by simp)
 obtain ⟨K,hK,hV,key,yek⟩:=kKV (L:=Lone) (J:=fun g=>KK d g W1) hM.mu (hM.muv hnW1)
 refine key _ ?_
 repeat (first|(with_reducible first|apply hK.sq|apply hK.sk|(apply hK.re;try subst hkk)|apply hK.bl|apply hK.ib|apply hK.rt|apply hK.nd)|refine hK.ex rfl ?_|(with_reducible refine mu_regionH hK (fun kk hkk=>?_);simp only [List.size_toArray,List.length_cons,List.length_nil,Nat.reduceAdd,Nat.zero_add,List.range,List.range.loop])|(with_reducible refine mu_cf hK ?_ ?_;(· first|(walk_nrm;done)|(simp [Act.eval];done)))|(with_reducible refine mu_ct hK ?_ ?_;(· first|(walk_nrm;done)|(simp [Act.eval];done)))|(refine hK.uw rfl rfl ?_;walk_nrm)|(refine hV.vl rfl rfl fun J hJ=>?_;go_simp;with_reducible refine hJ _ ?_;clear hJ J;walk_nrm))
 refine hK.cl rfl rfl rfl Try.func106 rfl ?_
 walk_nrm
 refine yek _ ?_
 clear hK hV key yek K
 have e_g2:=(kp.keep _ l_g).trans e_g
 have e_m2:=(kp.keep _ l_m).trans e_m
 have hkp : kptr m k = .pointer (some ⟨ob,0,none⟩):=by unfold kptr; rw [hk]
 refine find_go (k:=k) hM hnW1 e_g2 e_m2 hm fun V3 hn3 k3=>?_
 rw [hkp]
 clear hkp
 have kp3:=kp.trans k3
 have O:=(kp3.keep _ l_o).trans e_o
 have r_o : ∀ τ,(re V3 τ 0).cell? ⟨ob,1,none⟩ = some (.bool false):=fun τ=>cell_of O (by simp)
 walk_nrm
 obtain ⟨K,hK,hV,key,yek⟩:=kKV (L:=Lone) (J:=fun g=>KK d g V3) hM.mu (hM.muv hn3)
 refine key _ ?_
 repeat (first|(with_reducible first|apply hK.sq|apply hK.sk|(apply hK.re;try subst hkk)|apply hK.bl|apply hK.ib|apply hK.rt|apply hK.nd)|refine hK.ex rfl ?_|(with_reducible refine mu_regionH hK (fun kk hkk=>?_);simp only [List.size_toArray,List.length_cons,List.length_nil,Nat.reduceAdd,Nat.zero_add,List.range,List.range.loop])|(with_reducible refine mu_cf hK ?_ ?_;(· first|(walk_nrm;done)|(simp [Act.eval];done)))|(with_reducible refine mu_ct hK ?_ ?_;(· first|(walk_nrm;done)|(simp [Act.eval];done)))|(refine hK.uw rfl rfl ?_;walk_nrm)|(refine hV.vl rfl rfl fun J hJ=>?_;go_simp;with_reducible refine hJ _ ?_;clear hJ J;walk_nrm))
 refine mu_loop hK ?_
 refine (fun (hh : ∀ Y,Y = jL → K (G ((base 71).at _ [.code Y,.inLoop jL,.inBlock 1,.code jR11]) _))=>by rw [hL,hR]; exact hh _ rfl) ?_
 clear hL hR L R
 intro Y hY
 rw [jL_eq] at hY
 subst hY
 refine mu_seq hK ?_
 refine (fun (hh : ∀ Y,Y = nva jL → K (G ((base 71).at _ (.code Y :: _)) _))=>hh _ rfl) ?_
 intro Y hY
 simp only [jL,jX3,jB,nva,nvb,nvk,nvl,Try.f71,Option.getD_some] at hY
 subst hY
 repeat (first|(with_reducible first|apply hK.sq|apply hK.sk|(apply hK.re;try subst hkk)|apply hK.bl|apply hK.ib|apply hK.rt|apply hK.nd)|refine hK.ex rfl ?_|(with_reducible refine mu_regionH hK (fun kk hkk=>?_);simp only [List.size_toArray,List.length_cons,List.length_nil,Nat.reduceAdd,Nat.zero_add,List.range,List.range.loop])|(with_reducible refine mu_cf hK ?_ ?_;(· first|(walk_nrm;done)|(simp [Act.eval];done)))|(with_reducible refine mu_ct hK ?_ ?_;(· first|(walk_nrm;done)|(simp [Act.eval];done)))|(refine hK.uw rfl rfl ?_;walk_nrm)|(refine hV.vl rfl rfl fun J hJ=>?_;go_simp;with_reducible refine hJ _ ?_;clear hJ J;walk_nrm))
 have hr : List.range.loop j8.size [] = [0,1,2,3,4,5,6]:=by kernel_rfl
 rw [hr]
 clear hr
 refine opv (K:=K) (L:=Lone) hV (.inl rfl) (i:=0) (d:=37) (op:=.move (.tmp 11)) (v:=.pointer (some ⟨ob,0,none⟩)) (by kernel_rfl) (by kernel_rfl) (fun o ho τ=>?_) ?_
 · simp only [execOp,ho]
   go_simp
 walk_nrm
 refine opv (K:=K) (L:=Lone) hV (.inl rfl) (i:=1) (d:=38) (op:=.nilCheck (.tmp 37)) (v:=.pointer (some ⟨ob,0,none⟩)) (by kernel_rfl) (by kernel_rfl) (fun o ho τ=>?_) ?_
 · simp only [execOp,ho]
   go_simp
 walk_nrm
 refine opv (K:=K) (L:=Lone) hV (.inl rfl) (i:=2) (d:=39) (op:=.fieldAddr 201 (.tmp 38) 0) (v:=.pointer (some ⟨ob,0,none⟩)) (by kernel_rfl) (by kernel_rfl) (fun o ho τ=>?_) ?_
 · simp only [execOp,ho]
   go_simp
 walk_nrm
 refine opv (K:=K) (L:=Lone) hV (.inl rfl) (i:=3) (d:=40) (op:=.move (.tmp 1)) (v:=.pointer (some ⟨tb,0,none⟩)) (by kernel_rfl) (by kernel_rfl) (fun o ho τ=>?_) ?_
 · simp only [execOp,ho]
   go_simp
 walk_nrm
 refine opv (K:=K) (L:=Lone) hV (.inl rfl) (i:=4) (d:=41) (op:=.move (.tmp 2)) (v:=.pointer (some ⟨mb,0,none⟩)) (by kernel_rfl) (by kernel_rfl) (fun o ho τ=>?_) ?_
 · simp only [execOp,ho]
   go_simp
 walk_nrm
 refine opc (K:=K) hK (base_ne _) (i:=5) (d:=some 42) (f:=49) (args:=#[.tmp 39,.tmp 40,.tmp 41]) (ats:=#[102,50,104]) (by kernel_rfl) Try.func49 (by kernel_rfl) rfl fun hd=>?_
 walk_nrm
 refine yek _ ?_
 clear hK hV key yek K
 refine h V3 _ hn3 kp3 ⟨_,?_,?_,?_,?_,?_,by rw [hkk]⟩ <;> rfl
theorem join_b13 (hM : MarkK Try.prog main Z KK) (hn : norm V = V) {b : Frame} {a : Act} {ops : Array Oper} {j : Nat} {rest : List Nat} {kx : List Item} (hfr : JnR ob tp mp (b.at a (.inRegion ops (j :: rest) :: kx)))
   (h : KK d (G (b₀.at (a₀.put ((ops₀[i₀]?).bind (·.dst)) (.tuple #[.int .i64 0,.int .i64 13])) (.inRegion ops₀ rest₀ :: k₀)) cs0) V) : KK d (G (b.at (a.put ((ops[j]?).bind (·.dst)) (.int .i64 13)) (.inRegion ops rest :: kx)) (b₀.at a₀ (.inRegion ops₀ (i₀ :: rest₀) :: k₀) :: cs0)) V:=by
 obtain ⟨T,hs,t1,t2,t10,t11,e⟩:=hfr
 obtain ⟨rfl,e2,e3⟩:=at_inj e
 obtain ⟨rfl,e4,rfl⟩:=item_inj e2
 obtain ⟨rfl,rfl⟩:=List.cons.inj e4
 rw [e3]
 clear e e2 e3 e4
 have hd : ((j8[5]?).bind (·.dst)) = some 42:=by kernel_rfl
 rw [hd]
 clear hd
 have hK0:=h
 clear h
 obtain ⟨f,hf,hT⟩:=array55f T hs
 rw [hT]
 simp only [hf _ _ t1,hf _ _ t2,hf _ _ t10,hf _ _ t11]
 clear hf hs t1 t2 t10 t11
 subst hT
 generalize hX : j8 = X
 generalize hY : j9 = Y
 simp only [j8,j9,rops,jW,jL,jX3,jB,nva,nvb,nvk,nvl,Try.f71,Option.getD_some] at hX hY
 subst hX hY
 walk_nrm
 obtain ⟨K,hK,hV,key,yek⟩:=kKV (L:=Lone) (J:=fun g=>KK d g V) hM.mu (hM.muv hn)
 refine key _ ?_
 repeat (first|(with_reducible first|apply hK.sq|apply hK.sk|(apply hK.re;try subst hkk)|apply hK.bl|apply hK.ib|apply hK.rt|apply hK.nd)|refine hK.ex rfl ?_|(with_reducible refine mu_regionH hK (fun kk hkk=>?_);simp only [List.size_toArray,List.length_cons,List.length_nil,Nat.reduceAdd,Nat.zero_add,List.range,List.range.loop])|(with_reducible refine mu_cf hK ?_ ?_;(· first|(walk_nrm;done)|(simp [Act.eval];done)))|(with_reducible refine mu_ct hK ?_ ?_;(· first|(walk_nrm;done)|(simp [Act.eval];done)))|(refine hK.uw rfl rfl ?_;walk_nrm)|(refine hV.vl rfl rfl fun J hJ=>?_;go_simp;with_reducible refine hJ _ ?_;clear hJ J;walk_nrm))
 refine yek _ ?_
 clear hK hV key yek K
 refine mu_leave2 (K:=fun g=>KK d g V) hM.mu rfl rfl Try.func71 rfl ?_
 exact hK0
theorem join_b0 (hM : MarkK Try.prog main Z KK) (hn : norm V = V) (e_o : V.heap[ob]? = some (.cells #[cv,.bool true,.int .i64 v,.int .i64 e] 201 (0,0))) {b : Frame} {a : Act} {ops : Array Oper} {j : Nat} {rest : List Nat} {kx : List Item} (hfr : JnR ob tp mp (b.at a (.inRegion ops (j :: rest) :: kx)))
   (h : KK d (G (b₀.at (a₀.put ((ops₀[i₀]?).bind (·.dst)) (.tuple #[.int .i64 v,.int .i64 e])) (.inRegion ops₀ rest₀ :: k₀)) cs0) V) : KK d (G (b.at (a.put ((ops[j]?).bind (·.dst)) (.int .i64 0)) (.inRegion ops rest :: kx)) (b₀.at a₀ (.inRegion ops₀ (i₀ :: rest₀) :: k₀) :: cs0)) V:=by
 obtain ⟨T,hs,t1,t2,t10,t11,e⟩:=hfr
 obtain ⟨rfl,e2,e3⟩:=at_inj e
 obtain ⟨rfl,e4,rfl⟩:=item_inj e2
 obtain ⟨rfl,rfl⟩:=List.cons.inj e4
 rw [e3]
 clear e e2 e3 e4
 have hd : ((j8[5]?).bind (·.dst)) = some 42:=by kernel_rfl
 rw [hd]
 clear hd
 have hK0:=h
 clear h
 obtain ⟨f,hf,hT⟩:=array55f T hs
 rw [hT]
 simp only [hf _ _ t1,hf _ _ t2,hf _ _ t10,hf _ _ t11]
 clear hf hs t1 t2 t10 t11
 subst hT
 generalize hX : j8 = X
 generalize hY : j9 = Y
 simp only [j8,j9,rops,jW,jL,jX3,jB,nva,nvb,nvk,nvl,Try.f71,Option.getD_some] at hX hY
 subst hX hY
 walk_nrm
 have r1 : ∀ τ,(re V τ 0).cell? ⟨ob,1,none⟩ = some (.bool true):=fun τ=>cell_of e_o (by simp)
 have r2 : ∀ τ,(re V τ 0).cell? ⟨ob,2,none⟩ = some (.int .i64 v):=fun τ=>cell_of e_o (by simp)
 have r3 : ∀ τ,(re V τ 0).cell? ⟨ob,3,none⟩ = some (.int .i64 e):=fun τ=>cell_of e_o (by simp)
 obtain ⟨K,hK,hV,key,yek⟩:=kKV (L:=Lone) (J:=fun g=>KK d g V) hM.mu (hM.muv hn)
 refine key _ ?_
 repeat (first|(with_reducible first|apply hK.sq|apply hK.sk|(apply hK.re;try subst hkk)|apply hK.bl|apply hK.ib|apply hK.rt|apply hK.nd)|refine hK.ex rfl ?_|(with_reducible refine mu_regionH hK (fun kk hkk=>?_);simp only [List.size_toArray,List.length_cons,List.length_nil,Nat.reduceAdd,Nat.zero_add,List.range,List.range.loop])|(with_reducible refine mu_cf hK ?_ ?_;(· first|(walk_nrm;done)|(simp [Act.eval];done)))|(with_reducible refine mu_ct hK ?_ ?_;(· first|(walk_nrm;done)|(simp [Act.eval];done)))|(refine hK.uw rfl rfl ?_;walk_nrm)|(refine hV.vl rfl rfl fun J hJ=>?_;go_simp;with_reducible refine hJ _ ?_;clear hJ J;walk_nrm))
 refine mu_inLoop hK ?_
 refine (fun (hh : ∀ Y,Y = jL → K (G ((base 71).at _ (.code Y :: _)) _))=>hh _ rfl) ?_
 intro Y hY
 rw [jL_eq] at hY
 subst hY
 refine mu_seq hK ?_
 refine (fun (hh : ∀ Y,Y = nva jL → K (G ((base 71).at _ (.code Y :: _)) _))=>hh _ rfl) ?_
 intro Y hY
 simp only [jL,jX3,jB,nva,nvb,nvk,nvl,Try.f71,Option.getD_some] at hY
 subst hY
 repeat (first|(with_reducible first|apply hK.sq|apply hK.sk|(apply hK.re;try subst hkk)|apply hK.bl|apply hK.ib|apply hK.rt|apply hK.nd)|refine hK.ex rfl ?_|(with_reducible refine mu_regionH hK (fun kk hkk=>?_);simp only [List.size_toArray,List.length_cons,List.length_nil,Nat.reduceAdd,Nat.zero_add,List.range,List.range.loop])|(with_reducible refine mu_cf hK ?_ ?_;(· first|(walk_nrm;done)|(simp [Act.eval];done)))|(with_reducible refine mu_ct hK ?_ ?_;(· first|(walk_nrm;done)|(simp [Act.eval];done)))|(refine hK.uw rfl rfl ?_;walk_nrm)|(refine hV.vl rfl rfl fun J hJ=>?_;go_simp;with_reducible refine hJ _ ?_;clear hJ J;walk_nrm))
 refine (fun (hh : ∀ Y,Y = jR11 → K (G ((base 71).at _ [.code Y]) _))=>hh _ rfl) ?_
 intro Y hY
 simp only [jR11,jX3,jB,nva,nvb,nvk,nvl,Try.f71,Option.getD_some] at hY
 subst hY
 refine mu_seq hK ?_
 have hD : MuD Try.prog K:=fun b a k cs id ops h=>yek _ (hM.mud b a k cs id ops fun t=>key _ (h t))
 refine mu_drawM 9 hK hV hD (.inl rfl) ?_
 simp only [List.size_toArray,List.length_cons,List.length_nil,Nat.reduceAdd,Nat.zero_add,Array.replicate_succ,Array.replicate_zero,List.push_toArray,List.nil_append,List.cons_append]
 refine anyP_J (i:=0) 20 rfl (by kernel_rfl) rfl (by kernel_rfl) (by kernel_rfl) (by kernel_rfl) (by kernel_rfl) rfl (by kernel_rfl) (fun J hJ=>?_)
 go_simp
 with_reducible refine hJ _ ?_
 clear hJ J
 walk_nrm
 refine anyP_J (i:=1) 20 rfl (by kernel_rfl) rfl (by kernel_rfl) (by kernel_rfl) (by kernel_rfl) (by kernel_rfl) rfl (by kernel_rfl) (fun J hJ=>?_)
 go_simp
 with_reducible refine hJ _ ?_
 clear hJ J
 walk_nrm
 refine anyP_J (i:=2) 20 rfl (by kernel_rfl) rfl (by kernel_rfl) (by kernel_rfl) (by kernel_rfl) (by kernel_rfl) rfl (by kernel_rfl) (fun J hJ=>?_)
 go_simp
 with_reducible refine hJ _ ?_
 clear hJ J
 walk_nrm
 refine anyP_J (i:=3) 20 rfl (by kernel_rfl) rfl (by kernel_rfl) (by kernel_rfl) (by kernel_rfl) (by kernel_rfl) rfl (by kernel_rfl) (fun J hJ=>?_)
 go_simp
 with_reducible refine hJ _ ?_
 clear hJ J
 walk_nrm
 refine anyP_J (i:=4) 20 rfl (by kernel_rfl) rfl (by kernel_rfl) (by kernel_rfl) (by kernel_rfl) (by kernel_rfl) rfl (by kernel_rfl) (fun J hJ=>?_)
 go_simp
 with_reducible refine hJ _ ?_
 clear hJ J
 walk_nrm
 refine anyP_J (i:=5) 20 rfl (by kernel_rfl) rfl (by kernel_rfl) (by kernel_rfl) (by kernel_rfl) (by kernel_rfl) rfl (by kernel_rfl) (fun J hJ=>?_)
 go_simp
 with_reducible refine hJ _ ?_
 clear hJ J
 walk_nrm
 refine anyP_J (i:=6) 20 rfl (by kernel_rfl) rfl (by kernel_rfl) (by kernel_rfl) (by kernel_rfl) (by kernel_rfl) rfl (by kernel_rfl) (fun J hJ=>?_)
 go_simp
 with_reducible refine hJ _ ?_
 clear hJ J
 walk_nrm
 refine anyP_J (i:=7) 20 rfl (by kernel_rfl) rfl (by kernel_rfl) (by kernel_rfl) (by kernel_rfl) (by kernel_rfl) rfl (by kernel_rfl) (fun J hJ=>?_)
 go_simp
 with_reducible refine hJ _ ?_
 clear hJ J
 walk_nrm
 refine anyP_J (i:=8) 20 rfl (by kernel_rfl) rfl (by kernel_rfl) (by kernel_rfl) (by kernel_rfl) (by kernel_rfl) rfl (by kernel_rfl) (fun J hJ=>?_)
 go_simp
 with_reducible refine hJ _ ?_
 clear hJ J
 walk_nrm
 refine anyP_last (by kernel_rfl) (fun t=>?_)
 rw [lin_nilA]
 repeat (first|(with_reducible first|apply hK.sq|apply hK.sk|(apply hK.re;try subst hkk)|apply hK.bl|apply hK.ib|apply hK.rt|apply hK.nd)|refine hK.ex rfl ?_|(with_reducible refine mu_regionH hK (fun kk hkk=>?_);simp only [List.size_toArray,List.length_cons,List.length_nil,Nat.reduceAdd,Nat.zero_add,List.range,List.range.loop])|(with_reducible refine mu_cf hK ?_ ?_;(· first|(walk_nrm;done)|(simp [Act.eval];done)))|(with_reducible refine mu_ct hK ?_ ?_;(· first|(walk_nrm;done)|(simp [Act.eval];done)))|(refine hK.uw rfl rfl ?_;walk_nrm)|(refine hV.vl rfl rfl fun J hJ=>?_;go_simp;with_reducible refine hJ _ ?_;clear hJ J;walk_nrm))
 refine yek _ ?_
 refine mu_leave2 (K:=fun g=>KK d g V) hM.mu rfl rfl Try.func71 rfl ?_
 exact hK0
end
end Go.Proofs.Ytibcdikfbhmheaa

namespace Go.Proofs.Ytibcdikfbhmheaa
open Go Go.Conc Go.Proofs
open Go.ConcN (sumTo upd sumTo_upd upd_ne upd_same)
set_option linter.unusedVariables false
section
variable {main : Bool} {Z : Cuts} {Stop : Goroutine → World → Prop} {V : World} {b : Frame} {a : Act} {ops : Array Oper} {i : Nat} {rest : List Nat} {k : List Item} {cs : List Frame} {o : Oper} {ats : Array TypeId}
end
end Go.Proofs.Ytibcdikfbhmheaa

namespace Go.Proofs.Ytibcdikfbhmheaa
open Go Go.Conc Go.Proofs
open Go.ConcN (sumTo upd sumTo_upd upd_ne upd_same)
set_option linter.unusedVariables false
structure Ad where
 n : Nat
 d : Nat → Int
 ab : Nat
 lbx : Nat
 ibx : Nat → Nat
 la : Option Addr
 ln : Nat
 lc : Nat
 Vr : World
structure AS where
 st : Nat → Nat
 v : Int
def AS.step (D : Ad) (s : AS) (i : Nat) : AS:=if s.st i = 0 then { s with st:=upd s.st i 1 } else { st:=upd s.st i 2,v:=IntKind.i64.wrap (s.v + D.d i) }
noncomputable def B34 : Code:=Try.f34.body.getD .skip
noncomputable def A3 : Code:=nvb (nvb B34)
section
variable {D : Ad} {C : Cw} {E : Env} {i : Nat} {own : Nat → Prop} {V : World} {σ : AS} {a₁ : Act} {ops₁ : Array Oper} {i₁ : Nat} {rest₁ : List Nat} {k₁ : List Item}
end
end Go.Proofs.Ytibcdikfbhmheaa
