import Derived.Test.YtibcdikfbhmheaaQT02
import Derived.Test.YtibcdikfbhmheaaB16
set_option linter.unusedSimpArgs false
set_option linter.unusedVariables false
set_option maxRecDepth 100000
set_option maxHeartbeats 4000000
namespace Go.Proofs.Ytibcdikfbhmheaa
open Go Go.Conc Go.Proofs
open Go.ConcN (sumTo upd sumTo_upd upd_ne upd_same)
set_option linter.unusedVariables false
def nvd : Code → Code | .cond _ x _=>x | c=>c
def nve : Code → Code | .cond _ _ x=>x | c=>c
noncomputable def ao41 : Array Oper:=rops (nva (nvb (nvb (Try.f41.body.getD .skip))))
noncomputable def ar41 : Code:=nvb (nvb (nvb (Try.f41.body.getD .skip)))
noncomputable def ao34 : Array Oper:=rops (nva (nvb (nvb (Try.f34.body.getD .skip))))
noncomputable def ar34 : Code:=nvb (nvb (nvb (Try.f34.body.getD .skip)))
noncomputable def ao40 : Array Oper:=rops (nva (nvb (nvb (Try.f40.body.getD .skip))))
noncomputable def ar40 : Code:=nvb (nvb (nvb (Try.f40.body.getD .skip)))
noncomputable def ds30 : Code:=nvk (nvb (nva (nvb (Try.f30.body.getD .skip))))
noncomputable def dq : Code:=nvb (nvb (Try.f30.body.getD .skip))
noncomputable def dw2 : Code:=nvb ds30
noncomputable def de3 : Code:=nve dw2
noncomputable def de5 : Code:=nve (nvb de3)
noncomputable def do3 : Array Oper:=rops (nva (nvd dw2))
noncomputable def do5 : Array Oper:=rops (nva (nvd (nvb de3)))
noncomputable def do7 : Array Oper:=rops (nva (nvd (nvb de5)))
noncomputable def do8 : Array Oper:=rops (nva dq)
noncomputable def dz8 : Code:=nvb dq
noncomputable def A41 (T : Array Value) : Frame:=(base 41).at ⟨T,[]⟩ [.inRegion ao41 [1],.code ar41]
noncomputable def A34 (T : Array Value) : Frame:=(base 34).at ⟨T,[]⟩ [.inRegion ao34 [1],.code ar34]
noncomputable def A40 (T : Array Value) : Frame:=(base 40).at ⟨T,[]⟩ [.inRegion ao40 [1],.code ar40]
noncomputable def D3 (T : Array Value) : Frame:=(base 30).at ⟨T,[]⟩ [.inRegion do3 [2,3,4],.code .ret,.inBlock 0,.code dq]
noncomputable def D5 (T : Array Value) : Frame:=(base 30).at ⟨T,[]⟩ [.inRegion do5 [4,5,6],.code .ret,.inBlock 0,.code dq]
noncomputable def D7 (T : Array Value) : Frame:=(base 30).at ⟨T,[]⟩ [.inRegion do7 [6,7,8],.code .ret,.inBlock 0,.code dq]
noncomputable def D8 (T : Array Value) : Frame:=(base 30).at ⟨T,[]⟩ [.inRegion do8 [1],.code dz8]
def DoFr (ab : Nat) (x : Int × Int × Int) (b6 : Nat) (fs : List Frame) : Prop :=
 (x.1 = 0 ∧ ∃ T T',T.size = 13 ∧ T[0]? = some (bq ab) ∧ T'.size = 36 ∧ T'[6]? = some (bq b6) ∧ fs = [A41 T,D3 T']) ∨
 (x.1 = 1 ∧ ∃ T T',T.size = 16 ∧ T[0]? = some (bq ab) ∧ T[2]? = some (.int .i64 x.2.1) ∧ T'.size = 36 ∧ T'[6]? = some (bq b6) ∧ fs = [A34 T,D5 T']) ∨
 (x.1 = 2 ∧ ∃ T T',T.size = 19 ∧ T[0]? = some (bq ab) ∧ T[2]? = some (.int .i64 x.2.2) ∧ T[3]? = some (.int .i64 x.2.1) ∧ T'.size = 36 ∧ T'[6]? = some (bq b6) ∧ fs = [A40 T,D7 T']) ∨
 (x.1 = 3 ∧ ∃ T',T'.size = 36 ∧ T'[6]? = some (bq b6) ∧ fs = [D8 T'])
@[go_sem] theorem build67n (r : Int) (w : World) : (Instr.build 67 #[(2,.int .i64 r)]).run Try.prog w = .ok (.agg #[.int .i64 0,.int .i64 0,.int .i64 r,.bool false]) w:=run_build w 67 _ _ (by kernel_rfl)
@[go_sem] theorem build67b (r : Bool) (w : World) : (Instr.build 67 #[(3,.bool r)]).run Try.prog w = .ok (.agg #[.int .i64 0,.int .i64 0,.int .i64 0,.bool r]) w:=run_build w 67 _ _ (by kernel_rfl)
@[go_sem] theorem build67z (w : World) : (Instr.build 67 #[]).run Try.prog w = .ok (.agg #[.int .i64 0,.int .i64 0,.int .i64 0,.bool false]) w:=run_build w 67 _ _ (by kernel_rfl)
section
variable {V : World} {main : Bool} {Z : Cuts} {Stop : Goroutine → World → Prop} {ab b6 : Nat} {tp : Value} {c : Frame} {cs : List Frame} {b₀ : Frame} {a₀ : Act} {ops₀ : Array Oper} {i₀ : Nat} {rest₀ : List Nat} {k₀ : List Item} {n o v : Int} {c0 c1 c2 c3 : Value}
theorem do_in0 (hn : norm V = V) (K : ∀ fs V' b6,DoFr ab (0,n,o) b6 fs → norm V' = V' → Kp V V' → V.heap.size ≤ b6 → b6 < V'.heap.size → V'.heap[b6]? = some (.cells #[.int .i64 0,.int .i64 0,.int .i64 0,.bool false] 67 (0,0)) → Will Try.prog main Z Stop (G (Frame.enter Try.prog 24 #[tp] .normal) (fs ++ c :: cs)) V') :
   Will Try.prog main Z Stop (G (Frame.enter Try.prog 30 #[bq ab,tp,.agg #[.int .i64 0,.int .i64 n,.int .i64 o]] .normal) (c :: cs)) V:=by
 have kp : Kp V V:=⟨Nat.le_refl _,fun _ _=>rfl⟩
 have hK0:=K
 clear K
 simp only [bq]
 rw [enter_at (P:=Try.prog) _ Try.func30 rfl]
 simp only [Try.f30]
 walk_nrm
 obtain ⟨K,hK,hV,key,yek⟩:=kKV (L:=Lone) (J:=fun g=>Will Try.prog main Z Stop g V) mu_will (muv_will hn)
 refine key _ ?_
 repeat (first|(with_reducible first|refine mu_seq hK ?_|refine mu_skip hK ?_|(refine mu_region_end hK ?_;try subst hkk)|refine mu_block hK ?_|refine mu_inBlock hK ?_|refine mu_ret hK ?_|refine mu_end hK ?_)|refine mu_exit hK rfl ?_|(with_reducible refine mu_regionH hK (fun kk hkk=>?_);simp only [List.size_toArray,List.length_cons,List.length_nil,Nat.reduceAdd,Nat.zero_add,List.range,List.range.loop])|(with_reducible refine mu_cf hK ?_ ?_;(· first|(walk_nrm;done)|(simp [Act.eval];done)))|(with_reducible refine mu_ct hK ?_ ?_;(· first|(walk_nrm;done)|(simp [Act.eval];done)))|(refine mu_unwanted hK rfl rfl ?_;walk_nrm)|(refine muv_val hV rfl (by first|exact .inl rfl|exact .inr rfl) rfl (by kernel_rfl) (fun J hJ=>?_);go_simp;with_reducible refine hJ _ ?_;clear hJ J;walk_nrm))
 refine yek _ ?_
 clear hK hV key yek K
 have hnW1 : norm (V.alloc (.cells #[.int .i64 0,.int .i64 n,.int .i64 o] 57)) = (V.alloc (.cells #[.int .i64 0,.int .i64 n,.int .i64 o] 57)):=norm_al hn _
 refine mua_put (L:=Lone) (v:=.pointer (some ⟨V.heap.size,0,none⟩)) (mua_will hnW1) (K:=fun g=>Will Try.prog main Z Stop g V) (K':=fun g=>Will Try.prog main Z Stop g (V.alloc (.cells #[.int .i64 0,.int .i64 n,.int .i64 o] 57))) rfl (.inl rfl) rfl (by kernel_rfl) (fun τ=>?_) ?_
 · go_simp
   first | exact ⟨by first | rfl | assumption | (simp only [re]; omega),rfl⟩ | rfl | (simp; done)
 have kW1 : ∀ b,b < V.heap.size → b = b → (V.alloc (.cells #[.int .i64 0,.int .i64 n,.int .i64 o] 57)).heap[b]? = V.heap[b]?:=fun b hb _=>by rw [al_get,if_neg (by omega)]
 have lW1 : V.heap.size < (V.alloc (.cells #[.int .i64 0,.int .i64 n,.int .i64 o] 57)).heap.size:=by rw [al_size]; omega
 have bx : (V.alloc (.cells #[.int .i64 0,.int .i64 n,.int .i64 o] 57)).heap[V.heap.size]? = some (.cells #[.int .i64 0,.int .i64 n,.int .i64 o] 57 (0,0)):=by rw [al_get,if_pos rfl]
 generalize (V.alloc (.cells #[.int .i64 0,.int .i64 n,.int .i64 o] 57)) = W1 at *
 have tW1 : V.heap.size < W1.heap.size ∧ V.heap.size ≤ V.heap.size:=⟨lW1,Nat.le_refl _⟩
 generalize hbW1 : V.heap.size = b_bx at bx ⊢
 have l_b_bx : V.heap.size ≤ b_bx ∧ b_bx < W1.heap.size:=by omega
 clear hbW1 tW1
 replace kp : Kp V W1:=⟨Nat.le_trans kp.size (Nat.le_of_lt lW1),fun b hb=>(kW1 b (Nat.lt_of_lt_of_le hb kp.size) (by omega)).trans (kp.keep b hb)⟩
 clear kW1
 walk_nrm
 obtain ⟨K,hK,hV,key,yek⟩:=kKV (L:=Lone) (J:=fun g=>Will Try.prog main Z Stop g W1) mu_will (muv_will hnW1)
 refine key _ ?_
 repeat (first|(with_reducible first|refine mu_seq hK ?_|refine mu_skip hK ?_|(refine mu_region_end hK ?_;try subst hkk)|refine mu_block hK ?_|refine mu_inBlock hK ?_|refine mu_ret hK ?_|refine mu_end hK ?_)|refine mu_exit hK rfl ?_|(with_reducible refine mu_regionH hK (fun kk hkk=>?_);simp only [List.size_toArray,List.length_cons,List.length_nil,Nat.reduceAdd,Nat.zero_add,List.range,List.range.loop])|(with_reducible refine mu_cf hK ?_ ?_;(· first|(walk_nrm;done)|(simp [Act.eval];done)))|(with_reducible refine mu_ct hK ?_ ?_;(· first|(walk_nrm;done)|(simp [Act.eval];done)))|(refine mu_unwanted hK rfl rfl ?_;walk_nrm)|(refine muv_val hV rfl (by first|exact .inl rfl|exact .inr rfl) rfl (by kernel_rfl) (fun J hJ=>?_);go_simp;with_reducible refine hJ _ ?_;clear hJ J;walk_nrm))
 refine yek _ ?_
 clear hK hV key yek K
 have hnW2 : norm (W1.alloc (.cells #[.int .i64 0,.int .i64 0,.int .i64 0,.bool false] 67)) = (W1.alloc (.cells #[.int .i64 0,.int .i64 0,.int .i64 0,.bool false] 67)):=norm_al hnW1 _
 refine mua_put (L:=Lone) (v:=.pointer (some ⟨W1.heap.size,0,none⟩)) (mua_will hnW2) (K:=fun g=>Will Try.prog main Z Stop g W1) (K':=fun g=>Will Try.prog main Z Stop g (W1.alloc (.cells #[.int .i64 0,.int .i64 0,.int .i64 0,.bool false] 67))) rfl (.inl rfl) rfl (by kernel_rfl) (fun τ=>?_) ?_
 · go_simp
   first | exact ⟨by first | rfl | assumption | (simp only [re]; omega),rfl⟩ | rfl | (simp; done)
 have kW2 : ∀ b,b < W1.heap.size → b = b → (W1.alloc (.cells #[.int .i64 0,.int .i64 0,.int .i64 0,.bool false] 67)).heap[b]? = W1.heap[b]?:=fun b hb _=>by rw [al_get,if_neg (by omega)]
 have lW2 : W1.heap.size < (W1.alloc (.cells #[.int .i64 0,.int .i64 0,.int .i64 0,.bool false] 67)).heap.size:=by rw [al_size]; omega
 have e6 : (W1.alloc (.cells #[.int .i64 0,.int .i64 0,.int .i64 0,.bool false] 67)).heap[W1.heap.size]? = some (.cells #[.int .i64 0,.int .i64 0,.int .i64 0,.bool false] 67 (0,0)):=by rw [al_get,if_pos rfl]
 generalize (W1.alloc (.cells #[.int .i64 0,.int .i64 0,.int .i64 0,.bool false] 67)) = W2 at *
 have tW2 : W1.heap.size < W2.heap.size ∧ W1.heap.size ≤ W1.heap.size:=⟨lW2,Nat.le_refl _⟩
 generalize hbW2 : W1.heap.size = b_e6 at e6 ⊢
 have l_b_e6 : W1.heap.size ≤ b_e6 ∧ b_e6 < W2.heap.size:=by omega
 clear hbW2 tW2
 replace kp : Kp V W2:=⟨Nat.le_trans kp.size (Nat.le_of_lt lW2),fun b hb=>(kW2 b (Nat.lt_of_lt_of_le hb kp.size) (by omega)).trans (kp.keep b hb)⟩
 replace bx : W2.heap[b_bx]? = some (.cells #[.int .i64 0,.int .i64 n,.int .i64 o] 57 (0,0)):=(kW2 _ (Array.getElem?_eq_some_iff.1 bx).1 (by omega)).trans bx
 clear kW2
 walk_nrm
 have r_bx_0 : ∀ τ,(re W2 τ 0).cell? ⟨b_bx,0,none⟩ = some (.int .i64 0):=fun τ=>cell_of bx (by simp)
 have r_bx_1 : ∀ τ,(re W2 τ 0).cell? ⟨b_bx,1,none⟩ = some (.int .i64 n):=fun τ=>cell_of bx (by simp)
 have r_bx_2 : ∀ τ,(re W2 τ 0).cell? ⟨b_bx,2,none⟩ = some (.int .i64 o):=fun τ=>cell_of bx (by simp)
 obtain ⟨K,hK,hV,key,yek⟩:=kKV (L:=Lone) (J:=fun g=>Will Try.prog main Z Stop g W2) mu_will (muv_will hnW2)
 refine key _ ?_
 repeat (first|(with_reducible first|refine mu_seq hK ?_|refine mu_skip hK ?_|(refine mu_region_end hK ?_;try subst hkk)|refine mu_block hK ?_|refine mu_inBlock hK ?_|refine mu_ret hK ?_|refine mu_end hK ?_)|refine mu_exit hK rfl ?_|(with_reducible refine mu_regionH hK (fun kk hkk=>?_);simp only [List.size_toArray,List.length_cons,List.length_nil,Nat.reduceAdd,Nat.zero_add,List.range,List.range.loop])|(with_reducible refine mu_cf hK ?_ ?_;(· first|(walk_nrm;done)|(simp [Act.eval];done)))|(with_reducible refine mu_ct hK ?_ ?_;(· first|(walk_nrm;done)|(simp [Act.eval];done)))|(refine mu_unwanted hK rfl rfl ?_;walk_nrm)|(refine muv_val hV rfl (by first|exact .inl rfl|exact .inr rfl) rfl (by kernel_rfl) (fun J hJ=>?_);go_simp;with_reducible refine hJ _ ?_;clear hJ J;walk_nrm))
 refine mu_call hK rfl rfl (by decide) rfl Try.func41 (by kernel_rfl) rfl ?_
 have hnt41 : Try.f41.ntmps = 13:=rfl
 rw [hnt41]
 clear hnt41
 walk_nrm
 repeat (first|(with_reducible first|refine mu_seq hK ?_|refine mu_skip hK ?_|(refine mu_region_end hK ?_;try subst hkk)|refine mu_block hK ?_|refine mu_inBlock hK ?_|refine mu_ret hK ?_|refine mu_end hK ?_)|refine mu_exit hK rfl ?_|(with_reducible refine mu_regionH hK (fun kk hkk=>?_);simp only [List.size_toArray,List.length_cons,List.length_nil,Nat.reduceAdd,Nat.zero_add,List.range,List.range.loop])|(with_reducible refine mu_cf hK ?_ ?_;(· first|(walk_nrm;done)|(simp [Act.eval];done)))|(with_reducible refine mu_ct hK ?_ ?_;(· first|(walk_nrm;done)|(simp [Act.eval];done)))|(refine mu_unwanted hK rfl rfl ?_;walk_nrm)|(refine muv_val hV rfl (by first|exact .inl rfl|exact .inr rfl) rfl (by kernel_rfl) (fun J hJ=>?_);go_simp;with_reducible refine hJ _ ?_;clear hJ J;walk_nrm))
 refine mu_call hK rfl rfl (by decide) rfl Try.func24 (by kernel_rfl) rfl ?_
 rw [← enter_at (P:=Try.prog) _ Try.func24 rfl]
 walk_nrm
 refine yek _ ?_
 clear hK hV key yek K
 subst_vars
 refine hK0 [_,_] _ b_e6 ?_ hnW2 kp (by omega) (by omega) e6
 refine .inl ⟨rfl,_,_,?_,?_,?_,?_,rfl⟩
 all_goals first | rfl | simp [bq]
theorem do_in1 (hn : norm V = V) (K : ∀ fs V' b6,DoFr ab (1,n,o) b6 fs → norm V' = V' → Kp V V' → V.heap.size ≤ b6 → b6 < V'.heap.size → V'.heap[b6]? = some (.cells #[.int .i64 0,.int .i64 0,.int .i64 0,.bool false] 67 (0,0)) → Will Try.prog main Z Stop (G (Frame.enter Try.prog 24 #[tp] .normal) (fs ++ c :: cs)) V') :
   Will Try.prog main Z Stop (G (Frame.enter Try.prog 30 #[bq ab,tp,.agg #[.int .i64 1,.int .i64 n,.int .i64 o]] .normal) (c :: cs)) V:=by
 have kp : Kp V V:=⟨Nat.le_refl _,fun _ _=>rfl⟩
 have hK0:=K
 clear K
 simp only [bq]
 rw [enter_at (P:=Try.prog) _ Try.func30 rfl]
 simp only [Try.f30]
 walk_nrm
 obtain ⟨K,hK,hV,key,yek⟩:=kKV (L:=Lone) (J:=fun g=>Will Try.prog main Z Stop g V) mu_will (muv_will hn)
 refine key _ ?_
 repeat (first|(with_reducible first|refine mu_seq hK ?_|refine mu_skip hK ?_|(refine mu_region_end hK ?_;try subst hkk)|refine mu_block hK ?_|refine mu_inBlock hK ?_|refine mu_ret hK ?_|refine mu_end hK ?_)|refine mu_exit hK rfl ?_|(with_reducible refine mu_regionH hK (fun kk hkk=>?_);simp only [List.size_toArray,List.length_cons,List.length_nil,Nat.reduceAdd,Nat.zero_add,List.range,List.range.loop])|(with_reducible refine mu_cf hK ?_ ?_;(· first|(walk_nrm;done)|(simp [Act.eval];done)))|(with_reducible refine mu_ct hK ?_ ?_;(· first|(walk_nrm;done)|(simp [Act.eval];done)))|(refine mu_unwanted hK rfl rfl ?_;walk_nrm)|(refine muv_val hV rfl (by first|exact .inl rfl|exact .inr rfl) rfl (by kernel_rfl) (fun J hJ=>?_);go_simp;with_reducible refine hJ _ ?_;clear hJ J;walk_nrm))
 refine yek _ ?_
 clear hK hV key yek K
 have hnW1 : norm (V.alloc (.cells #[.int .i64 1,.int .i64 n,.int .i64 o] 57)) = (V.alloc (.cells #[.int .i64 1,.int .i64 n,.int .i64 o] 57)):=norm_al hn _
 refine mua_put (L:=Lone) (v:=.pointer (some ⟨V.heap.size,0,none⟩)) (mua_will hnW1) (K:=fun g=>Will Try.prog main Z Stop g V) (K':=fun g=>Will Try.prog main Z Stop g (V.alloc (.cells #[.int .i64 1,.int .i64 n,.int .i64 o] 57))) rfl (.inl rfl) rfl (by kernel_rfl) (fun τ=>?_) ?_
 · go_simp
   first | exact ⟨by first | rfl | assumption | (simp only [re]; omega),rfl⟩ | rfl | (simp; done)
 have kW1 : ∀ b,b < V.heap.size → b = b → (V.alloc (.cells #[.int .i64 1,.int .i64 n,.int .i64 o] 57)).heap[b]? = V.heap[b]?:=fun b hb _=>by rw [al_get,if_neg (by omega)]
 have lW1 : V.heap.size < (V.alloc (.cells #[.int .i64 1,.int .i64 n,.int .i64 o] 57)).heap.size:=by rw [al_size]; omega
 have bx : (V.alloc (.cells #[.int .i64 1,.int .i64 n,.int .i64 o] 57)).heap[V.heap.size]? = some (.cells #[.int .i64 1,.int .i64 n,.int .i64 o] 57 (0,0)):=by rw [al_get,if_pos rfl]
 generalize (V.alloc (.cells #[.int .i64 1,.int .i64 n,.int .i64 o] 57)) = W1 at *
 have tW1 : V.heap.size < W1.heap.size ∧ V.heap.size ≤ V.heap.size:=⟨lW1,Nat.le_refl _⟩
 generalize hbW1 : V.heap.size = b_bx at bx ⊢
 have l_b_bx : V.heap.size ≤ b_bx ∧ b_bx < W1.heap.size:=by omega
 clear hbW1 tW1
 replace kp : Kp V W1:=⟨Nat.le_trans kp.size (Nat.le_of_lt lW1),fun b hb=>(kW1 b (Nat.lt_of_lt_of_le hb kp.size) (by omega)).trans (kp.keep b hb)⟩
 clear kW1
 walk_nrm
 obtain ⟨K,hK,hV,key,yek⟩:=kKV (L:=Lone) (J:=fun g=>Will Try.prog main Z Stop g W1) mu_will (muv_will hnW1)
 refine key _ ?_
 repeat (first|(with_reducible first|refine mu_seq hK ?_|refine mu_skip hK ?_|(refine mu_region_end hK ?_;try subst hkk)|refine mu_block hK ?_|refine mu_inBlock hK ?_|refine mu_ret hK ?_|refine mu_end hK ?_)|refine mu_exit hK rfl ?_|(with_reducible refine mu_regionH hK (fun kk hkk=>?_);simp only [List.size_toArray,List.length_cons,List.length_nil,Nat.reduceAdd,Nat.zero_add,List.range,List.range.loop])|(with_reducible refine mu_cf hK ?_ ?_;(· first|(walk_nrm;done)|(simp [Act.eval];done)))|(with_reducible refine mu_ct hK ?_ ?_;(· first|(walk_nrm;done)|(simp [Act.eval];done)))|(refine mu_unwanted hK rfl rfl ?_;walk_nrm)|(refine muv_val hV rfl (by first|exact .inl rfl|exact .inr rfl) rfl (by kernel_rfl) (fun J hJ=>?_);go_simp;with_reducible refine hJ _ ?_;clear hJ J;walk_nrm))
 refine yek _ ?_
 clear hK hV key yek K
 have hnW2 : norm (W1.alloc (.cells #[.int .i64 0,.int .i64 0,.int .i64 0,.bool false] 67)) = (W1.alloc (.cells #[.int .i64 0,.int .i64 0,.int .i64 0,.bool false] 67)):=norm_al hnW1 _
 refine mua_put (L:=Lone) (v:=.pointer (some ⟨W1.heap.size,0,none⟩)) (mua_will hnW2) (K:=fun g=>Will Try.prog main Z Stop g W1) (K':=fun g=>Will Try.prog main Z Stop g (W1.alloc (.cells #[.int .i64 0,.int .i64 0,.int .i64 0,.bool false] 67))) rfl (.inl rfl) rfl (by kernel_rfl) (fun τ=>?_) ?_
 · go_simp
   first | exact ⟨by first | rfl | assumption | (simp only [re]; omega),rfl⟩ | rfl | (simp; done)
 have kW2 : ∀ b,b < W1.heap.size → b = b → (W1.alloc (.cells #[.int .i64 0,.int .i64 0,.int .i64 0,.bool false] 67)).heap[b]? = W1.heap[b]?:=fun b hb _=>by rw [al_get,if_neg (by omega)]
 have lW2 : W1.heap.size < (W1.alloc (.cells #[.int .i64 0,.int .i64 0,.int .i64 0,.bool false] 67)).heap.size:=by rw [al_size]; omega
 have e6 : (W1.alloc (.cells #[.int .i64 0,.int .i64 0,.int .i64 0,.bool false] 67)).heap[W1.heap.size]? = some (.cells #[.int .i64 0,.int .i64 0,.int .i64 0,.bool false] 67 (0,0)):=by rw [al_get,if_pos rfl]
 generalize (W1.alloc (.cells #[.int .i64 0,.int .i64 0,.int .i64 0,.bool false] 67)) = W2 at *
 have tW2 : W1.heap.size < W2.heap.size ∧ W1.heap.size ≤ W1.heap.size:=⟨lW2,Nat.le_refl _⟩
 generalize hbW2 : W1.heap.size = b_e6 at e6 ⊢
 have l_b_e6 : W1.heap.size ≤ b_e6 ∧ b_e6 < W2.heap.size:=by omega
 clear hbW2 tW2
 replace kp : Kp V W2:=⟨Nat.le_trans kp.size (Nat.le_of_lt lW2),fun b hb=>(kW2 b (Nat.lt_of_lt_of_le hb kp.size) (by omega)).trans (kp.keep b hb)⟩
 replace bx : W2.heap[b_bx]? = some (.cells #[.int .i64 1,.int .i64 n,.int .i64 o] 57 (0,0)):=(kW2 _ (Array.getElem?_eq_some_iff.1 bx).1 (by omega)).trans bx
 clear kW2
 walk_nrm
 have r_bx_0 : ∀ τ,(re W2 τ 0).cell? ⟨b_bx,0,none⟩ = some (.int .i64 1):=fun τ=>cell_of bx (by simp)
 have r_bx_1 : ∀ τ,(re W2 τ 0).cell? ⟨b_bx,1,none⟩ = some (.int .i64 n):=fun τ=>cell_of bx (by simp)
 have r_bx_2 : ∀ τ,(re W2 τ 0).cell? ⟨b_bx,2,none⟩ = some (.int .i64 o):=fun τ=>cell_of bx (by simp)
 obtain ⟨K,hK,hV,key,yek⟩:=kKV (L:=Lone) (J:=fun g=>Will Try.prog main Z Stop g W2) mu_will (muv_will hnW2)
 refine key _ ?_
 repeat (first|(with_reducible first|refine mu_seq hK ?_|refine mu_skip hK ?_|(refine mu_region_end hK ?_;try subst hkk)|refine mu_block hK ?_|refine mu_inBlock hK ?_|refine mu_ret hK ?_|refine mu_end hK ?_)|refine mu_exit hK rfl ?_|(with_reducible refine mu_regionH hK (fun kk hkk=>?_);simp only [List.size_toArray,List.length_cons,List.length_nil,Nat.reduceAdd,Nat.zero_add,List.range,List.range.loop])|(with_reducible refine mu_cf hK ?_ ?_;(· first|(walk_nrm;done)|(simp [Act.eval];done)))|(with_reducible refine mu_ct hK ?_ ?_;(· first|(walk_nrm;done)|(simp [Act.eval];done)))|(refine mu_unwanted hK rfl rfl ?_;walk_nrm)|(refine muv_val hV rfl (by first|exact .inl rfl|exact .inr rfl) rfl (by kernel_rfl) (fun J hJ=>?_);go_simp;with_reducible refine hJ _ ?_;clear hJ J;walk_nrm))
 refine mu_call hK rfl rfl (by decide) rfl Try.func34 (by kernel_rfl) rfl ?_
 have hnt34 : Try.f34.ntmps = 16:=rfl
 rw [hnt34]
 clear hnt34
 walk_nrm
 repeat (first|(with_reducible first|refine mu_seq hK ?_|refine mu_skip hK ?_|(refine mu_region_end hK ?_;try subst hkk)|refine mu_block hK ?_|refine mu_inBlock hK ?_|refine mu_ret hK ?_|refine mu_end hK ?_)|refine mu_exit hK rfl ?_|(with_reducible refine mu_regionH hK (fun kk hkk=>?_);simp only [List.size_toArray,List.length_cons,List.length_nil,Nat.reduceAdd,Nat.zero_add,List.range,List.range.loop])|(with_reducible refine mu_cf hK ?_ ?_;(· first|(walk_nrm;done)|(simp [Act.eval];done)))|(with_reducible refine mu_ct hK ?_ ?_;(· first|(walk_nrm;done)|(simp [Act.eval];done)))|(refine mu_unwanted hK rfl rfl ?_;walk_nrm)|(refine muv_val hV rfl (by first|exact .inl rfl|exact .inr rfl) rfl (by kernel_rfl) (fun J hJ=>?_);go_simp;with_reducible refine hJ _ ?_;clear hJ J;walk_nrm))
 refine mu_call hK rfl rfl (by decide) rfl Try.func24 (by kernel_rfl) rfl ?_
 rw [← enter_at (P:=Try.prog) _ Try.func24 rfl]
 walk_nrm
 refine yek _ ?_
 clear hK hV key yek K
 subst_vars
 refine hK0 [_,_] _ b_e6 ?_ hnW2 kp (by omega) (by omega) e6
 refine .inr (.inl ⟨rfl,_,_,?_,?_,?_,?_,?_,rfl⟩)
 all_goals first | rfl | simp [bq]
theorem do_in2 (hn : norm V = V) (K : ∀ fs V' b6,DoFr ab (2,n,o) b6 fs → norm V' = V' → Kp V V' → V.heap.size ≤ b6 → b6 < V'.heap.size → V'.heap[b6]? = some (.cells #[.int .i64 0,.int .i64 0,.int .i64 0,.bool false] 67 (0,0)) → Will Try.prog main Z Stop (G (Frame.enter Try.prog 24 #[tp] .normal) (fs ++ c :: cs)) V') :
   Will Try.prog main Z Stop (G (Frame.enter Try.prog 30 #[bq ab,tp,.agg #[.int .i64 2,.int .i64 n,.int .i64 o]] .normal) (c :: cs)) V:=by
 have kp : Kp V V:=⟨Nat.le_refl _,fun _ _=>rfl⟩
 have hK0:=K
 clear K
 simp only [bq]
 rw [enter_at (P:=Try.prog) _ Try.func30 rfl]
 simp only [Try.f30]
 walk_nrm
 obtain ⟨K,hK,hV,key,yek⟩:=kKV (L:=Lone) (J:=fun g=>Will Try.prog main Z Stop g V) mu_will (muv_will hn)
 refine key _ ?_
 repeat (first|(with_reducible first|refine mu_seq hK ?_|refine mu_skip hK ?_|(refine mu_region_end hK ?_;try subst hkk)|refine mu_block hK ?_|refine mu_inBlock hK ?_|refine mu_ret hK ?_|refine mu_end hK ?_)|refine mu_exit hK rfl ?_|(with_reducible refine mu_regionH hK (fun kk hkk=>?_);simp only [List.size_toArray,List.length_cons,List.length_nil,Nat.reduceAdd,Nat.zero_add,List.range,List.range.loop])|(with_reducible refine mu_cf hK ?_ ?_;(· first|(walk_nrm;done)|(simp [Act.eval];done)))|(with_reducible refine mu_ct hK ?_ ?_;(· first|(walk_nrm;done)|(simp [Act.eval];done)))|(refine mu_unwanted hK rfl rfl ?_;walk_nrm)|(refine muv_val hV rfl (by first|exact .inl rfl|exact .inr rfl) rfl (by kernel_rfl) (fun J hJ=>?_);go_simp;with_reducible refine hJ _ ?_;clear hJ J;walk_nrm))
 refine yek _ ?_
 clear hK hV key yek K
 have hnW1 : norm (V.alloc (.cells #[.int .i64 2,.int .i64 n,.int .i64 o] 57)) = (V.alloc (.cells #[.int .i64 2,.int .i64 n,.int .i64 o] 57)):=norm_al hn _
 refine mua_put (L:=Lone) (v:=.pointer (some ⟨V.heap.size,0,none⟩)) (mua_will hnW1) (K:=fun g=>Will Try.prog main Z Stop g V) (K':=fun g=>Will Try.prog main Z Stop g (V.alloc (.cells #[.int .i64 2,.int .i64 n,.int .i64 o] 57))) rfl (.inl rfl) rfl (by kernel_rfl) (fun τ=>?_) ?_
 · go_simp
   first | exact ⟨by first | rfl | assumption | (simp only [re]; omega),rfl⟩ | rfl | (simp; done)
 have kW1 : ∀ b,b < V.heap.size → b = b → (V.alloc (.cells #[.int .i64 2,.int .i64 n,.int .i64 o] 57)).heap[b]? = V.heap[b]?:=fun b hb _=>by rw [al_get,if_neg (by omega)]
 have lW1 : V.heap.size < (V.alloc (.cells #[.int .i64 2,.int .i64 n,.int .i64 o] 57)).heap.size:=by rw [al_size]; omega
 have bx : (V.alloc (.cells #[.int .i64 2,.int .i64 n,.int .i64 o] 57)).heap[V.heap.size]? = some (.cells #[.int .i64 2,.int .i64 n,.int .i64 o] 57 (0,0)):=by rw [al_get,if_pos rfl]
 generalize (V.alloc (.cells #[.int .i64 2,.int .i64 n,.int .i64 o] 57)) = W1 at *
 have tW1 : V.heap.size < W1.heap.size ∧ V.heap.size ≤ V.heap.size:=⟨lW1,Nat.le_refl _⟩
 generalize hbW1 : V.heap.size = b_bx at bx ⊢
 have l_b_bx : V.heap.size ≤ b_bx ∧ b_bx < W1.heap.size:=by omega
 clear hbW1 tW1
 replace kp : Kp V W1:=⟨Nat.le_trans kp.size (Nat.le_of_lt lW1),fun b hb=>(kW1 b (Nat.lt_of_lt_of_le hb kp.size) (by omega)).trans (kp.keep b hb)⟩
 clear kW1
 walk_nrm
 obtain ⟨K,hK,hV,key,yek⟩:=kKV (L:=Lone) (J:=fun g=>Will Try.prog main Z Stop g W1) mu_will (muv_will hnW1)
 refine key _ ?_
 repeat (first|(with_reducible first|refine mu_seq hK ?_|refine mu_skip hK ?_|(refine mu_region_end hK ?_;try subst hkk)|refine mu_block hK ?_|refine mu_inBlock hK ?_|refine mu_ret hK ?_|refine mu_end hK ?_)|refine mu_exit hK rfl ?_|(with_reducible refine mu_regionH hK (fun kk hkk=>?_);simp only [List.size_toArray,List.length_cons,List.length_nil,Nat.reduceAdd,Nat.zero_add,List.range,List.range.loop])|(with_reducible refine mu_cf hK ?_ ?_;(· first|(walk_nrm;done)|(simp [Act.eval];done)))|(with_reducible refine mu_ct hK ?_ ?_;(· first|(walk_nrm;done)|(simp [Act.eval];done)))|(refine mu_unwanted hK rfl rfl ?_;walk_nrm)|(refine muv_val hV rfl (by first|exact .inl rfl|exact .inr rfl) rfl (by kernel_rfl) (fun J hJ=>?_);go_simp;with_reducible refine hJ _ ?_;clear hJ J;walk_nrm))
 refine yek _ ?_
 clear hK hV key yek K
 have hnW2 : norm (W1.alloc (.cells #[.int .i64 0,.int .i64 0,.int .i64 0,.bool false] 67)) = (W1.alloc (.cells #[.int .i64 0,.int .i64 0,.int .i64 0,.bool false] 67)):=norm_al hnW1 _
 refine mua_put (L:=Lone) (v:=.pointer (some ⟨W1.heap.size,0,none⟩)) (mua_will hnW2) (K:=fun g=>Will Try.prog main Z Stop g W1) (K':=fun g=>Will Try.prog main Z Stop g (W1.alloc (.cells #[.int .i64 0,.int .i64 0,.int .i64 0,.bool false] 67))) rfl (.inl rfl) rfl (by kernel_rfl) (fun τ=>?_) ?_
 · go_simp
   first | exact ⟨by first | rfl | assumption | (simp only [re]; omega),rfl⟩ | rfl | (simp; done)
 have kW2 : ∀ b,b < W1.heap.size → b = b → (W1.alloc (.cells #[.int .i64 0,.int .i64 0,.int .i64 0,.bool false] 67)).heap[b]? = W1.heap[b]?:=fun b hb _=>by rw [al_get,if_neg (by omega)]
 have lW2 : W1.heap.size < (W1.alloc (.cells #[.int .i64 0,.int .i64 0,.int .i64 0,.bool false] 67)).heap.size:=by rw [al_size]; omega
 have e6 : (W1.alloc (.cells #[.int .i64 0,.int .i64 0,.int .i64 0,.bool false] 67)).heap[W1.heap.size]? = some (.cells #[.int .i64 0,.int .i64 0,.int .i64 0,.bool false] 67 (0,0)):=by rw [al_get,if_pos rfl]
 generalize (W1.alloc (.cells #[.int .i64 0,.int .i64 0,.int .i64 0,.bool false] 67)) = W2 at *
 have tW2 : W1.heap.size < W2.heap.size ∧ W1.heap.size ≤ W1.heap.size:=⟨lW2,Nat.le_refl _⟩
 generalize hbW2 : W1.heap.size = b_e6 at e6 ⊢
 have l_b_e6 : W1.heap.size ≤ b_e6 ∧ b_e6 < W2.heap.size:=by omega
 clear hbW2 tW2
 replace kp : Kp V W2:=⟨Nat.le_trans kp.size (Nat.le_of_lt lW2),fun b hb=>(kW2 b (Nat.lt_of_lt_of_le hb kp.size) (by omega)).trans (kp.keep b hb)⟩
 replace bx : W2.heap[b_bx]? = some (.cells #[.int .i64 2,.int .i64 n,.int .i64 o] 57 (0,0)):=(kW2 _ (Array.getElem?_eq_some_iff.1 bx).1 (by omega)).trans bx
 clear kW2
 walk_nrm
 have r_bx_0 : ∀ τ,(re W2 τ 0).cell? ⟨b_bx,0,none⟩ = some (.int .i64 2):=fun τ=>cell_of bx (by simp)
 have r_bx_1 : ∀ τ,(re W2 τ 0).cell? ⟨b_bx,1,none⟩ = some (.int .i64 n):=fun τ=>cell_of bx (by simp)
 have r_bx_2 : ∀ τ,(re W2 τ 0).cell? ⟨b_bx,2,none⟩ = some (.int .i64 o):=fun τ=>cell_of bx (by simp)
 obtain ⟨K,hK,hV,key,yek⟩:=kKV (L:=Lone) (J:=fun g=>Will Try.prog main Z Stop g W2) mu_will (muv_will hnW2)
 refine key _ ?_
 repeat (first|(with_reducible first|refine mu_seq hK ?_|refine mu_skip hK ?_|(refine mu_region_end hK ?_;try subst hkk)|refine mu_block hK ?_|refine mu_inBlock hK ?_|refine mu_ret hK ?_|refine mu_end hK ?_)|refine mu_exit hK rfl ?_|(with_reducible refine mu_regionH hK (fun kk hkk=>?_);simp only [List.size_toArray,List.length_cons,List.length_nil,Nat.reduceAdd,Nat.zero_add,List.range,List.range.loop])|(with_reducible refine mu_cf hK ?_ ?_;(· first|(walk_nrm;done)|(simp [Act.eval];done)))|(with_reducible refine mu_ct hK ?_ ?_;(· first|(walk_nrm;done)|(simp [Act.eval];done)))|(refine mu_unwanted hK rfl rfl ?_;walk_nrm)|(refine muv_val hV rfl (by first|exact .inl rfl|exact .inr rfl) rfl (by kernel_rfl) (fun J hJ=>?_);go_simp;with_reducible refine hJ _ ?_;clear hJ J;walk_nrm))
 refine mu_call hK rfl rfl (by decide) rfl Try.func40 (by kernel_rfl) rfl ?_
 have hnt40 : Try.f40.ntmps = 19:=rfl
 rw [hnt40]
 clear hnt40
 walk_nrm
 repeat (first|(with_reducible first|refine mu_seq hK ?_|refine mu_skip hK ?_|(refine mu_region_end hK ?_;try subst hkk)|refine mu_block hK ?_|refine mu_inBlock hK ?_|refine mu_ret hK ?_|refine mu_end hK ?_)|refine mu_exit hK rfl ?_|(with_reducible refine mu_regionH hK (fun kk hkk=>?_);simp only [List.size_toArray,List.length_cons,List.length_nil,Nat.reduceAdd,Nat.zero_add,List.range,List.range.loop])|(with_reducible refine mu_cf hK ?_ ?_;(· first|(walk_nrm;done)|(simp [Act.eval];done)))|(with_reducible refine mu_ct hK ?_ ?_;(· first|(walk_nrm;done)|(simp [Act.eval];done)))|(refine mu_unwanted hK rfl rfl ?_;walk_nrm)|(refine muv_val hV rfl (by first|exact .inl rfl|exact .inr rfl) rfl (by kernel_rfl) (fun J hJ=>?_);go_simp;with_reducible refine hJ _ ?_;clear hJ J;walk_nrm))
 refine mu_call hK rfl rfl (by decide) rfl Try.func24 (by kernel_rfl) rfl ?_
 rw [← enter_at (P:=Try.prog) _ Try.func24 rfl]
 walk_nrm
 refine yek _ ?_
 clear hK hV key yek K
 subst_vars
 refine hK0 [_,_] _ b_e6 ?_ hnW2 kp (by omega) (by omega) e6
 refine .inr (.inr (.inl ⟨rfl,_,_,?_,?_,?_,?_,?_,?_,rfl⟩))
 all_goals first | rfl | simp [bq]
theorem do_in3 (hn : norm V = V) (K : ∀ fs V' b6,DoFr ab (3,n,o) b6 fs → norm V' = V' → Kp V V' → V.heap.size ≤ b6 → b6 < V'.heap.size → V'.heap[b6]? = some (.cells #[.int .i64 0,.int .i64 0,.int .i64 0,.bool false] 67 (0,0)) → Will Try.prog main Z Stop (G (Frame.enter Try.prog 24 #[tp] .normal) (fs ++ c :: cs)) V') :
   Will Try.prog main Z Stop (G (Frame.enter Try.prog 30 #[bq ab,tp,.agg #[.int .i64 3,.int .i64 n,.int .i64 o]] .normal) (c :: cs)) V:=by
 have kp : Kp V V:=⟨Nat.le_refl _,fun _ _=>rfl⟩
 have hK0:=K
 clear K
 simp only [bq]
 rw [enter_at (P:=Try.prog) _ Try.func30 rfl]
 simp only [Try.f30]
 walk_nrm
 obtain ⟨K,hK,hV,key,yek⟩:=kKV (L:=Lone) (J:=fun g=>Will Try.prog main Z Stop g V) mu_will (muv_will hn)
 refine key _ ?_
 repeat (first|(with_reducible first|refine mu_seq hK ?_|refine mu_skip hK ?_|(refine mu_region_end hK ?_;try subst hkk)|refine mu_block hK ?_|refine mu_inBlock hK ?_|refine mu_ret hK ?_|refine mu_end hK ?_)|refine mu_exit hK rfl ?_|(with_reducible refine mu_regionH hK (fun kk hkk=>?_);simp only [List.size_toArray,List.length_cons,List.length_nil,Nat.reduceAdd,Nat.zero_add,List.range,List.range.loop])|(with_reducible refine mu_cf hK ?_ ?_;(· first|(walk_nrm;done)|(simp [Act.eval];done)))|(with_reducible refine mu_ct hK ?_ ?_;(· first|(walk_nrm;done)|(simp [Act.eval];done)))|(refine mu_unwanted hK rfl rfl ?_;walk_nrm)|(refine muv_val hV rfl (by first|exact .inl rfl|exact .inr rfl) rfl (by kernel_rfl) (fun J hJ=>?_);go_simp;with_reducible refine hJ _ ?_;clear hJ J;walk_nrm))
 refine yek _ ?_
 clear hK hV key yek K
 have hnW1 : norm (V.alloc (.cells #[.int .i64 3,.int .i64 n,.int .i64 o] 57)) = (V.alloc (.cells #[.int .i64 3,.int .i64 n,.int .i64 o] 57)):=norm_al hn _
 refine mua_put (L:=Lone) (v:=.pointer (some ⟨V.heap.size,0,none⟩)) (mua_will hnW1) (K:=fun g=>Will Try.prog main Z Stop g V) (K':=fun g=>Will Try.prog main Z Stop g (V.alloc (.cells #[.int .i64 3,.int .i64 n,.int .i64 o] 57))) rfl (.inl rfl) rfl (by kernel_rfl) (fun τ=>?_) ?_
 · go_simp
   first | exact ⟨by first | rfl | assumption | (simp only [re]; omega),rfl⟩ | rfl | (simp; done)
 have kW1 : ∀ b,b < V.heap.size → b = b → (V.alloc (.cells #[.int .i64 3,.int .i64 n,.int .i64 o] 57)).heap[b]? = V.heap[b]?:=fun b hb _=>by rw [al_get,if_neg (by omega)]
 have lW1 : V.heap.size < (V.alloc (.cells #[.int .i64 3,.int .i64 n,.int .i64 o] 57)).heap.size:=by rw [al_size]; omega
 have bx : (V.alloc (.cells #[.int .i64 3,.int .i64 n,.int .i64 o] 57)).heap[V.heap.size]? = some (.cells #[.int .i64 3,.int .i64 n,.int .i64 o] 57 (0,0)):=by rw [al_get,if_pos rfl]
 generalize (V.alloc (.cells #[.int .i64 3,.int .i64 n,.int .i64 o] 57)) = W1 at *
 have tW1 : V.heap.size < W1.heap.size ∧ V.heap.size ≤ V.heap.size:=⟨lW1,Nat.le_refl _⟩
 generalize hbW1 : V.heap.size = b_bx at bx ⊢
 have l_b_bx : V.heap.size ≤ b_bx ∧ b_bx < W1.heap.size:=by omega
 clear hbW1 tW1
 replace kp : Kp V W1:=⟨Nat.le_trans kp.size (Nat.le_of_lt lW1),fun b hb=>(kW1 b (Nat.lt_of_lt_of_le hb kp.size) (by omega)).trans (kp.keep b hb)⟩
 clear kW1
 walk_nrm
 obtain ⟨K,hK,hV,key,yek⟩:=kKV (L:=Lone) (J:=fun g=>Will Try.prog main Z Stop g W1) mu_will (muv_will hnW1)
 refine key _ ?_
 repeat (first|(with_reducible first|refine mu_seq hK ?_|refine mu_skip hK ?_|(refine mu_region_end hK ?_;try subst hkk)|refine mu_block hK ?_|refine mu_inBlock hK ?_|refine mu_ret hK ?_|refine mu_end hK ?_)|refine mu_exit hK rfl ?_|(with_reducible refine mu_regionH hK (fun kk hkk=>?_);simp only [List.size_toArray,List.length_cons,List.length_nil,Nat.reduceAdd,Nat.zero_add,List.range,List.range.loop])|(with_reducible refine mu_cf hK ?_ ?_;(· first|(walk_nrm;done)|(simp [Act.eval];done)))|(with_reducible refine mu_ct hK ?_ ?_;(· first|(walk_nrm;done)|(simp [Act.eval];done)))|(refine mu_unwanted hK rfl rfl ?_;walk_nrm)|(refine muv_val hV rfl (by first|exact .inl rfl|exact .inr rfl) rfl (by kernel_rfl) (fun J hJ=>?_);go_simp;with_reducible refine hJ _ ?_;clear hJ J;walk_nrm))
 refine yek _ ?_
 clear hK hV key yek K
 have hnW2 : norm (W1.alloc (.cells #[.int .i64 0,.int .i64 0,.int .i64 0,.bool false] 67)) = (W1.alloc (.cells #[.int .i64 0,.int .i64 0,.int .i64 0,.bool false] 67)):=norm_al hnW1 _
 refine mua_put (L:=Lone) (v:=.pointer (some ⟨W1.heap.size,0,none⟩)) (mua_will hnW2) (K:=fun g=>Will Try.prog main Z Stop g W1) (K':=fun g=>Will Try.prog main Z Stop g (W1.alloc (.cells #[.int .i64 0,.int .i64 0,.int .i64 0,.bool false] 67))) rfl (.inl rfl) rfl (by kernel_rfl) (fun τ=>?_) ?_
 · go_simp
   first | exact ⟨by first | rfl | assumption | (simp only [re]; omega),rfl⟩ | rfl | (simp; done)
 have kW2 : ∀ b,b < W1.heap.size → b = b → (W1.alloc (.cells #[.int .i64 0,.int .i64 0,.int .i64 0,.bool false] 67)).heap[b]? = W1.heap[b]?:=fun b hb _=>by rw [al_get,if_neg (by omega)]
 have lW2 : W1.heap.size < (W1.alloc (.cells #[.int .i64 0,.int .i64 0,.int .i64 0,.bool false] 67)).heap.size:=by rw [al_size]; omega
 have e6 : (W1.alloc (.cells #[.int .i64 0,.int .i64 0,.int .i64 0,.bool false] 67)).heap[W1.heap.size]? = some (.cells #[.int .i64 0,.int .i64 0,.int .i64 0,.bool false] 67 (0,0)):=by rw [al_get,if_pos rfl]
 generalize (W1.alloc (.cells #[.int .i64 0,.int .i64 0,.int .i64 0,.bool false] 67)) = W2 at *
 have tW2 : W1.heap.size < W2.heap.size ∧ W1.heap.size ≤ W1.heap.size:=⟨lW2,Nat.le_refl _⟩
 generalize hbW2 : W1.heap.size = b_e6 at e6 ⊢
 have l_b_e6 : W1.heap.size ≤ b_e6 ∧ b_e6 < W2.heap.size:=by omega
 clear hbW2 tW2
 replace kp : Kp V W2:=⟨Nat.le_trans kp.size (Nat.le_of_lt lW2),fun b hb=>(kW2 b (Nat.lt_of_lt_of_le hb kp.size) (by omega)).trans (kp.keep b hb)⟩
 replace bx : W2.heap[b_bx]? = some (.cells #[.int .i64 3,.int .i64 n,.int .i64 o] 57 (0,0)):=(kW2 _ (Array.getElem?_eq_some_iff.1 bx).1 (by omega)).trans bx
 clear kW2
 walk_nrm
 have r_bx_0 : ∀ τ,(re W2 τ 0).cell? ⟨b_bx,0,none⟩ = some (.int .i64 3):=fun τ=>cell_of bx (by simp)
 have r_bx_1 : ∀ τ,(re W2 τ 0).cell? ⟨b_bx,1,none⟩ = some (.int .i64 n):=fun τ=>cell_of bx (by simp)
 have r_bx_2 : ∀ τ,(re W2 τ 0).cell? ⟨b_bx,2,none⟩ = some (.int .i64 o):=fun τ=>cell_of bx (by simp)
 obtain ⟨K,hK,hV,key,yek⟩:=kKV (L:=Lone) (J:=fun g=>Will Try.prog main Z Stop g W2) mu_will (muv_will hnW2)
 refine key _ ?_
 repeat (first|(with_reducible first|refine mu_seq hK ?_|refine mu_skip hK ?_|(refine mu_region_end hK ?_;try subst hkk)|refine mu_block hK ?_|refine mu_inBlock hK ?_|refine mu_ret hK ?_|refine mu_end hK ?_)|refine mu_exit hK rfl ?_|(with_reducible refine mu_regionH hK (fun kk hkk=>?_);simp only [List.size_toArray,List.length_cons,List.length_nil,Nat.reduceAdd,Nat.zero_add,List.range,List.range.loop])|(with_reducible refine mu_cf hK ?_ ?_;(· first|(walk_nrm;done)|(simp [Act.eval];done)))|(with_reducible refine mu_ct hK ?_ ?_;(· first|(walk_nrm;done)|(simp [Act.eval];done)))|(refine mu_unwanted hK rfl rfl ?_;walk_nrm)|(refine muv_val hV rfl (by first|exact .inl rfl|exact .inr rfl) rfl (by kernel_rfl) (fun J hJ=>?_);go_simp;with_reducible refine hJ _ ?_;clear hJ J;walk_nrm))
 refine mu_call hK rfl rfl (by decide) rfl Try.func24 (by kernel_rfl) rfl ?_
 rw [← enter_at (P:=Try.prog) _ Try.func24 rfl]
 walk_nrm
 refine yek _ ?_
 clear hK hV key yek K
 subst_vars
 refine hK0 [_] _ b_e6 ?_ hnW2 kp (by omega) (by omega) e6
 refine .inr (.inr (.inr ⟨rfl,_,?_,?_,rfl⟩))
 all_goals first | rfl | simp [bq]
theorem do_in (hn : norm V = V) {x : Int × Int × Int} (hx : x.1 = 0 ∨ x.1 = 1 ∨ x.1 = 2 ∨ x.1 = 3) (K : ∀ fs V' b6,DoFr ab x b6 fs → norm V' = V' → Kp V V' → V.heap.size ≤ b6 → b6 < V'.heap.size → V'.heap[b6]? = some (.cells #[.int .i64 0,.int .i64 0,.int .i64 0,.bool false] 67 (0,0)) → Will Try.prog main Z Stop (G (Frame.enter Try.prog 24 #[tp] .normal) (fs ++ c :: cs)) V') :
   Will Try.prog main Z Stop (G (Frame.enter Try.prog 30 #[bq ab,tp,.agg #[.int .i64 x.1,.int .i64 x.2.1,.int .i64 x.2.2]] .normal) (c :: cs)) V:=by
 obtain ⟨d,n,o⟩:=x
 rcases hx with h | h | h | h
 · obtain rfl : d = 0:=h
   exact do_in0 hn K
 · obtain rfl : d = 1:=h
   exact do_in1 hn K
 · obtain rfl : d = 2:=h
   exact do_in2 hn K
 · obtain rfl : d = 3:=h
   exact do_in3 hn K
end
end Go.Proofs.Ytibcdikfbhmheaa
