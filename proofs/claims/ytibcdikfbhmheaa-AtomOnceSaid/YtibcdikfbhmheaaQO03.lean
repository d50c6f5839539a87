import Derived.Test.YtibcdikfbhmheaaQO02
import Derived.Test.YtibcdikfbhmheaaB17
import Derived.Test.YtibcdikfbhmheaaB16
import Derived.Test.YtibcdikfbhmheaaQO01
set_option linter.unusedSimpArgs false
set_option linter.unusedVariables false
set_option maxRecDepth 100000
set_option maxHeartbeats 4000000
namespace Go.Proofs.Ytibcdikfbhmheaa
open Go Go.Conc Go.Proofs
open Go.ConcN (sumTo upd sumTo_upd upd_ne upd_same)
set_option linter.unusedVariables false
section
variable {main : Bool} {Z : Cuts} {KK : Nat → Goroutine → World → Prop} {d : Nat} {V : World} {b₀ fr : Frame} {a₀ : Act} {ops₀ : Array Oper} {i₀ : Nat} {rest₀ : List Nat} {k₀ kt : List Item} {cs0 cs : List Frame} {ob cb : Nat}
theorem o36f (hM : MarkK Try.prog main Z KK) (hn : norm V = V) (B_o : V.heap[ob]? = some (.cells #[.int .u32 0,.int .i32 0,.int .u32 0,.int .u32 0] 86 (0,0))) {m : Int} (B_c : V.heap[cb]? = some (.cells #[.int .i64 m] 3 (0,0))) (hcn : cb ≠ ob)
   (h : ∀ V2,norm V2 = V2 → V.heap.size ≤ V2.heap.size → V2.heap[ob]? = some (.cells #[.int .u32 1,.int .i32 0,.int .u32 0,.int .u32 1] 86 (0,0)) → V2.heap[cb]? = some (.cells #[.int .i64 (IntKind.i64.wrap (m + 1))] 3 (0,0)) → (∀ b,b < V.heap.size → b ≠ ob → b ≠ cb → V2.heap[b]? = V.heap[b]?) → KK d (G (b₀.at (a₀.put ((ops₀[i₀]?).bind (·.dst)) (.bool true)) (.inRegion ops₀ rest₀ :: k₀)) cs0) V2) :
   KK d (G (Frame.enter Try.prog 36 #[.pointer (some ⟨ob,0,none⟩),.func (.func 37) #[] #[.pointer (some ⟨cb,0,none⟩)]] .normal) (b₀.at a₀ (.inRegion ops₀ (i₀ :: rest₀) :: k₀) :: cs0)) V:=by
 have l_o:=(Array.getElem?_eq_some_iff.1 B_o).1
 have l_c:=(Array.getElem?_eq_some_iff.1 B_c).1
 have kp : Kp V V:=⟨Nat.le_refl _,fun _ _=>rfl⟩
 rw [enter_at (P:=Try.prog) _ Try.func36 rfl]
 simp only [Try.f36]
 walk_nrm
 obtain ⟨K,hK,hV,key,yek⟩:=kKV (L:=Lone) (J:=fun g=>KK d g V) hM.mu (hM.muv hn)
 refine key _ ?_
 repeat (first|(with_reducible first|refine mu_seq hK ?_|refine mu_skip hK ?_|(refine mu_region_end hK ?_;try subst hkk)|refine mu_block hK ?_|refine mu_inBlock hK ?_|refine mu_ret hK ?_|refine mu_end hK ?_)|refine mu_exit hK rfl ?_|(with_reducible refine mu_regionH hK (fun kk hkk=>?_);simp only [List.size_toArray,List.length_cons,List.length_nil,Nat.reduceAdd,Nat.zero_add,List.range,List.range.loop])|(with_reducible refine mu_cf hK ?_ ?_;(· first|(walk_nrm;done)|(simp [Act.eval];done)))|(with_reducible refine mu_ct hK ?_ ?_;(· first|(walk_nrm;done)|(simp [Act.eval];done)))|(refine mu_unwanted hK rfl rfl ?_;walk_nrm)|(refine muv_val hV rfl (by first|exact .inl rfl|exact .inr rfl) rfl (by kernel_rfl) (fun J hJ=>?_);go_simp;with_reducible refine hJ _ ?_;clear hJ J;walk_nrm))
 refine yek _ ?_
 clear hK hV key yek K
 have hnW1 : norm (V.alloc (.cells #[.pointer (some ⟨ob,0,none⟩)] 88)) = (V.alloc (.cells #[.pointer (some ⟨ob,0,none⟩)] 88)):=norm_al hn _
 refine mua_put (L:=Lone) (v:=.pointer (some ⟨V.heap.size,0,none⟩)) (hM.mua hnW1) (K:=fun g=>KK d g V) (K':=fun g=>KK d g (V.alloc (.cells #[.pointer (some ⟨ob,0,none⟩)] 88))) rfl (.inl rfl) rfl (by kernel_rfl) (fun τ=>?_) ?_
 · go_simp
   first | exact ⟨by first | rfl | assumption | (simp only [re]; omega),rfl⟩ | rfl | (simp; done)
 have kW1 : ∀ b,b < V.heap.size → b = b → (V.alloc (.cells #[.pointer (some ⟨ob,0,none⟩)] 88)).heap[b]? = V.heap[b]?:=fun b hb _=>by rw [al_get,if_neg (by omega)]
 have lW1 : V.heap.size < (V.alloc (.cells #[.pointer (some ⟨ob,0,none⟩)] 88)).heap.size:=by rw [al_size]; omega
 have Bp : (V.alloc (.cells #[.pointer (some ⟨ob,0,none⟩)] 88)).heap[V.heap.size]? = some (.cells #[.pointer (some ⟨ob,0,none⟩)] 88 (0,0)):=by rw [al_get,if_pos rfl]
 generalize (V.alloc (.cells #[.pointer (some ⟨ob,0,none⟩)] 88)) = W1 at *
 have tW1 : V.heap.size < W1.heap.size ∧ V.heap.size ≤ V.heap.size:=⟨lW1,Nat.le_refl _⟩
 generalize hbW1 : V.heap.size = b_Bp at Bp ⊢
 have l_b_Bp : V.heap.size ≤ b_Bp ∧ b_Bp < W1.heap.size:=by omega
 clear hbW1 tW1
 replace B_o : W1.heap[ob]? = some (.cells #[.int .u32 0,.int .i32 0,.int .u32 0,.int .u32 0] 86 (0,0)):=(kW1 _ (Array.getElem?_eq_some_iff.1 B_o).1 (by omega)).trans B_o
 replace B_c : W1.heap[cb]? = some (.cells #[.int .i64 m] 3 (0,0)):=(kW1 _ (Array.getElem?_eq_some_iff.1 B_c).1 (by omega)).trans B_c
 replace kp : Kp V W1:=⟨Nat.le_trans kp.size (Nat.le_of_lt lW1),fun b hb=>(kW1 b (Nat.lt_of_lt_of_le hb kp.size) (by omega)).trans (kp.keep b hb)⟩
 clear kW1
 walk_nrm
 obtain ⟨K,hK,hV,key,yek⟩:=kKV (L:=Lone) (J:=fun g=>KK d g W1) hM.mu (hM.muv hnW1)
 refine key _ ?_
 repeat (first|(with_reducible first|refine mu_seq hK ?_|refine mu_skip hK ?_|(refine mu_region_end hK ?_;try subst hkk)|refine mu_block hK ?_|refine mu_inBlock hK ?_|refine mu_ret hK ?_|refine mu_end hK ?_)|refine mu_exit hK rfl ?_|(with_reducible refine mu_regionH hK (fun kk hkk=>?_);simp only [List.size_toArray,List.length_cons,List.length_nil,Nat.reduceAdd,Nat.zero_add,List.range,List.range.loop])|(with_reducible refine mu_cf hK ?_ ?_;(· first|(walk_nrm;done)|(simp [Act.eval];done)))|(with_reducible refine mu_ct hK ?_ ?_;(· first|(walk_nrm;done)|(simp [Act.eval];done)))|(refine mu_unwanted hK rfl rfl ?_;walk_nrm)|(refine muv_val hV rfl (by first|exact .inl rfl|exact .inr rfl) rfl (by kernel_rfl) (fun J hJ=>?_);go_simp;with_reducible refine hJ _ ?_;clear hJ J;walk_nrm))
 refine yek _ ?_
 clear hK hV key yek K
 have hnW2 : norm (W1.alloc (.cells #[.func (.func 37) #[] #[.pointer (some ⟨cb,0,none⟩)]] 1)) = (W1.alloc (.cells #[.func (.func 37) #[] #[.pointer (some ⟨cb,0,none⟩)]] 1)):=norm_al hnW1 _
 refine mua_put (L:=Lone) (v:=.pointer (some ⟨W1.heap.size,0,none⟩)) (hM.mua hnW2) (K:=fun g=>KK d g W1) (K':=fun g=>KK d g (W1.alloc (.cells #[.func (.func 37) #[] #[.pointer (some ⟨cb,0,none⟩)]] 1))) rfl (.inl rfl) rfl (by kernel_rfl) (fun τ=>?_) ?_
 · go_simp
   first | exact ⟨by first | rfl | assumption | (simp only [re]; omega),rfl⟩ | rfl | (simp; done)
 have kW2 : ∀ b,b < W1.heap.size → b = b → (W1.alloc (.cells #[.func (.func 37) #[] #[.pointer (some ⟨cb,0,none⟩)]] 1)).heap[b]? = W1.heap[b]?:=fun b hb _=>by rw [al_get,if_neg (by omega)]
 have lW2 : W1.heap.size < (W1.alloc (.cells #[.func (.func 37) #[] #[.pointer (some ⟨cb,0,none⟩)]] 1)).heap.size:=by rw [al_size]; omega
 have Bf : (W1.alloc (.cells #[.func (.func 37) #[] #[.pointer (some ⟨cb,0,none⟩)]] 1)).heap[W1.heap.size]? = some (.cells #[.func (.func 37) #[] #[.pointer (some ⟨cb,0,none⟩)]] 1 (0,0)):=by rw [al_get,if_pos rfl]
 generalize (W1.alloc (.cells #[.func (.func 37) #[] #[.pointer (some ⟨cb,0,none⟩)]] 1)) = W2 at *
 have tW2 : W1.heap.size < W2.heap.size ∧ W1.heap.size ≤ W1.heap.size:=⟨lW2,Nat.le_refl _⟩
 generalize hbW2 : W1.heap.size = b_Bf at Bf ⊢
 have l_b_Bf : W1.heap.size ≤ b_Bf ∧ b_Bf < W2.heap.size:=by omega
 clear hbW2 tW2
 replace B_o : W2.heap[ob]? = some (.cells #[.int .u32 0,.int .i32 0,.int .u32 0,.int .u32 0] 86 (0,0)):=(kW2 _ (Array.getElem?_eq_some_iff.1 B_o).1 (by omega)).trans B_o
 replace B_c : W2.heap[cb]? = some (.cells #[.int .i64 m] 3 (0,0)):=(kW2 _ (Array.getElem?_eq_some_iff.1 B_c).1 (by omega)).trans B_c
 replace kp : Kp V W2:=⟨Nat.le_trans kp.size (Nat.le_of_lt lW2),fun b hb=>(kW2 b (Nat.lt_of_lt_of_le hb kp.size) (by omega)).trans (kp.keep b hb)⟩
 replace Bp : W2.heap[b_Bp]? = some (.cells #[.pointer (some ⟨ob,0,none⟩)] 88 (0,0)):=(kW2 _ (Array.getElem?_eq_some_iff.1 Bp).1 (by omega)).trans Bp
 clear kW2
 walk_nrm
 obtain ⟨K,hK,hV,key,yek⟩:=kKV (L:=Lone) (J:=fun g=>KK d g W2) hM.mu (hM.muv hnW2)
 refine key _ ?_
 repeat (first|(with_reducible first|refine mu_seq hK ?_|refine mu_skip hK ?_|(refine mu_region_end hK ?_;try subst hkk)|refine mu_block hK ?_|refine mu_inBlock hK ?_|refine mu_ret hK ?_|refine mu_end hK ?_)|refine mu_exit hK rfl ?_|(with_reducible refine mu_regionH hK (fun kk hkk=>?_);simp only [List.size_toArray,List.length_cons,List.length_nil,Nat.reduceAdd,Nat.zero_add,List.range,List.range.loop])|(with_reducible refine mu_cf hK ?_ ?_;(· first|(walk_nrm;done)|(simp [Act.eval];done)))|(with_reducible refine mu_ct hK ?_ ?_;(· first|(walk_nrm;done)|(simp [Act.eval];done)))|(refine mu_unwanted hK rfl rfl ?_;walk_nrm)|(refine muv_val hV rfl (by first|exact .inl rfl|exact .inr rfl) rfl (by kernel_rfl) (fun J hJ=>?_);go_simp;with_reducible refine hJ _ ?_;clear hJ J;walk_nrm))
 refine yek _ ?_
 clear hK hV key yek K
 have hnW3 : norm (W2.alloc (.cells #[.bool false] 4)) = (W2.alloc (.cells #[.bool false] 4)):=norm_al hnW2 _
 refine mua_put (L:=Lone) (v:=.pointer (some ⟨W2.heap.size,0,none⟩)) (hM.mua hnW3) (K:=fun g=>KK d g W2) (K':=fun g=>KK d g (W2.alloc (.cells #[.bool false] 4))) rfl (.inl rfl) rfl (by kernel_rfl) (fun τ=>?_) ?_
 · go_simp
   first | exact ⟨by first | rfl | assumption | (simp only [re]; omega),rfl⟩ | rfl | (simp; done)
 have kW3 : ∀ b,b < W2.heap.size → b = b → (W2.alloc (.cells #[.bool false] 4)).heap[b]? = W2.heap[b]?:=fun b hb _=>by rw [al_get,if_neg (by omega)]
 have lW3 : W2.heap.size < (W2.alloc (.cells #[.bool false] 4)).heap.size:=by rw [al_size]; omega
 have Bn : (W2.alloc (.cells #[.bool false] 4)).heap[W2.heap.size]? = some (.cells #[.bool false] 4 (0,0)):=by rw [al_get,if_pos rfl]
 generalize (W2.alloc (.cells #[.bool false] 4)) = W3 at *
 have tW3 : W2.heap.size < W3.heap.size ∧ W2.heap.size ≤ W2.heap.size:=⟨lW3,Nat.le_refl _⟩
 generalize hbW3 : W2.heap.size = b_Bn at Bn ⊢
 have l_b_Bn : W2.heap.size ≤ b_Bn ∧ b_Bn < W3.heap.size:=by omega
 clear hbW3 tW3
 replace B_o : W3.heap[ob]? = some (.cells #[.int .u32 0,.int .i32 0,.int .u32 0,.int .u32 0] 86 (0,0)):=(kW3 _ (Array.getElem?_eq_some_iff.1 B_o).1 (by omega)).trans B_o
 replace B_c : W3.heap[cb]? = some (.cells #[.int .i64 m] 3 (0,0)):=(kW3 _ (Array.getElem?_eq_some_iff.1 B_c).1 (by omega)).trans B_c
 replace kp : Kp V W3:=⟨Nat.le_trans kp.size (Nat.le_of_lt lW3),fun b hb=>(kW3 b (Nat.lt_of_lt_of_le hb kp.size) (by omega)).trans (kp.keep b hb)⟩
 replace Bp : W3.heap[b_Bp]? = some (.cells #[.pointer (some ⟨ob,0,none⟩)] 88 (0,0)):=(kW3 _ (Array.getElem?_eq_some_iff.1 Bp).1 (by omega)).trans Bp
 replace Bf : W3.heap[b_Bf]? = some (.cells #[.func (.func 37) #[] #[.pointer (some ⟨cb,0,none⟩)]] 1 (0,0)):=(kW3 _ (Array.getElem?_eq_some_iff.1 Bf).1 (by omega)).trans Bf
 clear kW3
 walk_nrm
 have r_Bn_0 : ∀ τ,(re W3 τ 0).cell? ⟨b_Bn,0,none⟩ = some (.bool false):=fun τ=>cell_of Bn (by simp)
 have z_Bn_0 : ∀ τ,(re W3 τ 0).frozen? ⟨b_Bn,0,none⟩ = false:=fun τ=>by simp [World.frozen?,re,Bn]
 obtain ⟨K,hK,hV,key,yek⟩:=kKV (L:=Lone) (J:=fun g=>KK d g W3) hM.mu (hM.muv hnW3)
 refine key _ ?_
 repeat (first|(with_reducible first|refine mu_seq hK ?_|refine mu_skip hK ?_|(refine mu_region_end hK ?_;try subst hkk)|refine mu_block hK ?_|refine mu_inBlock hK ?_|refine mu_ret hK ?_|refine mu_end hK ?_)|refine mu_exit hK rfl ?_|(with_reducible refine mu_regionH hK (fun kk hkk=>?_);simp only [List.size_toArray,List.length_cons,List.length_nil,Nat.reduceAdd,Nat.zero_add,List.range,List.range.loop])|(with_reducible refine mu_cf hK ?_ ?_;(· first|(walk_nrm;done)|(simp [Act.eval];done)))|(with_reducible refine mu_ct hK ?_ ?_;(· first|(walk_nrm;done)|(simp [Act.eval];done)))|(refine mu_unwanted hK rfl rfl ?_;walk_nrm)|(refine muv_val hV rfl (by first|exact .inl rfl|exact .inr rfl) rfl (by kernel_rfl) (fun J hJ=>?_);go_simp;with_reducible refine hJ _ ?_;clear hJ J;walk_nrm))
 refine yek _ ?_
 clear hK hV key yek K
 have hnW4 : norm (W3.setCell ⟨b_Bn,0,none⟩ (.bool false)) = (W3.setCell ⟨b_Bn,0,none⟩ (.bool false)):=(norm_set hnW3 _ _)
 refine mus_put (L:=Lone) (hM.mus hnW4) (K:=fun g=>KK d g W3) (K':=fun g=>KK d g (W3.setCell ⟨b_Bn,0,none⟩ (.bool false))) rfl (.inl rfl) rfl (by kernel_rfl) (fun τ=>?_) ?_
 · go_simp
   try rfl
 have kW4 : ∀ b,b < W3.heap.size → b ≠ b_Bn → (W3.setCell ⟨b_Bn,0,none⟩ (.bool false)).heap[b]? = W3.heap[b]?:=fun b _ hb=>by rw [setCell_heap,if_neg hb]
 have lW4 : W3.heap.size ≤ (W3.setCell ⟨b_Bn,0,none⟩ (.bool false)).heap.size:=by simp [World.setCell]
 have eW4 : (W3.setCell ⟨b_Bn,0,none⟩ (.bool false)).heap[b_Bn]? = some (.cells #[.bool false] 4 (0,0)):=by
   rw [setCell_heap,if_pos rfl,Bn]
   simp
 generalize (W3.setCell ⟨b_Bn,0,none⟩ (.bool false)) = W4 at *
 replace Bn:=eW4
 clear eW4
 clear r_Bn_0 z_Bn_0
 replace B_o : W4.heap[ob]? = some (.cells #[.int .u32 0,.int .i32 0,.int .u32 0,.int .u32 0] 86 (0,0)):=(kW4 _ (Array.getElem?_eq_some_iff.1 B_o).1 (by omega)).trans B_o
 replace B_c : W4.heap[cb]? = some (.cells #[.int .i64 m] 3 (0,0)):=(kW4 _ (Array.getElem?_eq_some_iff.1 B_c).1 (by omega)).trans B_c
 replace kp : Kp V W4:=⟨Nat.le_trans kp.size lW4,fun b hb=>(kW4 b (Nat.lt_of_lt_of_le hb kp.size) (by omega)).trans (kp.keep b hb)⟩
 replace Bp : W4.heap[b_Bp]? = some (.cells #[.pointer (some ⟨ob,0,none⟩)] 88 (0,0)):=(kW4 _ (Array.getElem?_eq_some_iff.1 Bp).1 (by omega)).trans Bp
 replace Bf : W4.heap[b_Bf]? = some (.cells #[.func (.func 37) #[] #[.pointer (some ⟨cb,0,none⟩)]] 1 (0,0)):=(kW4 _ (Array.getElem?_eq_some_iff.1 Bf).1 (by omega)).trans Bf
 clear kW4
 walk_nrm
 have r_Bp_0 : ∀ τ,(re W4 τ 0).cell? ⟨b_Bp,0,none⟩ = some (.pointer (some ⟨ob,0,none⟩)):=fun τ=>cell_of Bp (by simp)
 obtain ⟨K,hK,hV,key,yek⟩:=kKV (L:=Lone) (J:=fun g=>KK d g W4) hM.mu (hM.muv hnW4)
 refine key _ ?_
 repeat (first|(with_reducible first|refine mu_seq hK ?_|refine mu_skip hK ?_|(refine mu_region_end hK ?_;try subst hkk)|refine mu_block hK ?_|refine mu_inBlock hK ?_|refine mu_ret hK ?_|refine mu_end hK ?_)|refine mu_exit hK rfl ?_|(with_reducible refine mu_regionH hK (fun kk hkk=>?_);simp only [List.size_toArray,List.length_cons,List.length_nil,Nat.reduceAdd,Nat.zero_add,List.range,List.range.loop])|(with_reducible refine mu_cf hK ?_ ?_;(· first|(walk_nrm;done)|(simp [Act.eval];done)))|(with_reducible refine mu_ct hK ?_ ?_;(· first|(walk_nrm;done)|(simp [Act.eval];done)))|(refine mu_unwanted hK rfl rfl ?_;walk_nrm)|(refine muv_val hV rfl (by first|exact .inl rfl|exact .inr rfl) rfl (by kernel_rfl) (fun J hJ=>?_);go_simp;with_reducible refine hJ _ ?_;clear hJ J;walk_nrm))
 refine mu_call hK rfl rfl (by decide) rfl Try.func84 (by kernel_rfl) rfl ?_
 rw [← enter_at (P:=Try.prog) _ Try.func84 rfl]
 walk_nrm
 refine yek _ ?_
 clear hK hV key yek K
 refine o84f hM hnW4 ⟨B_o,Bn,Bp,Bf,by omega,by omega,by omega,by omega,by omega,by omega⟩ B_c ⟨by omega,by omega,by omega,by omega⟩ fun V2 hn2 s2 B2 hc2 kk2=>?_
 have r_n : ∀ τ,(re V2 τ 0).cell? ⟨b_Bn,0,none⟩ = some (.bool true):=fun τ=>cell_of B2.n (by simp)
 walk_nrm
 obtain ⟨K,hK,hV,key,yek⟩:=kKV (L:=Lone) (J:=fun g=>KK d g V2) hM.mu (hM.muv hn2)
 refine key _ ?_
 repeat (first|(with_reducible first|refine mu_seq hK ?_|refine mu_skip hK ?_|(refine mu_region_end hK ?_;try subst hkk)|refine mu_block hK ?_|refine mu_inBlock hK ?_|refine mu_ret hK ?_|refine mu_end hK ?_)|refine mu_exit hK rfl ?_|(with_reducible refine mu_regionH hK (fun kk hkk=>?_);simp only [List.size_toArray,List.length_cons,List.length_nil,Nat.reduceAdd,Nat.zero_add,List.range,List.range.loop])|(with_reducible refine mu_cf hK ?_ ?_;(· first|(walk_nrm;done)|(simp [Act.eval];done)))|(with_reducible refine mu_ct hK ?_ ?_;(· first|(walk_nrm;done)|(simp [Act.eval];done)))|(refine mu_unwanted hK rfl rfl ?_;walk_nrm)|(refine muv_val hV rfl (by first|exact .inl rfl|exact .inr rfl) rfl (by kernel_rfl) (fun J hJ=>?_);go_simp;with_reducible refine hJ _ ?_;clear hJ J;walk_nrm))
 refine yek _ ?_
 clear hK hV key yek K
 refine mu_leave1 (K:=fun g=>KK d g V2) hM.mu rfl rfl Try.func36 rfl ?_
 exact h V2 hn2 (by have:=kp.size; omega) B2.o hc2 fun b hb h1 h2=>(kk2 b h1 (by omega) h2).trans (kp.keep b hb)
theorem o36n (hM : MarkK Try.prog main Z KK) (hn : norm V = V) (B_o : V.heap[ob]? = some (.cells #[.int .u32 0,.int .i32 0,.int .u32 0,.int .u32 0] 86 (0,0)))
   (h : ∀ V2,norm V2 = V2 → V.heap.size ≤ V2.heap.size → V2.heap[ob]? = some (.cells #[.int .u32 1,.int .i32 0,.int .u32 0,.int .u32 1] 86 (0,0)) → (∀ b,b < V.heap.size → b ≠ ob → V2.heap[b]? = V.heap[b]?) → KK d (G (b₀.at (a₀.put ((ops₀[i₀]?).bind (·.dst)) (.bool true)) (.inRegion ops₀ rest₀ :: k₀)) cs0) V2) :
   KK d (G (Frame.enter Try.prog 36 #[.pointer (some ⟨ob,0,none⟩),.nilFunc] .normal) (b₀.at a₀ (.inRegion ops₀ (i₀ :: rest₀) :: k₀) :: cs0)) V:=by
 have l_o:=(Array.getElem?_eq_some_iff.1 B_o).1
 have kp : Kp V V:=⟨Nat.le_refl _,fun _ _=>rfl⟩
 rw [enter_at (P:=Try.prog) _ Try.func36 rfl]
 simp only [Try.f36]
 walk_nrm
 obtain ⟨K,hK,hV,key,yek⟩:=kKV (L:=Lone) (J:=fun g=>KK d g V) hM.mu (hM.muv hn)
 refine key _ ?_
 repeat (first|(with_reducible first|refine mu_seq hK ?_|refine mu_skip hK ?_|(refine mu_region_end hK ?_;try subst hkk)|refine mu_block hK ?_|refine mu_inBlock hK ?_|refine mu_ret hK ?_|refine mu_end hK ?_)|refine mu_exit hK rfl ?_|(with_reducible refine mu_regionH hK (fun kk hkk=>?_);simp only [List.size_toArray,List.length_cons,List.length_nil,Nat.reduceAdd,Nat.zero_add,List.range,List.range.loop])|(with_reducible refine mu_cf hK ?_ ?_;(· first|(walk_nrm;done)|(simp [Act.eval];done)))|(with_reducible refine mu_ct hK ?_ ?_;(· first|(walk_nrm;done)|(simp [Act.eval];done)))|(refine mu_unwanted hK rfl rfl ?_;walk_nrm)|(refine muv_val hV rfl (by first|exact .inl rfl|exact .inr rfl) rfl (by kernel_rfl) (fun J hJ=>?_);go_simp;with_reducible refine hJ _ ?_;clear hJ J;walk_nrm))
 refine yek _ ?_
 clear hK hV key yek K
 have hnW1 : norm (V.alloc (.cells #[.pointer (some ⟨ob,0,none⟩)] 88)) = (V.alloc (.cells #[.pointer (some ⟨ob,0,none⟩)] 88)):=norm_al hn _
 refine mua_put (L:=Lone) (v:=.pointer (some ⟨V.heap.size,0,none⟩)) (hM.mua hnW1) (K:=fun g=>KK d g V) (K':=fun g=>KK d g (V.alloc (.cells #[.pointer (some ⟨ob,0,none⟩)] 88))) rfl (.inl rfl) rfl (by kernel_rfl) (fun τ=>?_) ?_
 · go_simp
   first | exact ⟨by first | rfl | assumption | (simp only [re]; omega),rfl⟩ | rfl | (simp; done)
 have kW1 : ∀ b,b < V.heap.size → b = b → (V.alloc (.cells #[.pointer (some ⟨ob,0,none⟩)] 88)).heap[b]? = V.heap[b]?:=fun b hb _=>by rw [al_get,if_neg (by omega)]
 have lW1 : V.heap.size < (V.alloc (.cells #[.pointer (some ⟨ob,0,none⟩)] 88)).heap.size:=by rw [al_size]; omega
 have Bp : (V.alloc (.cells #[.pointer (some ⟨ob,0,none⟩)] 88)).heap[V.heap.size]? = some (.cells #[.pointer (some ⟨ob,0,none⟩)] 88 (0,0)):=by rw [al_get,if_pos rfl]
 generalize (V.alloc (.cells #[.pointer (some ⟨ob,0,none⟩)] 88)) = W1 at *
 have tW1 : V.heap.size < W1.heap.size ∧ V.heap.size ≤ V.heap.size:=⟨lW1,Nat.le_refl _⟩
 generalize hbW1 : V.heap.size = b_Bp at Bp ⊢
 have l_b_Bp : V.heap.size ≤ b_Bp ∧ b_Bp < W1.heap.size:=by omega
 clear hbW1 tW1
 replace B_o : W1.heap[ob]? = some (.cells #[.int .u32 0,.int .i32 0,.int .u32 0,.int .u32 0] 86 (0,0)):=(kW1 _ (Array.getElem?_eq_some_iff.1 B_o).1 (by omega)).trans B_o
 replace kp : Kp V W1:=⟨Nat.le_trans kp.size (Nat.le_of_lt lW1),fun b hb=>(kW1 b (Nat.lt_of_lt_of_le hb kp.size) (by omega)).trans (kp.keep b hb)⟩
 clear kW1
 walk_nrm
 obtain ⟨K,hK,hV,key,yek⟩:=kKV (L:=Lone) (J:=fun g=>KK d g W1) hM.mu (hM.muv hnW1)
 refine key _ ?_
 repeat (first|(with_reducible first|refine mu_seq hK ?_|refine mu_skip hK ?_|(refine mu_region_end hK ?_;try subst hkk)|refine mu_block hK ?_|refine mu_inBlock hK ?_|refine mu_ret hK ?_|refine mu_end hK ?_)|refine mu_exit hK rfl ?_|(with_reducible refine mu_regionH hK (fun kk hkk=>?_);simp only [List.size_toArray,List.length_cons,List.length_nil,Nat.reduceAdd,Nat.zero_add,List.range,List.range.loop])|(with_reducible refine mu_cf hK ?_ ?_;(· first|(walk_nrm;done)|(simp [Act.eval];done)))|(with_reducible refine mu_ct hK ?_ ?_;(· first|(walk_nrm;done)|(simp [Act.eval];done)))|(refine mu_unwanted hK rfl rfl ?_;walk_nrm)|(refine muv_val hV rfl (by first|exact .inl rfl|exact .inr rfl) rfl (by kernel_rfl) (fun J hJ=>?_);go_simp;with_reducible refine hJ _ ?_;clear hJ J;walk_nrm))
 refine yek _ ?_
 clear hK hV key yek K
 have hnW2 : norm (W1.alloc (.cells #[.nilFunc] 1)) = (W1.alloc (.cells #[.nilFunc] 1)):=norm_al hnW1 _
 refine mua_put (L:=Lone) (v:=.pointer (some ⟨W1.heap.size,0,none⟩)) (hM.mua hnW2) (K:=fun g=>KK d g W1) (K':=fun g=>KK d g (W1.alloc (.cells #[.nilFunc] 1))) rfl (.inl rfl) rfl (by kernel_rfl) (fun τ=>?_) ?_
 · go_simp
   first | exact ⟨by first | rfl | assumption | (simp only [re]; omega),rfl⟩ | rfl | (simp; done)
 have kW2 : ∀ b,b < W1.heap.size → b = b → (W1.alloc (.cells #[.nilFunc] 1)).heap[b]? = W1.heap[b]?:=fun b hb _=>by rw [al_get,if_neg (by omega)]
 have lW2 : W1.heap.size < (W1.alloc (.cells #[.nilFunc] 1)).heap.size:=by rw [al_size]; omega
 have Bf : (W1.alloc (.cells #[.nilFunc] 1)).heap[W1.heap.size]? = some (.cells #[.nilFunc] 1 (0,0)):=by rw [al_get,if_pos rfl]
 generalize (W1.alloc (.cells #[.nilFunc] 1)) = W2 at *
 have tW2 : W1.heap.size < W2.heap.size ∧ W1.heap.size ≤ W1.heap.size:=⟨lW2,Nat.le_refl _⟩
 generalize hbW2 : W1.heap.size = b_Bf at Bf ⊢
 have l_b_Bf : W1.heap.size ≤ b_Bf ∧ b_Bf < W2.heap.size:=by omega
 clear hbW2 tW2
 replace B_o : W2.heap[ob]? = some (.cells #[.int .u32 0,.int .i32 0,.int .u32 0,.int .u32 0] 86 (0,0)):=(kW2 _ (Array.getElem?_eq_some_iff.1 B_o).1 (by omega)).trans B_o
 replace kp : Kp V W2:=⟨Nat.le_trans kp.size (Nat.le_of_lt lW2),fun b hb=>(kW2 b (Nat.lt_of_lt_of_le hb kp.size) (by omega)).trans (kp.keep b hb)⟩
 replace Bp : W2.heap[b_Bp]? = some (.cells #[.pointer (some ⟨ob,0,none⟩)] 88 (0,0)):=(kW2 _ (Array.getElem?_eq_some_iff.1 Bp).1 (by omega)).trans Bp
 clear kW2
 walk_nrm
 obtain ⟨K,hK,hV,key,yek⟩:=kKV (L:=Lone) (J:=fun g=>KK d g W2) hM.mu (hM.muv hnW2)
 refine key _ ?_
 repeat (first|(with_reducible first|refine mu_seq hK ?_|refine mu_skip hK ?_|(refine mu_region_end hK ?_;try subst hkk)|refine mu_block hK ?_|refine mu_inBlock hK ?_|refine mu_ret hK ?_|refine mu_end hK ?_)|refine mu_exit hK rfl ?_|(with_reducible refine mu_regionH hK (fun kk hkk=>?_);simp only [List.size_toArray,List.length_cons,List.length_nil,Nat.reduceAdd,Nat.zero_add,List.range,List.range.loop])|(with_reducible refine mu_cf hK ?_ ?_;(· first|(walk_nrm;done)|(simp [Act.eval];done)))|(with_reducible refine mu_ct hK ?_ ?_;(· first|(walk_nrm;done)|(simp [Act.eval];done)))|(refine mu_unwanted hK rfl rfl ?_;walk_nrm)|(refine muv_val hV rfl (by first|exact .inl rfl|exact .inr rfl) rfl (by kernel_rfl) (fun J hJ=>?_);go_simp;with_reducible refine hJ _ ?_;clear hJ J;walk_nrm))
 refine yek _ ?_
 clear hK hV key yek K
 have hnW3 : norm (W2.alloc (.cells #[.bool false] 4)) = (W2.alloc (.cells #[.bool false] 4)):=norm_al hnW2 _
 refine mua_put (L:=Lone) (v:=.pointer (some ⟨W2.heap.size,0,none⟩)) (hM.mua hnW3) (K:=fun g=>KK d g W2) (K':=fun g=>KK d g (W2.alloc (.cells #[.bool false] 4))) rfl (.inl rfl) rfl (by kernel_rfl) (fun τ=>?_) ?_
 · go_simp
   first | exact ⟨by first | rfl | assumption | (simp only [re]; omega),rfl⟩ | rfl | (simp; done)
 have kW3 : ∀ b,b < W2.heap.size → b = b → (W2.alloc (.cells #[.bool false] 4)).heap[b]? = W2.heap[b]?:=fun b hb _=>by rw [al_get,if_neg (by omega)]
 have lW3 : W2.heap.size < (W2.alloc (.cells #[.bool false] 4)).heap.size:=by rw [al_size]; omega
 have Bn : (W2.alloc (.cells #[.bool false] 4)).heap[W2.heap.size]? = some (.cells #[.bool false] 4 (0,0)):=by rw [al_get,if_pos rfl]
 generalize (W2.alloc (.cells #[.bool false] 4)) = W3 at *
 have tW3 : W2.heap.size < W3.heap.size ∧ W2.heap.size ≤ W2.heap.size:=⟨lW3,Nat.le_refl _⟩
 generalize hbW3 : W2.heap.size = b_Bn at Bn ⊢
 have l_b_Bn : W2.heap.size ≤ b_Bn ∧ b_Bn < W3.heap.size:=by omega
 clear hbW3 tW3
 replace B_o : W3.heap[ob]? = some (.cells #[.int .u32 0,.int .i32 0,.int .u32 0,.int .u32 0] 86 (0,0)):=(kW3 _ (Array.getElem?_eq_some_iff.1 B_o).1 (by omega)).trans B_o
 replace kp : Kp V W3:=⟨Nat.le_trans kp.size (Nat.le_of_lt lW3),fun b hb=>(kW3 b (Nat.lt_of_lt_of_le hb kp.size) (by omega)).trans (kp.keep b hb)⟩
 replace Bp : W3.heap[b_Bp]? = some (.cells #[.pointer (some ⟨ob,0,none⟩)] 88 (0,0)):=(kW3 _ (Array.getElem?_eq_some_iff.1 Bp).1 (by omega)).trans Bp
 replace Bf : W3.heap[b_Bf]? = some (.cells #[.nilFunc] 1 (0,0)):=(kW3 _ (Array.getElem?_eq_some_iff.1 Bf).1 (by omega)).trans Bf
 clear kW3
 walk_nrm
 have r_Bn_0 : ∀ τ,(re W3 τ 0).cell? ⟨b_Bn,0,none⟩ = some (.bool false):=fun τ=>cell_of Bn (by simp)
 have z_Bn_0 : ∀ τ,(re W3 τ 0).frozen? ⟨b_Bn,0,none⟩ = false:=fun τ=>by simp [World.frozen?,re,Bn]
 obtain ⟨K,hK,hV,key,yek⟩:=kKV (L:=Lone) (J:=fun g=>KK d g W3) hM.mu (hM.muv hnW3)
 refine key _ ?_
 repeat (first|(with_reducible first|refine mu_seq hK ?_|refine mu_skip hK ?_|(refine mu_region_end hK ?_;try subst hkk)|refine mu_block hK ?_|refine mu_inBlock hK ?_|refine mu_ret hK ?_|refine mu_end hK ?_)|refine mu_exit hK rfl ?_|(with_reducible refine mu_regionH hK (fun kk hkk=>?_);simp only [List.size_toArray,List.length_cons,List.length_nil,Nat.reduceAdd,Nat.zero_add,List.range,List.range.loop])|(with_reducible refine mu_cf hK ?_ ?_;(· first|(walk_nrm;done)|(simp [Act.eval];done)))|(with_reducible refine mu_ct hK ?_ ?_;(· first|(walk_nrm;done)|(simp [Act.eval];done)))|(refine mu_unwanted hK rfl rfl ?_;walk_nrm)|(refine muv_val hV rfl (by first|exact .inl rfl|exact .inr rfl) rfl (by kernel_rfl) (fun J hJ=>?_);go_simp;with_reducible refine hJ _ ?_;clear hJ J;walk_nrm))
 refine yek _ ?_
 clear hK hV key yek K
 have hnW4 : norm (W3.setCell ⟨b_Bn,0,none⟩ (.bool false)) = (W3.setCell ⟨b_Bn,0,none⟩ (.bool false)):=(norm_set hnW3 _ _)
 refine mus_put (L:=Lone) (hM.mus hnW4) (K:=fun g=>KK d g W3) (K':=fun g=>KK d g (W3.setCell ⟨b_Bn,0,none⟩ (.bool false))) rfl (.inl rfl) rfl (by kernel_rfl) (fun τ=>?_) ?_
 · go_simp
   try rfl
 have kW4 : ∀ b,b < W3.heap.size → b ≠ b_Bn → (W3.setCell ⟨b_Bn,0,none⟩ (.bool false)).heap[b]? = W3.heap[b]?:=fun b _ hb=>by rw [setCell_heap,if_neg hb]
 have lW4 : W3.heap.size ≤ (W3.setCell ⟨b_Bn,0,none⟩ (.bool false)).heap.size:=by simp [World.setCell]
 have eW4 : (W3.setCell ⟨b_Bn,0,none⟩ (.bool false)).heap[b_Bn]? = some (.cells #[.bool false] 4 (0,0)):=by
   rw [setCell_heap,if_pos rfl,Bn]
   simp
 generalize (W3.setCell ⟨b_Bn,0,none⟩ (.bool false)) = W4 at *
 replace Bn:=eW4
 clear eW4
 clear r_Bn_0 z_Bn_0
 replace B_o : W4.heap[ob]? = some (.cells #[.int .u32 0,.int .i32 0,.int .u32 0,.int .u32 0] 86 (0,0)):=(kW4 _ (Array.getElem?_eq_some_iff.1 B_o).1 (by omega)).trans B_o
 replace kp : Kp V W4:=⟨Nat.le_trans kp.size lW4,fun b hb=>(kW4 b (Nat.lt_of_lt_of_le hb kp.size) (by omega)).trans (kp.keep b hb)⟩
 replace Bp : W4.heap[b_Bp]? = some (.cells #[.pointer (some ⟨ob,0,none⟩)] 88 (0,0)):=(kW4 _ (Array.getElem?_eq_some_iff.1 Bp).1 (by omega)).trans Bp
 replace Bf : W4.heap[b_Bf]? = some (.cells #[.nilFunc] 1 (0,0)):=(kW4 _ (Array.getElem?_eq_some_iff.1 Bf).1 (by omega)).trans Bf
 clear kW4
 walk_nrm
 have r_Bp_0 : ∀ τ,(re W4 τ 0).cell? ⟨b_Bp,0,none⟩ = some (.pointer (some ⟨ob,0,none⟩)):=fun τ=>cell_of Bp (by simp)
 obtain ⟨K,hK,hV,key,yek⟩:=kKV (L:=Lone) (J:=fun g=>KK d g W4) hM.mu (hM.muv hnW4)
 refine key _ ?_
 repeat (first|(with_reducible first|refine mu_seq hK ?_|refine mu_skip hK ?_|(refine mu_region_end hK ?_;try subst hkk)|refine mu_block hK ?_|refine mu_inBlock hK ?_|refine mu_ret hK ?_|refine mu_end hK ?_)|refine mu_exit hK rfl ?_|(with_reducible refine mu_regionH hK (fun kk hkk=>?_);simp only [List.size_toArray,List.length_cons,List.length_nil,Nat.reduceAdd,Nat.zero_add,List.range,List.range.loop])|(with_reducible refine mu_cf hK ?_ ?_;(· first|(walk_nrm;done)|(simp [Act.eval];done)))|(with_reducible refine mu_ct hK ?_ ?_;(· first|(walk_nrm;done)|(simp [Act.eval];done)))|(refine mu_unwanted hK rfl rfl ?_;walk_nrm)|(refine muv_val hV rfl (by first|exact .inl rfl|exact .inr rfl) rfl (by kernel_rfl) (fun J hJ=>?_);go_simp;with_reducible refine hJ _ ?_;clear hJ J;walk_nrm))
 refine mu_call hK rfl rfl (by decide) rfl Try.func84 (by kernel_rfl) rfl ?_
 rw [← enter_at (P:=Try.prog) _ Try.func84 rfl]
 walk_nrm
 refine yek _ ?_
 clear hK hV key yek K
 refine o84n hM hnW4 ⟨B_o,Bn,Bp,Bf,by omega,by omega,by omega,by omega,by omega,by omega⟩ fun V2 hn2 s2 B2 kk2=>?_
 have r_n : ∀ τ,(re V2 τ 0).cell? ⟨b_Bn,0,none⟩ = some (.bool true):=fun τ=>cell_of B2.n (by simp)
 walk_nrm
 obtain ⟨K,hK,hV,key,yek⟩:=kKV (L:=Lone) (J:=fun g=>KK d g V2) hM.mu (hM.muv hn2)
 refine key _ ?_
 repeat (first|(with_reducible first|refine mu_seq hK ?_|refine mu_skip hK ?_|(refine mu_region_end hK ?_;try subst hkk)|refine mu_block hK ?_|refine mu_inBlock hK ?_|refine mu_ret hK ?_|refine mu_end hK ?_)|refine mu_exit hK rfl ?_|(with_reducible refine mu_regionH hK (fun kk hkk=>?_);simp only [List.size_toArray,List.length_cons,List.length_nil,Nat.reduceAdd,Nat.zero_add,List.range,List.range.loop])|(with_reducible refine mu_cf hK ?_ ?_;(· first|(walk_nrm;done)|(simp [Act.eval];done)))|(with_reducible refine mu_ct hK ?_ ?_;(· first|(walk_nrm;done)|(simp [Act.eval];done)))|(refine mu_unwanted hK rfl rfl ?_;walk_nrm)|(refine muv_val hV rfl (by first|exact .inl rfl|exact .inr rfl) rfl (by kernel_rfl) (fun J hJ=>?_);go_simp;with_reducible refine hJ _ ?_;clear hJ J;walk_nrm))
 refine yek _ ?_
 clear hK hV key yek K
 refine mu_leave1 (K:=fun g=>KK d g V2) hM.mu rfl rfl Try.func36 rfl ?_
 exact h V2 hn2 (by have:=kp.size; omega) B2.o fun b hb h1=>(kk2 b h1 (by omega)).trans (kp.keep b hb)
theorem o36t (hM : MarkK Try.prog main Z KK) (hn : norm V = V) (B_o : V.heap[ob]? = some (.cells #[.int .u32 1,.int .i32 0,.int .u32 0,.int .u32 1] 86 (0,0))) {fid : Nat} {caps : Array Value}
   (h : ∀ V2,norm V2 = V2 → V.heap.size ≤ V2.heap.size → V2.heap[ob]? = some (.cells #[.int .u32 1,.int .i32 0,.int .u32 0,.int .u32 1] 86 (0,0)) → (∀ b,b < V.heap.size → b ≠ ob → V2.heap[b]? = V.heap[b]?) → KK d (G (b₀.at (a₀.put ((ops₀[i₀]?).bind (·.dst)) (.bool false)) (.inRegion ops₀ rest₀ :: k₀)) cs0) V2) :
   KK d (G (Frame.enter Try.prog 36 #[.pointer (some ⟨ob,0,none⟩),.func (.func fid) #[] caps] .normal) (b₀.at a₀ (.inRegion ops₀ (i₀ :: rest₀) :: k₀) :: cs0)) V:=by
 have l_o:=(Array.getElem?_eq_some_iff.1 B_o).1
 have kp : Kp V V:=⟨Nat.le_refl _,fun _ _=>rfl⟩
 rw [enter_at (P:=Try.prog) _ Try.func36 rfl]
 simp only [Try.f36]
 walk_nrm
 obtain ⟨K,hK,hV,key,yek⟩:=kKV (L:=Lone) (J:=fun g=>KK d g V) hM.mu (hM.muv hn)
 refine key _ ?_
 repeat (first|(with_reducible first|refine mu_seq hK ?_|refine mu_skip hK ?_|(refine mu_region_end hK ?_;try subst hkk)|refine mu_block hK ?_|refine mu_inBlock hK ?_|refine mu_ret hK ?_|refine mu_end hK ?_)|refine mu_exit hK rfl ?_|(with_reducible refine mu_regionH hK (fun kk hkk=>?_);simp only [List.size_toArray,List.length_cons,List.length_nil,Nat.reduceAdd,Nat.zero_add,List.range,List.range.loop])|(with_reducible refine mu_cf hK ?_ ?_;(· first|(walk_nrm;done)|(simp [Act.eval];done)))|(with_reducible refine mu_ct hK ?_ ?_;(· first|(walk_nrm;done)|(simp [Act.eval];done)))|(refine mu_unwanted hK rfl rfl ?_;walk_nrm)|(refine muv_val hV rfl (by first|exact .inl rfl|exact .inr rfl) rfl (by kernel_rfl) (fun J hJ=>?_);go_simp;with_reducible refine hJ _ ?_;clear hJ J;walk_nrm))
 refine yek _ ?_
 clear hK hV key yek K
 have hnW1 : norm (V.alloc (.cells #[.pointer (some ⟨ob,0,none⟩)] 88)) = (V.alloc (.cells #[.pointer (some ⟨ob,0,none⟩)] 88)):=norm_al hn _
 refine mua_put (L:=Lone) (v:=.pointer (some ⟨V.heap.size,0,none⟩)) (hM.mua hnW1) (K:=fun g=>KK d g V) (K':=fun g=>KK d g (V.alloc (.cells #[.pointer (some ⟨ob,0,none⟩)] 88))) rfl (.inl rfl) rfl (by kernel_rfl) (fun τ=>?_) ?_
 · go_simp
   first | exact ⟨by first | rfl | assumption | (simp only [re]; omega),rfl⟩ | rfl | (simp; done)
 have kW1 : ∀ b,b < V.heap.size → b = b → (V.alloc (.cells #[.pointer (some ⟨ob,0,none⟩)] 88)).heap[b]? = V.heap[b]?:=fun b hb _=>by rw [al_get,if_neg (by omega)]
 have lW1 : V.heap.size < (V.alloc (.cells #[.pointer (some ⟨ob,0,none⟩)] 88)).heap.size:=by rw [al_size]; omega
 have Bp : (V.alloc (.cells #[.pointer (some ⟨ob,0,none⟩)] 88)).heap[V.heap.size]? = some (.cells #[.pointer (some ⟨ob,0,none⟩)] 88 (0,0)):=by rw [al_get,if_pos rfl]
 generalize (V.alloc (.cells #[.pointer (some ⟨ob,0,none⟩)] 88)) = W1 at *
 have tW1 : V.heap.size < W1.heap.size ∧ V.heap.size ≤ V.heap.size:=⟨lW1,Nat.le_refl _⟩
 generalize hbW1 : V.heap.size = b_Bp at Bp ⊢
 have l_b_Bp : V.heap.size ≤ b_Bp ∧ b_Bp < W1.heap.size:=by omega
 clear hbW1 tW1
 replace B_o : W1.heap[ob]? = some (.cells #[.int .u32 1,.int .i32 0,.int .u32 0,.int .u32 1] 86 (0,0)):=(kW1 _ (Array.getElem?_eq_some_iff.1 B_o).1 (by omega)).trans B_o
 replace kp : Kp V W1:=⟨Nat.le_trans kp.size (Nat.le_of_lt lW1),fun b hb=>(kW1 b (Nat.lt_of_lt_of_le hb kp.size) (by omega)).trans (kp.keep b hb)⟩
 clear kW1
 walk_nrm
 obtain ⟨K,hK,hV,key,yek⟩:=kKV (L:=Lone) (J:=fun g=>KK d g W1) hM.mu (hM.muv hnW1)
 refine key _ ?_
 repeat (first|(with_reducible first|refine mu_seq hK ?_|refine mu_skip hK ?_|(refine mu_region_end hK ?_;try subst hkk)|refine mu_block hK ?_|refine mu_inBlock hK ?_|refine mu_ret hK ?_|refine mu_end hK ?_)|refine mu_exit hK rfl ?_|(with_reducible refine mu_regionH hK (fun kk hkk=>?_);simp only [List.size_toArray,List.length_cons,List.length_nil,Nat.reduceAdd,Nat.zero_add,List.range,List.range.loop])|(with_reducible refine mu_cf hK ?_ ?_;(· first|(walk_nrm;done)|(simp [Act.eval];done)))|(with_reducible refine mu_ct hK ?_ ?_;(· first|(walk_nrm;done)|(simp [Act.eval];done)))|(refine mu_unwanted hK rfl rfl ?_;walk_nrm)|(refine muv_val hV rfl (by first|exact .inl rfl|exact .inr rfl) rfl (by kernel_rfl) (fun J hJ=>?_);go_simp;with_reducible refine hJ _ ?_;clear hJ J;walk_nrm))
 refine yek _ ?_
 clear hK hV key yek K
 have hnW2 : norm (W1.alloc (.cells #[.func (.func fid) #[] caps] 1)) = (W1.alloc (.cells #[.func (.func fid) #[] caps] 1)):=norm_al hnW1 _
 refine mua_put (L:=Lone) (v:=.pointer (some ⟨W1.heap.size,0,none⟩)) (hM.mua hnW2) (K:=fun g=>KK d g W1) (K':=fun g=>KK d g (W1.alloc (.cells #[.func (.func fid) #[] caps] 1))) rfl (.inl rfl) rfl (by kernel_rfl) (fun τ=>?_) ?_
 · go_simp
   first | exact ⟨by first | rfl | assumption | (simp only [re]; omega),rfl⟩ | rfl | (simp; done)
 have kW2 : ∀ b,b < W1.heap.size → b = b → (W1.alloc (.cells #[.func (.func fid) #[] caps] 1)).heap[b]? = W1.heap[b]?:=fun b hb _=>by rw [al_get,if_neg (by omega)]
 have lW2 : W1.heap.size < (W1.alloc (.cells #[.func (.func fid) #[] caps] 1)).heap.size:=by rw [al_size]; omega
 have Bf : (W1.alloc (.cells #[.func (.func fid) #[] caps] 1)).heap[W1.heap.size]? = some (.cells #[.func (.func fid) #[] caps] 1 (0,0)):=by rw [al_get,if_pos rfl]
 generalize (W1.alloc (.cells #[.func (.func fid) #[] caps] 1)) = W2 at *
 have tW2 : W1.heap.size < W2.heap.size ∧ W1.heap.size ≤ W1.heap.size:=⟨lW2,Nat.le_refl _⟩
 generalize hbW2 : W1.heap.size = b_Bf at Bf ⊢
 have l_b_Bf : W1.heap.size ≤ b_Bf ∧ b_Bf < W2.heap.size:=by omega
 clear hbW2 tW2
 replace B_o : W2.heap[ob]? = some (.cells #[.int .u32 1,.int .i32 0,.int .u32 0,.int .u32 1] 86 (0,0)):=(kW2 _ (Array.getElem?_eq_some_iff.1 B_o).1 (by omega)).trans B_o
 replace kp : Kp V W2:=⟨Nat.le_trans kp.size (Nat.le_of_lt lW2),fun b hb=>(kW2 b (Nat.lt_of_lt_of_le hb kp.size) (by omega)).trans (kp.keep b hb)⟩
 replace Bp : W2.heap[b_Bp]? = some (.cells #[.pointer (some ⟨ob,0,none⟩)] 88 (0,0)):=(kW2 _ (Array.getElem?_eq_some_iff.1 Bp).1 (by omega)).trans Bp
 clear kW2
 walk_nrm
 obtain ⟨K,hK,hV,key,yek⟩:=kKV (L:=Lone) (J:=fun g=>KK d g W2) hM.mu (hM.muv hnW2)
 refine key _ ?_
 repeat (first|(with_reducible first|refine mu_seq hK ?_|refine mu_skip hK ?_|(refine mu_region_end hK ?_;try subst hkk)|refine mu_block hK ?_|refine mu_inBlock hK ?_|refine mu_ret hK ?_|refine mu_end hK ?_)|refine mu_exit hK rfl ?_|(with_reducible refine mu_regionH hK (fun kk hkk=>?_);simp only [List.size_toArray,List.length_cons,List.length_nil,Nat.reduceAdd,Nat.zero_add,List.range,List.range.loop])|(with_reducible refine mu_cf hK ?_ ?_;(· first|(walk_nrm;done)|(simp [Act.eval];done)))|(with_reducible refine mu_ct hK ?_ ?_;(· first|(walk_nrm;done)|(simp [Act.eval];done)))|(refine mu_unwanted hK rfl rfl ?_;walk_nrm)|(refine muv_val hV rfl (by first|exact .inl rfl|exact .inr rfl) rfl (by kernel_rfl) (fun J hJ=>?_);go_simp;with_reducible refine hJ _ ?_;clear hJ J;walk_nrm))
 refine yek _ ?_
 clear hK hV key yek K
 have hnW3 : norm (W2.alloc (.cells #[.bool false] 4)) = (W2.alloc (.cells #[.bool false] 4)):=norm_al hnW2 _
 refine mua_put (L:=Lone) (v:=.pointer (some ⟨W2.heap.size,0,none⟩)) (hM.mua hnW3) (K:=fun g=>KK d g W2) (K':=fun g=>KK d g (W2.alloc (.cells #[.bool false] 4))) rfl (.inl rfl) rfl (by kernel_rfl) (fun τ=>?_) ?_
 · go_simp
   first | exact ⟨by first | rfl | assumption | (simp only [re]; omega),rfl⟩ | rfl | (simp; done)
 have kW3 : ∀ b,b < W2.heap.size → b = b → (W2.alloc (.cells #[.bool false] 4)).heap[b]? = W2.heap[b]?:=fun b hb _=>by rw [al_get,if_neg (by omega)]
 have lW3 : W2.heap.size < (W2.alloc (.cells #[.bool false] 4)).heap.size:=by rw [al_size]; omega
 have Bn : (W2.alloc (.cells #[.bool false] 4)).heap[W2.heap.size]? = some (.cells #[.bool false] 4 (0,0)):=by rw [al_get,if_pos rfl]
 generalize (W2.alloc (.cells #[.bool false] 4)) = W3 at *
 have tW3 : W2.heap.size < W3.heap.size ∧ W2.heap.size ≤ W2.heap.size:=⟨lW3,Nat.le_refl _⟩
 generalize hbW3 : W2.heap.size = b_Bn at Bn ⊢
 have l_b_Bn : W2.heap.size ≤ b_Bn ∧ b_Bn < W3.heap.size:=by omega
 clear hbW3 tW3
 replace B_o : W3.heap[ob]? = some (.cells #[.int .u32 1,.int .i32 0,.int .u32 0,.int .u32 1] 86 (0,0)):=(kW3 _ (Array.getElem?_eq_some_iff.1 B_o).1 (by omega)).trans B_o
 replace kp : Kp V W3:=⟨Nat.le_trans kp.size (Nat.le_of_lt lW3),fun b hb=>(kW3 b (Nat.lt_of_lt_of_le hb kp.size) (by omega)).trans (kp.keep b hb)⟩
 replace Bp : W3.heap[b_Bp]? = some (.cells #[.pointer (some ⟨ob,0,none⟩)] 88 (0,0)):=(kW3 _ (Array.getElem?_eq_some_iff.1 Bp).1 (by omega)).trans Bp
 replace Bf : W3.heap[b_Bf]? = some (.cells #[.func (.func fid) #[] caps] 1 (0,0)):=(kW3 _ (Array.getElem?_eq_some_iff.1 Bf).1 (by omega)).trans Bf
 clear kW3
 walk_nrm
 have r_Bn_0 : ∀ τ,(re W3 τ 0).cell? ⟨b_Bn,0,none⟩ = some (.bool false):=fun τ=>cell_of Bn (by simp)
 have z_Bn_0 : ∀ τ,(re W3 τ 0).frozen? ⟨b_Bn,0,none⟩ = false:=fun τ=>by simp [World.frozen?,re,Bn]
 obtain ⟨K,hK,hV,key,yek⟩:=kKV (L:=Lone) (J:=fun g=>KK d g W3) hM.mu (hM.muv hnW3)
 refine key _ ?_
 repeat (first|(with_reducible first|refine mu_seq hK ?_|refine mu_skip hK ?_|(refine mu_region_end hK ?_;try subst hkk)|refine mu_block hK ?_|refine mu_inBlock hK ?_|refine mu_ret hK ?_|refine mu_end hK ?_)|refine mu_exit hK rfl ?_|(with_reducible refine mu_regionH hK (fun kk hkk=>?_);simp only [List.size_toArray,List.length_cons,List.length_nil,Nat.reduceAdd,Nat.zero_add,List.range,List.range.loop])|(with_reducible refine mu_cf hK ?_ ?_;(· first|(walk_nrm;done)|(simp [Act.eval];done)))|(with_reducible refine mu_ct hK ?_ ?_;(· first|(walk_nrm;done)|(simp [Act.eval];done)))|(refine mu_unwanted hK rfl rfl ?_;walk_nrm)|(refine muv_val hV rfl (by first|exact .inl rfl|exact .inr rfl) rfl (by kernel_rfl) (fun J hJ=>?_);go_simp;with_reducible refine hJ _ ?_;clear hJ J;walk_nrm))
 refine yek _ ?_
 clear hK hV key yek K
 have hnW4 : norm (W3.setCell ⟨b_Bn,0,none⟩ (.bool false)) = (W3.setCell ⟨b_Bn,0,none⟩ (.bool false)):=(norm_set hnW3 _ _)
 refine mus_put (L:=Lone) (hM.mus hnW4) (K:=fun g=>KK d g W3) (K':=fun g=>KK d g (W3.setCell ⟨b_Bn,0,none⟩ (.bool false))) rfl (.inl rfl) rfl (by kernel_rfl) (fun τ=>?_) ?_
 · go_simp
   try rfl
 have kW4 : ∀ b,b < W3.heap.size → b ≠ b_Bn → (W3.setCell ⟨b_Bn,0,none⟩ (.bool false)).heap[b]? = W3.heap[b]?:=fun b _ hb=>by rw [setCell_heap,if_neg hb]
 have lW4 : W3.heap.size ≤ (W3.setCell ⟨b_Bn,0,none⟩ (.bool false)).heap.size:=by simp [World.setCell]
 have eW4 : (W3.setCell ⟨b_Bn,0,none⟩ (.bool false)).heap[b_Bn]? = some (.cells #[.bool false] 4 (0,0)):=by
   rw [setCell_heap,if_pos rfl,Bn]
   simp
 generalize (W3.setCell ⟨b_Bn,0,none⟩ (.bool false)) = W4 at *
 replace Bn:=eW4
 clear eW4
 clear r_Bn_0 z_Bn_0
 replace B_o : W4.heap[ob]? = some (.cells #[.int .u32 1,.int .i32 0,.int .u32 0,.int .u32 1] 86 (0,0)):=(kW4 _ (Array.getElem?_eq_some_iff.1 B_o).1 (by omega)).trans B_o
 replace kp : Kp V W4:=⟨Nat.le_trans kp.size lW4,fun b hb=>(kW4 b (Nat.lt_of_lt_of_le hb kp.size) (by omega)).trans (kp.keep b hb)⟩
 replace Bp : W4.heap[b_Bp]? = some (.cells #[.pointer (some ⟨ob,0,none⟩)] 88 (0,0)):=(kW4 _ (Array.getElem?_eq_some_iff.1 Bp).1 (by omega)).trans Bp
 replace Bf : W4.heap[b_Bf]? = some (.cells #[.func (.func fid) #[] caps] 1 (0,0)):=(kW4 _ (Array.getElem?_eq_some_iff.1 Bf).1 (by omega)).trans Bf
 clear kW4
 walk_nrm
 have r_Bp_0 : ∀ τ,(re W4 τ 0).cell? ⟨b_Bp,0,none⟩ = some (.pointer (some ⟨ob,0,none⟩)):=fun τ=>cell_of Bp (by simp)
 obtain ⟨K,hK,hV,key,yek⟩:=kKV (L:=Lone) (J:=fun g=>KK d g W4) hM.mu (hM.muv hnW4)
 refine key _ ?_
 repeat (first|(with_reducible first|refine mu_seq hK ?_|refine mu_skip hK ?_|(refine mu_region_end hK ?_;try subst hkk)|refine mu_block hK ?_|refine mu_inBlock hK ?_|refine mu_ret hK ?_|refine mu_end hK ?_)|refine mu_exit hK rfl ?_|(with_reducible refine mu_regionH hK (fun kk hkk=>?_);simp only [List.size_toArray,List.length_cons,List.length_nil,Nat.reduceAdd,Nat.zero_add,List.range,List.range.loop])|(with_reducible refine mu_cf hK ?_ ?_;(· first|(walk_nrm;done)|(simp [Act.eval];done)))|(with_reducible refine mu_ct hK ?_ ?_;(· first|(walk_nrm;done)|(simp [Act.eval];done)))|(refine mu_unwanted hK rfl rfl ?_;walk_nrm)|(refine muv_val hV rfl (by first|exact .inl rfl|exact .inr rfl) rfl (by kernel_rfl) (fun J hJ=>?_);go_simp;with_reducible refine hJ _ ?_;clear hJ J;walk_nrm))
 refine mu_call hK rfl rfl (by decide) rfl Try.func84 (by kernel_rfl) rfl ?_
 rw [← enter_at (P:=Try.prog) _ Try.func84 rfl]
 walk_nrm
 refine yek _ ?_
 clear hK hV key yek K
 refine o84t hM hnW4 (cell_of B_o (by simp)) ?_
 have r_n : ∀ τ,(re W4 τ 0).cell? ⟨b_Bn,0,none⟩ = some (.bool false):=fun τ=>cell_of Bn (by simp)
 walk_nrm
 obtain ⟨K,hK,hV,key,yek⟩:=kKV (L:=Lone) (J:=fun g=>KK d g W4) hM.mu (hM.muv hnW4)
 refine key _ ?_
 repeat (first|(with_reducible first|refine mu_seq hK ?_|refine mu_skip hK ?_|(refine mu_region_end hK ?_;try subst hkk)|refine mu_block hK ?_|refine mu_inBlock hK ?_|refine mu_ret hK ?_|refine mu_end hK ?_)|refine mu_exit hK rfl ?_|(with_reducible refine mu_regionH hK (fun kk hkk=>?_);simp only [List.size_toArray,List.length_cons,List.length_nil,Nat.reduceAdd,Nat.zero_add,List.range,List.range.loop])|(with_reducible refine mu_cf hK ?_ ?_;(· first|(walk_nrm;done)|(simp [Act.eval];done)))|(with_reducible refine mu_ct hK ?_ ?_;(· first|(walk_nrm;done)|(simp [Act.eval];done)))|(refine mu_unwanted hK rfl rfl ?_;walk_nrm)|(refine muv_val hV rfl (by first|exact .inl rfl|exact .inr rfl) rfl (by kernel_rfl) (fun J hJ=>?_);go_simp;with_reducible refine hJ _ ?_;clear hJ J;walk_nrm))
 refine yek _ ?_
 clear hK hV key yek K
 refine mu_leave1 (K:=fun g=>KK d g W4) hM.mu rfl rfl Try.func36 rfl ?_
 exact h W4 hnW4 kp.size B_o fun b hb _=>kp.keep b hb
theorem o36z (hM : MarkK Try.prog main Z KK) (hn : norm V = V) {fid : Nat} {caps : Array Value} (h : ∀ V2,norm V2 = V2 → Kp V V2 → KK d (G (b₀.at (a₀.put ((ops₀[i₀]?).bind (·.dst)) (.bool false)) (.inRegion ops₀ rest₀ :: k₀)) cs0) V2) :
   KK d (G (Frame.enter Try.prog 36 #[.pointer none,.func (.func fid) #[] caps] .normal) (b₀.at a₀ (.inRegion ops₀ (i₀ :: rest₀) :: k₀) :: cs0)) V:=by
 have kp : Kp V V:=⟨Nat.le_refl _,fun _ _=>rfl⟩
 rw [enter_at (P:=Try.prog) _ Try.func36 rfl]
 simp only [Try.f36]
 walk_nrm
 obtain ⟨K,hK,hV,key,yek⟩:=kKV (L:=Lone) (J:=fun g=>KK d g V) hM.mu (hM.muv hn)
 refine key _ ?_
 repeat (first|(with_reducible first|refine mu_seq hK ?_|refine mu_skip hK ?_|(refine mu_region_end hK ?_;try subst hkk)|refine mu_block hK ?_|refine mu_inBlock hK ?_|refine mu_ret hK ?_|refine mu_end hK ?_)|refine mu_exit hK rfl ?_|(with_reducible refine mu_regionH hK (fun kk hkk=>?_);simp only [List.size_toArray,List.length_cons,List.length_nil,Nat.reduceAdd,Nat.zero_add,List.range,List.range.loop])|(with_reducible refine mu_cf hK ?_ ?_;(· first|(walk_nrm;done)|(simp [Act.eval];done)))|(with_reducible refine mu_ct hK ?_ ?_;(· first|(walk_nrm;done)|(simp [Act.eval];done)))|(refine mu_unwanted hK rfl rfl ?_;walk_nrm)|(refine muv_val hV rfl (by first|exact .inl rfl|exact .inr rfl) rfl (by kernel_rfl) (fun J hJ=>?_);go_simp;with_reducible refine hJ _ ?_;clear hJ J;walk_nrm))
 refine yek _ ?_
 clear hK hV key yek K
 have hnW1 : norm (V.alloc (.cells #[.pointer none] 88)) = (V.alloc (.cells #[.pointer none] 88)):=norm_al hn _
 refine mua_put (L:=Lone) (v:=.pointer (some ⟨V.heap.size,0,none⟩)) (hM.mua hnW1) (K:=fun g=>KK d g V) (K':=fun g=>KK d g (V.alloc (.cells #[.pointer none] 88))) rfl (.inl rfl) rfl (by kernel_rfl) (fun τ=>?_) ?_
 · go_simp
   first | exact ⟨by first | rfl | assumption | (simp only [re]; omega),rfl⟩ | rfl | (simp; done)
 have kW1 : ∀ b,b < V.heap.size → b = b → (V.alloc (.cells #[.pointer none] 88)).heap[b]? = V.heap[b]?:=fun b hb _=>by rw [al_get,if_neg (by omega)]
 have lW1 : V.heap.size < (V.alloc (.cells #[.pointer none] 88)).heap.size:=by rw [al_size]; omega
 have Bp : (V.alloc (.cells #[.pointer none] 88)).heap[V.heap.size]? = some (.cells #[.pointer none] 88 (0,0)):=by rw [al_get,if_pos rfl]
 generalize (V.alloc (.cells #[.pointer none] 88)) = W1 at *
 have tW1 : V.heap.size < W1.heap.size ∧ V.heap.size ≤ V.heap.size:=⟨lW1,Nat.le_refl _⟩
 generalize hbW1 : V.heap.size = b_Bp at Bp ⊢
 have l_b_Bp : V.heap.size ≤ b_Bp ∧ b_Bp < W1.heap.size:=by omega
 clear hbW1 tW1
 replace kp : Kp V W1:=⟨Nat.le_trans kp.size (Nat.le_of_lt lW1),fun b hb=>(kW1 b (Nat.lt_of_lt_of_le hb kp.size) (by omega)).trans (kp.keep b hb)⟩
 clear kW1
 walk_nrm
 obtain ⟨K,hK,hV,key,yek⟩:=kKV (L:=Lone) (J:=fun g=>KK d g W1) hM.mu (hM.muv hnW1)
 refine key _ ?_
 repeat (first|(with_reducible first|refine mu_seq hK ?_|refine mu_skip hK ?_|(refine mu_region_end hK ?_;try subst hkk)|refine mu_block hK ?_|refine mu_inBlock hK ?_|refine mu_ret hK ?_|refine mu_end hK ?_)|refine mu_exit hK rfl ?_|(with_reducible refine mu_regionH hK (fun kk hkk=>?_);simp only [List.size_toArray,List.length_cons,List.length_nil,Nat.reduceAdd,Nat.zero_add,List.range,List.range.loop])|(with_reducible refine mu_cf hK ?_ ?_;(· first|(walk_nrm;done)|(simp [Act.eval];done)))|(with_reducible refine mu_ct hK ?_ ?_;(· first|(walk_nrm;done)|(simp [Act.eval];done)))|(refine mu_unwanted hK rfl rfl ?_;walk_nrm)|(refine muv_val hV rfl (by first|exact .inl rfl|exact .inr rfl) rfl (by kernel_rfl) (fun J hJ=>?_);go_simp;with_reducible refine hJ _ ?_;clear hJ J;walk_nrm))
 refine yek _ ?_
 clear hK hV key yek K
 have hnW2 : norm (W1.alloc (.cells #[.func (.func fid) #[] caps] 1)) = (W1.alloc (.cells #[.func (.func fid) #[] caps] 1)):=norm_al hnW1 _
 refine mua_put (L:=Lone) (v:=.pointer (some ⟨W1.heap.size,0,none⟩)) (hM.mua hnW2) (K:=fun g=>KK d g W1) (K':=fun g=>KK d g (W1.alloc (.cells #[.func (.func fid) #[] caps] 1))) rfl (.inl rfl) rfl (by kernel_rfl) (fun τ=>?_) ?_
 · go_simp
   first | exact ⟨by first | rfl | assumption | (simp only [re]; omega),rfl⟩ | rfl | (simp; done)
 have kW2 : ∀ b,b < W1.heap.size → b = b → (W1.alloc (.cells #[.func (.func fid) #[] caps] 1)).heap[b]? = W1.heap[b]?:=fun b hb _=>by rw [al_get,if_neg (by omega)]
 have lW2 : W1.heap.size < (W1.alloc (.cells #[.func (.func fid) #[] caps] 1)).heap.size:=by rw [al_size]; omega
 have Bf : (W1.alloc (.cells #[.func (.func fid) #[] caps] 1)).heap[W1.heap.size]? = some (.cells #[.func (.func fid) #[] caps] 1 (0,0)):=by rw [al_get,if_pos rfl]
 generalize (W1.alloc (.cells #[.func (.func fid) #[] caps] 1)) = W2 at *
 have tW2 : W1.heap.size < W2.heap.size ∧ W1.heap.size ≤ W1.heap.size:=⟨lW2,Nat.le_refl _⟩
 generalize hbW2 : W1.heap.size = b_Bf at Bf ⊢
 have l_b_Bf : W1.heap.size ≤ b_Bf ∧ b_Bf < W2.heap.size:=by omega
 clear hbW2 tW2
 replace kp : Kp V W2:=⟨Nat.le_trans kp.size (Nat.le_of_lt lW2),fun b hb=>(kW2 b (Nat.lt_of_lt_of_le hb kp.size) (by omega)).trans (kp.keep b hb)⟩
 replace Bp : W2.heap[b_Bp]? = some (.cells #[.pointer none] 88 (0,0)):=(kW2 _ (Array.getElem?_eq_some_iff.1 Bp).1 (by omega)).trans Bp
 clear kW2
 walk_nrm
 obtain ⟨K,hK,hV,key,yek⟩:=kKV (L:=Lone) (J:=fun g=>KK d g W2) hM.mu (hM.muv hnW2)
 refine key _ ?_
 repeat (first|(with_reducible first|refine mu_seq hK ?_|refine mu_skip hK ?_|(refine mu_region_end hK ?_;try subst hkk)|refine mu_block hK ?_|refine mu_inBlock hK ?_|refine mu_ret hK ?_|refine mu_end hK ?_)|refine mu_exit hK rfl ?_|(with_reducible refine mu_regionH hK (fun kk hkk=>?_);simp only [List.size_toArray,List.length_cons,List.length_nil,Nat.reduceAdd,Nat.zero_add,List.range,List.range.loop])|(with_reducible refine mu_cf hK ?_ ?_;(· first|(walk_nrm;done)|(simp [Act.eval];done)))|(with_reducible refine mu_ct hK ?_ ?_;(· first|(walk_nrm;done)|(simp [Act.eval];done)))|(refine mu_unwanted hK rfl rfl ?_;walk_nrm)|(refine muv_val hV rfl (by first|exact .inl rfl|exact .inr rfl) rfl (by kernel_rfl) (fun J hJ=>?_);go_simp;with_reducible refine hJ _ ?_;clear hJ J;walk_nrm))
 refine yek _ ?_
 clear hK hV key yek K
 have hnW3 : norm (W2.alloc (.cells #[.bool false] 4)) = (W2.alloc (.cells #[.bool false] 4)):=norm_al hnW2 _
 refine mua_put (L:=Lone) (v:=.pointer (some ⟨W2.heap.size,0,none⟩)) (hM.mua hnW3) (K:=fun g=>KK d g W2) (K':=fun g=>KK d g (W2.alloc (.cells #[.bool false] 4))) rfl (.inl rfl) rfl (by kernel_rfl) (fun τ=>?_) ?_
 · go_simp
   first | exact ⟨by first | rfl | assumption | (simp only [re]; omega),rfl⟩ | rfl | (simp; done)
 have kW3 : ∀ b,b < W2.heap.size → b = b → (W2.alloc (.cells #[.bool false] 4)).heap[b]? = W2.heap[b]?:=fun b hb _=>by rw [al_get,if_neg (by omega)]
 have lW3 : W2.heap.size < (W2.alloc (.cells #[.bool false] 4)).heap.size:=by rw [al_size]; omega
 have Bn : (W2.alloc (.cells #[.bool false] 4)).heap[W2.heap.size]? = some (.cells #[.bool false] 4 (0,0)):=by rw [al_get,if_pos rfl]
 generalize (W2.alloc (.cells #[.bool false] 4)) = W3 at *
 have tW3 : W2.heap.size < W3.heap.size ∧ W2.heap.size ≤ W2.heap.size:=⟨lW3,Nat.le_refl _⟩
 generalize hbW3 : W2.heap.size = b_Bn at Bn ⊢
 have l_b_Bn : W2.heap.size ≤ b_Bn ∧ b_Bn < W3.heap.size:=by omega
 clear hbW3 tW3
 replace kp : Kp V W3:=⟨Nat.le_trans kp.size (Nat.le_of_lt lW3),fun b hb=>(kW3 b (Nat.lt_of_lt_of_le hb kp.size) (by omega)).trans (kp.keep b hb)⟩
 replace Bp : W3.heap[b_Bp]? = some (.cells #[.pointer none] 88 (0,0)):=(kW3 _ (Array.getElem?_eq_some_iff.1 Bp).1 (by omega)).trans Bp
 replace Bf : W3.heap[b_Bf]? = some (.cells #[.func (.func fid) #[] caps] 1 (0,0)):=(kW3 _ (Array.getElem?_eq_some_iff.1 Bf).1 (by omega)).trans Bf
 clear kW3
 walk_nrm
 have r_Bn_0 : ∀ τ,(re W3 τ 0).cell? ⟨b_Bn,0,none⟩ = some (.bool false):=fun τ=>cell_of Bn (by simp)
 have z_Bn_0 : ∀ τ,(re W3 τ 0).frozen? ⟨b_Bn,0,none⟩ = false:=fun τ=>by simp [World.frozen?,re,Bn]
 obtain ⟨K,hK,hV,key,yek⟩:=kKV (L:=Lone) (J:=fun g=>KK d g W3) hM.mu (hM.muv hnW3)
 refine key _ ?_
 repeat (first|(with_reducible first|refine mu_seq hK ?_|refine mu_skip hK ?_|(refine mu_region_end hK ?_;try subst hkk)|refine mu_block hK ?_|refine mu_inBlock hK ?_|refine mu_ret hK ?_|refine mu_end hK ?_)|refine mu_exit hK rfl ?_|(with_reducible refine mu_regionH hK (fun kk hkk=>?_);simp only [List.size_toArray,List.length_cons,List.length_nil,Nat.reduceAdd,Nat.zero_add,List.range,List.range.loop])|(with_reducible refine mu_cf hK ?_ ?_;(· first|(walk_nrm;done)|(simp [Act.eval];done)))|(with_reducible refine mu_ct hK ?_ ?_;(· first|(walk_nrm;done)|(simp [Act.eval];done)))|(refine mu_unwanted hK rfl rfl ?_;walk_nrm)|(refine muv_val hV rfl (by first|exact .inl rfl|exact .inr rfl) rfl (by kernel_rfl) (fun J hJ=>?_);go_simp;with_reducible refine hJ _ ?_;clear hJ J;walk_nrm))
 refine yek _ ?_
 clear hK hV key yek K
 have hnW4 : norm (W3.setCell ⟨b_Bn,0,none⟩ (.bool false)) = (W3.setCell ⟨b_Bn,0,none⟩ (.bool false)):=(norm_set hnW3 _ _)
 refine mus_put (L:=Lone) (hM.mus hnW4) (K:=fun g=>KK d g W3) (K':=fun g=>KK d g (W3.setCell ⟨b_Bn,0,none⟩ (.bool false))) rfl (.inl rfl) rfl (by kernel_rfl) (fun τ=>?_) ?_
 · go_simp
   try rfl
 have kW4 : ∀ b,b < W3.heap.size → b ≠ b_Bn → (W3.setCell ⟨b_Bn,0,none⟩ (.bool false)).heap[b]? = W3.heap[b]?:=fun b _ hb=>by rw [setCell_heap,if_neg hb]
 have lW4 : W3.heap.size ≤ (W3.setCell ⟨b_Bn,0,none⟩ (.bool false)).heap.size:=by simp [World.setCell]
 have eW4 : (W3.setCell ⟨b_Bn,0,none⟩ (.bool false)).heap[b_Bn]? = some (.cells #[.bool false] 4 (0,0)):=by
   rw [setCell_heap,if_pos rfl,Bn]
   simp
 generalize (W3.setCell ⟨b_Bn,0,none⟩ (.bool false)) = W4 at *
 replace Bn:=eW4
 clear eW4
 clear r_Bn_0 z_Bn_0
 replace kp : Kp V W4:=⟨Nat.le_trans kp.size lW4,fun b hb=>(kW4 b (Nat.lt_of_lt_of_le hb kp.size) (by omega)).trans (kp.keep b hb)⟩
 replace Bp : W4.heap[b_Bp]? = some (.cells #[.pointer none] 88 (0,0)):=(kW4 _ (Array.getElem?_eq_some_iff.1 Bp).1 (by omega)).trans Bp
 replace Bf : W4.heap[b_Bf]? = some (.cells #[.func (.func fid) #[] caps] 1 (0,0)):=(kW4 _ (Array.getElem?_eq_some_iff.1 Bf).1 (by omega)).trans Bf
 clear kW4
 walk_nrm
 have r_Bp_0 : ∀ τ,(re W4 τ 0).cell? ⟨b_Bp,0,none⟩ = some (.pointer none):=fun τ=>cell_of Bp (by simp)
 have r_Bn_0 : ∀ τ,(re W4 τ 0).cell? ⟨b_Bn,0,none⟩ = some (.bool false):=fun τ=>cell_of Bn (by simp)
 obtain ⟨K,hK,hV,key,yek⟩:=kKV (L:=Lone) (J:=fun g=>KK d g W4) hM.mu (hM.muv hnW4)
 refine key _ ?_
 repeat (first|(with_reducible first|refine mu_seq hK ?_|refine mu_skip hK ?_|(refine mu_region_end hK ?_;try subst hkk)|refine mu_block hK ?_|refine mu_inBlock hK ?_|refine mu_ret hK ?_|refine mu_end hK ?_)|refine mu_exit hK rfl ?_|(with_reducible refine mu_regionH hK (fun kk hkk=>?_);simp only [List.size_toArray,List.length_cons,List.length_nil,Nat.reduceAdd,Nat.zero_add,List.range,List.range.loop])|(with_reducible refine mu_cf hK ?_ ?_;(· first|(walk_nrm;done)|(simp [Act.eval];done)))|(with_reducible refine mu_ct hK ?_ ?_;(· first|(walk_nrm;done)|(simp [Act.eval];done)))|(refine mu_unwanted hK rfl rfl ?_;walk_nrm)|(refine muv_val hV rfl (by first|exact .inl rfl|exact .inr rfl) rfl (by kernel_rfl) (fun J hJ=>?_);go_simp;with_reducible refine hJ _ ?_;clear hJ J;walk_nrm))
 refine yek _ ?_
 clear hK hV key yek K
 refine mu_leave1 (K:=fun g=>KK d g W4) hM.mu rfl rfl Try.func36 rfl ?_
 exact h W4 hnW4 kp
theorem o38f (hM : MarkK Try.prog main Z KK) (hn : norm V = V) (hc : V.cell? ⟨ob,3,none⟩ = some (.int .u32 0)) (h : KK d (G (b₀.at (a₀.put ((ops₀[i₀]?).bind (·.dst)) (.bool false)) (.inRegion ops₀ rest₀ :: k₀)) cs0) V) : KK d (G (Frame.enter Try.prog 38 #[.pointer (some ⟨ob,0,none⟩)] .normal) (b₀.at a₀ (.inRegion ops₀ (i₀ :: rest₀) :: k₀) :: cs0)) V:=by
 rw [enter_at (P:=Try.prog) _ Try.func38 rfl]
 simp only [Try.f38]
 walk_nrm
 obtain ⟨K,hK,hV,key,yek⟩:=kKV (L:=Lone) (J:=fun g=>KK d g V) hM.mu (hM.muv hn)
 refine key _ ?_
 repeat (first|(with_reducible first|refine mu_seq hK ?_|refine mu_skip hK ?_|(refine mu_region_end hK ?_;try subst hkk)|refine mu_block hK ?_|refine mu_inBlock hK ?_|refine mu_ret hK ?_|refine mu_end hK ?_)|refine mu_exit hK rfl ?_|(with_reducible refine mu_regionH hK (fun kk hkk=>?_);simp only [List.size_toArray,List.length_cons,List.length_nil,Nat.reduceAdd,Nat.zero_add,List.range,List.range.loop])|(with_reducible refine mu_cf hK ?_ ?_;(· first|(walk_nrm;done)|(simp [Act.eval];done)))|(with_reducible refine mu_ct hK ?_ ?_;(· first|(walk_nrm;done)|(simp [Act.eval];done)))|(refine mu_unwanted hK rfl rfl ?_;walk_nrm)|(refine muv_val hV rfl (by first|exact .inl rfl|exact .inr rfl) rfl (by kernel_rfl) (fun J hJ=>?_);go_simp;with_reducible refine hJ _ ?_;clear hJ J;walk_nrm))
 refine mu_call hK rfl rfl (by decide) rfl Try.func87 (by kernel_rfl) rfl ?_
 rw [← enter_at (P:=Try.prog) _ Try.func87 rfl]
 walk_nrm
 refine yek _ ?_
 clear hK hV key yek K
 refine o87f hM hn hc ?_
 walk_nrm
 obtain ⟨K,hK,hV,key,yek⟩:=kKV (L:=Lone) (J:=fun g=>KK d g V) hM.mu (hM.muv hn)
 refine key _ ?_
 repeat (first|(with_reducible first|refine mu_seq hK ?_|refine mu_skip hK ?_|(refine mu_region_end hK ?_;try subst hkk)|refine mu_block hK ?_|refine mu_inBlock hK ?_|refine mu_ret hK ?_|refine mu_end hK ?_)|refine mu_exit hK rfl ?_|(with_reducible refine mu_regionH hK (fun kk hkk=>?_);simp only [List.size_toArray,List.length_cons,List.length_nil,Nat.reduceAdd,Nat.zero_add,List.range,List.range.loop])|(with_reducible refine mu_cf hK ?_ ?_;(· first|(walk_nrm;done)|(simp [Act.eval];done)))|(with_reducible refine mu_ct hK ?_ ?_;(· first|(walk_nrm;done)|(simp [Act.eval];done)))|(refine mu_unwanted hK rfl rfl ?_;walk_nrm)|(refine muv_val hV rfl (by first|exact .inl rfl|exact .inr rfl) rfl (by kernel_rfl) (fun J hJ=>?_);go_simp;with_reducible refine hJ _ ?_;clear hJ J;walk_nrm))
 refine yek _ ?_
 clear hK hV key yek K
 refine mu_leave1 (K:=fun g=>KK d g V) hM.mu rfl rfl Try.func38 rfl ?_
 exact h
theorem o38t (hM : MarkK Try.prog main Z KK) (hn : norm V = V) (hc : V.cell? ⟨ob,3,none⟩ = some (.int .u32 1)) (h : KK d (G (b₀.at (a₀.put ((ops₀[i₀]?).bind (·.dst)) (.bool true)) (.inRegion ops₀ rest₀ :: k₀)) cs0) V) : KK d (G (Frame.enter Try.prog 38 #[.pointer (some ⟨ob,0,none⟩)] .normal) (b₀.at a₀ (.inRegion ops₀ (i₀ :: rest₀) :: k₀) :: cs0)) V:=by
 rw [enter_at (P:=Try.prog) _ Try.func38 rfl]
 simp only [Try.f38]
 walk_nrm
 obtain ⟨K,hK,hV,key,yek⟩:=kKV (L:=Lone) (J:=fun g=>KK d g V) hM.mu (hM.muv hn)
 refine key _ ?_
 repeat (first|(with_reducible first|refine mu_seq hK ?_|refine mu_skip hK ?_|(refine mu_region_end hK ?_;try subst hkk)|refine mu_block hK ?_|refine mu_inBlock hK ?_|refine mu_ret hK ?_|refine mu_end hK ?_)|refine mu_exit hK rfl ?_|(with_reducible refine mu_regionH hK (fun kk hkk=>?_);simp only [List.size_toArray,List.length_cons,List.length_nil,Nat.reduceAdd,Nat.zero_add,List.range,List.range.loop])|(with_reducible refine mu_cf hK ?_ ?_;(· first|(walk_nrm;done)|(simp [Act.eval];done)))|(with_reducible refine mu_ct hK ?_ ?_;(· first|(walk_nrm;done)|(simp [Act.eval];done)))|(refine mu_unwanted hK rfl rfl ?_;walk_nrm)|(refine muv_val hV rfl (by first|exact .inl rfl|exact .inr rfl) rfl (by kernel_rfl) (fun J hJ=>?_);go_simp;with_reducible refine hJ _ ?_;clear hJ J;walk_nrm))
 refine mu_call hK rfl rfl (by decide) rfl Try.func87 (by kernel_rfl) rfl ?_
 rw [← enter_at (P:=Try.prog) _ Try.func87 rfl]
 walk_nrm
 refine yek _ ?_
 clear hK hV key yek K
 refine o87t hM hn hc ?_
 walk_nrm
 obtain ⟨K,hK,hV,key,yek⟩:=kKV (L:=Lone) (J:=fun g=>KK d g V) hM.mu (hM.muv hn)
 refine key _ ?_
 repeat (first|(with_reducible first|refine mu_seq hK ?_|refine mu_skip hK ?_|(refine mu_region_end hK ?_;try subst hkk)|refine mu_block hK ?_|refine mu_inBlock hK ?_|refine mu_ret hK ?_|refine mu_end hK ?_)|refine mu_exit hK rfl ?_|(with_reducible refine mu_regionH hK (fun kk hkk=>?_);simp only [List.size_toArray,List.length_cons,List.length_nil,Nat.reduceAdd,Nat.zero_add,List.range,List.range.loop])|(with_reducible refine mu_cf hK ?_ ?_;(· first|(walk_nrm;done)|(simp [Act.eval];done)))|(with_reducible refine mu_ct hK ?_ ?_;(· first|(walk_nrm;done)|(simp [Act.eval];done)))|(refine mu_unwanted hK rfl rfl ?_;walk_nrm)|(refine muv_val hV rfl (by first|exact .inl rfl|exact .inr rfl) rfl (by kernel_rfl) (fun J hJ=>?_);go_simp;with_reducible refine hJ _ ?_;clear hJ J;walk_nrm))
 refine yek _ ?_
 clear hK hV key yek K
 refine mu_leave1 (K:=fun g=>KK d g V) hM.mu rfl rfl Try.func38 rfl ?_
 exact h
theorem o38z (hM : MarkK Try.prog main Z KK) (hn : norm V = V) (h : KK d (G (b₀.at (a₀.put ((ops₀[i₀]?).bind (·.dst)) (.bool false)) (.inRegion ops₀ rest₀ :: k₀)) cs0) V) : KK d (G (Frame.enter Try.prog 38 #[.pointer none] .normal) (b₀.at a₀ (.inRegion ops₀ (i₀ :: rest₀) :: k₀) :: cs0)) V:=by
 rw [enter_at (P:=Try.prog) _ Try.func38 rfl]
 simp only [Try.f38]
 walk_nrm
 obtain ⟨K,hK,hV,key,yek⟩:=kKV (L:=Lone) (J:=fun g=>KK d g V) hM.mu (hM.muv hn)
 refine key _ ?_
 repeat (first|(with_reducible first|refine mu_seq hK ?_|refine mu_skip hK ?_|(refine mu_region_end hK ?_;try subst hkk)|refine mu_block hK ?_|refine mu_inBlock hK ?_|refine mu_ret hK ?_|refine mu_end hK ?_)|refine mu_exit hK rfl ?_|(with_reducible refine mu_regionH hK (fun kk hkk=>?_);simp only [List.size_toArray,List.length_cons,List.length_nil,Nat.reduceAdd,Nat.zero_add,List.range,List.range.loop])|(with_reducible refine mu_cf hK ?_ ?_;(· first|(walk_nrm;done)|(simp [Act.eval];done)))|(with_reducible refine mu_ct hK ?_ ?_;(· first|(walk_nrm;done)|(simp [Act.eval];done)))|(refine mu_unwanted hK rfl rfl ?_;walk_nrm)|(refine muv_val hV rfl (by first|exact .inl rfl|exact .inr rfl) rfl (by kernel_rfl) (fun J hJ=>?_);go_simp;with_reducible refine hJ _ ?_;clear hJ J;walk_nrm))
 refine yek _ ?_
 clear hK hV key yek K
 refine mu_leave1 (K:=fun g=>KK d g V) hM.mu rfl rfl Try.func38 rfl ?_
 exact h
end
end Go.Proofs.Ytibcdikfbhmheaa

namespace Go.Proofs.Ytibcdikfbhmheaa
open Go Go.Conc Go.Proofs
open Go.ConcN (sumTo upd sumTo_upd upd_ne upd_same)
set_option linter.unusedVariables false
section
variable {main : Bool} {Z : Cuts} {Stop : Goroutine → World → Prop} {V : World} {b : Frame} {a : Act} {ops : Array Oper} {i : Nat} {rest : List Nat} {k : List Item} {cs : List Frame} {o : Oper} {ats : Array TypeId}
theorem at_load (ho : ops[i]? = some o) (hw : Region.wanted o (yielded ops a.tmps) = true) (hk : b.kind ≠ .early) {x : Operand} (hop : o.op = .call { callee:=.value (.func 119),args:=#[x],argTypes:=ats }) {ad : Addr} {v : Int} (hx : a.eval x = .pointer (some ad)) (hc : V.cell? ad = some (.int .i64 v))
   (h : Will Try.prog main Z Stop (G (b.at (a.put o.dst (.int .i64 v)) (.inRegion ops rest :: k)) cs) V) : Will Try.prog main Z Stop (G (b.at a (.inRegion ops (i :: rest) :: k)) cs) V :=
 will_atr rfl hc (fun w hcw=>stepG_load_atomic ho hw hk hop Try.func119 (by kernel_rfl) (by kernel_rfl) (by kernel_rfl) .i64 (by kernel_rfl) hx hcw) h
theorem at_add (ho : ops[i]? = some o) (hw : Region.wanted o (yielded ops a.tmps) = true) (hk : b.kind ≠ .early) {x y : Operand} (hop : o.op = .call { callee:=.value (.func 120),args:=#[x,y],argTypes:=ats }) {ad : Addr} {v d : Int} (hx : a.eval x = .pointer (some ad)) (hy : a.eval y = .int .i64 d) (hc : V.cell? ad = some (.int .i64 v)) (hz : V.frozen? ad = false)
   (h : Will Try.prog main Z Stop (G (b.at (a.put o.dst (.int .i64 (IntKind.i64.wrap (v + d)))) (.inRegion ops rest :: k)) cs) (V.setCell ad (.int .i64 (IntKind.i64.wrap (v + d))))) : Will Try.prog main Z Stop (G (b.at a (.inRegion ops (i :: rest) :: k)) cs) V :=
 will_atw rfl hc hz (fun w hcw hzw=>stepG_add_atomic ho hw hk hop Try.func120 (by kernel_rfl) (by kernel_rfl) (by kernel_rfl) .i64 (by kernel_rfl) hx hy hcw hzw) h
theorem at_cas (ho : ops[i]? = some o) (hw : Region.wanted o (yielded ops a.tmps) = true) (hk : b.kind ≠ .early) {x y z : Operand} (hop : o.op = .call { callee:=.value (.func 125),args:=#[x,y,z],argTypes:=ats }) {ad : Addr} {v n : Int} (hx : a.eval x = .pointer (some ad)) (hy : a.eval y = .int .i64 v) (hzz : a.eval z = .int .i64 n) (hc : V.cell? ad = some (.int .i64 v)) (hz : V.frozen? ad = false)
   (h : Will Try.prog main Z Stop (G (b.at (a.put o.dst (.bool true)) (.inRegion ops rest :: k)) cs) (V.setCell ad (.int .i64 n))) : Will Try.prog main Z Stop (G (b.at a (.inRegion ops (i :: rest) :: k)) cs) V :=
 will_atw rfl hc hz (fun w hcw hzw=>stepG_cas_hit ho hw hk hop Try.func125 (by kernel_rfl) (by kernel_rfl) (by kernel_rfl) .i64 (by kernel_rfl) hx hy hzz hcw hzw) h
end
end Go.Proofs.Ytibcdikfbhmheaa
