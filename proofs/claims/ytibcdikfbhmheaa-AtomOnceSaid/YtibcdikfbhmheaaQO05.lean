import Derived.Test.YtibcdikfbhmheaaQO04
import Derived.Test.YtibcdikfbhmheaaB17
set_option linter.unusedSimpArgs false
set_option linter.unusedVariables false
set_option maxRecDepth 100000
set_option maxHeartbeats 4000000
namespace Go.Proofs.Ytibcdikfbhmheaa
open Go Go.Conc Go.Proofs
open Go.ConcN (sumTo upd sumTo_upd upd_ne upd_same)
set_option linter.unusedVariables false
theorem kp_set {V V1 : World} (h : Kp V V1) {b k : Nat} {v : Value} (hb : V.heap.size ≤ b) : Kp V (V1.setCell ⟨b,k,none⟩ v):=⟨by rw [size_setCell]; exact h.size,fun x hx=>by rw [setCell_heap,if_neg (show ¬ x = b by omega)]; exact h.keep x hx⟩
section
variable {V : World} {Z : Cuts} {Post : Value → World → Prop} {b₀ : Frame} {a₀ : Act} {ops₀ : Array Oper} {i₀ : Nat} {rest₀ : List Nat} {k₀ : List Item} {cs0 : List Frame}
theorem live28_go (hn : norm V = V)
   (K0 : ∀ V',norm V' = V' → Kp V V' → To0 Try.prog Post Z V' (G (b₀.at (a₀.put ((ops₀[i₀]?).bind (·.dst)) (.bool true)) (.inRegion ops₀ rest₀ :: k₀)) cs0)) :
   To0 Try.prog Post Z V (G (Frame.enter Try.prog 28 #[] .normal) (b₀.at a₀ (.inRegion ops₀ (i₀ :: rest₀) :: k₀) :: cs0)):=by
 rw [enter_at (P:=Try.prog) _ Try.func28 rfl]
 simp only [Try.f28]
 walk_nrm
 obtain ⟨K,hK,hV,key,yek⟩:=kKV (L:=Lone) (J:=fun g=>To0 Try.prog Post Z V g) mu_to0 (muv_to0 hn)
 refine key _ ?_
 repeat (first|(with_reducible first|refine mu_seq hK ?_|refine mu_skip hK ?_|(refine mu_region_end hK ?_;try subst hkk)|refine mu_block hK ?_|refine mu_inBlock hK ?_|refine mu_ret hK ?_|refine mu_end hK ?_)|refine mu_exit hK rfl ?_|(with_reducible refine mu_regionH hK (fun kk hkk=>?_);simp only [List.size_toArray,List.length_cons,List.length_nil,Nat.reduceAdd,Nat.zero_add,List.range,List.range.loop])|(with_reducible refine mu_cf hK ?_ ?_;(· first|(walk_nrm;done)|(simp [Act.eval];done)))|(with_reducible refine mu_ct hK ?_ ?_;(· first|(walk_nrm;done)|(simp [Act.eval];done)))|(refine mu_unwanted hK rfl rfl ?_;walk_nrm)|(refine muv_val hV rfl (by first|exact .inl rfl|exact .inr rfl) rfl (by kernel_rfl) (fun J hJ=>?_);go_simp;with_reducible refine hJ _ ?_;clear hJ J;walk_nrm))
 refine yek _ ?_
 clear hK hV key yek K
 have hn1 : norm (V.alloc (.cells #[.int .i64 0] 64)) = (V.alloc (.cells #[.int .i64 0] 64)):=norm_al hn _
 refine mua_put (L:=Lone) (v:=.pointer (some ⟨V.heap.size,0,none⟩)) (mua_to0 hn1) (K:=fun g=>To0 Try.prog Post Z V g) (K':=fun g=>To0 Try.prog Post Z (V.alloc (.cells #[.int .i64 0] 64)) g) rfl (.inl rfl) rfl (by kernel_rfl) (fun τ=>?_) ?_
 · go_simp
   first | exact ⟨by first | rfl | assumption | (simp only [re]; omega),rfl⟩ | rfl | (simp; done)
 have sV1 : (V.alloc (.cells #[.int .i64 0] 64)).heap.size = V.heap.size + 1:=al_size _ _
 have kV1 : Kp V (V.alloc (.cells #[.int .i64 0] 64)):=kp_alloc _ _
 have rV1 : (V.alloc (.cells #[.int .i64 0] 64)).heap[V.heap.size]? = some (.cells #[.int .i64 0] 64):=by rw [al_get,if_pos rfl]
 generalize (V.alloc (.cells #[.int .i64 0] 64)) = V1 at *
 walk_nrm
 obtain ⟨R,eR⟩ : ∃ R,R = V.heap.size:=⟨_,rfl⟩
 rw [← eR] at rV1 ⊢
 have eR1 : V.heap.size ≤ R:=by omega
 clear eR
 have cV1 : V1.cell? ⟨R,0,none⟩ = some (.int .i64 0):=cell_of rV1 (by simp)
 have zV1 : V1.frozen? ⟨R,0,none⟩ = false:=by simp [World.frozen?,rV1]
 obtain ⟨K,hK,hV,key,yek⟩:=kKV (L:=Lone) (J:=fun g=>To0 Try.prog Post Z V1 g) mu_to0 (muv_to0 hn1)
 refine key _ ?_
 repeat (first|(with_reducible first|refine mu_seq hK ?_|refine mu_skip hK ?_|(refine mu_region_end hK ?_;try subst hkk)|refine mu_block hK ?_|refine mu_inBlock hK ?_|refine mu_ret hK ?_|refine mu_end hK ?_)|refine mu_exit hK rfl ?_|(with_reducible refine mu_regionH hK (fun kk hkk=>?_);simp only [List.size_toArray,List.length_cons,List.length_nil,Nat.reduceAdd,Nat.zero_add,List.range,List.range.loop])|(with_reducible refine mu_cf hK ?_ ?_;(· first|(walk_nrm;done)|(simp [Act.eval];done)))|(with_reducible refine mu_ct hK ?_ ?_;(· first|(walk_nrm;done)|(simp [Act.eval];done)))|(refine mu_unwanted hK rfl rfl ?_;walk_nrm)|(refine muv_val hV rfl (by first|exact .inl rfl|exact .inr rfl) rfl (by kernel_rfl) (fun J hJ=>?_);go_simp;with_reducible refine hJ _ ?_;clear hJ J;walk_nrm))
 refine mu_call hK rfl rfl (by decide) rfl Try.func34 (by kernel_rfl) rfl ?_
 have hnt34 : Try.f34.ntmps = 16:=rfl
 rw [hnt34]
 clear hnt34
 walk_nrm
 repeat (first|(with_reducible first|refine mu_seq hK ?_|refine mu_skip hK ?_|(refine mu_region_end hK ?_;try subst hkk)|refine mu_block hK ?_|refine mu_inBlock hK ?_|refine mu_ret hK ?_|refine mu_end hK ?_)|refine mu_exit hK rfl ?_|(with_reducible refine mu_regionH hK (fun kk hkk=>?_);simp only [List.size_toArray,List.length_cons,List.length_nil,Nat.reduceAdd,Nat.zero_add,List.range,List.range.loop])|(with_reducible refine mu_cf hK ?_ ?_;(· first|(walk_nrm;done)|(simp [Act.eval];done)))|(with_reducible refine mu_ct hK ?_ ?_;(· first|(walk_nrm;done)|(simp [Act.eval];done)))|(refine mu_unwanted hK rfl rfl ?_;walk_nrm)|(refine muv_val hV rfl (by first|exact .inl rfl|exact .inr rfl) rfl (by kernel_rfl) (fun J hJ=>?_);go_simp;with_reducible refine hJ _ ?_;clear hJ J;walk_nrm))
 refine mu_call hK rfl rfl (by decide) rfl Try.func24 (by kernel_rfl) rfl ?_
 have hnt24 : Try.f24.ntmps = 6:=rfl
 rw [hnt24]
 clear hnt24
 walk_nrm
 repeat (first|(with_reducible first|refine mu_seq hK ?_|refine mu_skip hK ?_|(refine mu_region_end hK ?_;try subst hkk)|refine mu_block hK ?_|refine mu_inBlock hK ?_|refine mu_ret hK ?_|refine mu_end hK ?_)|refine mu_exit hK rfl ?_|(with_reducible refine mu_regionH hK (fun kk hkk=>?_);simp only [List.size_toArray,List.length_cons,List.length_nil,Nat.reduceAdd,Nat.zero_add,List.range,List.range.loop])|(with_reducible refine mu_cf hK ?_ ?_;(· first|(walk_nrm;done)|(simp [Act.eval];done)))|(with_reducible refine mu_ct hK ?_ ?_;(· first|(walk_nrm;done)|(simp [Act.eval];done)))|(refine mu_unwanted hK rfl rfl ?_;walk_nrm)|(refine muv_val hV rfl (by first|exact .inl rfl|exact .inr rfl) rfl (by kernel_rfl) (fun J hJ=>?_);go_simp;with_reducible refine hJ _ ?_;clear hJ J;walk_nrm))
 refine mu_leave0 hK rfl rfl Try.func24 rfl ?_
 walk_nrm
 repeat (first|(with_reducible first|refine mu_seq hK ?_|refine mu_skip hK ?_|(refine mu_region_end hK ?_;try subst hkk)|refine mu_block hK ?_|refine mu_inBlock hK ?_|refine mu_ret hK ?_|refine mu_end hK ?_)|refine mu_exit hK rfl ?_|(with_reducible refine mu_regionH hK (fun kk hkk=>?_);simp only [List.size_toArray,List.length_cons,List.length_nil,Nat.reduceAdd,Nat.zero_add,List.range,List.range.loop])|(with_reducible refine mu_cf hK ?_ ?_;(· first|(walk_nrm;done)|(simp [Act.eval];done)))|(with_reducible refine mu_ct hK ?_ ?_;(· first|(walk_nrm;done)|(simp [Act.eval];done)))|(refine mu_unwanted hK rfl rfl ?_;walk_nrm)|(refine muv_val hV rfl (by first|exact .inl rfl|exact .inr rfl) rfl (by kernel_rfl) (fun J hJ=>?_);go_simp;with_reducible refine hJ _ ?_;clear hJ J;walk_nrm))
 refine mu_call hK rfl rfl (by decide) rfl Try.func83 (by kernel_rfl) rfl ?_
 have hnt83 : Try.f83.ntmps = 10:=rfl
 rw [hnt83]
 clear hnt83
 walk_nrm
 repeat (first|(with_reducible first|refine mu_seq hK ?_|refine mu_skip hK ?_|(refine mu_region_end hK ?_;try subst hkk)|refine mu_block hK ?_|refine mu_inBlock hK ?_|refine mu_ret hK ?_|refine mu_end hK ?_)|refine mu_exit hK rfl ?_|(with_reducible refine mu_regionH hK (fun kk hkk=>?_);simp only [List.size_toArray,List.length_cons,List.length_nil,Nat.reduceAdd,Nat.zero_add,List.range,List.range.loop])|(with_reducible refine mu_cf hK ?_ ?_;(· first|(walk_nrm;done)|(simp [Act.eval];done)))|(with_reducible refine mu_ct hK ?_ ?_;(· first|(walk_nrm;done)|(simp [Act.eval];done)))|(refine mu_unwanted hK rfl rfl ?_;walk_nrm)|(refine muv_val hV rfl (by first|exact .inl rfl|exact .inr rfl) rfl (by kernel_rfl) (fun J hJ=>?_);go_simp;with_reducible refine hJ _ ?_;clear hJ J;walk_nrm))
 refine yek _ ?_
 clear hK hV key yek K
 refine To0.walk (at_add (main:=true) (ad:=⟨R,0,none⟩) (v:=0) (d:=5) rfl rfl (base_ne _) rfl rfl rfl cV1 zV1 (Will.stop ?_))
 rw [show IntKind.i64.wrap (0 + 5) = 5 by decide]
 have hn2 : norm (V1.setCell ⟨R,0,none⟩ (.int .i64 5)) = (V1.setCell ⟨R,0,none⟩ (.int .i64 5)):=norm_set hn1 _ _
 have kV2 : Kp V (V1.setCell ⟨R,0,none⟩ (.int .i64 5)):=kp_set kV1 (by omega)
 have rV2 : (V1.setCell ⟨R,0,none⟩ (.int .i64 5)).heap[R]? = some (.cells #[.int .i64 5] 64 (0,0)):=by rw [setCell_heap,if_pos rfl,rV1]; simp
 generalize (V1.setCell ⟨R,0,none⟩ (.int .i64 5)) = V2 at *
 have cV2 : V2.cell? ⟨R,0,none⟩ = some (.int .i64 5):=cell_of rV2 (by simp)
 have zV2 : V2.frozen? ⟨R,0,none⟩ = false:=by simp [World.frozen?,rV2]
 walk_nrm
 obtain ⟨K,hK,hV,key,yek⟩:=kKV (L:=Lone) (J:=fun g=>To0 Try.prog Post Z V2 g) mu_to0 (muv_to0 hn2)
 refine key _ ?_
 repeat (first|(with_reducible first|refine mu_seq hK ?_|refine mu_skip hK ?_|(refine mu_region_end hK ?_;try subst hkk)|refine mu_block hK ?_|refine mu_inBlock hK ?_|refine mu_ret hK ?_|refine mu_end hK ?_)|refine mu_exit hK rfl ?_|(with_reducible refine mu_regionH hK (fun kk hkk=>?_);simp only [List.size_toArray,List.length_cons,List.length_nil,Nat.reduceAdd,Nat.zero_add,List.range,List.range.loop])|(with_reducible refine mu_cf hK ?_ ?_;(· first|(walk_nrm;done)|(simp [Act.eval];done)))|(with_reducible refine mu_ct hK ?_ ?_;(· first|(walk_nrm;done)|(simp [Act.eval];done)))|(refine mu_unwanted hK rfl rfl ?_;walk_nrm)|(refine muv_val hV rfl (by first|exact .inl rfl|exact .inr rfl) rfl (by kernel_rfl) (fun J hJ=>?_);go_simp;with_reducible refine hJ _ ?_;clear hJ J;walk_nrm))
 refine mu_leave1 hK rfl rfl Try.func83 rfl ?_
 walk_nrm
 repeat (first|(with_reducible first|refine mu_seq hK ?_|refine mu_skip hK ?_|(refine mu_region_end hK ?_;try subst hkk)|refine mu_block hK ?_|refine mu_inBlock hK ?_|refine mu_ret hK ?_|refine mu_end hK ?_)|refine mu_exit hK rfl ?_|(with_reducible refine mu_regionH hK (fun kk hkk=>?_);simp only [List.size_toArray,List.length_cons,List.length_nil,Nat.reduceAdd,Nat.zero_add,List.range,List.range.loop])|(with_reducible refine mu_cf hK ?_ ?_;(· first|(walk_nrm;done)|(simp [Act.eval];done)))|(with_reducible refine mu_ct hK ?_ ?_;(· first|(walk_nrm;done)|(simp [Act.eval];done)))|(refine mu_unwanted hK rfl rfl ?_;walk_nrm)|(refine muv_val hV rfl (by first|exact .inl rfl|exact .inr rfl) rfl (by kernel_rfl) (fun J hJ=>?_);go_simp;with_reducible refine hJ _ ?_;clear hJ J;walk_nrm))
 refine mu_leave1 hK rfl rfl Try.func34 rfl ?_
 walk_nrm
 repeat (first|(with_reducible first|refine mu_seq hK ?_|refine mu_skip hK ?_|(refine mu_region_end hK ?_;try subst hkk)|refine mu_block hK ?_|refine mu_inBlock hK ?_|refine mu_ret hK ?_|refine mu_end hK ?_)|refine mu_exit hK rfl ?_|(with_reducible refine mu_regionH hK (fun kk hkk=>?_);simp only [List.size_toArray,List.length_cons,List.length_nil,Nat.reduceAdd,Nat.zero_add,List.range,List.range.loop])|(with_reducible refine mu_cf hK ?_ ?_;(· first|(walk_nrm;done)|(simp [Act.eval];done)))|(with_reducible refine mu_ct hK ?_ ?_;(· first|(walk_nrm;done)|(simp [Act.eval];done)))|(refine mu_unwanted hK rfl rfl ?_;walk_nrm)|(refine muv_val hV rfl (by first|exact .inl rfl|exact .inr rfl) rfl (by kernel_rfl) (fun J hJ=>?_);go_simp;with_reducible refine hJ _ ?_;clear hJ J;walk_nrm))
 refine mu_call hK rfl rfl (by decide) rfl Try.func40 (by kernel_rfl) rfl ?_
 have hnt40 : Try.f40.ntmps = 19:=rfl
 rw [hnt40]
 clear hnt40
 walk_nrm
 repeat (first|(with_reducible first|refine mu_seq hK ?_|refine mu_skip hK ?_|(refine mu_region_end hK ?_;try subst hkk)|refine mu_block hK ?_|refine mu_inBlock hK ?_|refine mu_ret hK ?_|refine mu_end hK ?_)|refine mu_exit hK rfl ?_|(with_reducible refine mu_regionH hK (fun kk hkk=>?_);simp only [List.size_toArray,List.length_cons,List.length_nil,Nat.reduceAdd,Nat.zero_add,List.range,List.range.loop])|(with_reducible refine mu_cf hK ?_ ?_;(· first|(walk_nrm;done)|(simp [Act.eval];done)))|(with_reducible refine mu_ct hK ?_ ?_;(· first|(walk_nrm;done)|(simp [Act.eval];done)))|(refine mu_unwanted hK rfl rfl ?_;walk_nrm)|(refine muv_val hV rfl (by first|exact .inl rfl|exact .inr rfl) rfl (by kernel_rfl) (fun J hJ=>?_);go_simp;with_reducible refine hJ _ ?_;clear hJ J;walk_nrm))
 refine mu_call hK rfl rfl (by decide) rfl Try.func24 (by kernel_rfl) rfl ?_
 have hnt24 : Try.f24.ntmps = 6:=rfl
 rw [hnt24]
 clear hnt24
 walk_nrm
 repeat (first|(with_reducible first|refine mu_seq hK ?_|refine mu_skip hK ?_|(refine mu_region_end hK ?_;try subst hkk)|refine mu_block hK ?_|refine mu_inBlock hK ?_|refine mu_ret hK ?_|refine mu_end hK ?_)|refine mu_exit hK rfl ?_|(with_reducible refine mu_regionH hK (fun kk hkk=>?_);simp only [List.size_toArray,List.length_cons,List.length_nil,Nat.reduceAdd,Nat.zero_add,List.range,List.range.loop])|(with_reducible refine mu_cf hK ?_ ?_;(· first|(walk_nrm;done)|(simp [Act.eval];done)))|(with_reducible refine mu_ct hK ?_ ?_;(· first|(walk_nrm;done)|(simp [Act.eval];done)))|(refine mu_unwanted hK rfl rfl ?_;walk_nrm)|(refine muv_val hV rfl (by first|exact .inl rfl|exact .inr rfl) rfl (by kernel_rfl) (fun J hJ=>?_);go_simp;with_reducible refine hJ _ ?_;clear hJ J;walk_nrm))
 refine mu_leave0 hK rfl rfl Try.func24 rfl ?_
 walk_nrm
 repeat (first|(with_reducible first|refine mu_seq hK ?_|refine mu_skip hK ?_|(refine mu_region_end hK ?_;try subst hkk)|refine mu_block hK ?_|refine mu_inBlock hK ?_|refine mu_ret hK ?_|refine mu_end hK ?_)|refine mu_exit hK rfl ?_|(with_reducible refine mu_regionH hK (fun kk hkk=>?_);simp only [List.size_toArray,List.length_cons,List.length_nil,Nat.reduceAdd,Nat.zero_add,List.range,List.range.loop])|(with_reducible refine mu_cf hK ?_ ?_;(· first|(walk_nrm;done)|(simp [Act.eval];done)))|(with_reducible refine mu_ct hK ?_ ?_;(· first|(walk_nrm;done)|(simp [Act.eval];done)))|(refine mu_unwanted hK rfl rfl ?_;walk_nrm)|(refine muv_val hV rfl (by first|exact .inl rfl|exact .inr rfl) rfl (by kernel_rfl) (fun J hJ=>?_);go_simp;with_reducible refine hJ _ ?_;clear hJ J;walk_nrm))
 refine mu_call hK rfl rfl (by decide) rfl Try.func88 (by kernel_rfl) rfl ?_
 have hnt88 : Try.f88.ntmps = 13:=rfl
 rw [hnt88]
 clear hnt88
 walk_nrm
 repeat (first|(with_reducible first|refine mu_seq hK ?_|refine mu_skip hK ?_|(refine mu_region_end hK ?_;try subst hkk)|refine mu_block hK ?_|refine mu_inBlock hK ?_|refine mu_ret hK ?_|refine mu_end hK ?_)|refine mu_exit hK rfl ?_|(with_reducible refine mu_regionH hK (fun kk hkk=>?_);simp only [List.size_toArray,List.length_cons,List.length_nil,Nat.reduceAdd,Nat.zero_add,List.range,List.range.loop])|(with_reducible refine mu_cf hK ?_ ?_;(· first|(walk_nrm;done)|(simp [Act.eval];done)))|(with_reducible refine mu_ct hK ?_ ?_;(· first|(walk_nrm;done)|(simp [Act.eval];done)))|(refine mu_unwanted hK rfl rfl ?_;walk_nrm)|(refine muv_val hV rfl (by first|exact .inl rfl|exact .inr rfl) rfl (by kernel_rfl) (fun J hJ=>?_);go_simp;with_reducible refine hJ _ ?_;clear hJ J;walk_nrm))
 refine yek _ ?_
 clear hK hV key yek K
 refine To0.walk (at_cas (main:=true) (ad:=⟨R,0,none⟩) (v:=5) (n:=7) rfl rfl (base_ne _) rfl rfl rfl rfl cV2 zV2 (Will.stop ?_))
 have hn3 : norm (V2.setCell ⟨R,0,none⟩ (.int .i64 7)) = (V2.setCell ⟨R,0,none⟩ (.int .i64 7)):=norm_set hn2 _ _
 have kV3 : Kp V (V2.setCell ⟨R,0,none⟩ (.int .i64 7)):=kp_set kV2 (by omega)
 have rV3 : (V2.setCell ⟨R,0,none⟩ (.int .i64 7)).heap[R]? = some (.cells #[.int .i64 7] 64 (0,0)):=by rw [setCell_heap,if_pos rfl,rV2]; simp
 generalize (V2.setCell ⟨R,0,none⟩ (.int .i64 7)) = V3 at *
 have cV3 : V3.cell? ⟨R,0,none⟩ = some (.int .i64 7):=cell_of rV3 (by simp)
 have zV3 : V3.frozen? ⟨R,0,none⟩ = false:=by simp [World.frozen?,rV3]
 walk_nrm
 obtain ⟨K,hK,hV,key,yek⟩:=kKV (L:=Lone) (J:=fun g=>To0 Try.prog Post Z V3 g) mu_to0 (muv_to0 hn3)
 refine key _ ?_
 repeat (first|(with_reducible first|refine mu_seq hK ?_|refine mu_skip hK ?_|(refine mu_region_end hK ?_;try subst hkk)|refine mu_block hK ?_|refine mu_inBlock hK ?_|refine mu_ret hK ?_|refine mu_end hK ?_)|refine mu_exit hK rfl ?_|(with_reducible refine mu_regionH hK (fun kk hkk=>?_);simp only [List.size_toArray,List.length_cons,List.length_nil,Nat.reduceAdd,Nat.zero_add,List.range,List.range.loop])|(with_reducible refine mu_cf hK ?_ ?_;(· first|(walk_nrm;done)|(simp [Act.eval];done)))|(with_reducible refine mu_ct hK ?_ ?_;(· first|(walk_nrm;done)|(simp [Act.eval];done)))|(refine mu_unwanted hK rfl rfl ?_;walk_nrm)|(refine muv_val hV rfl (by first|exact .inl rfl|exact .inr rfl) rfl (by kernel_rfl) (fun J hJ=>?_);go_simp;with_reducible refine hJ _ ?_;clear hJ J;walk_nrm))
 refine mu_leave1 hK rfl rfl Try.func88 rfl ?_
 walk_nrm
 repeat (first|(with_reducible first|refine mu_seq hK ?_|refine mu_skip hK ?_|(refine mu_region_end hK ?_;try subst hkk)|refine mu_block hK ?_|refine mu_inBlock hK ?_|refine mu_ret hK ?_|refine mu_end hK ?_)|refine mu_exit hK rfl ?_|(with_reducible refine mu_regionH hK (fun kk hkk=>?_);simp only [List.size_toArray,List.length_cons,List.length_nil,Nat.reduceAdd,Nat.zero_add,List.range,List.range.loop])|(with_reducible refine mu_cf hK ?_ ?_;(· first|(walk_nrm;done)|(simp [Act.eval];done)))|(with_reducible refine mu_ct hK ?_ ?_;(· first|(walk_nrm;done)|(simp [Act.eval];done)))|(refine mu_unwanted hK rfl rfl ?_;walk_nrm)|(refine muv_val hV rfl (by first|exact .inl rfl|exact .inr rfl) rfl (by kernel_rfl) (fun J hJ=>?_);go_simp;with_reducible refine hJ _ ?_;clear hJ J;walk_nrm))
 refine mu_leave1 hK rfl rfl Try.func40 rfl ?_
 walk_nrm
 repeat (first|(with_reducible first|refine mu_seq hK ?_|refine mu_skip hK ?_|(refine mu_region_end hK ?_;try subst hkk)|refine mu_block hK ?_|refine mu_inBlock hK ?_|refine mu_ret hK ?_|refine mu_end hK ?_)|refine mu_exit hK rfl ?_|(with_reducible refine mu_regionH hK (fun kk hkk=>?_);simp only [List.size_toArray,List.length_cons,List.length_nil,Nat.reduceAdd,Nat.zero_add,List.range,List.range.loop])|(with_reducible refine mu_cf hK ?_ ?_;(· first|(walk_nrm;done)|(simp [Act.eval];done)))|(with_reducible refine mu_ct hK ?_ ?_;(· first|(walk_nrm;done)|(simp [Act.eval];done)))|(refine mu_unwanted hK rfl rfl ?_;walk_nrm)|(refine muv_val hV rfl (by first|exact .inl rfl|exact .inr rfl) rfl (by kernel_rfl) (fun J hJ=>?_);go_simp;with_reducible refine hJ _ ?_;clear hJ J;walk_nrm))
 refine mu_call hK rfl rfl (by decide) rfl Try.func41 (by kernel_rfl) rfl ?_
 have hnt41 : Try.f41.ntmps = 13:=rfl
 rw [hnt41]
 clear hnt41
 walk_nrm
 repeat (first|(with_reducible first|refine mu_seq hK ?_|refine mu_skip hK ?_|(refine mu_region_end hK ?_;try subst hkk)|refine mu_block hK ?_|refine mu_inBlock hK ?_|refine mu_ret hK ?_|refine mu_end hK ?_)|refine mu_exit hK rfl ?_|(with_reducible refine mu_regionH hK (fun kk hkk=>?_);simp only [List.size_toArray,List.length_cons,List.length_nil,Nat.reduceAdd,Nat.zero_add,List.range,List.range.loop])|(with_reducible refine mu_cf hK ?_ ?_;(· first|(walk_nrm;done)|(simp [Act.eval];done)))|(with_reducible refine mu_ct hK ?_ ?_;(· first|(walk_nrm;done)|(simp [Act.eval];done)))|(refine mu_unwanted hK rfl rfl ?_;walk_nrm)|(refine muv_val hV rfl (by first|exact .inl rfl|exact .inr rfl) rfl (by kernel_rfl) (fun J hJ=>?_);go_simp;with_reducible refine hJ _ ?_;clear hJ J;walk_nrm))
 refine mu_call hK rfl rfl (by decide) rfl Try.func24 (by kernel_rfl) rfl ?_
 have hnt24 : Try.f24.ntmps = 6:=rfl
 rw [hnt24]
 clear hnt24
 walk_nrm
 repeat (first|(with_reducible first|refine mu_seq hK ?_|refine mu_skip hK ?_|(refine mu_region_end hK ?_;try subst hkk)|refine mu_block hK ?_|refine mu_inBlock hK ?_|refine mu_ret hK ?_|refine mu_end hK ?_)|refine mu_exit hK rfl ?_|(with_reducible refine mu_regionH hK (fun kk hkk=>?_);simp only [List.size_toArray,List.length_cons,List.length_nil,Nat.reduceAdd,Nat.zero_add,List.range,List.range.loop])|(with_reducible refine mu_cf hK ?_ ?_;(· first|(walk_nrm;done)|(simp [Act.eval];done)))|(with_reducible refine mu_ct hK ?_ ?_;(· first|(walk_nrm;done)|(simp [Act.eval];done)))|(refine mu_unwanted hK rfl rfl ?_;walk_nrm)|(refine muv_val hV rfl (by first|exact .inl rfl|exact .inr rfl) rfl (by kernel_rfl) (fun J hJ=>?_);go_simp;with_reducible refine hJ _ ?_;clear hJ J;walk_nrm))
 refine mu_leave0 hK rfl rfl Try.func24 rfl ?_
 walk_nrm
 repeat (first|(with_reducible first|refine mu_seq hK ?_|refine mu_skip hK ?_|(refine mu_region_end hK ?_;try subst hkk)|refine mu_block hK ?_|refine mu_inBlock hK ?_|refine mu_ret hK ?_|refine mu_end hK ?_)|refine mu_exit hK rfl ?_|(with_reducible refine mu_regionH hK (fun kk hkk=>?_);simp only [List.size_toArray,List.length_cons,List.length_nil,Nat.reduceAdd,Nat.zero_add,List.range,List.range.loop])|(with_reducible refine mu_cf hK ?_ ?_;(· first|(walk_nrm;done)|(simp [Act.eval];done)))|(with_reducible refine mu_ct hK ?_ ?_;(· first|(walk_nrm;done)|(simp [Act.eval];done)))|(refine mu_unwanted hK rfl rfl ?_;walk_nrm)|(refine muv_val hV rfl (by first|exact .inl rfl|exact .inr rfl) rfl (by kernel_rfl) (fun J hJ=>?_);go_simp;with_reducible refine hJ _ ?_;clear hJ J;walk_nrm))
 refine mu_call hK rfl rfl (by decide) rfl Try.func82 (by kernel_rfl) rfl ?_
 have hnt82 : Try.f82.ntmps = 7:=rfl
 rw [hnt82]
 clear hnt82
 walk_nrm
 repeat (first|(with_reducible first|refine mu_seq hK ?_|refine mu_skip hK ?_|(refine mu_region_end hK ?_;try subst hkk)|refine mu_block hK ?_|refine mu_inBlock hK ?_|refine mu_ret hK ?_|refine mu_end hK ?_)|refine mu_exit hK rfl ?_|(with_reducible refine mu_regionH hK (fun kk hkk=>?_);simp only [List.size_toArray,List.length_cons,List.length_nil,Nat.reduceAdd,Nat.zero_add,List.range,List.range.loop])|(with_reducible refine mu_cf hK ?_ ?_;(· first|(walk_nrm;done)|(simp [Act.eval];done)))|(with_reducible refine mu_ct hK ?_ ?_;(· first|(walk_nrm;done)|(simp [Act.eval];done)))|(refine mu_unwanted hK rfl rfl ?_;walk_nrm)|(refine muv_val hV rfl (by first|exact .inl rfl|exact .inr rfl) rfl (by kernel_rfl) (fun J hJ=>?_);go_simp;with_reducible refine hJ _ ?_;clear hJ J;walk_nrm))
 refine yek _ ?_
 clear hK hV key yek K
 refine To0.walk (at_load (main:=true) (ad:=⟨R,0,none⟩) (v:=7) rfl rfl (base_ne _) rfl rfl cV3 (Will.stop ?_))
 walk_nrm
 obtain ⟨K,hK,hV,key,yek⟩:=kKV (L:=Lone) (J:=fun g=>To0 Try.prog Post Z V3 g) mu_to0 (muv_to0 hn3)
 refine key _ ?_
 repeat (first|(with_reducible first|refine mu_seq hK ?_|refine mu_skip hK ?_|(refine mu_region_end hK ?_;try subst hkk)|refine mu_block hK ?_|refine mu_inBlock hK ?_|refine mu_ret hK ?_|refine mu_end hK ?_)|refine mu_exit hK rfl ?_|(with_reducible refine mu_regionH hK (fun kk hkk=>?_);simp only [List.size_toArray,List.length_cons,List.length_nil,Nat.reduceAdd,Nat.zero_add,List.range,List.range.loop])|(with_reducible refine mu_cf hK ?_ ?_;(· first|(walk_nrm;done)|(simp [Act.eval];done)))|(with_reducible refine mu_ct hK ?_ ?_;(· first|(walk_nrm;done)|(simp [Act.eval];done)))|(refine mu_unwanted hK rfl rfl ?_;walk_nrm)|(refine muv_val hV rfl (by first|exact .inl rfl|exact .inr rfl) rfl (by kernel_rfl) (fun J hJ=>?_);go_simp;with_reducible refine hJ _ ?_;clear hJ J;walk_nrm))
 refine mu_leave1 hK rfl rfl Try.func82 rfl ?_
 walk_nrm
 repeat (first|(with_reducible first|refine mu_seq hK ?_|refine mu_skip hK ?_|(refine mu_region_end hK ?_;try subst hkk)|refine mu_block hK ?_|refine mu_inBlock hK ?_|refine mu_ret hK ?_|refine mu_end hK ?_)|refine mu_exit hK rfl ?_|(with_reducible refine mu_regionH hK (fun kk hkk=>?_);simp only [List.size_toArray,List.length_cons,List.length_nil,Nat.reduceAdd,Nat.zero_add,List.range,List.range.loop])|(with_reducible refine mu_cf hK ?_ ?_;(· first|(walk_nrm;done)|(simp [Act.eval];done)))|(with_reducible refine mu_ct hK ?_ ?_;(· first|(walk_nrm;done)|(simp [Act.eval];done)))|(refine mu_unwanted hK rfl rfl ?_;walk_nrm)|(refine muv_val hV rfl (by first|exact .inl rfl|exact .inr rfl) rfl (by kernel_rfl) (fun J hJ=>?_);go_simp;with_reducible refine hJ _ ?_;clear hJ J;walk_nrm))
 refine mu_leave1 hK rfl rfl Try.func41 rfl ?_
 walk_nrm
 repeat (first|(with_reducible first|refine mu_seq hK ?_|refine mu_skip hK ?_|(refine mu_region_end hK ?_;try subst hkk)|refine mu_block hK ?_|refine mu_inBlock hK ?_|refine mu_ret hK ?_|refine mu_end hK ?_)|refine mu_exit hK rfl ?_|(with_reducible refine mu_regionH hK (fun kk hkk=>?_);simp only [List.size_toArray,List.length_cons,List.length_nil,Nat.reduceAdd,Nat.zero_add,List.range,List.range.loop])|(with_reducible refine mu_cf hK ?_ ?_;(· first|(walk_nrm;done)|(simp [Act.eval];done)))|(with_reducible refine mu_ct hK ?_ ?_;(· first|(walk_nrm;done)|(simp [Act.eval];done)))|(refine mu_unwanted hK rfl rfl ?_;walk_nrm)|(refine muv_val hV rfl (by first|exact .inl rfl|exact .inr rfl) rfl (by kernel_rfl) (fun J hJ=>?_);go_simp;with_reducible refine hJ _ ?_;clear hJ J;walk_nrm))
 refine mu_call hK rfl rfl (by decide) rfl Try.func32 (by kernel_rfl) rfl ?_
 have hnt32 : Try.f32.ntmps = 9:=rfl
 rw [hnt32]
 clear hnt32
 walk_nrm
 repeat (first|(with_reducible first|refine mu_seq hK ?_|refine mu_skip hK ?_|(refine mu_region_end hK ?_;try subst hkk)|refine mu_block hK ?_|refine mu_inBlock hK ?_|refine mu_ret hK ?_|refine mu_end hK ?_)|refine mu_exit hK rfl ?_|(with_reducible refine mu_regionH hK (fun kk hkk=>?_);simp only [List.size_toArray,List.length_cons,List.length_nil,Nat.reduceAdd,Nat.zero_add,List.range,List.range.loop])|(with_reducible refine mu_cf hK ?_ ?_;(· first|(walk_nrm;done)|(simp [Act.eval];done)))|(with_reducible refine mu_ct hK ?_ ?_;(· first|(walk_nrm;done)|(simp [Act.eval];done)))|(refine mu_unwanted hK rfl rfl ?_;walk_nrm)|(refine muv_val hV rfl (by first|exact .inl rfl|exact .inr rfl) rfl (by kernel_rfl) (fun J hJ=>?_);go_simp;with_reducible refine hJ _ ?_;clear hJ J;walk_nrm))
 refine mu_call hK rfl rfl (by decide) rfl Try.func82 (by kernel_rfl) rfl ?_
 have hnt82 : Try.f82.ntmps = 7:=rfl
 rw [hnt82]
 clear hnt82
 walk_nrm
 repeat (first|(with_reducible first|refine mu_seq hK ?_|refine mu_skip hK ?_|(refine mu_region_end hK ?_;try subst hkk)|refine mu_block hK ?_|refine mu_inBlock hK ?_|refine mu_ret hK ?_|refine mu_end hK ?_)|refine mu_exit hK rfl ?_|(with_reducible refine mu_regionH hK (fun kk hkk=>?_);simp only [List.size_toArray,List.length_cons,List.length_nil,Nat.reduceAdd,Nat.zero_add,List.range,List.range.loop])|(with_reducible refine mu_cf hK ?_ ?_;(· first|(walk_nrm;done)|(simp [Act.eval];done)))|(with_reducible refine mu_ct hK ?_ ?_;(· first|(walk_nrm;done)|(simp [Act.eval];done)))|(refine mu_unwanted hK rfl rfl ?_;walk_nrm)|(refine muv_val hV rfl (by first|exact .inl rfl|exact .inr rfl) rfl (by kernel_rfl) (fun J hJ=>?_);go_simp;with_reducible refine hJ _ ?_;clear hJ J;walk_nrm))
 refine yek _ ?_
 clear hK hV key yek K
 refine To0.walk (at_load (main:=true) (ad:=⟨R,0,none⟩) (v:=7) rfl rfl (base_ne _) rfl rfl cV3 (Will.stop ?_))
 walk_nrm
 obtain ⟨K,hK,hV,key,yek⟩:=kKV (L:=Lone) (J:=fun g=>To0 Try.prog Post Z V3 g) mu_to0 (muv_to0 hn3)
 refine key _ ?_
 repeat (first|(with_reducible first|refine mu_seq hK ?_|refine mu_skip hK ?_|(refine mu_region_end hK ?_;try subst hkk)|refine mu_block hK ?_|refine mu_inBlock hK ?_|refine mu_ret hK ?_|refine mu_end hK ?_)|refine mu_exit hK rfl ?_|(with_reducible refine mu_regionH hK (fun kk hkk=>?_);simp only [List.size_toArray,List.length_cons,List.length_nil,Nat.reduceAdd,Nat.zero_add,List.range,List.range.loop])|(with_reducible refine mu_cf hK ?_ ?_;(· first|(walk_nrm;done)|(simp [Act.eval];done)))|(with_reducible refine mu_ct hK ?_ ?_;(· first|(walk_nrm;done)|(simp [Act.eval];done)))|(refine mu_unwanted hK rfl rfl ?_;walk_nrm)|(refine muv_val hV rfl (by first|exact .inl rfl|exact .inr rfl) rfl (by kernel_rfl) (fun J hJ=>?_);go_simp;with_reducible refine hJ _ ?_;clear hJ J;walk_nrm))
 refine mu_leave1 hK rfl rfl Try.func82 rfl ?_
 walk_nrm
 repeat (first|(with_reducible first|refine mu_seq hK ?_|refine mu_skip hK ?_|(refine mu_region_end hK ?_;try subst hkk)|refine mu_block hK ?_|refine mu_inBlock hK ?_|refine mu_ret hK ?_|refine mu_end hK ?_)|refine mu_exit hK rfl ?_|(with_reducible refine mu_regionH hK (fun kk hkk=>?_);simp only [List.size_toArray,List.length_cons,List.length_nil,Nat.reduceAdd,Nat.zero_add,List.range,List.range.loop])|(with_reducible refine mu_cf hK ?_ ?_;(· first|(walk_nrm;done)|(simp [Act.eval];done)))|(with_reducible refine mu_ct hK ?_ ?_;(· first|(walk_nrm;done)|(simp [Act.eval];done)))|(refine mu_unwanted hK rfl rfl ?_;walk_nrm)|(refine muv_val hV rfl (by first|exact .inl rfl|exact .inr rfl) rfl (by kernel_rfl) (fun J hJ=>?_);go_simp;with_reducible refine hJ _ ?_;clear hJ J;walk_nrm))
 refine mu_leave1 hK rfl rfl Try.func32 rfl ?_
 walk_nrm
 repeat (first|(with_reducible first|refine mu_seq hK ?_|refine mu_skip hK ?_|(refine mu_region_end hK ?_;try subst hkk)|refine mu_block hK ?_|refine mu_inBlock hK ?_|refine mu_ret hK ?_|refine mu_end hK ?_)|refine mu_exit hK rfl ?_|(with_reducible refine mu_regionH hK (fun kk hkk=>?_);simp only [List.size_toArray,List.length_cons,List.length_nil,Nat.reduceAdd,Nat.zero_add,List.range,List.range.loop])|(with_reducible refine mu_cf hK ?_ ?_;(· first|(walk_nrm;done)|(simp [Act.eval];done)))|(with_reducible refine mu_ct hK ?_ ?_;(· first|(walk_nrm;done)|(simp [Act.eval];done)))|(refine mu_unwanted hK rfl rfl ?_;walk_nrm)|(refine muv_val hV rfl (by first|exact .inl rfl|exact .inr rfl) rfl (by kernel_rfl) (fun J hJ=>?_);go_simp;with_reducible refine hJ _ ?_;clear hJ J;walk_nrm))
 refine mu_leave1 hK rfl rfl Try.func28 rfl ?_
 walk_nrm
 refine yek _ ?_
 clear hK hV key yek K
 exact K0 V3 hn3 kV3
end
end Go.Proofs.Ytibcdikfbhmheaa
