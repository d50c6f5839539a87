import Derived.Test.YtibcdikfbhmheaaQT09
set_option linter.unusedSimpArgs false
set_option linter.unusedVariables false
set_option maxRecDepth 100000
set_option maxHeartbeats 4000000
namespace Go.Proofs.Ytibcdikfbhmheaa
open Go Go.Conc Go.Proofs
open Go.ConcN (sumTo upd sumTo_upd upd_ne upd_same)
set_option linter.unusedVariables false
section
variable {W V : World} {Z : Cuts} {n lc pl pc u i k xc m fc tb b11 ab gb cb rb Rn g o len rc : Nat} {la pa xa fa r : Option Addr} {ov lv : Value} {v a nn od : Int} {T : Array Value} {kt : List Item} {cs0 : List Frame}
theorem u_r3 (hn : norm V = V) (hT : Fg 139 [(0,.slice la n lc),(1,.slice pa pl pc),(2,.int .u8 (u : Int))] T)
   (K : ∀ T' V',Fg 139 [(0,.slice la n lc),(1,.slice pa pl pc),(2,.int .u8 (u : Int)),(7,.pointer (some ⟨V.heap.size,0,none⟩))] T' → norm V' = V' → Kp V V' → V'.heap.size = V.heap.size + 1 → V'.heap[V.heap.size]? = some (.cells #[.slice none 0 0] 54 (0,0)) → To0 Try.prog (LPost W) Z V' (G ((base 7).at ⟨T',[]⟩ kt) cs0)) :
   To0 Try.prog (LPost W) Z V (G ((base 7).at ⟨T,[]⟩ (.code yr3 :: kt)) cs0):=by
 have hK0:=K
 clear K
 obtain ⟨hs,h0,h1,h2,-⟩:=hT
 obtain ⟨f,hf,hT⟩:=array139f T hs
 rw [hT]
 simp only [hf _ _ h0,hf _ _ h1,hf _ _ h2]
 clear hf hs h0 h1 h2
 subst hT
 generalize hX0 : yr3 = X0
 simp only [yr3,yX3,yB7,nva,nvb,Try.f7,Option.getD_some] at hX0
 subst hX0
 obtain ⟨K,hK,hV,key,yek⟩:=kKV (L:=Lone) (J:=fun g=>To0 Try.prog (LPost W) Z V g) mu_to0 (muv_to0 hn)
 refine key _ ?_
 repeat (first|(with_reducible first|refine mu_seq hK ?_|refine mu_skip hK ?_|(refine mu_region_end hK ?_;try subst hkk)|refine mu_block hK ?_|refine mu_inBlock hK ?_|refine mu_ret hK ?_|refine mu_end hK ?_)|refine mu_exit hK rfl ?_|(with_reducible refine mu_regionH hK (fun kk hkk=>?_);simp only [List.size_toArray,List.length_cons,List.length_nil,Nat.reduceAdd,Nat.zero_add,List.range,List.range.loop])|(with_reducible refine mu_cf hK ?_ ?_;(· first|(walk_nrm;done)|(simp [Act.eval];done)))|(with_reducible refine mu_ct hK ?_ ?_;(· first|(walk_nrm;done)|(simp [Act.eval];done)))|(refine mu_unwanted hK rfl rfl ?_;walk_nrm)|(refine muv_val hV rfl (by first|exact .inl rfl|exact .inr rfl) rfl (by kernel_rfl) (fun J hJ=>?_);go_simp;with_reducible refine hJ _ ?_;clear hJ J;walk_nrm))
 refine yek _ ?_
 clear hK hV key yek K
 have hnA : norm (V.alloc (.cells #[.slice none 0 0] 54)) = (V.alloc (.cells #[.slice none 0 0] 54)):=norm_al hn _
 refine mua_put (L:=Lone) (v:=.pointer (some ⟨V.heap.size,0,none⟩)) (mua_to0 hnA) (K:=fun g=>To0 Try.prog (LPost W) Z V g) (K':=fun g=>To0 Try.prog (LPost W) Z (V.alloc (.cells #[.slice none 0 0] 54)) g) rfl (.inl rfl) rfl (by kernel_rfl) (fun τ=>?_) ?_
 · go_simp
   first | exact ⟨by first | rfl | assumption | (simp only [re]; omega),rfl⟩ | rfl | (simp; done)
 have eVA : (V.alloc (.cells #[.slice none 0 0] 54)).heap[V.heap.size]? = some (.cells #[.slice none 0 0] 54 (0,0)):=by rw [al_get,if_pos rfl]
 have sVA : (V.alloc (.cells #[.slice none 0 0] 54)).heap.size = V.heap.size + 1:=by rw [al_size]
 have kVA : Kp V (V.alloc (.cells #[.slice none 0 0] 54)):=⟨by rw [sVA]; omega,fun b hb=>by rw [al_get,if_neg (by omega)]⟩
 generalize (V.alloc (.cells #[.slice none 0 0] 54)) = VA at *
 walk_nrm
 obtain ⟨K,hK,hV,key,yek⟩:=kKV (L:=Lone) (J:=fun g=>To0 Try.prog (LPost W) Z VA g) mu_to0 (muv_to0 hnA)
 refine key _ ?_
 repeat (first|(with_reducible first|refine mu_seq hK ?_|refine mu_skip hK ?_|(refine mu_region_end hK ?_;try subst hkk)|refine mu_block hK ?_|refine mu_inBlock hK ?_|refine mu_ret hK ?_|refine mu_end hK ?_)|refine mu_exit hK rfl ?_|(with_reducible refine mu_regionH hK (fun kk hkk=>?_);simp only [List.size_toArray,List.length_cons,List.length_nil,Nat.reduceAdd,Nat.zero_add,List.range,List.range.loop])|(with_reducible refine mu_cf hK ?_ ?_;(· first|(walk_nrm;done)|(simp [Act.eval];done)))|(with_reducible refine mu_ct hK ?_ ?_;(· first|(walk_nrm;done)|(simp [Act.eval];done)))|(refine mu_unwanted hK rfl rfl ?_;walk_nrm)|(refine muv_val hV rfl (by first|exact .inl rfl|exact .inr rfl) rfl (by kernel_rfl) (fun J hJ=>?_);go_simp;with_reducible refine hJ _ ?_;clear hJ J;walk_nrm))
 refine yek _ ?_
 clear hK hV key yek K
 try subst hkk
 exact hK0 _ VA ⟨by simp,rfl,rfl,rfl,rfl,trivial⟩ hnA kVA sVA eVA
theorem u_r17 (hn : norm V = V) (hT : Fg 139 [(1,.slice pa pl pc),(2,.int .u8 (u : Int)),(7,.pointer (some ⟨tb,0,none⟩))] T)
   (K : ∀ T' V',Fg 139 [(1,.slice pa pl pc),(2,.int .u8 (u : Int)),(7,.pointer (some ⟨tb,0,none⟩)),(12,.pointer (some ⟨V.heap.size,0,none⟩))] T' → norm V' = V' → Kp V V' → V'.heap.size = V.heap.size + 1 → V'.heap[V.heap.size]? = some (.cells #[.int .i64 0] 64 (0,0)) → To0 Try.prog (LPost W) Z V' (G ((base 7).at ⟨T',[]⟩ kt) cs0)) :
   To0 Try.prog (LPost W) Z V (G ((base 7).at ⟨T,[]⟩ (.code yr17 :: kt)) cs0):=by
 have hK0:=K
 clear K
 obtain ⟨hs,h1,h2,h7,-⟩:=hT
 obtain ⟨f,hf,hT⟩:=array139f T hs
 rw [hT]
 simp only [hf _ _ h1,hf _ _ h2,hf _ _ h7]
 clear hf hs h1 h2 h7
 subst hT
 generalize hX0 : yr17 = X0
 simp only [yr17,yX17,yX4,yX3,yB7,nva,nvb,Try.f7,Option.getD_some] at hX0
 subst hX0
 obtain ⟨K,hK,hV,key,yek⟩:=kKV (L:=Lone) (J:=fun g=>To0 Try.prog (LPost W) Z V g) mu_to0 (muv_to0 hn)
 refine key _ ?_
 repeat (first|(with_reducible first|refine mu_seq hK ?_|refine mu_skip hK ?_|(refine mu_region_end hK ?_;try subst hkk)|refine mu_block hK ?_|refine mu_inBlock hK ?_|refine mu_ret hK ?_|refine mu_end hK ?_)|refine mu_exit hK rfl ?_|(with_reducible refine mu_regionH hK (fun kk hkk=>?_);simp only [List.size_toArray,List.length_cons,List.length_nil,Nat.reduceAdd,Nat.zero_add,List.range,List.range.loop])|(with_reducible refine mu_cf hK ?_ ?_;(· first|(walk_nrm;done)|(simp [Act.eval];done)))|(with_reducible refine mu_ct hK ?_ ?_;(· first|(walk_nrm;done)|(simp [Act.eval];done)))|(refine mu_unwanted hK rfl rfl ?_;walk_nrm)|(refine muv_val hV rfl (by first|exact .inl rfl|exact .inr rfl) rfl (by kernel_rfl) (fun J hJ=>?_);go_simp;with_reducible refine hJ _ ?_;clear hJ J;walk_nrm))
 refine yek _ ?_
 clear hK hV key yek K
 have hnA : norm (V.alloc (.cells #[.int .i64 0] 64)) = (V.alloc (.cells #[.int .i64 0] 64)):=norm_al hn _
 refine mua_put (L:=Lone) (v:=.pointer (some ⟨V.heap.size,0,none⟩)) (mua_to0 hnA) (K:=fun g=>To0 Try.prog (LPost W) Z V g) (K':=fun g=>To0 Try.prog (LPost W) Z (V.alloc (.cells #[.int .i64 0] 64)) g) rfl (.inl rfl) rfl (by kernel_rfl) (fun τ=>?_) ?_
 · go_simp
   first | exact ⟨by first | rfl | assumption | (simp only [re]; omega),rfl⟩ | rfl | (simp; done)
 have eVA : (V.alloc (.cells #[.int .i64 0] 64)).heap[V.heap.size]? = some (.cells #[.int .i64 0] 64 (0,0)):=by rw [al_get,if_pos rfl]
 have sVA : (V.alloc (.cells #[.int .i64 0] 64)).heap.size = V.heap.size + 1:=by rw [al_size]
 have kVA : Kp V (V.alloc (.cells #[.int .i64 0] 64)):=⟨by rw [sVA]; omega,fun b hb=>by rw [al_get,if_neg (by omega)]⟩
 generalize (V.alloc (.cells #[.int .i64 0] 64)) = VA at *
 walk_nrm
 obtain ⟨K,hK,hV,key,yek⟩:=kKV (L:=Lone) (J:=fun g=>To0 Try.prog (LPost W) Z VA g) mu_to0 (muv_to0 hnA)
 refine key _ ?_
 repeat (first|(with_reducible first|refine mu_seq hK ?_|refine mu_skip hK ?_|(refine mu_region_end hK ?_;try subst hkk)|refine mu_block hK ?_|refine mu_inBlock hK ?_|refine mu_ret hK ?_|refine mu_end hK ?_)|refine mu_exit hK rfl ?_|(with_reducible refine mu_regionH hK (fun kk hkk=>?_);simp only [List.size_toArray,List.length_cons,List.length_nil,Nat.reduceAdd,Nat.zero_add,List.range,List.range.loop])|(with_reducible refine mu_cf hK ?_ ?_;(· first|(walk_nrm;done)|(simp [Act.eval];done)))|(with_reducible refine mu_ct hK ?_ ?_;(· first|(walk_nrm;done)|(simp [Act.eval];done)))|(refine mu_unwanted hK rfl rfl ?_;walk_nrm)|(refine muv_val hV rfl (by first|exact .inl rfl|exact .inr rfl) rfl (by kernel_rfl) (fun J hJ=>?_);go_simp;with_reducible refine hJ _ ?_;clear hJ J;walk_nrm))
 refine yek _ ?_
 clear hK hV key yek K
 try subst hkk
 exact hK0 _ VA ⟨by simp,rfl,rfl,rfl,rfl,trivial⟩ hnA kVA sVA eVA
theorem u_r18 (hn : norm V = V) (hT : Fg 139 [(1,.slice pa pl pc),(2,.int .u8 (u : Int)),(7,.pointer (some ⟨tb,0,none⟩)),(12,.pointer (some ⟨ab,0,none⟩))] T)
   (K : ∀ T' V',Fg 139 [(1,.slice pa pl pc),(2,.int .u8 (u : Int)),(7,.pointer (some ⟨tb,0,none⟩)),(12,.pointer (some ⟨ab,0,none⟩)),(13,.pointer (some ⟨V.heap.size,0,none⟩))] T' → norm V' = V' → Kp V V' → V'.heap.size = V.heap.size + 1 → V'.heap[V.heap.size]? = some (.cells #[.slice none 0 0] 65 (0,0)) → To0 Try.prog (LPost W) Z V' (G ((base 7).at ⟨T',[]⟩ kt) cs0)) :
   To0 Try.prog (LPost W) Z V (G ((base 7).at ⟨T,[]⟩ (.code yr18 :: kt)) cs0):=by
 have hK0:=K
 clear K
 obtain ⟨hs,h1,h2,h7,h12,-⟩:=hT
 obtain ⟨f,hf,hT⟩:=array139f T hs
 rw [hT]
 simp only [hf _ _ h1,hf _ _ h2,hf _ _ h7,hf _ _ h12]
 clear hf hs h1 h2 h7 h12
 subst hT
 generalize hX0 : yr18 = X0
 simp only [yr18,yX17,yX4,yX3,yB7,nva,nvb,Try.f7,Option.getD_some] at hX0
 subst hX0
 obtain ⟨K,hK,hV,key,yek⟩:=kKV (L:=Lone) (J:=fun g=>To0 Try.prog (LPost W) Z V g) mu_to0 (muv_to0 hn)
 refine key _ ?_
 repeat (first|(with_reducible first|refine mu_seq hK ?_|refine mu_skip hK ?_|(refine mu_region_end hK ?_;try subst hkk)|refine mu_block hK ?_|refine mu_inBlock hK ?_|refine mu_ret hK ?_|refine mu_end hK ?_)|refine mu_exit hK rfl ?_|(with_reducible refine mu_regionH hK (fun kk hkk=>?_);simp only [List.size_toArray,List.length_cons,List.length_nil,Nat.reduceAdd,Nat.zero_add,List.range,List.range.loop])|(with_reducible refine mu_cf hK ?_ ?_;(· first|(walk_nrm;done)|(simp [Act.eval];done)))|(with_reducible refine mu_ct hK ?_ ?_;(· first|(walk_nrm;done)|(simp [Act.eval];done)))|(refine mu_unwanted hK rfl rfl ?_;walk_nrm)|(refine muv_val hV rfl (by first|exact .inl rfl|exact .inr rfl) rfl (by kernel_rfl) (fun J hJ=>?_);go_simp;with_reducible refine hJ _ ?_;clear hJ J;walk_nrm))
 refine yek _ ?_
 clear hK hV key yek K
 have hnA : norm (V.alloc (.cells #[.slice none 0 0] 65)) = (V.alloc (.cells #[.slice none 0 0] 65)):=norm_al hn _
 refine mua_put (L:=Lone) (v:=.pointer (some ⟨V.heap.size,0,none⟩)) (mua_to0 hnA) (K:=fun g=>To0 Try.prog (LPost W) Z V g) (K':=fun g=>To0 Try.prog (LPost W) Z (V.alloc (.cells #[.slice none 0 0] 65)) g) rfl (.inl rfl) rfl (by kernel_rfl) (fun τ=>?_) ?_
 · go_simp
   first | exact ⟨by first | rfl | assumption | (simp only [re]; omega),rfl⟩ | rfl | (simp; done)
 have eVA : (V.alloc (.cells #[.slice none 0 0] 65)).heap[V.heap.size]? = some (.cells #[.slice none 0 0] 65 (0,0)):=by rw [al_get,if_pos rfl]
 have sVA : (V.alloc (.cells #[.slice none 0 0] 65)).heap.size = V.heap.size + 1:=by rw [al_size]
 have kVA : Kp V (V.alloc (.cells #[.slice none 0 0] 65)):=⟨by rw [sVA]; omega,fun b hb=>by rw [al_get,if_neg (by omega)]⟩
 generalize (V.alloc (.cells #[.slice none 0 0] 65)) = VA at *
 walk_nrm
 obtain ⟨K,hK,hV,key,yek⟩:=kKV (L:=Lone) (J:=fun g=>To0 Try.prog (LPost W) Z VA g) mu_to0 (muv_to0 hnA)
 refine key _ ?_
 repeat (first|(with_reducible first|refine mu_seq hK ?_|refine mu_skip hK ?_|(refine mu_region_end hK ?_;try subst hkk)|refine mu_block hK ?_|refine mu_inBlock hK ?_|refine mu_ret hK ?_|refine mu_end hK ?_)|refine mu_exit hK rfl ?_|(with_reducible refine mu_regionH hK (fun kk hkk=>?_);simp only [List.size_toArray,List.length_cons,List.length_nil,Nat.reduceAdd,Nat.zero_add,List.range,List.range.loop])|(with_reducible refine mu_cf hK ?_ ?_;(· first|(walk_nrm;done)|(simp [Act.eval];done)))|(with_reducible refine mu_ct hK ?_ ?_;(· first|(walk_nrm;done)|(simp [Act.eval];done)))|(refine mu_unwanted hK rfl rfl ?_;walk_nrm)|(refine muv_val hV rfl (by first|exact .inl rfl|exact .inr rfl) rfl (by kernel_rfl) (fun J hJ=>?_);go_simp;with_reducible refine hJ _ ?_;clear hJ J;walk_nrm))
 refine yek _ ?_
 clear hK hV key yek K
 try subst hkk
 exact hK0 _ VA ⟨by simp,rfl,rfl,rfl,rfl,rfl,trivial⟩ hnA kVA sVA eVA
theorem u_r13 (hn : norm V = V) (hi : i < n) (hla : la = some ⟨g,o,none⟩) (hk : k < len) {h q : Nat} (hl : V.cell? ⟨g,o + i,none⟩ = some (.slice (some ⟨h,q,none⟩) len rc)) (c1 : V.cell? ⟨h,q + k * 3,none⟩ = some (.int .i64 a)) (c2 : V.cell? ⟨h,q + k * 3 + 1,none⟩ = some (.int .i64 nn)) (c3 : V.cell? ⟨h,q + k * 3 + 2,none⟩ = some (.int .i64 od)) (hT : Fg 139 [(0,.slice la n lc),(1,.slice pa pl pc),(2,.int .u8 (u : Int)),(7,.pointer (some ⟨tb,0,none⟩)),(8,.int .i64 (i : Int)),(9,.slice xa k xc),(10,.int .i64 (k : Int))] T)
   (K : ∀ T' V',Fg 139 [(0,.slice la n lc),(1,.slice pa pl pc),(2,.int .u8 (u : Int)),(7,.pointer (some ⟨tb,0,none⟩)),(8,.int .i64 (i : Int)),(9,.slice xa k xc),(10,.int .i64 (k : Int)),(11,.pointer (some ⟨V.heap.size,0,none⟩))] T' → norm V' = V' → Kp V V' → V'.heap.size = V.heap.size + 1 → V'.heap[V.heap.size]? = some (.cells #[.int .i64 a,.int .i64 nn,.int .i64 od] 57 (0,0)) → To0 Try.prog (LPost W) Z V' (G ((base 7).at ⟨T',[]⟩ kt) cs0)) :
   To0 Try.prog (LPost W) Z V (G ((base 7).at ⟨T,[]⟩ (.code yr13 :: kt)) cs0):=by
 have hK0:=K
 clear K
 subst hla
 have q1 : ¬ ((i : Int) < 0):=by omega
 have q2 : ¬ ((n : Int) ≤ (i : Int)):=by omega
 have q3 : ¬ ((k : Int) < 0):=by omega
 have q4 : ¬ ((len : Int) ≤ (k : Int)):=by omega
 have d1 : ∀ τ,(re V τ 0).cell? ⟨g,o + i,none⟩ = some (.slice (some ⟨h,q,none⟩) len rc):=fun τ=>hl
 have d2 : ∀ τ,(re V τ 0).cell? ⟨h,q + k * 3,none⟩ = some (.int .i64 a):=fun τ=>c1
 have d3 : ∀ τ,(re V τ 0).cell? ⟨h,q + k * 3 + 1,none⟩ = some (.int .i64 nn):=fun τ=>c2
 have d4 : ∀ τ,(re V τ 0).cell? ⟨h,q + k * 3 + 2,none⟩ = some (.int .i64 od):=fun τ=>c3
 obtain ⟨hs,h0,h1,h2,h7,h8,h9,h10,-⟩:=hT
 obtain ⟨f,hf,hT⟩:=array139f T hs
 rw [hT]
 simp only [hf _ _ h0,hf _ _ h1,hf _ _ h2,hf _ _ h7,hf _ _ h8,hf _ _ h9,hf _ _ h10]
 clear hf hs h0 h1 h2 h7 h8 h9 h10
 subst hT
 generalize hX0 : yr13 = X0
 simp only [yr13,yBI,yLI,yX10,yBA,yLA,yX4,yX3,yB7,nva,nvb,nvk,nvl,Try.f7,Option.getD_some] at hX0
 subst hX0
 obtain ⟨K,hK,hV,key,yek⟩:=kKV (L:=Lone) (J:=fun g=>To0 Try.prog (LPost W) Z V g) mu_to0 (muv_to0 hn)
 refine key _ ?_
 repeat (first|(with_reducible first|refine mu_seq hK ?_|refine mu_skip hK ?_|(refine mu_region_end hK ?_;try subst hkk)|refine mu_block hK ?_|refine mu_inBlock hK ?_|refine mu_ret hK ?_|refine mu_end hK ?_)|refine mu_exit hK rfl ?_|(with_reducible refine mu_regionH hK (fun kk hkk=>?_);simp only [List.size_toArray,List.length_cons,List.length_nil,Nat.reduceAdd,Nat.zero_add,List.range,List.range.loop])|(with_reducible refine mu_cf hK ?_ ?_;(· first|(walk_nrm;done)|(simp [Act.eval];done)))|(with_reducible refine mu_ct hK ?_ ?_;(· first|(walk_nrm;done)|(simp [Act.eval];done)))|(refine mu_unwanted hK rfl rfl ?_;walk_nrm)|(refine muv_val hV rfl (by first|exact .inl rfl|exact .inr rfl) rfl (by kernel_rfl) (fun J hJ=>?_);go_simp;with_reducible refine hJ _ ?_;clear hJ J;walk_nrm))
 refine yek _ ?_
 clear hK hV key yek K
 have hnA : norm (V.alloc (.cells #[.int .i64 0,.int .i64 0,.int .i64 0] 57)) = (V.alloc (.cells #[.int .i64 0,.int .i64 0,.int .i64 0] 57)):=norm_al hn _
 refine mua_put (L:=Lone) (v:=.pointer (some ⟨V.heap.size,0,none⟩)) (mua_to0 hnA) (K:=fun g=>To0 Try.prog (LPost W) Z V g) (K':=fun g=>To0 Try.prog (LPost W) Z (V.alloc (.cells #[.int .i64 0,.int .i64 0,.int .i64 0] 57)) g) rfl (.inl rfl) rfl (by kernel_rfl) (fun τ=>?_) ?_
 · go_simp
   first | exact ⟨by first | rfl | assumption | (simp only [re]; omega),rfl⟩ | rfl | (simp; done)
 have eVA : (V.alloc (.cells #[.int .i64 0,.int .i64 0,.int .i64 0] 57)).heap[V.heap.size]? = some (.cells #[.int .i64 0,.int .i64 0,.int .i64 0] 57 (0,0)):=by rw [al_get,if_pos rfl]
 have sVA : (V.alloc (.cells #[.int .i64 0,.int .i64 0,.int .i64 0] 57)).heap.size = V.heap.size + 1:=by rw [al_size]
 have kVA : Kp V (V.alloc (.cells #[.int .i64 0,.int .i64 0,.int .i64 0] 57)):=⟨by rw [sVA]; omega,fun b hb=>by rw [al_get,if_neg (by omega)]⟩
 generalize (V.alloc (.cells #[.int .i64 0,.int .i64 0,.int .i64 0] 57)) = VA at *
 walk_nrm
 generalize hb9 : V.heap.size = b9 at eVA sVA kVA hK0 ⊢
 try walk_nrm
 have r0VS : ∀ τ,(re VA τ 0).cell? ⟨b9,0,none⟩ = some (.int .i64 0):=fun τ=>cell_of eVA (by simp)
 have z0VS : ∀ τ,(re VA τ 0).frozen? ⟨b9,0,none⟩ = false:=fun τ=>by simp [World.frozen?,re,eVA]
 have r1VS : ∀ τ,(re VA τ 0).cell? ⟨b9,1,none⟩ = some (.int .i64 0):=fun τ=>cell_of eVA (by simp)
 have z1VS : ∀ τ,(re VA τ 0).frozen? ⟨b9,1,none⟩ = false:=fun τ=>by simp [World.frozen?,re,eVA]
 have r2VS : ∀ τ,(re VA τ 0).cell? ⟨b9,2,none⟩ = some (.int .i64 0):=fun τ=>cell_of eVA (by simp)
 have z2VS : ∀ τ,(re VA τ 0).frozen? ⟨b9,2,none⟩ = false:=fun τ=>by simp [World.frozen?,re,eVA]
 have hnVS : norm (((VA.setCell ⟨b9,0,none⟩ (.int .i64 a)).setCell ⟨b9,1,none⟩ (.int .i64 nn)).setCell ⟨b9,2,none⟩ (.int .i64 od)) = (((VA.setCell ⟨b9,0,none⟩ (.int .i64 a)).setCell ⟨b9,1,none⟩ (.int .i64 nn)).setCell ⟨b9,2,none⟩ (.int .i64 od)):=(norm_set (norm_set (norm_set hnA _ _) _ _) _ _)
 refine mus_put (L:=Lone) (mus_to0 hnVS) (K:=fun g=>To0 Try.prog (LPost W) Z VA g) (K':=fun g=>To0 Try.prog (LPost W) Z (((VA.setCell ⟨b9,0,none⟩ (.int .i64 a)).setCell ⟨b9,1,none⟩ (.int .i64 nn)).setCell ⟨b9,2,none⟩ (.int .i64 od)) g) rfl (.inl rfl) rfl (by kernel_rfl) (fun τ=>?_) ?_
 · go_simp
   try rfl
 have kVS : ∀ b,b ≠ b9 → (((VA.setCell ⟨b9,0,none⟩ (.int .i64 a)).setCell ⟨b9,1,none⟩ (.int .i64 nn)).setCell ⟨b9,2,none⟩ (.int .i64 od)).heap[b]? = VA.heap[b]?:=fun b hb=>by rw [setCell_heap,if_neg hb,setCell_heap,if_neg hb,setCell_heap,if_neg hb]
 have eVS : (((VA.setCell ⟨b9,0,none⟩ (.int .i64 a)).setCell ⟨b9,1,none⟩ (.int .i64 nn)).setCell ⟨b9,2,none⟩ (.int .i64 od)).heap[b9]? = some (.cells #[.int .i64 a,.int .i64 nn,.int .i64 od] 57 (0,0)):=by
   rw [setCell_heap,if_pos rfl,setCell_heap,if_pos rfl,setCell_heap,if_pos rfl,eVA]
   simp
 have sVS : (((VA.setCell ⟨b9,0,none⟩ (.int .i64 a)).setCell ⟨b9,1,none⟩ (.int .i64 nn)).setCell ⟨b9,2,none⟩ (.int .i64 od)).heap.size = VA.heap.size:=by simp [World.setCell]
 generalize (((VA.setCell ⟨b9,0,none⟩ (.int .i64 a)).setCell ⟨b9,1,none⟩ (.int .i64 nn)).setCell ⟨b9,2,none⟩ (.int .i64 od)) = VS at *
 clear r0VS z0VS r1VS z1VS r2VS z2VS
 walk_nrm
 obtain ⟨K,hK,hV,key,yek⟩:=kKV (L:=Lone) (J:=fun g=>To0 Try.prog (LPost W) Z VS g) mu_to0 (muv_to0 hnVS)
 refine key _ ?_
 repeat (first|(with_reducible first|refine mu_seq hK ?_|refine mu_skip hK ?_|(refine mu_region_end hK ?_;try subst hkk)|refine mu_block hK ?_|refine mu_inBlock hK ?_|refine mu_ret hK ?_|refine mu_end hK ?_)|refine mu_exit hK rfl ?_|(with_reducible refine mu_regionH hK (fun kk hkk=>?_);simp only [List.size_toArray,List.length_cons,List.length_nil,Nat.reduceAdd,Nat.zero_add,List.range,List.range.loop])|(with_reducible refine mu_cf hK ?_ ?_;(· first|(walk_nrm;done)|(simp [Act.eval];done)))|(with_reducible refine mu_ct hK ?_ ?_;(· first|(walk_nrm;done)|(simp [Act.eval];done)))|(refine mu_unwanted hK rfl rfl ?_;walk_nrm)|(refine muv_val hV rfl (by first|exact .inl rfl|exact .inr rfl) rfl (by kernel_rfl) (fun J hJ=>?_);go_simp;with_reducible refine hJ _ ?_;clear hJ J;walk_nrm))
 refine yek _ ?_
 clear hK hV key yek K
 try subst hkk
 exact hK0 _ VS ⟨by simp,rfl,rfl,rfl,rfl,rfl,rfl,rfl,rfl,trivial⟩ hnVS ⟨by omega,fun b hb=>(kVS b (by omega)).trans (kVA.keep b hb)⟩ (by omega) eVS
theorem u_r20 (hn : norm V = V) (hT : Fg 139 [(1,.slice pa pl pc),(2,.int .u8 (u : Int)),(7,.pointer (some ⟨tb,0,none⟩)),(12,.pointer (some ⟨ab,0,none⟩)),(13,.pointer (some ⟨gb,0,none⟩)),(14,.slice fa m fc)] T)
   (K : ∀ T' V',Fg 139 [(1,.slice pa pl pc),(2,.int .u8 (u : Int)),(7,.pointer (some ⟨tb,0,none⟩)),(12,.pointer (some ⟨ab,0,none⟩)),(13,.pointer (some ⟨gb,0,none⟩)),(14,.slice fa m fc),(15,.pointer (some ⟨V.heap.size,0,none⟩))] T' → norm V' = V' → Kp V V' → V'.heap.size = V.heap.size + 1 → V'.heap[V.heap.size]? = some (.cells #[.int .i64 0] 3 (0,0)) → To0 Try.prog (LPost W) Z V' (G ((base 7).at ⟨T',[]⟩ kt) cs0)) :
   To0 Try.prog (LPost W) Z V (G ((base 7).at ⟨T,[]⟩ (.code yr20 :: kt)) cs0):=by
 have hK0:=K
 clear K
 obtain ⟨hs,h1,h2,h7,h12,h13,h14,-⟩:=hT
 obtain ⟨f,hf,hT⟩:=array139f T hs
 rw [hT]
 simp only [hf _ _ h1,hf _ _ h2,hf _ _ h7,hf _ _ h12,hf _ _ h13,hf _ _ h14]
 clear hf hs h1 h2 h7 h12 h13 h14
 subst hT
 generalize hX0 : yr20 = X0
 simp only [yr20,yX20,yX17,yX4,yX3,yB7,nva,nvb,Try.f7,Option.getD_some] at hX0
 subst hX0
 obtain ⟨K,hK,hV,key,yek⟩:=kKV (L:=Lone) (J:=fun g=>To0 Try.prog (LPost W) Z V g) mu_to0 (muv_to0 hn)
 refine key _ ?_
 repeat (first|(with_reducible first|refine mu_seq hK ?_|refine mu_skip hK ?_|(refine mu_region_end hK ?_;try subst hkk)|refine mu_block hK ?_|refine mu_inBlock hK ?_|refine mu_ret hK ?_|refine mu_end hK ?_)|refine mu_exit hK rfl ?_|(with_reducible refine mu_regionH hK (fun kk hkk=>?_);simp only [List.size_toArray,List.length_cons,List.length_nil,Nat.reduceAdd,Nat.zero_add,List.range,List.range.loop])|(with_reducible refine mu_cf hK ?_ ?_;(· first|(walk_nrm;done)|(simp [Act.eval];done)))|(with_reducible refine mu_ct hK ?_ ?_;(· first|(walk_nrm;done)|(simp [Act.eval];done)))|(refine mu_unwanted hK rfl rfl ?_;walk_nrm)|(refine muv_val hV rfl (by first|exact .inl rfl|exact .inr rfl) rfl (by kernel_rfl) (fun J hJ=>?_);go_simp;with_reducible refine hJ _ ?_;clear hJ J;walk_nrm))
 refine yek _ ?_
 clear hK hV key yek K
 have hnA : norm (V.alloc (.cells #[.int .i64 0] 3)) = (V.alloc (.cells #[.int .i64 0] 3)):=norm_al hn _
 refine mua_put (L:=Lone) (v:=.pointer (some ⟨V.heap.size,0,none⟩)) (mua_to0 hnA) (K:=fun g=>To0 Try.prog (LPost W) Z V g) (K':=fun g=>To0 Try.prog (LPost W) Z (V.alloc (.cells #[.int .i64 0] 3)) g) rfl (.inl rfl) rfl (by kernel_rfl) (fun τ=>?_) ?_
 · go_simp
   first | exact ⟨by first | rfl | assumption | (simp only [re]; omega),rfl⟩ | rfl | (simp; done)
 have eVA : (V.alloc (.cells #[.int .i64 0] 3)).heap[V.heap.size]? = some (.cells #[.int .i64 0] 3 (0,0)):=by rw [al_get,if_pos rfl]
 have sVA : (V.alloc (.cells #[.int .i64 0] 3)).heap.size = V.heap.size + 1:=by rw [al_size]
 have kVA : Kp V (V.alloc (.cells #[.int .i64 0] 3)):=⟨by rw [sVA]; omega,fun b hb=>by rw [al_get,if_neg (by omega)]⟩
 generalize (V.alloc (.cells #[.int .i64 0] 3)) = VA at *
 walk_nrm
 generalize hb9 : V.heap.size = b9 at eVA sVA kVA hK0 ⊢
 try walk_nrm
 have r0VS : ∀ τ,(re VA τ 0).cell? ⟨b9,0,none⟩ = some (.int .i64 0):=fun τ=>cell_of eVA (by simp)
 have z0VS : ∀ τ,(re VA τ 0).frozen? ⟨b9,0,none⟩ = false:=fun τ=>by simp [World.frozen?,re,eVA]
 have hnVS : norm (VA.setCell ⟨b9,0,none⟩ (.int .i64 0)) = (VA.setCell ⟨b9,0,none⟩ (.int .i64 0)):=(norm_set hnA _ _)
 refine mus_put (L:=Lone) (mus_to0 hnVS) (K:=fun g=>To0 Try.prog (LPost W) Z VA g) (K':=fun g=>To0 Try.prog (LPost W) Z (VA.setCell ⟨b9,0,none⟩ (.int .i64 0)) g) rfl (.inl rfl) rfl (by kernel_rfl) (fun τ=>?_) ?_
 · go_simp
   try rfl
 have kVS : ∀ b,b ≠ b9 → (VA.setCell ⟨b9,0,none⟩ (.int .i64 0)).heap[b]? = VA.heap[b]?:=fun b hb=>by rw [setCell_heap,if_neg hb]
 have eVS : (VA.setCell ⟨b9,0,none⟩ (.int .i64 0)).heap[b9]? = some (.cells #[.int .i64 0] 3 (0,0)):=by
   rw [setCell_heap,if_pos rfl,eVA]
   simp
 have sVS : (VA.setCell ⟨b9,0,none⟩ (.int .i64 0)).heap.size = VA.heap.size:=by simp [World.setCell]
 generalize (VA.setCell ⟨b9,0,none⟩ (.int .i64 0)) = VS at *
 clear r0VS z0VS
 walk_nrm
 obtain ⟨K,hK,hV,key,yek⟩:=kKV (L:=Lone) (J:=fun g=>To0 Try.prog (LPost W) Z VS g) mu_to0 (muv_to0 hnVS)
 refine key _ ?_
 repeat (first|(with_reducible first|refine mu_seq hK ?_|refine mu_skip hK ?_|(refine mu_region_end hK ?_;try subst hkk)|refine mu_block hK ?_|refine mu_inBlock hK ?_|refine mu_ret hK ?_|refine mu_end hK ?_)|refine mu_exit hK rfl ?_|(with_reducible refine mu_regionH hK (fun kk hkk=>?_);simp only [List.size_toArray,List.length_cons,List.length_nil,Nat.reduceAdd,Nat.zero_add,List.range,List.range.loop])|(with_reducible refine mu_cf hK ?_ ?_;(· first|(walk_nrm;done)|(simp [Act.eval];done)))|(with_reducible refine mu_ct hK ?_ ?_;(· first|(walk_nrm;done)|(simp [Act.eval];done)))|(refine mu_unwanted hK rfl rfl ?_;walk_nrm)|(refine muv_val hV rfl (by first|exact .inl rfl|exact .inr rfl) rfl (by kernel_rfl) (fun J hJ=>?_);go_simp;with_reducible refine hJ _ ?_;clear hJ J;walk_nrm))
 refine yek _ ?_
 clear hK hV key yek K
 try subst hkk
 exact hK0 _ VS ⟨by simp,rfl,rfl,rfl,rfl,rfl,rfl,rfl,trivial⟩ hnVS ⟨by omega,fun b hb=>(kVS b (by omega)).trans (kVA.keep b hb)⟩ (by omega) eVS
theorem u_r25 (hn : norm V = V) (hT : Fg 139 [(1,.slice pa pl pc),(2,.int .u8 (u : Int)),(7,.pointer (some ⟨tb,0,none⟩)),(12,.pointer (some ⟨ab,0,none⟩)),(13,.pointer (some ⟨gb,0,none⟩)),(14,.slice fa m fc),(15,.pointer (some ⟨cb,0,none⟩)),(83,.int .i64 (k : Int))] T)
   (K : ∀ T' V',Fg 139 [(1,.slice pa pl pc),(2,.int .u8 (u : Int)),(7,.pointer (some ⟨tb,0,none⟩)),(12,.pointer (some ⟨ab,0,none⟩)),(13,.pointer (some ⟨gb,0,none⟩)),(14,.slice fa m fc),(15,.pointer (some ⟨V.heap.size,0,none⟩))] T' → norm V' = V' → Kp V V' → V'.heap.size = V.heap.size + 1 → V'.heap[V.heap.size]? = some (.cells #[.int .i64 (k : Int)] 3 (0,0)) → To0 Try.prog (LPost W) Z V' (G ((base 7).at ⟨T',[]⟩ kt) cs0)) :
   To0 Try.prog (LPost W) Z V (G ((base 7).at ⟨T,[]⟩ (.code yr25 :: kt)) cs0):=by
 have hK0:=K
 clear K
 obtain ⟨hs,h1,h2,h7,h12,h13,h14,h15,h83,-⟩:=hT
 obtain ⟨f,hf,hT⟩:=array139f T hs
 rw [hT]
 simp only [hf _ _ h1,hf _ _ h2,hf _ _ h7,hf _ _ h12,hf _ _ h13,hf _ _ h14,hf _ _ h15,hf _ _ h83]
 clear hf hs h1 h2 h7 h12 h13 h14 h15 h83
 subst hT
 generalize hX0 : yr25 = X0
 simp only [yr25,yLF,yX20,yX17,yX4,yX3,yB7,nva,nvb,nvk,nvl,Try.f7,Option.getD_some] at hX0
 subst hX0
 obtain ⟨K,hK,hV,key,yek⟩:=kKV (L:=Lone) (J:=fun g=>To0 Try.prog (LPost W) Z V g) mu_to0 (muv_to0 hn)
 refine key _ ?_
 repeat (first|(with_reducible first|refine mu_seq hK ?_|refine mu_skip hK ?_|(refine mu_region_end hK ?_;try subst hkk)|refine mu_block hK ?_|refine mu_inBlock hK ?_|refine mu_ret hK ?_|refine mu_end hK ?_)|refine mu_exit hK rfl ?_|(with_reducible refine mu_regionH hK (fun kk hkk=>?_);simp only [List.size_toArray,List.length_cons,List.length_nil,Nat.reduceAdd,Nat.zero_add,List.range,List.range.loop])|(with_reducible refine mu_cf hK ?_ ?_;(· first|(walk_nrm;done)|(simp [Act.eval];done)))|(with_reducible refine mu_ct hK ?_ ?_;(· first|(walk_nrm;done)|(simp [Act.eval];done)))|(refine mu_unwanted hK rfl rfl ?_;walk_nrm)|(refine muv_val hV rfl (by first|exact .inl rfl|exact .inr rfl) rfl (by kernel_rfl) (fun J hJ=>?_);go_simp;with_reducible refine hJ _ ?_;clear hJ J;walk_nrm))
 refine yek _ ?_
 clear hK hV key yek K
 have hnA : norm (V.alloc (.cells #[.int .i64 0] 3)) = (V.alloc (.cells #[.int .i64 0] 3)):=norm_al hn _
 refine mua_put (L:=Lone) (v:=.pointer (some ⟨V.heap.size,0,none⟩)) (mua_to0 hnA) (K:=fun g=>To0 Try.prog (LPost W) Z V g) (K':=fun g=>To0 Try.prog (LPost W) Z (V.alloc (.cells #[.int .i64 0] 3)) g) rfl (.inl rfl) rfl (by kernel_rfl) (fun τ=>?_) ?_
 · go_simp
   first | exact ⟨by first | rfl | assumption | (simp only [re]; omega),rfl⟩ | rfl | (simp; done)
 have eVA : (V.alloc (.cells #[.int .i64 0] 3)).heap[V.heap.size]? = some (.cells #[.int .i64 0] 3 (0,0)):=by rw [al_get,if_pos rfl]
 have sVA : (V.alloc (.cells #[.int .i64 0] 3)).heap.size = V.heap.size + 1:=by rw [al_size]
 have kVA : Kp V (V.alloc (.cells #[.int .i64 0] 3)):=⟨by rw [sVA]; omega,fun b hb=>by rw [al_get,if_neg (by omega)]⟩
 generalize (V.alloc (.cells #[.int .i64 0] 3)) = VA at *
 walk_nrm
 generalize hb9 : V.heap.size = b9 at eVA sVA kVA hK0 ⊢
 try walk_nrm
 have r0VS : ∀ τ,(re VA τ 0).cell? ⟨b9,0,none⟩ = some (.int .i64 0):=fun τ=>cell_of eVA (by simp)
 have z0VS : ∀ τ,(re VA τ 0).frozen? ⟨b9,0,none⟩ = false:=fun τ=>by simp [World.frozen?,re,eVA]
 have hnVS : norm (VA.setCell ⟨b9,0,none⟩ (.int .i64 (k : Int))) = (VA.setCell ⟨b9,0,none⟩ (.int .i64 (k : Int))):=(norm_set hnA _ _)
 refine mus_put (L:=Lone) (mus_to0 hnVS) (K:=fun g=>To0 Try.prog (LPost W) Z VA g) (K':=fun g=>To0 Try.prog (LPost W) Z (VA.setCell ⟨b9,0,none⟩ (.int .i64 (k : Int))) g) rfl (.inl rfl) rfl (by kernel_rfl) (fun τ=>?_) ?_
 · go_simp
   try rfl
 have kVS : ∀ b,b ≠ b9 → (VA.setCell ⟨b9,0,none⟩ (.int .i64 (k : Int))).heap[b]? = VA.heap[b]?:=fun b hb=>by rw [setCell_heap,if_neg hb]
 have eVS : (VA.setCell ⟨b9,0,none⟩ (.int .i64 (k : Int))).heap[b9]? = some (.cells #[.int .i64 (k : Int)] 3 (0,0)):=by
   rw [setCell_heap,if_pos rfl,eVA]
   simp
 have sVS : (VA.setCell ⟨b9,0,none⟩ (.int .i64 (k : Int))).heap.size = VA.heap.size:=by simp [World.setCell]
 generalize (VA.setCell ⟨b9,0,none⟩ (.int .i64 (k : Int))) = VS at *
 clear r0VS z0VS
 walk_nrm
 obtain ⟨K,hK,hV,key,yek⟩:=kKV (L:=Lone) (J:=fun g=>To0 Try.prog (LPost W) Z VS g) mu_to0 (muv_to0 hnVS)
 refine key _ ?_
 repeat (first|(with_reducible first|refine mu_seq hK ?_|refine mu_skip hK ?_|(refine mu_region_end hK ?_;try subst hkk)|refine mu_block hK ?_|refine mu_inBlock hK ?_|refine mu_ret hK ?_|refine mu_end hK ?_)|refine mu_exit hK rfl ?_|(with_reducible refine mu_regionH hK (fun kk hkk=>?_);simp only [List.size_toArray,List.length_cons,List.length_nil,Nat.reduceAdd,Nat.zero_add,List.range,List.range.loop])|(with_reducible refine mu_cf hK ?_ ?_;(· first|(walk_nrm;done)|(simp [Act.eval];done)))|(with_reducible refine mu_ct hK ?_ ?_;(· first|(walk_nrm;done)|(simp [Act.eval];done)))|(refine mu_unwanted hK rfl rfl ?_;walk_nrm)|(refine muv_val hV rfl (by first|exact .inl rfl|exact .inr rfl) rfl (by kernel_rfl) (fun J hJ=>?_);go_simp;with_reducible refine hJ _ ?_;clear hJ J;walk_nrm))
 refine yek _ ?_
 clear hK hV key yek K
 try subst hkk
 exact hK0 _ VS ⟨by simp,rfl,rfl,rfl,rfl,rfl,rfl,rfl,trivial⟩ hnVS ⟨by omega,fun b hb=>(kVS b (by omega)).trans (kVA.keep b hb)⟩ (by omega) eVS
theorem u_r15 (hn : norm V = V) (e11 : V.heap[b11]? = some (.cells #[.int .i64 a,.int .i64 nn,.int .i64 od] 57 (0,0))) {xs : List Value} (hrow : V.ownsRow 0 57 3 (Value.slice xa k xc) k xs) (hm : k < 900000000) (hT : Fg 139 [(0,.slice la n lc),(1,.slice pa pl pc),(2,.int .u8 (u : Int)),(7,.pointer (some ⟨tb,0,none⟩)),(8,.int .i64 (i : Int)),(9,Value.slice xa k xc),(10,.int .i64 (k : Int)),(11,.pointer (some ⟨b11,0,none⟩))] T)
   (K : ∀ T' V' wa wc,Fg 139 [(0,.slice la n lc),(1,.slice pa pl pc),(2,.int .u8 (u : Int)),(7,.pointer (some ⟨tb,0,none⟩)),(8,.int .i64 (i : Int)),(9,.slice wa (k + 1) wc),(10,.int .i64 (k : Int))] T' → norm V' = V' → V'.ownsRow 0 57 3 (.slice wa (k + 1) wc) (k + 1) (xs ++ [.int .i64 a,.int .i64 nn,.int .i64 od]) → V.heap.size ≤ V'.heap.size → (∀ b,b < V.heap.size → (Value.slice xa k xc).ownBlock ≠ some b → V'.heap[b]? = V.heap[b]?) → (∀ b,(Value.slice wa (k + 1) wc).ownBlock = some b → (Value.slice xa k xc).ownBlock = some b ∨ V.heap.size ≤ b) → To0 Try.prog (LPost W) Z V' (G ((base 7).at ⟨T',[]⟩ kt) cs0)) :
   To0 Try.prog (LPost W) Z V (G ((base 7).at ⟨T,[]⟩ (.code yr15 :: kt)) cs0):=by
 have hK0:=K
 clear K
 have r0 : ∀ τ,(re V τ 0).cell? ⟨b11,0,none⟩ = some (.int .i64 a):=fun τ=>cell_of e11 (by simp)
 have r1 : ∀ τ,(re V τ 0).cell? ⟨b11,1,none⟩ = some (.int .i64 nn):=fun τ=>cell_of e11 (by simp)
 have r2 : ∀ τ,(re V τ 0).cell? ⟨b11,2,none⟩ = some (.int .i64 od):=fun τ=>cell_of e11 (by simp)
 obtain ⟨hs,h0,h1,h2,h7,h8,h9,h10,h11,-⟩:=hT
 obtain ⟨f,hf,hT⟩:=array139f T hs
 rw [hT]
 simp only [hf _ _ h0,hf _ _ h1,hf _ _ h2,hf _ _ h7,hf _ _ h8,hf _ _ h9,hf _ _ h10,hf _ _ h11]
 clear hf hs h0 h1 h2 h7 h8 h9 h10 h11
 subst hT
 generalize hX0 : yr15 = X0
 simp only [yr15,yBI,yLI,yX10,yBA,yLA,yX4,yX3,yB7,nva,nvb,nvk,nvl,Try.f7,Option.getD_some] at hX0
 subst hX0
 obtain ⟨K,hK,hV,key,yek⟩:=kKV (L:=Lone) (J:=fun g=>To0 Try.prog (LPost W) Z V g) mu_to0 (muv_to0 hn)
 refine key _ ?_
 repeat (first|(with_reducible first|refine mu_seq hK ?_|refine mu_skip hK ?_|(refine mu_region_end hK ?_;try subst hkk)|refine mu_block hK ?_|refine mu_inBlock hK ?_|refine mu_ret hK ?_|refine mu_end hK ?_)|refine mu_exit hK rfl ?_|(with_reducible refine mu_regionH hK (fun kk hkk=>?_);simp only [List.size_toArray,List.length_cons,List.length_nil,Nat.reduceAdd,Nat.zero_add,List.range,List.range.loop])|(with_reducible refine mu_cf hK ?_ ?_;(· first|(walk_nrm;done)|(simp [Act.eval];done)))|(with_reducible refine mu_ct hK ?_ ?_;(· first|(walk_nrm;done)|(simp [Act.eval];done)))|(refine mu_unwanted hK rfl rfl ?_;walk_nrm)|(refine muv_val hV rfl (by first|exact .inl rfl|exact .inr rfl) rfl (by kernel_rfl) (fun J hJ=>?_);go_simp;with_reducible refine hJ _ ?_;clear hJ J;walk_nrm))
 refine yek _ ?_
 clear hK hV key yek K
 have hnA : norm (V.alloc (.cells #[.int .i64 a,.int .i64 nn,.int .i64 od] 57)) = (V.alloc (.cells #[.int .i64 a,.int .i64 nn,.int .i64 od] 57)):=norm_al hn _
 refine mua_put (L:=Lone) (v:=.slice (some ⟨V.heap.size,0,none⟩) 1 1) (mua_to0 hnA) (K:=fun g=>To0 Try.prog (LPost W) Z V g) (K':=fun g=>To0 Try.prog (LPost W) Z (V.alloc (.cells #[.int .i64 a,.int .i64 nn,.int .i64 od] 57)) g) rfl (.inl rfl) rfl (by kernel_rfl) (fun τ=>?_) ?_
 · go_simp
   first | exact ⟨by first | rfl | assumption | (simp only [re]; omega),rfl⟩ | rfl | (simp; done)
 have eVA : (V.alloc (.cells #[.int .i64 a,.int .i64 nn,.int .i64 od] 57)).heap[V.heap.size]? = some (.cells #[.int .i64 a,.int .i64 nn,.int .i64 od] 57 (0,0)):=by rw [al_get,if_pos rfl]
 have sVA : (V.alloc (.cells #[.int .i64 a,.int .i64 nn,.int .i64 od] 57)).heap.size = V.heap.size + 1:=by rw [al_size]
 have kVA : Kp V (V.alloc (.cells #[.int .i64 a,.int .i64 nn,.int .i64 od] 57)):=⟨by rw [sVA]; omega,fun b hb=>by rw [al_get,if_neg (by omega)]⟩
 generalize (V.alloc (.cells #[.int .i64 a,.int .i64 nn,.int .i64 od] 57)) = VA at *
 walk_nrm
 have rowA : VA.ownsRow 0 57 3 (Value.slice xa k xc) k xs:=row_keep hrow fun b hb=>kVA.keep b (row_at hrow hb)
 have litA : VA.ownsRow 0 57 3 (.slice (some ⟨V.heap.size,0,none⟩) 1 1) 1 [.int .i64 a,.int .i64 nn,.int .i64 od]:=⟨rfl,.inr ⟨V.heap.size,1,#[.int .i64 a,.int .i64 nn,.int .i64 od],rfl,Nat.zero_le _,eVA,Nat.le_refl _,by simp [maxLen],rfl,rfl⟩⟩
 obtain ⟨K,hK,hV,key,yek⟩:=kKV (L:=Lone) (J:=fun g=>To0 Try.prog (LPost W) Z VA g) mu_to0 (muv_to0 hnA)
 refine key _ ?_
 repeat (first|(with_reducible first|refine mu_seq hK ?_|refine mu_skip hK ?_|(refine mu_region_end hK ?_;try subst hkk)|refine mu_block hK ?_|refine mu_inBlock hK ?_|refine mu_ret hK ?_|refine mu_end hK ?_)|refine mu_exit hK rfl ?_|(with_reducible refine mu_regionH hK (fun kk hkk=>?_);simp only [List.size_toArray,List.length_cons,List.length_nil,Nat.reduceAdd,Nat.zero_add,List.range,List.range.loop])|(with_reducible refine mu_cf hK ?_ ?_;(· first|(walk_nrm;done)|(simp [Act.eval];done)))|(with_reducible refine mu_ct hK ?_ ?_;(· first|(walk_nrm;done)|(simp [Act.eval];done)))|(refine mu_unwanted hK rfl rfl ?_;walk_nrm)|(refine muv_val hV rfl (by first|exact .inl rfl|exact .inr rfl) rfl (by kernel_rfl) (fun J hJ=>?_);go_simp;with_reducible refine hJ _ ?_;clear hJ J;walk_nrm))
 refine yek _ ?_
 clear hK hV key yek K
 refine to0_ex (L:=Lone) rfl rfl rfl (by kernel_rfl) (fun v W=>W.ownsRow 0 57 3 v (k + 1) (xs ++ [.int .i64 a,.int .i64 nn,.int .i64 od]) ∧ Grw VA W (Value.slice xa k xc) v) (fun τ=>?_) fun v2 V2 ⟨s1,s2,s3,s4⟩ hn2=>?_
 · obtain ⟨v',w',a1,a2,a3⟩:=app_row (V:=re VA τ 0) (t:=55) (e:=57) (z:=.agg #[.int .i64 0,.int .i64 0,.int .i64 0]) (B:=24) Try.underlying55 (by kernel_rfl) (by rfl) (by decide) (by decide) (owns_re rowA) (owns_re litA) (by simp [Value.oneCell']) (by omega)
   exact ⟨v',w',run_app_opm rfl rfl rfl a1,a2,a3⟩
 obtain ⟨yb,yn,yc,rfl⟩:=slice_ofA s1
 obtain rfl : yn = k + 1:=by
   obtain ⟨_,h⟩:=s1
   rcases h with ⟨h,h0⟩ | ⟨g,cap,cur,h,_⟩
   · injection h with _ h _; omega
   · injection h with _ h _
 walk_nrm
 obtain ⟨K,hK,hV,key,yek⟩:=kKV (L:=Lone) (J:=fun g=>To0 Try.prog (LPost W) Z V2 g) mu_to0 (muv_to0 hn2)
 refine key _ ?_
 repeat (first|(with_reducible first|refine mu_seq hK ?_|refine mu_skip hK ?_|(refine mu_region_end hK ?_;try subst hkk)|refine mu_block hK ?_|refine mu_inBlock hK ?_|refine mu_ret hK ?_|refine mu_end hK ?_)|refine mu_exit hK rfl ?_|(with_reducible refine mu_regionH hK (fun kk hkk=>?_);simp only [List.size_toArray,List.length_cons,List.length_nil,Nat.reduceAdd,Nat.zero_add,List.range,List.range.loop])|(with_reducible refine mu_cf hK ?_ ?_;(· first|(walk_nrm;done)|(simp [Act.eval];done)))|(with_reducible refine mu_ct hK ?_ ?_;(· first|(walk_nrm;done)|(simp [Act.eval];done)))|(refine mu_unwanted hK rfl rfl ?_;walk_nrm)|(refine muv_val hV rfl (by first|exact .inl rfl|exact .inr rfl) rfl (by kernel_rfl) (fun J hJ=>?_);go_simp;with_reducible refine hJ _ ?_;clear hJ J;walk_nrm))
 refine yek _ ?_
 clear hK hV key yek K
 try subst hkk
 refine hK0 _ V2 yb yc ⟨by simp,rfl,rfl,rfl,rfl,rfl,rfl,rfl,trivial⟩ hn2 s1 (by have:=kVA.size; omega) (fun b hb hno=>?_) fun b hb=>?_
 · rw [s3 b (by omega) hno]
   exact kVA.keep b hb
 · rcases s4 with h | h
   · exact .inl (h ▸ hb)
   · rw [h] at hb
     have:=Option.some.inj hb
     right; omega
theorem u_r23 (hn : norm V = V) {xs : List Value} (hrow : V.ownsRow 0 70 1 (Value.slice fa m fc) m xs) (hm : m < 900000000) (hT : Fg 139 [(1,.slice pa pl pc),(2,.int .u8 (u : Int)),(7,.pointer (some ⟨tb,0,none⟩)),(12,.pointer (some ⟨ab,0,none⟩)),(13,.pointer (some ⟨gb,0,none⟩)),(14,Value.slice fa m fc),(15,.pointer (some ⟨cb,0,none⟩))] T)
   (K : ∀ T' V' wa wc,Fg 139 [(1,.slice pa pl pc),(2,.int .u8 (u : Int)),(7,.pointer (some ⟨tb,0,none⟩)),(12,.pointer (some ⟨ab,0,none⟩)),(13,.pointer (some ⟨gb,0,none⟩)),(14,.slice wa (m + 1) wc),(15,.pointer (some ⟨cb,0,none⟩))] T' → norm V' = V' → V'.ownsRow 0 70 1 (.slice wa (m + 1) wc) (m + 1) (xs ++ [.func (.func 29) #[] #[bq tb,bq cb,bq ab,bq gb]]) → V.heap.size ≤ V'.heap.size → (∀ b,b < V.heap.size → (Value.slice fa m fc).ownBlock ≠ some b → V'.heap[b]? = V.heap[b]?) → (∀ b,(Value.slice wa (m + 1) wc).ownBlock = some b → (Value.slice fa m fc).ownBlock = some b ∨ V.heap.size ≤ b) → To0 Try.prog (LPost W) Z V' (G ((base 7).at ⟨T',[]⟩ kt) cs0)) :
   To0 Try.prog (LPost W) Z V (G ((base 7).at ⟨T,[]⟩ (.code yr23 :: kt)) cs0):=by
 have hK0:=K
 clear K
 have hbq : ∀ b,bq b = .pointer (some ⟨b,0,none⟩):=fun b=>rfl
 simp only [bq] at *
 obtain ⟨hs,h1,h2,h7,h12,h13,h14,h15,-⟩:=hT
 obtain ⟨f,hf,hT⟩:=array139f T hs
 rw [hT]
 simp only [hf _ _ h1,hf _ _ h2,hf _ _ h7,hf _ _ h12,hf _ _ h13,hf _ _ h14,hf _ _ h15]
 clear hf hs h1 h2 h7 h12 h13 h14 h15
 subst hT
 generalize hX0 : yr23 = X0
 simp only [yr23,yLF,yX20,yX17,yX4,yX3,yB7,nva,nvb,nvk,nvl,Try.f7,Option.getD_some] at hX0
 subst hX0
 obtain ⟨K,hK,hV,key,yek⟩:=kKV (L:=Lone) (J:=fun g=>To0 Try.prog (LPost W) Z V g) mu_to0 (muv_to0 hn)
 refine key _ ?_
 repeat (first|(with_reducible first|refine mu_seq hK ?_|refine mu_skip hK ?_|(refine mu_region_end hK ?_;try subst hkk)|refine mu_block hK ?_|refine mu_inBlock hK ?_|refine mu_ret hK ?_|refine mu_end hK ?_)|refine mu_exit hK rfl ?_|(with_reducible refine mu_regionH hK (fun kk hkk=>?_);simp only [List.size_toArray,List.length_cons,List.length_nil,Nat.reduceAdd,Nat.zero_add,List.range,List.range.loop])|(with_reducible refine mu_cf hK ?_ ?_;(· first|(walk_nrm;done)|(simp [Act.eval];done)))|(with_reducible refine mu_ct hK ?_ ?_;(· first|(walk_nrm;done)|(simp [Act.eval];done)))|(refine mu_unwanted hK rfl rfl ?_;walk_nrm)|(refine muv_val hV rfl (by first|exact .inl rfl|exact .inr rfl) rfl (by kernel_rfl) (fun J hJ=>?_);go_simp;with_reducible refine hJ _ ?_;clear hJ J;walk_nrm))
 refine yek _ ?_
 clear hK hV key yek K
 have hnA : norm (V.alloc (.cells #[.func (.func 29) #[] #[bq tb,bq cb,bq ab,bq gb]] 70)) = (V.alloc (.cells #[.func (.func 29) #[] #[bq tb,bq cb,bq ab,bq gb]] 70)):=norm_al hn _
 refine mua_put (L:=Lone) (v:=.slice (some ⟨V.heap.size,0,none⟩) 1 1) (mua_to0 hnA) (K:=fun g=>To0 Try.prog (LPost W) Z V g) (K':=fun g=>To0 Try.prog (LPost W) Z (V.alloc (.cells #[.func (.func 29) #[] #[bq tb,bq cb,bq ab,bq gb]] 70)) g) rfl (.inl rfl) rfl (by kernel_rfl) (fun τ=>?_) ?_
 · go_simp
   first | exact ⟨by first | rfl | assumption | (simp only [re]; omega),rfl⟩ | rfl | (simp; done)
 have eVA : (V.alloc (.cells #[.func (.func 29) #[] #[bq tb,bq cb,bq ab,bq gb]] 70)).heap[V.heap.size]? = some (.cells #[.func (.func 29) #[] #[bq tb,bq cb,bq ab,bq gb]] 70 (0,0)):=by rw [al_get,if_pos rfl]
 have sVA : (V.alloc (.cells #[.func (.func 29) #[] #[bq tb,bq cb,bq ab,bq gb]] 70)).heap.size = V.heap.size + 1:=by rw [al_size]
 have kVA : Kp V (V.alloc (.cells #[.func (.func 29) #[] #[bq tb,bq cb,bq ab,bq gb]] 70)):=⟨by rw [sVA]; omega,fun b hb=>by rw [al_get,if_neg (by omega)]⟩
 generalize (V.alloc (.cells #[.func (.func 29) #[] #[bq tb,bq cb,bq ab,bq gb]] 70)) = VA at *
 walk_nrm
 have rowA : VA.ownsRow 0 70 1 (Value.slice fa m fc) m xs:=row_keep hrow fun b hb=>kVA.keep b (row_at hrow hb)
 have litA : VA.ownsRow 0 70 1 (.slice (some ⟨V.heap.size,0,none⟩) 1 1) 1 [.func (.func 29) #[] #[bq tb,bq cb,bq ab,bq gb]]:=⟨rfl,.inr ⟨V.heap.size,1,#[.func (.func 29) #[] #[bq tb,bq cb,bq ab,bq gb]],rfl,Nat.zero_le _,eVA,Nat.le_refl _,by simp [maxLen],rfl,rfl⟩⟩
 obtain ⟨K,hK,hV,key,yek⟩:=kKV (L:=Lone) (J:=fun g=>To0 Try.prog (LPost W) Z VA g) mu_to0 (muv_to0 hnA)
 refine key _ ?_
 repeat (first|(with_reducible first|refine mu_seq hK ?_|refine mu_skip hK ?_|(refine mu_region_end hK ?_;try subst hkk)|refine mu_block hK ?_|refine mu_inBlock hK ?_|refine mu_ret hK ?_|refine mu_end hK ?_)|refine mu_exit hK rfl ?_|(with_reducible refine mu_regionH hK (fun kk hkk=>?_);simp only [List.size_toArray,List.length_cons,List.length_nil,Nat.reduceAdd,Nat.zero_add,List.range,List.range.loop])|(with_reducible refine mu_cf hK ?_ ?_;(· first|(walk_nrm;done)|(simp [Act.eval];done)))|(with_reducible refine mu_ct hK ?_ ?_;(· first|(walk_nrm;done)|(simp [Act.eval];done)))|(refine mu_unwanted hK rfl rfl ?_;walk_nrm)|(refine muv_val hV rfl (by first|exact .inl rfl|exact .inr rfl) rfl (by kernel_rfl) (fun J hJ=>?_);go_simp;with_reducible refine hJ _ ?_;clear hJ J;walk_nrm))
 refine yek _ ?_
 clear hK hV key yek K
 refine to0_ex (L:=Lone) rfl rfl rfl (by kernel_rfl) (fun v W=>W.ownsRow 0 70 1 v (m + 1) (xs ++ [.func (.func 29) #[] #[bq tb,bq cb,bq ab,bq gb]]) ∧ Grw VA W (Value.slice fa m fc) v) (fun τ=>?_) fun v2 V2 ⟨s1,s2,s3,s4⟩ hn2=>?_
 · obtain ⟨v',w',a1,a2,a3⟩:=app_row (V:=re VA τ 0) (t:=49) (e:=70) (z:=.nilFunc) (B:=8) Try.underlying49 (by kernel_rfl) (by rfl) (by decide) (by decide) (owns_re rowA) (owns_re litA) (by simp [Value.oneCell']) (by omega)
   exact ⟨v',w',run_app_opm rfl rfl rfl a1,a2,a3⟩
 obtain ⟨yb,yn,yc,rfl⟩:=slice_ofA s1
 obtain rfl : yn = m + 1:=by
   obtain ⟨_,h⟩:=s1
   rcases h with ⟨h,h0⟩ | ⟨g,cap,cur,h,_⟩
   · injection h with _ h _; omega
   · injection h with _ h _
 walk_nrm
 obtain ⟨K,hK,hV,key,yek⟩:=kKV (L:=Lone) (J:=fun g=>To0 Try.prog (LPost W) Z V2 g) mu_to0 (muv_to0 hn2)
 refine key _ ?_
 repeat (first|(with_reducible first|refine mu_seq hK ?_|refine mu_skip hK ?_|(refine mu_region_end hK ?_;try subst hkk)|refine mu_block hK ?_|refine mu_inBlock hK ?_|refine mu_ret hK ?_|refine mu_end hK ?_)|refine mu_exit hK rfl ?_|(with_reducible refine mu_regionH hK (fun kk hkk=>?_);simp only [List.size_toArray,List.length_cons,List.length_nil,Nat.reduceAdd,Nat.zero_add,List.range,List.range.loop])|(with_reducible refine mu_cf hK ?_ ?_;(· first|(walk_nrm;done)|(simp [Act.eval];done)))|(with_reducible refine mu_ct hK ?_ ?_;(· first|(walk_nrm;done)|(simp [Act.eval];done)))|(refine mu_unwanted hK rfl rfl ?_;walk_nrm)|(refine muv_val hV rfl (by first|exact .inl rfl|exact .inr rfl) rfl (by kernel_rfl) (fun J hJ=>?_);go_simp;with_reducible refine hJ _ ?_;clear hJ J;walk_nrm))
 refine yek _ ?_
 clear hK hV key yek K
 try subst hkk
 refine hK0 _ V2 yb yc ⟨by simp,rfl,rfl,rfl,rfl,rfl,rfl,rfl,trivial⟩ hn2 s1 (by have:=kVA.size; omega) (fun b hb hno=>?_) fun b hb=>?_
 · rw [s3 b (by omega) hno]
   exact kVA.keep b hb
 · rcases s4 with h | h
   · exact .inl (h ▸ hb)
   · rw [h] at hb
     have:=Option.some.inj hb
     right; omega
theorem u_r16 (hn : norm V = V) {ta : Option Addr} {m2 tc : Nat} (et : V.heap[tb]? = some (.cells #[.slice ta m2 tc] 54 (0,0))) {xs : List Value} (hrow : V.ownsRow 0 55 1 (.slice ta m2 tc) m2 xs) (hm : m2 < 900000000) (hT : Fg 139 [(0,.slice la n lc),(1,.slice pa pl pc),(2,.int .u8 (u : Int)),(7,.pointer (some ⟨tb,0,none⟩)),(8,.int .i64 (i : Int)),(9,.slice xa k xc),(10,.int .i64 (k : Int))] T)
   (K : ∀ T' V' wa wc,Fg 139 [(0,.slice la n lc),(1,.slice pa pl pc),(2,.int .u8 (u : Int)),(7,.pointer (some ⟨tb,0,none⟩)),(8,.int .i64 (i : Int))] T' → norm V' = V' → V'.heap[tb]? = some (.cells #[.slice wa (m2 + 1) wc] 54 (0,0)) → V'.ownsRow 0 55 1 (.slice wa (m2 + 1) wc) (m2 + 1) (xs ++ [.slice xa k xc]) → V.heap.size ≤ V'.heap.size → (∀ b,b < V.heap.size → b ≠ tb → (Value.slice ta m2 tc).ownBlock ≠ some b → V'.heap[b]? = V.heap[b]?) → (∀ b,(Value.slice wa (m2 + 1) wc).ownBlock = some b → (Value.slice ta m2 tc).ownBlock = some b ∨ V.heap.size ≤ b) → To0 Try.prog (LPost W) Z V' (G ((base 7).at ⟨T',[]⟩ kt) cs0)) :
   To0 Try.prog (LPost W) Z V (G ((base 7).at ⟨T,[]⟩ (.code yr16 :: kt)) cs0):=by
 have hK0:=K
 clear K
 have htb : tb < V.heap.size:=(Array.getElem?_eq_some_iff.1 et).1
 have hne : (Value.slice ta m2 tc).ownBlock ≠ some tb:=own_tyK hrow et (by decide)
 have rt : ∀ τ,(re V τ 0).cell? ⟨tb,0,none⟩ = some (.slice ta m2 tc):=fun τ=>cell_of et (by simp)
 obtain ⟨hs,h0,h1,h2,h7,h8,h9,h10,-⟩:=hT
 obtain ⟨f,hf,hT⟩:=array139f T hs
 rw [hT]
 simp only [hf _ _ h0,hf _ _ h1,hf _ _ h2,hf _ _ h7,hf _ _ h8,hf _ _ h9,hf _ _ h10]
 clear hf hs h0 h1 h2 h7 h8 h9 h10
 subst hT
 generalize hX0 : yr16 = X0
 simp only [yr16,yX10,yBA,yLA,yX4,yX3,yB7,nva,nvb,nvk,nvl,Try.f7,Option.getD_some] at hX0
 subst hX0
 obtain ⟨K,hK,hV,key,yek⟩:=kKV (L:=Lone) (J:=fun g=>To0 Try.prog (LPost W) Z V g) mu_to0 (muv_to0 hn)
 refine key _ ?_
 repeat (first|(with_reducible first|refine mu_seq hK ?_|refine mu_skip hK ?_|(refine mu_region_end hK ?_;try subst hkk)|refine mu_block hK ?_|refine mu_inBlock hK ?_|refine mu_ret hK ?_|refine mu_end hK ?_)|refine mu_exit hK rfl ?_|(with_reducible refine mu_regionH hK (fun kk hkk=>?_);simp only [List.size_toArray,List.length_cons,List.length_nil,Nat.reduceAdd,Nat.zero_add,List.range,List.range.loop])|(with_reducible refine mu_cf hK ?_ ?_;(· first|(walk_nrm;done)|(simp [Act.eval];done)))|(with_reducible refine mu_ct hK ?_ ?_;(· first|(walk_nrm;done)|(simp [Act.eval];done)))|(refine mu_unwanted hK rfl rfl ?_;walk_nrm)|(refine muv_val hV rfl (by first|exact .inl rfl|exact .inr rfl) rfl (by kernel_rfl) (fun J hJ=>?_);go_simp;with_reducible refine hJ _ ?_;clear hJ J;walk_nrm))
 refine yek _ ?_
 clear hK hV key yek K
 clear rt
 have hnA : norm (V.alloc (.cells #[.slice xa k xc] 55)) = (V.alloc (.cells #[.slice xa k xc] 55)):=norm_al hn _
 refine mua_put (L:=Lone) (v:=.slice (some ⟨V.heap.size,0,none⟩) 1 1) (mua_to0 hnA) (K:=fun g=>To0 Try.prog (LPost W) Z V g) (K':=fun g=>To0 Try.prog (LPost W) Z (V.alloc (.cells #[.slice xa k xc] 55)) g) rfl (.inl rfl) rfl (by kernel_rfl) (fun τ=>?_) ?_
 · go_simp
   first | exact ⟨by first | rfl | assumption | (simp only [re]; omega),rfl⟩ | rfl | (simp; done)
 have eVA : (V.alloc (.cells #[.slice xa k xc] 55)).heap[V.heap.size]? = some (.cells #[.slice xa k xc] 55 (0,0)):=by rw [al_get,if_pos rfl]
 have sVA : (V.alloc (.cells #[.slice xa k xc] 55)).heap.size = V.heap.size + 1:=by rw [al_size]
 have kVA : Kp V (V.alloc (.cells #[.slice xa k xc] 55)):=⟨by rw [sVA]; omega,fun b hb=>by rw [al_get,if_neg (by omega)]⟩
 generalize (V.alloc (.cells #[.slice xa k xc] 55)) = VA at *
 walk_nrm
 have rowA : VA.ownsRow 0 55 1 (Value.slice ta m2 tc) m2 xs:=row_keep hrow fun b hb=>kVA.keep b (row_at hrow hb)
 have litA : VA.ownsRow 0 55 1 (.slice (some ⟨V.heap.size,0,none⟩) 1 1) 1 [.slice xa k xc]:=⟨rfl,.inr ⟨V.heap.size,1,#[.slice xa k xc],rfl,Nat.zero_le _,eVA,Nat.le_refl _,by simp [maxLen],rfl,rfl⟩⟩
 obtain ⟨K,hK,hV,key,yek⟩:=kKV (L:=Lone) (J:=fun g=>To0 Try.prog (LPost W) Z VA g) mu_to0 (muv_to0 hnA)
 refine key _ ?_
 repeat (first|(with_reducible first|refine mu_seq hK ?_|refine mu_skip hK ?_|(refine mu_region_end hK ?_;try subst hkk)|refine mu_block hK ?_|refine mu_inBlock hK ?_|refine mu_ret hK ?_|refine mu_end hK ?_)|refine mu_exit hK rfl ?_|(with_reducible refine mu_regionH hK (fun kk hkk=>?_);simp only [List.size_toArray,List.length_cons,List.length_nil,Nat.reduceAdd,Nat.zero_add,List.range,List.range.loop])|(with_reducible refine mu_cf hK ?_ ?_;(· first|(walk_nrm;done)|(simp [Act.eval];done)))|(with_reducible refine mu_ct hK ?_ ?_;(· first|(walk_nrm;done)|(simp [Act.eval];done)))|(refine mu_unwanted hK rfl rfl ?_;walk_nrm)|(refine muv_val hV rfl (by first|exact .inl rfl|exact .inr rfl) rfl (by kernel_rfl) (fun J hJ=>?_);go_simp;with_reducible refine hJ _ ?_;clear hJ J;walk_nrm))
 refine yek _ ?_
 clear hK hV key yek K
 refine to0_ex (L:=Lone) rfl rfl rfl (by kernel_rfl) (fun v W=>W.ownsRow 0 55 1 v (m2 + 1) (xs ++ [.slice xa k xc]) ∧ Grw VA W (Value.slice ta m2 tc) v) (fun τ=>?_) fun v2 V2 ⟨s1,s2,s3,s4⟩ hn2=>?_
 · obtain ⟨v',w',a1,a2,a3⟩:=app_row (V:=re VA τ 0) (t:=54) (e:=55) (z:=.slice none 0 0) (B:=24) Try.underlying54 (by kernel_rfl) (by rfl) (by decide) (by decide) (owns_re rowA) (owns_re litA) (by simp [Value.oneCell']) (by omega)
   exact ⟨v',w',run_app_opm rfl rfl rfl a1,a2,a3⟩
 obtain ⟨yb,yn,yc,rfl⟩:=slice_ofA s1
 obtain rfl : yn = m2 + 1:=by
   obtain ⟨_,h⟩:=s1
   rcases h with ⟨h,h0⟩ | ⟨g,cap,cur,h,_⟩
   · injection h with _ h _; omega
   · injection h with _ h _
 walk_nrm
 have e2 : V2.heap[tb]? = some (.cells #[.slice ta m2 tc] 54 (0,0)):=(s3 tb (by omega) hne).trans ((kVA.keep tb htb).trans et)
 have r0VS : ∀ τ,(re V2 τ 0).cell? ⟨tb,0,none⟩ = some (.slice ta m2 tc):=fun τ=>cell_of e2 (by simp)
 have z0VS : ∀ τ,(re V2 τ 0).frozen? ⟨tb,0,none⟩ = false:=fun τ=>by simp [World.frozen?,re,e2]
 have hnVS : norm (V2.setCell ⟨tb,0,none⟩ (.slice yb (m2 + 1) yc)) = (V2.setCell ⟨tb,0,none⟩ (.slice yb (m2 + 1) yc)):=(norm_set hn2 _ _)
 refine mus_put (L:=Lone) (mus_to0 hnVS) (K:=fun g=>To0 Try.prog (LPost W) Z V2 g) (K':=fun g=>To0 Try.prog (LPost W) Z (V2.setCell ⟨tb,0,none⟩ (.slice yb (m2 + 1) yc)) g) rfl (.inl rfl) rfl (by kernel_rfl) (fun τ=>?_) ?_
 · go_simp
   try rfl
 have kVS : ∀ b,b ≠ tb → (V2.setCell ⟨tb,0,none⟩ (.slice yb (m2 + 1) yc)).heap[b]? = V2.heap[b]?:=fun b hb=>by rw [setCell_heap,if_neg hb]
 have eVS : (V2.setCell ⟨tb,0,none⟩ (.slice yb (m2 + 1) yc)).heap[tb]? = some (.cells #[.slice yb (m2 + 1) yc] 54 (0,0)):=by
   rw [setCell_heap,if_pos rfl,e2]
   simp
 have sVS : (V2.setCell ⟨tb,0,none⟩ (.slice yb (m2 + 1) yc)).heap.size = V2.heap.size:=by simp [World.setCell]
 generalize (V2.setCell ⟨tb,0,none⟩ (.slice yb (m2 + 1) yc)) = VS at *
 clear r0VS z0VS
 walk_nrm
 obtain ⟨K,hK,hV,key,yek⟩:=kKV (L:=Lone) (J:=fun g=>To0 Try.prog (LPost W) Z VS g) mu_to0 (muv_to0 hnVS)
 refine key _ ?_
 repeat (first|(with_reducible first|refine mu_seq hK ?_|refine mu_skip hK ?_|(refine mu_region_end hK ?_;try subst hkk)|refine mu_block hK ?_|refine mu_inBlock hK ?_|refine mu_ret hK ?_|refine mu_end hK ?_)|refine mu_exit hK rfl ?_|(with_reducible refine mu_regionH hK (fun kk hkk=>?_);simp only [List.size_toArray,List.length_cons,List.length_nil,Nat.reduceAdd,Nat.zero_add,List.range,List.range.loop])|(with_reducible refine mu_cf hK ?_ ?_;(· first|(walk_nrm;done)|(simp [Act.eval];done)))|(with_reducible refine mu_ct hK ?_ ?_;(· first|(walk_nrm;done)|(simp [Act.eval];done)))|(refine mu_unwanted hK rfl rfl ?_;walk_nrm)|(refine muv_val hV rfl (by first|exact .inl rfl|exact .inr rfl) rfl (by kernel_rfl) (fun J hJ=>?_);go_simp;with_reducible refine hJ _ ?_;clear hJ J;walk_nrm))
 refine yek _ ?_
 clear hK hV key yek K
 try subst hkk
 have hlo : ∀ b,(Value.slice yb (m2 + 1) yc).ownBlock = some b → (Value.slice ta m2 tc).ownBlock = some b ∨ V.heap.size ≤ b:=fun b hb=>by
   rcases s4 with h | h
   · exact .inl (h ▸ hb)
   · rw [h] at hb
     have:=Option.some.inj hb
     right; omega
 refine hK0 _ VS yb yc ⟨by simp,rfl,rfl,rfl,rfl,rfl,trivial⟩ hnVS eVS (row_keep s1 fun b hb=>kVS b fun e=>?_) (by have:=kVA.size; omega) (fun b hb hbt hno=>?_) hlo
 · rcases hlo b hb with h | h
   · exact hne (e ▸ h)
   · omega
 · rw [kVS b hbt,s3 b (by omega) hno]
   exact kVA.keep b hb
end
end Go.Proofs.Ytibcdikfbhmheaa

namespace Go.Proofs.Ytibcdikfbhmheaa
open Go Go.Conc Go.Proofs
open Go.ConcN (sumTo upd sumTo_upd upd_ne upd_same)
set_option linter.unusedVariables false
def dmx (x : Int × Int × Int) : Int × Int × Int:=(dm x.1,x.2.1,x.2.2)
def dml (l : List (Int × Int × Int)) : List (Int × Int × Int):=l.map dmx
def acells (l : List (Int × Int × Int)) : List Value:=l.flatMap fun x=>[.int .i64 x.1,.int .i64 x.2.1,.int .i64 x.2.2]
theorem acells_snoc (l : List (Int × Int × Int)) (x : Int × Int × Int) : acells (l ++ [x]) = acells l ++ [.int .i64 x.1,.int .i64 x.2.1,.int .i64 x.2.2]:=by simp [acells]
structure CP (V0 : World) (given : Nat → List (Int × Int × Int)) (tb i : Nat) (ra : Nat → Option Addr) (rc : Nat → Nat) (ta : Option Addr) (tc : Nat) (V : World) : Prop where
 nrm : norm V = V
 kp : Kp V0 V
 lo : V0.heap.size ≤ tb
 box : V.heap[tb]? = some (.cells #[.slice ta i tc] 54 (0,0))
 row : V.ownsRow 0 55 1 (.slice ta i tc) i ((List.range i).map fun j=>Value.slice (ra j) (given j).length (rc j))
 own : ∀ b,(Value.slice ta i tc).ownBlock = some b → V0.heap.size ≤ b
 inn : ∀ j,j < i → V.ownsRow 0 57 3 (.slice (ra j) (given j).length (rc j)) (given j).length (acells (dml (given j))) ∧ ∀ b,(Value.slice (ra j) (given j).length (rc j)).ownBlock = some b → V0.heap.size ≤ b
structure CI (V0 : World) (given : Nat → List (Int × Int × Int)) (tb i k : Nat) (ra : Nat → Option Addr) (rc : Nat → Nat) (ta : Option Addr) (tc : Nat) (xa : Option Addr) (xc : Nat) (V : World) : Prop where
 cp : CP V0 given tb i ra rc ta tc V
 row : V.ownsRow 0 57 3 (.slice xa k xc) k (acells (dml ((given i).take k)))
 own : ∀ b,(Value.slice xa k xc).ownBlock = some b → V0.heap.size ≤ b
 sep : ∀ j,j < i → ∀ b,(Value.slice (ra j) (given j).length (rc j)).ownBlock = some b → (Value.slice xa k xc).ownBlock ≠ some b
section
variable {W V0 V V' : World} {Z : Cuts} {given : Nat → List (Int × Int × Int)} {tb i k n lc tc xc pl pc u : Nat} {ra ra0 : Nat → Option Addr} {rc rc0 : Nat → Nat} {la ta xa pa : Option Addr} {T : Array Value} {kt : List Item} {cs0 : List Frame}
theorem CP.kpp (C : CP V0 given tb i ra rc ta tc V) (hk : Kp V V') (hn : norm V' = V') : CP V0 given tb i ra rc ta tc V' :=
 ⟨hn,C.kp.trans hk,C.lo,(hk.keep _ (Array.getElem?_eq_some_iff.1 C.box).1).trans C.box,row_keep C.row fun b hb=>hk.keep b (row_at C.row hb),C.own,fun j hj=>⟨row_keep (C.inn j hj).1 fun b hb=>hk.keep b (row_at (C.inn j hj).1 hb),(C.inn j hj).2⟩⟩
theorem CI.kpp (C : CI V0 given tb i k ra rc ta tc xa xc V) (hk : Kp V V') (hn : norm V' = V') : CI V0 given tb i k ra rc ta tc xa xc V' :=
 ⟨C.cp.kpp hk hn,row_keep C.row fun b hb=>hk.keep b (row_at C.row hb),C.own,C.sep⟩
theorem CI.zero (C : CP V0 given tb i ra rc ta tc V) : CI V0 given tb i 0 ra rc ta tc none 0 V :=
 ⟨C,⟨rfl,.inl ⟨rfl,rfl⟩⟩,fun b hb=>(by cases hb),fun j _ b _ h=>(by cases h)⟩
theorem CI.next (C : CI V0 given tb i k ra rc ta tc xa xc V) {x : Int × Int × Int} (hx : (given i)[k]? = some x) (hn : norm V' = V') {wa : Option Addr} {wc : Nat} (h : V'.ownsRow 0 57 3 (.slice wa (k + 1) wc) (k + 1) (acells (dml ((given i).take k)) ++ [.int .i64 (dm x.1),.int .i64 x.2.1,.int .i64 x.2.2])) (hs : V.heap.size ≤ V'.heap.size) (hk : ∀ b,b < V.heap.size → (Value.slice xa k xc).ownBlock ≠ some b → V'.heap[b]? = V.heap[b]?) (ho : ∀ b,(Value.slice wa (k + 1) wc).ownBlock = some b → (Value.slice xa k xc).ownBlock = some b ∨ V.heap.size ≤ b) : CI V0 given tb i (k + 1) ra rc ta tc wa wc V':=by
 have hlt:=C.cp.kp.size
 refine ⟨⟨hn,⟨Nat.le_trans hlt hs,fun b hb=>by rw [hk b (by omega) (fun e=>by have:=C.own b e; omega)]; exact C.cp.kp.keep b hb⟩,C.cp.lo,(hk tb (Array.getElem?_eq_some_iff.1 C.cp.box).1 (own_tyK C.row C.cp.box (by decide))).trans C.cp.box,row_keep C.cp.row fun b hb=>hk b (row_at C.cp.row hb) (apart C.cp.row C.row (by decide) hb),C.cp.own,fun j hj=>⟨row_keep (C.cp.inn j hj).1 fun b hb=>hk b (row_at (C.cp.inn j hj).1 hb) (C.sep j hj b hb),(C.cp.inn j hj).2⟩⟩,?_,fun b hb=>?_,fun j hj b hb e=>?_⟩
 · have e : dml ((given i).take (k + 1)) = dml ((given i).take k) ++ [dmx x]:=by
     rw [List.take_add_one,hx]
     simp [dml]
   rw [e,acells_snoc]
   exact h
 · rcases ho b hb with h | h
   · exact C.own b h
   · omega
 · rcases ho b e with h | h
   · exact C.sep j hj b hb h
   · have:=row_at (C.cp.inn j hj).1 hb; omega
theorem CP.next (C : CI V0 given tb i (given i).length ra rc ta tc xa xc V) (hn : norm V' = V') {wa : Option Addr} {wc : Nat} (hb : V'.heap[tb]? = some (.cells #[.slice wa (i + 1) wc] 54 (0,0))) (h : V'.ownsRow 0 55 1 (.slice wa (i + 1) wc) (i + 1) (((List.range i).map fun j=>Value.slice (ra j) (given j).length (rc j)) ++ [.slice xa (given i).length xc])) (hs : V.heap.size ≤ V'.heap.size) (hk : ∀ b,b < V.heap.size → b ≠ tb → (Value.slice ta i tc).ownBlock ≠ some b → V'.heap[b]? = V.heap[b]?) (ho : ∀ b,(Value.slice wa (i + 1) wc).ownBlock = some b → (Value.slice ta i tc).ownBlock = some b ∨ V.heap.size ≤ b) : CP V0 given tb (i + 1) (upd ra i xa) (upd rc i xc) wa wc V':=by
 have hlt:=C.cp.kp.size
 have hlo:=C.cp.lo
 have keep57 : ∀ {v : Value} {m : Nat} {xs : List Value},V.ownsRow 0 57 3 v m xs → V'.ownsRow 0 57 3 v m xs:=fun {v m xs} hr=>row_keep hr fun b hb=>hk b (row_at hr hb) (fun e=>own_tyK hr C.cp.box (by decide) (e ▸ hb)) (apart hr C.cp.row (by decide) hb)
 refine ⟨hn,⟨Nat.le_trans hlt hs,fun b hb=>by rw [hk b (by omega) (by omega) (fun e=>by have:=C.cp.own b e; omega)]; exact C.cp.kp.keep b hb⟩,hlo,hb,?_,fun b hb=>?_,fun j hj=>?_⟩
 · have e : ((List.range (i + 1)).map fun j=>Value.slice (upd ra i xa j) (given j).length (upd rc i xc j)) = ((List.range i).map fun j=>Value.slice (ra j) (given j).length (rc j)) ++ [.slice xa (given i).length xc]:=by
     rw [List.range_succ,List.map_append]
     congr 1
     · apply List.map_congr_left
       intro j hj
       have : j < i:=List.mem_range.1 hj
       rw [upd_ne _ _ (by omega),upd_ne _ _ (by omega)]
     · simp [upd_same]
   rw [e]; exact h
 · rcases ho b hb with h | h
   · exact C.cp.own b h
   · omega
 · by_cases e : j = i
   · subst e
     rw [upd_same,upd_same]
     have hr:=C.row
     rw [List.take_length] at hr
     exact ⟨keep57 hr,C.own⟩
   · rw [upd_ne _ _ e,upd_ne _ _ e]
     exact ⟨keep57 (C.cp.inn j (by omega)).1,(C.cp.inn j (by omega)).2⟩
theorem u_li (hR : Rw3 V0 la n given ra0 rc0) (hi : i < n) (hlen : (given i).length ≤ 20) : ∀ (q k : Nat) (xa : Option Addr) (xc : Nat) (V : World) (T : Array Value),q + k = (given i).length → CI V0 given tb i k ra rc ta tc xa xc V → Fg 139 [(0,.slice la n lc),(1,.slice pa pl pc),(2,.int .u8 (u : Int)),(7,.pointer (some ⟨tb,0,none⟩)),(8,.int .i64 (i : Int)),(9,.slice xa k xc),(10,.int .i64 (k : Int))] T →
   (∀ xa xc V' T',CI V0 given tb i (given i).length ra rc ta tc xa xc V' → Fg 139 [(0,.slice la n lc),(1,.slice pa pl pc),(2,.int .u8 (u : Int)),(7,.pointer (some ⟨tb,0,none⟩)),(8,.int .i64 (i : Int)),(9,.slice xa (given i).length xc),(10,.int .i64 ((given i).length : Int))] T' → To0 Try.prog (LPost W) Z V' (G ((base 7).at ⟨T',[]⟩ kt) cs0)) →
   To0 Try.prog (LPost W) Z V (G ((base 7).at ⟨T,[]⟩ (.code yLI :: .inLoop yLI :: .inBlock 2 :: kt)) cs0):=by
 intro q
 induction q with
 | zero =>
   intro k xa xc V T hq C hT K
   obtain ⟨g,o,hla,hg,hl⟩:=(hR.kp C.cp.kp).out (by omega)
   refine (fun (h : ∀ Y,Y = yLI → To0 Try.prog (LPost W) Z V (G ((base 7).at ⟨T,[]⟩ (.code Y :: .inLoop yLI :: .inBlock 2 :: kt)) cs0))=>h yLI rfl) ?_
   intro Y hY
   rw [yLI_eq] at hY
   subst hY
   refine mu_seq mu_to0 (mu_seq mu_to0 ?_)
   refine u_r11 (x:=false) C.cp.nrm hi hla (hl i hi) (decide_eq_false (by omega)) hT fun T1 hT1 h51=>?_
   refine mu_cond mu_to0 false (cond_atZ h51) ?_
   refine mu_exit mu_to0 rfl ?_
   obtain rfl : k = (given i).length:=by omega
   exact K xa xc V T1 C hT1
 | succ q ih =>
   intro k xa xc V T hq C hT K
   obtain ⟨g,o,hla,hg,hl⟩:=(hR.kp C.cp.kp).out (by omega)
   obtain ⟨h,p,hra,hh,hc⟩:=(hR.kp C.cp.kp).inn i hi (by omega)
   have hk : k < (given i).length:=by omega
   obtain ⟨c1,c2,c3⟩:=hc k hk
   have hli:=hl i hi
   rw [hra] at hli
   have hx : (given i)[k]? = some ((given i)[k]'hk):=List.getElem?_eq_getElem hk
   generalize (given i)[k]'hk = x at *
   refine (fun (h : ∀ Y,Y = yLI → To0 Try.prog (LPost W) Z V (G ((base 7).at ⟨T,[]⟩ (.code Y :: .inLoop yLI :: .inBlock 2 :: kt)) cs0))=>h yLI rfl) ?_
   intro Y hY
   rw [yLI_eq] at hY
   subst hY
   refine mu_seq mu_to0 (mu_seq mu_to0 ?_)
   refine u_r11 (x:=true) C.cp.nrm hi hla (hl i hi) (decide_eq_true (by omega)) hT fun T1 hT1 h51=>?_
   refine mu_cond mu_to0 true (cond_atZ h51) ?_
   refine mu_skip mu_to0 (mu_seq mu_to0 (mu_block mu_to0 (mu_seq mu_to0 ?_)))
   refine u_r13 C.cp.nrm hi hla hk hli c1 c2 c3 hT1 fun T2 V2 hT2 n2 k2 s2 e2=>?_
   refine mu_seq mu_to0 ?_
   refine u_r14 n2 e2 hT2 fun T3 hT3=>?_
   have n3 : norm (V2.setCell ⟨V.heap.size,0,none⟩ (.int .i64 (dm x.1))) = (V2.setCell ⟨V.heap.size,0,none⟩ (.int .i64 (dm x.1))):=norm_set n2 _ _
   have k3 : Kp V (V2.setCell ⟨V.heap.size, 0, none⟩ (.int .i64 (dm x.1))) := ⟨by have : (V2.setCell ⟨V.heap.size, 0, none⟩ (.int .i64 (dm x.1))).heap.size = V2.heap.size := by simp [World.setCell]
                                                                                  omega,fun b hb=>(set_offA _ (by omega)).trans (k2.keep b hb)⟩
   have e3 : (V2.setCell ⟨V.heap.size,0,none⟩ (.int .i64 (dm x.1))).heap[V.heap.size]? = some (.cells #[.int .i64 (dm x.1),.int .i64 x.2.1,.int .i64 x.2.2] 57 (0,0)):=by
     rw [setCell_heap,if_pos rfl,e2]
     simp
   refine (fun (h : ∀ V3,norm V3 = V3 → Kp V V3 → V3.heap[V.heap.size]? = some (.cells #[.int .i64 (dm x.1),.int .i64 x.2.1,.int .i64 x.2.2] 57 (0,0)) → To0 Try.prog (LPost W) Z V3 (G ((base 7).at ⟨T3,[]⟩ (.code yr15 :: .inBlock 3 :: .code yr12 :: .inLoop yLI :: .inBlock 2 :: kt)) cs0))=>h _ n3 k3 e3) ?_
   clear n3 k3 e3
   intro V3 n3 k3 e3
   have C3:=C.kpp k3 n3
   refine u_r15 n3 e3 C3.row (by omega) hT3 fun T4 V4 wa wc hT4 n4 r4 s4 k4 o4=>?_
   have C4:=C3.next hx n4 r4 s4 k4 o4
   refine mu_inBlock mu_to0 ?_
   refine u_r12 n4 (by omega) hT4 fun T5 hT5=>?_
   refine mu_inLoop mu_to0 ?_
   exact ih (k + 1) wa wc V4 T5 (by omega) C4 hT5 K
theorem u_live2 (L : LS W Z V) (hs : T.size = 139) : To0 Try.prog (LPost W) Z V (G ((base 7).at ⟨T,[]⟩ (.code yw2 :: kt)) []):=by
 obtain ⟨f,hf,hT⟩:=array139f T hs
 rw [hT]
 clear hf hs
 subst hT
 generalize hX0 : yw2 = X0
 simp only [yw2,yC1,yB7,nva,nvb,nvd,Try.f7,Option.getD_some] at hX0
 subst hX0
 obtain ⟨K,hK,hV,key,yek⟩:=kKV (L:=Lone) (J:=fun g=>To0 Try.prog (LPost W) Z V g) mu_to0 (muv_to0 L.n)
 refine key _ ?_
 repeat (first|(with_reducible first|refine mu_seq hK ?_|refine mu_skip hK ?_|(refine mu_region_end hK ?_;try subst hkk)|refine mu_block hK ?_|refine mu_inBlock hK ?_|refine mu_ret hK ?_|refine mu_end hK ?_)|refine mu_exit hK rfl ?_|(with_reducible refine mu_regionH hK (fun kk hkk=>?_);simp only [List.size_toArray,List.length_cons,List.length_nil,Nat.reduceAdd,Nat.zero_add,List.range,List.range.loop])|(with_reducible refine mu_cf hK ?_ ?_;(· first|(walk_nrm;done)|(simp [Act.eval];done)))|(with_reducible refine mu_ct hK ?_ ?_;(· first|(walk_nrm;done)|(simp [Act.eval];done)))|(refine mu_unwanted hK rfl rfl ?_;walk_nrm)|(refine muv_val hV rfl (by first|exact .inl rfl|exact .inr rfl) rfl (by kernel_rfl) (fun J hJ=>?_);go_simp;with_reducible refine hJ _ ?_;clear hJ J;walk_nrm))
 refine mu_call hK rfl rfl (by decide) rfl Try.func28 (by kernel_rfl) rfl ?_
 rw [← enter_at (P:=Try.prog) _ Try.func28 rfl]
 walk_nrm
 refine yek _ ?_
 clear hK hV key yek K
 refine live28_go L.n fun Vq hnq kq=>?_
 have Lq:=L.same hnq kq
 walk_nrm
 obtain ⟨K,hK,hV,key,yek⟩:=kKV (L:=Lone) (J:=fun g=>To0 Try.prog (LPost W) Z Vq g) mu_to0 (muv_to0 Lq.n)
 refine key _ ?_
 repeat (first|(with_reducible first|refine mu_seq hK ?_|refine mu_skip hK ?_|(refine mu_region_end hK ?_;try subst hkk)|refine mu_block hK ?_|refine mu_inBlock hK ?_|refine mu_ret hK ?_|refine mu_end hK ?_)|refine mu_exit hK rfl ?_|(with_reducible refine mu_regionH hK (fun kk hkk=>?_);simp only [List.size_toArray,List.length_cons,List.length_nil,Nat.reduceAdd,Nat.zero_add,List.range,List.range.loop])|(with_reducible refine mu_cf hK ?_ ?_;(· first|(walk_nrm;done)|(simp [Act.eval];done)))|(with_reducible refine mu_ct hK ?_ ?_;(· first|(walk_nrm;done)|(simp [Act.eval];done)))|(refine mu_unwanted hK rfl rfl ?_;walk_nrm)|(refine muv_val hV rfl (by first|exact .inl rfl|exact .inr rfl) rfl (by kernel_rfl) (fun J hJ=>?_);go_simp;with_reducible refine hJ _ ?_;clear hJ J;walk_nrm))
 refine yek _ ?_
 clear hK hV key yek K
 exact law_last (by kernel_rfl) rfl rfl Try.func7 rfl rfl Lq.o Lq.k
theorem u_live8 (L : LS W Z V) (hs : T.size = 139) : To0 Try.prog (LPost W) Z V (G ((base 7).at ⟨T,[]⟩ (.code yw8 :: kt)) []):=by
 obtain ⟨f,hf,hT⟩:=array139f T hs
 rw [hT]
 clear hf hs
 subst hT
 generalize hX0 : yw8 = X0
 simp only [yw8,yC7,yBA,yLA,yX4,yX3,yB7,nva,nvb,nvk,nvl,nvd,Try.f7,Option.getD_some] at hX0
 subst hX0
 obtain ⟨K,hK,hV,key,yek⟩:=kKV (L:=Lone) (J:=fun g=>To0 Try.prog (LPost W) Z V g) mu_to0 (muv_to0 L.n)
 refine key _ ?_
 repeat (first|(with_reducible first|refine mu_seq hK ?_|refine mu_skip hK ?_|(refine mu_region_end hK ?_;try subst hkk)|refine mu_block hK ?_|refine mu_inBlock hK ?_|refine mu_ret hK ?_|refine mu_end hK ?_)|refine mu_exit hK rfl ?_|(with_reducible refine mu_regionH hK (fun kk hkk=>?_);simp only [List.size_toArray,List.length_cons,List.length_nil,Nat.reduceAdd,Nat.zero_add,List.range,List.range.loop])|(with_reducible refine mu_cf hK ?_ ?_;(· first|(walk_nrm;done)|(simp [Act.eval];done)))|(with_reducible refine mu_ct hK ?_ ?_;(· first|(walk_nrm;done)|(simp [Act.eval];done)))|(refine mu_unwanted hK rfl rfl ?_;walk_nrm)|(refine muv_val hV rfl (by first|exact .inl rfl|exact .inr rfl) rfl (by kernel_rfl) (fun J hJ=>?_);go_simp;with_reducible refine hJ _ ?_;clear hJ J;walk_nrm))
 refine mu_call hK rfl rfl (by decide) rfl Try.func28 (by kernel_rfl) rfl ?_
 rw [← enter_at (P:=Try.prog) _ Try.func28 rfl]
 walk_nrm
 refine yek _ ?_
 clear hK hV key yek K
 refine live28_go L.n fun Vq hnq kq=>?_
 have Lq:=L.same hnq kq
 walk_nrm
 obtain ⟨K,hK,hV,key,yek⟩:=kKV (L:=Lone) (J:=fun g=>To0 Try.prog (LPost W) Z Vq g) mu_to0 (muv_to0 Lq.n)
 refine key _ ?_
 repeat (first|(with_reducible first|refine mu_seq hK ?_|refine mu_skip hK ?_|(refine mu_region_end hK ?_;try subst hkk)|refine mu_block hK ?_|refine mu_inBlock hK ?_|refine mu_ret hK ?_|refine mu_end hK ?_)|refine mu_exit hK rfl ?_|(with_reducible refine mu_regionH hK (fun kk hkk=>?_);simp only [List.size_toArray,List.length_cons,List.length_nil,Nat.reduceAdd,Nat.zero_add,List.range,List.range.loop])|(with_reducible refine mu_cf hK ?_ ?_;(· first|(walk_nrm;done)|(simp [Act.eval];done)))|(with_reducible refine mu_ct hK ?_ ?_;(· first|(walk_nrm;done)|(simp [Act.eval];done)))|(refine mu_unwanted hK rfl rfl ?_;walk_nrm)|(refine muv_val hV rfl (by first|exact .inl rfl|exact .inr rfl) rfl (by kernel_rfl) (fun J hJ=>?_);go_simp;with_reducible refine hJ _ ?_;clear hJ J;walk_nrm))
 refine yek _ ?_
 clear hK hV key yek K
 exact law_last (by kernel_rfl) rfl rfl Try.func7 rfl rfl Lq.o Lq.k
theorem u_live36 (L : LS W Z V) (hs : T.size = 139) : To0 Try.prog (LPost W) Z V (G ((base 7).at ⟨T,[]⟩ (.code yX36 :: kt)) []):=by
 obtain ⟨f,hf,hT⟩:=array139f T hs
 rw [hT]
 clear hf hs
 subst hT
 generalize hX0 : yX36 = X0
 simp only [yX36,yX31,yX29,yX26,yX20,yX17,yX4,yX3,yB7,nvb,Try.f7,Option.getD_some] at hX0
 subst hX0
 obtain ⟨K,hK,hV,key,yek⟩:=kKV (L:=Lone) (J:=fun g=>To0 Try.prog (LPost W) Z V g) mu_to0 (muv_to0 L.n)
 refine key _ ?_
 repeat (first|(with_reducible first|refine mu_seq hK ?_|refine mu_skip hK ?_|(refine mu_region_end hK ?_;try subst hkk)|refine mu_block hK ?_|refine mu_inBlock hK ?_|refine mu_ret hK ?_|refine mu_end hK ?_)|refine mu_exit hK rfl ?_|(with_reducible refine mu_regionH hK (fun kk hkk=>?_);simp only [List.size_toArray,List.length_cons,List.length_nil,Nat.reduceAdd,Nat.zero_add,List.range,List.range.loop])|(with_reducible refine mu_cf hK ?_ ?_;(· first|(walk_nrm;done)|(simp [Act.eval];done)))|(with_reducible refine mu_ct hK ?_ ?_;(· first|(walk_nrm;done)|(simp [Act.eval];done)))|(refine mu_unwanted hK rfl rfl ?_;walk_nrm)|(refine muv_val hV rfl (by first|exact .inl rfl|exact .inr rfl) rfl (by kernel_rfl) (fun J hJ=>?_);go_simp;with_reducible refine hJ _ ?_;clear hJ J;walk_nrm))
 refine mu_call hK rfl rfl (by decide) rfl Try.func28 (by kernel_rfl) rfl ?_
 rw [← enter_at (P:=Try.prog) _ Try.func28 rfl]
 walk_nrm
 refine yek _ ?_
 clear hK hV key yek K
 refine live28_go L.n fun Vq hnq kq=>?_
 have Lq:=L.same hnq kq
 walk_nrm
 obtain ⟨K,hK,hV,key,yek⟩:=kKV (L:=Lone) (J:=fun g=>To0 Try.prog (LPost W) Z Vq g) mu_to0 (muv_to0 Lq.n)
 refine key _ ?_
 repeat (first|(with_reducible first|refine mu_seq hK ?_|refine mu_skip hK ?_|(refine mu_region_end hK ?_;try subst hkk)|refine mu_block hK ?_|refine mu_inBlock hK ?_|refine mu_ret hK ?_|refine mu_end hK ?_)|refine mu_exit hK rfl ?_|(with_reducible refine mu_regionH hK (fun kk hkk=>?_);simp only [List.size_toArray,List.length_cons,List.length_nil,Nat.reduceAdd,Nat.zero_add,List.range,List.range.loop])|(with_reducible refine mu_cf hK ?_ ?_;(· first|(walk_nrm;done)|(simp [Act.eval];done)))|(with_reducible refine mu_ct hK ?_ ?_;(· first|(walk_nrm;done)|(simp [Act.eval];done)))|(refine mu_unwanted hK rfl rfl ?_;walk_nrm)|(refine muv_val hV rfl (by first|exact .inl rfl|exact .inr rfl) rfl (by kernel_rfl) (fun J hJ=>?_);go_simp;with_reducible refine hJ _ ?_;clear hJ J;walk_nrm))
 refine yek _ ?_
 clear hK hV key yek K
 exact law_last (by kernel_rfl) rfl rfl Try.func7 rfl rfl Lq.o Lq.k
theorem u_la (L : LS W Z V0) (hR : Rw3 V0 la n given ra0 rc0) (hn10 : n ≤ 10) : ∀ (q i : Nat) (ra : Nat → Option Addr) (rc : Nat → Nat) (ta : Option Addr) (tc : Nat) (V : World) (T : Array Value),q + i = n → (∀ j,j < i → (given j).length ≤ 20) → CP V0 given tb i ra rc ta tc V → Fg 139 [(0,.slice la n lc),(1,.slice pa pl pc),(2,.int .u8 (u : Int)),(7,.pointer (some ⟨tb,0,none⟩)),(8,.int .i64 (i : Int))] T →
   (∀ ra rc ta tc V' T',(∀ j,j < n → (given j).length ≤ 20) → CP V0 given tb n ra rc ta tc V' → Fg 139 [(1,.slice pa pl pc),(2,.int .u8 (u : Int)),(7,.pointer (some ⟨tb,0,none⟩))] T' → To0 Try.prog (LPost W) Z V' (G ((base 7).at ⟨T',[]⟩ kt) [])) →
   To0 Try.prog (LPost W) Z V (G ((base 7).at ⟨T,[]⟩ (.code yLA :: .inLoop yLA :: .inBlock 0 :: kt)) []):=by
 intro q
 induction q with
 | zero =>
   intro i ra rc ta tc V T hq hle C hT K
   refine (fun (h : ∀ Y,Y = yLA → To0 Try.prog (LPost W) Z V (G ((base 7).at ⟨T,[]⟩ (.code Y :: .inLoop yLA :: .inBlock 0 :: kt)) []))=>h yLA rfl) ?_
   intro Y hY
   rw [yLA_eq] at hY
   subst hY
   refine mu_seq mu_to0 (mu_seq mu_to0 ?_)
   refine u_r5 (x:=false) C.nrm (decide_eq_false (by omega)) hT fun T1 hT1 h35=>?_
   refine mu_cond mu_to0 false (cond_atZ h35) ?_
   refine mu_exit mu_to0 rfl ?_
   obtain rfl : i = n:=by omega
   obtain ⟨hs,h0,h1,h2,h7,-⟩:=hT1
   exact K ra rc ta tc V T1 hle C ⟨hs,h1,h2,h7,trivial⟩
 | succ q ih =>
   intro i ra rc ta tc V T hq hle C hT K
   have hi : i < n:=by omega
   obtain ⟨g,o,hla,hg,hl⟩:=(hR.kp C.kp).out (by omega)
   refine (fun (h : ∀ Y,Y = yLA → To0 Try.prog (LPost W) Z V (G ((base 7).at ⟨T,[]⟩ (.code Y :: .inLoop yLA :: .inBlock 0 :: kt)) []))=>h yLA rfl) ?_
   intro Y hY
   rw [yLA_eq] at hY
   subst hY
   refine mu_seq mu_to0 (mu_seq mu_to0 ?_)
   refine u_r5 (x:=true) C.nrm (decide_eq_true (by omega)) hT fun T1 hT1 h35=>?_
   refine mu_cond mu_to0 true (cond_atZ h35) ?_
   refine mu_skip mu_to0 (mu_seq mu_to0 (mu_block mu_to0 (mu_seq mu_to0 (mu_seq mu_to0 ?_))))
   by_cases h20 : 20 < (given i).length
   · refine u_r7 (x:=true) C.nrm hi hla (hl i hi) (decide_eq_true (by omega)) hT1 fun T2 hT2 h43=>?_
     refine mu_cond mu_to0 true (cond_atZ h43) ?_
     exact u_live8 (L.same C.nrm C.kp) hT2.1
   · refine u_r7 (x:=false) C.nrm hi hla (hl i hi) (decide_eq_false (by omega)) hT1 fun T2 hT2 h43=>?_
     refine mu_cond mu_to0 false (cond_atZ h43) (mu_skip mu_to0 ?_)
     refine mu_seq mu_to0 ?_
     refine u_r9 C.nrm hT2 fun T3 hT3=>?_
     refine mu_seq mu_to0 (mu_seq mu_to0 ?_)
     refine u_r10 C.nrm hT3 fun T4 hT4=>?_
     refine mu_block mu_to0 (mu_loop mu_to0 ?_)
     refine u_li hR hi (by omega) (given i).length 0 none 0 V T4 (by omega) (CI.zero C) hT4 fun xa xc V5 T5 C5 hT5=>?_
     refine u_r16 C5.cp.nrm C5.cp.box C5.cp.row (by omega) hT5 fun T6 V6 wa wc hT6 n6 b6 r6 s6 k6 o6=>?_
     have C6:=CP.next C5 n6 b6 r6 s6 k6 o6
     refine mu_inBlock mu_to0 ?_
     refine u_r6 n6 (by omega) hT6 fun T7 hT7=>?_
     refine mu_inLoop mu_to0 ?_
     refine ih (i + 1) _ _ wa wc V6 T7 (by omega) (fun j hj=>?_) C6 hT7 K
     by_cases e : j = i
     · subst e; omega
     · exact hle j (by omega)
end
end Go.Proofs.Ytibcdikfbhmheaa
