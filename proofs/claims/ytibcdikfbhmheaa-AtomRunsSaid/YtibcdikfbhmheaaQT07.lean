import Derived.Test.YtibcdikfbhmheaaQT06
set_option linter.unusedSimpArgs false
set_option linter.unusedVariables false
set_option maxRecDepth 100000
set_option maxHeartbeats 4000000
namespace Go.Proofs.Ytibcdikfbhmheaa
open Go Go.Conc Go.Proofs
open Go.ConcN (sumTo upd sumTo_upd upd_ne upd_same)
set_option linter.unusedVariables false
section
variable {V : World} {Z : Cuts} {Post : Value → World → Prop} {n lc pl pc Rn gd dc gb bc m vc k i b18 b19 p g o len rc : Nat} {la pa va r : Option Addr} {ov lv : Value} {v a nn od : Int} {T : Array Value} {kt : List Item} {cs0 : List Frame}
theorem z_r4 (hn : norm V = V) (hn3 : n ≤ 1000) (hT : Fg 161 [(0,.slice la n lc),(1,.slice pa pl pc),(2,.int .i64 (Rn : Int)),(9,ov),(10,lv),(11,.int .i64 v)] T)
   (K : ∀ T' V',Fg 161 [(0,.slice la n lc),(1,.slice pa pl pc),(2,.int .i64 (Rn : Int)),(9,ov),(10,lv),(11,.int .i64 v),(12,.slice (some ⟨V.heap.size,0,none⟩) n n)] T' → norm V' = V' → Kp V V' → V'.heap.size = V.heap.size + 1 → V'.heap[V.heap.size]? = some (.cells (madeCells #[.int .i64 0] n) 3 (0,0)) → To0 Try.prog Post Z V' (G ((base 31).at ⟨T',[]⟩ kt) cs0)) :
   To0 Try.prog Post Z V (G ((base 31).at ⟨T,[]⟩ (.code zr4 :: kt)) cs0):=by
 have hK0:=K
 clear K
 obtain ⟨hs,h0,h1,h2,h9,h10,h11,-⟩:=hT
 obtain ⟨f,hf,hT⟩:=array161f T hs
 rw [hT]
 simp only [hf _ _ h0,hf _ _ h1,hf _ _ h2,hf _ _ h9,hf _ _ h10,hf _ _ h11]
 clear hf hs h0 h1 h2 h9 h10 h11
 subst hT
 generalize hX0 : zr4 = X0
 simp only [zr4,Z31,nva,nvb,Try.f31,Option.getD_some] at hX0
 subst hX0
 obtain ⟨K,hK,hV,key,yek⟩:=kKV (L:=Lone) (J:=fun g=>To0 Try.prog Post Z V g) mu_to0 (muv_to0 hn)
 refine key _ ?_
 repeat (first|(with_reducible first|refine mu_seq hK ?_|refine mu_skip hK ?_|(refine mu_region_end hK ?_;try subst hkk)|refine mu_block hK ?_|refine mu_inBlock hK ?_|refine mu_ret hK ?_|refine mu_end hK ?_)|refine mu_exit hK rfl ?_|(with_reducible refine mu_regionH hK (fun kk hkk=>?_);simp only [List.size_toArray,List.length_cons,List.length_nil,Nat.reduceAdd,Nat.zero_add,List.range,List.range.loop])|(with_reducible refine mu_cf hK ?_ ?_;(· first|(walk_nrm;done)|(simp [Act.eval];done)))|(with_reducible refine mu_ct hK ?_ ?_;(· first|(walk_nrm;done)|(simp [Act.eval];done)))|(refine mu_unwanted hK rfl rfl ?_;walk_nrm)|(refine muv_val hV rfl (by first|exact .inl rfl|exact .inr rfl) rfl (by kernel_rfl) (fun J hJ=>?_);go_simp;with_reducible refine hJ _ ?_;clear hJ J;walk_nrm))
 refine yek _ ?_
 clear hK hV key yek K
 have hnA : norm (V.alloc (.cells (madeCells #[.int .i64 0] n) 3)) = (V.alloc (.cells (madeCells #[.int .i64 0] n) 3)):=norm_al hn _
 refine mua_put (L:=Lone) (v:=.slice (some ⟨V.heap.size,0,none⟩) n n) (mua_to0 hnA) (K:=fun g=>To0 Try.prog Post Z V g) (K':=fun g=>To0 Try.prog Post Z (V.alloc (.cells (madeCells #[.int .i64 0] n) 3)) g) rfl (.inl rfl) rfl (by kernel_rfl) (fun τ=>?_) ?_
 · have mk:=mkk (t:=23) (e:=3) (z:=.int .i64 0) (B:=8) Try.underlying23 (by kernel_rfl) rfl (by decide) hn3 (re V τ 0)
   go_simp
   first | exact ⟨by first | rfl | assumption | (simp only [re]; omega),rfl⟩ | rfl | (simp; done)
 have eVA : (V.alloc (.cells (madeCells #[.int .i64 0] n) 3)).heap[V.heap.size]? = some (.cells (madeCells #[.int .i64 0] n) 3 (0,0)):=by rw [al_get,if_pos rfl]
 have sVA : (V.alloc (.cells (madeCells #[.int .i64 0] n) 3)).heap.size = V.heap.size + 1:=by rw [al_size]
 have kVA : Kp V (V.alloc (.cells (madeCells #[.int .i64 0] n) 3)):=⟨by rw [sVA]; omega,fun b hb=>by rw [al_get,if_neg (by omega)]⟩
 generalize (V.alloc (.cells (madeCells #[.int .i64 0] n) 3)) = VA at *
 walk_nrm
 obtain ⟨K,hK,hV,key,yek⟩:=kKV (L:=Lone) (J:=fun g=>To0 Try.prog Post Z VA g) mu_to0 (muv_to0 hnA)
 refine key _ ?_
 repeat (first|(with_reducible first|refine mu_seq hK ?_|refine mu_skip hK ?_|(refine mu_region_end hK ?_;try subst hkk)|refine mu_block hK ?_|refine mu_inBlock hK ?_|refine mu_ret hK ?_|refine mu_end hK ?_)|refine mu_exit hK rfl ?_|(with_reducible refine mu_regionH hK (fun kk hkk=>?_);simp only [List.size_toArray,List.length_cons,List.length_nil,Nat.reduceAdd,Nat.zero_add,List.range,List.range.loop])|(with_reducible refine mu_cf hK ?_ ?_;(· first|(walk_nrm;done)|(simp [Act.eval];done)))|(with_reducible refine mu_ct hK ?_ ?_;(· first|(walk_nrm;done)|(simp [Act.eval];done)))|(refine mu_unwanted hK rfl rfl ?_;walk_nrm)|(refine muv_val hV rfl (by first|exact .inl rfl|exact .inr rfl) rfl (by kernel_rfl) (fun J hJ=>?_);go_simp;with_reducible refine hJ _ ?_;clear hJ J;walk_nrm))
 refine yek _ ?_
 clear hK hV key yek K
 try subst hkk
 refine hK0 _ VA ⟨by simp,rfl,rfl,rfl,rfl,rfl,rfl,rfl,trivial⟩ hnA kVA sVA eVA
theorem z_r5 (hn : norm V = V) (hn3 : n ≤ 1000) (hT : Fg 161 [(0,.slice la n lc),(1,.slice pa pl pc),(2,.int .i64 (Rn : Int)),(9,ov),(10,lv),(11,.int .i64 v),(12,.slice (some ⟨gd,0,none⟩) n dc)] T)
   (K : ∀ T' V',Fg 161 [(0,.slice la n lc),(1,.slice pa pl pc),(2,.int .i64 (Rn : Int)),(9,ov),(10,lv),(11,.int .i64 v),(12,.slice (some ⟨gd,0,none⟩) n dc),(13,.slice (some ⟨V.heap.size,0,none⟩) n n)] T' → norm V' = V' → Kp V V' → V'.heap.size = V.heap.size + 1 → V'.heap[V.heap.size]? = some (.cells (madeCells #[.bool false] n) 4 (0,0)) → To0 Try.prog Post Z V' (G ((base 31).at ⟨T',[]⟩ kt) cs0)) :
   To0 Try.prog Post Z V (G ((base 31).at ⟨T,[]⟩ (.code zr5 :: kt)) cs0):=by
 have hK0:=K
 clear K
 obtain ⟨hs,h0,h1,h2,h9,h10,h11,h12,-⟩:=hT
 obtain ⟨f,hf,hT⟩:=array161f T hs
 rw [hT]
 simp only [hf _ _ h0,hf _ _ h1,hf _ _ h2,hf _ _ h9,hf _ _ h10,hf _ _ h11,hf _ _ h12]
 clear hf hs h0 h1 h2 h9 h10 h11 h12
 subst hT
 generalize hX0 : zr5 = X0
 simp only [zr5,Z31,nva,nvb,Try.f31,Option.getD_some] at hX0
 subst hX0
 obtain ⟨K,hK,hV,key,yek⟩:=kKV (L:=Lone) (J:=fun g=>To0 Try.prog Post Z V g) mu_to0 (muv_to0 hn)
 refine key _ ?_
 repeat (first|(with_reducible first|refine mu_seq hK ?_|refine mu_skip hK ?_|(refine mu_region_end hK ?_;try subst hkk)|refine mu_block hK ?_|refine mu_inBlock hK ?_|refine mu_ret hK ?_|refine mu_end hK ?_)|refine mu_exit hK rfl ?_|(with_reducible refine mu_regionH hK (fun kk hkk=>?_);simp only [List.size_toArray,List.length_cons,List.length_nil,Nat.reduceAdd,Nat.zero_add,List.range,List.range.loop])|(with_reducible refine mu_cf hK ?_ ?_;(· first|(walk_nrm;done)|(simp [Act.eval];done)))|(with_reducible refine mu_ct hK ?_ ?_;(· first|(walk_nrm;done)|(simp [Act.eval];done)))|(refine mu_unwanted hK rfl rfl ?_;walk_nrm)|(refine muv_val hV rfl (by first|exact .inl rfl|exact .inr rfl) rfl (by kernel_rfl) (fun J hJ=>?_);go_simp;with_reducible refine hJ _ ?_;clear hJ J;walk_nrm))
 refine yek _ ?_
 clear hK hV key yek K
 have hnA : norm (V.alloc (.cells (madeCells #[.bool false] n) 4)) = (V.alloc (.cells (madeCells #[.bool false] n) 4)):=norm_al hn _
 refine mua_put (L:=Lone) (v:=.slice (some ⟨V.heap.size,0,none⟩) n n) (mua_to0 hnA) (K:=fun g=>To0 Try.prog Post Z V g) (K':=fun g=>To0 Try.prog Post Z (V.alloc (.cells (madeCells #[.bool false] n) 4)) g) rfl (.inl rfl) rfl (by kernel_rfl) (fun τ=>?_) ?_
 · have mk:=mkk (t:=26) (e:=4) (z:=.bool false) (B:=1) Try.underlying26 (by kernel_rfl) rfl (by decide) hn3 (re V τ 0)
   go_simp
   first | exact ⟨by first | rfl | assumption | (simp only [re]; omega),rfl⟩ | rfl | (simp; done)
 have eVA : (V.alloc (.cells (madeCells #[.bool false] n) 4)).heap[V.heap.size]? = some (.cells (madeCells #[.bool false] n) 4 (0,0)):=by rw [al_get,if_pos rfl]
 have sVA : (V.alloc (.cells (madeCells #[.bool false] n) 4)).heap.size = V.heap.size + 1:=by rw [al_size]
 have kVA : Kp V (V.alloc (.cells (madeCells #[.bool false] n) 4)):=⟨by rw [sVA]; omega,fun b hb=>by rw [al_get,if_neg (by omega)]⟩
 generalize (V.alloc (.cells (madeCells #[.bool false] n) 4)) = VA at *
 walk_nrm
 obtain ⟨K,hK,hV,key,yek⟩:=kKV (L:=Lone) (J:=fun g=>To0 Try.prog Post Z VA g) mu_to0 (muv_to0 hnA)
 refine key _ ?_
 repeat (first|(with_reducible first|refine mu_seq hK ?_|refine mu_skip hK ?_|(refine mu_region_end hK ?_;try subst hkk)|refine mu_block hK ?_|refine mu_inBlock hK ?_|refine mu_ret hK ?_|refine mu_end hK ?_)|refine mu_exit hK rfl ?_|(with_reducible refine mu_regionH hK (fun kk hkk=>?_);simp only [List.size_toArray,List.length_cons,List.length_nil,Nat.reduceAdd,Nat.zero_add,List.range,List.range.loop])|(with_reducible refine mu_cf hK ?_ ?_;(· first|(walk_nrm;done)|(simp [Act.eval];done)))|(with_reducible refine mu_ct hK ?_ ?_;(· first|(walk_nrm;done)|(simp [Act.eval];done)))|(refine mu_unwanted hK rfl rfl ?_;walk_nrm)|(refine muv_val hV rfl (by first|exact .inl rfl|exact .inr rfl) rfl (by kernel_rfl) (fun J hJ=>?_);go_simp;with_reducible refine hJ _ ?_;clear hJ J;walk_nrm))
 refine yek _ ?_
 clear hK hV key yek K
 try subst hkk
 refine hK0 _ VA ⟨by simp,rfl,rfl,rfl,rfl,rfl,rfl,rfl,rfl,trivial⟩ hnA kVA sVA eVA
theorem z_r6 (hn : norm V = V) {ps : List Int} (hpl : ps.length = pl) (hp : 0 < pl → ∃ g o,pa = some ⟨g,o,none⟩ ∧ ∀ j (hj : j < ps.length),V.cell? ⟨g,o + j,none⟩ = some (.int .i64 (ps[j]'hj))) (hb : pl < 900000000) (hT : Fg 161 [(0,.slice la n lc),(1,.slice pa pl pc),(2,.int .i64 (Rn : Int)),(9,ov),(10,lv),(11,.int .i64 v),(12,.slice (some ⟨gd,0,none⟩) n dc),(13,.slice (some ⟨gb,0,none⟩) n bc)] T)
   (K : ∀ T' V' va vc,Fg 161 [(0,.slice la n lc),(2,.int .i64 (Rn : Int)),(9,ov),(10,lv),(11,.int .i64 v),(12,.slice (some ⟨gd,0,none⟩) n dc),(13,.slice (some ⟨gb,0,none⟩) n bc),(14,.slice va pl vc)] T' → norm V' = V' → Kp V V' → V'.ownsRow 0 3 1 (.slice va pl vc) ps.length (ps.map (fun p=>Value.int .i64 p)) → (∀ b,(Value.slice va pl vc).ownBlock = some b → V.heap.size ≤ b) → To0 Try.prog Post Z V' (G ((base 31).at ⟨T',[]⟩ kt) cs0)) :
   To0 Try.prog Post Z V (G ((base 31).at ⟨T,[]⟩ (.code zr6 :: kt)) cs0):=by
 have hK0:=K
 clear K
 obtain ⟨hs,h0,h1,h2,h9,h10,h11,h12,h13,-⟩:=hT
 obtain ⟨f,hf,hT⟩:=array161f T hs
 rw [hT]
 simp only [hf _ _ h0,hf _ _ h1,hf _ _ h2,hf _ _ h9,hf _ _ h10,hf _ _ h11,hf _ _ h12,hf _ _ h13]
 clear hf hs h0 h1 h2 h9 h10 h11 h12 h13
 subst hT
 generalize hX0 : zr6 = X0
 simp only [zr6,Z31,nva,nvb,Try.f31,Option.getD_some] at hX0
 subst hX0
 obtain ⟨K,hK,hV,key,yek⟩:=kKV (L:=Lone) (J:=fun g=>To0 Try.prog Post Z V g) mu_to0 (muv_to0 hn)
 refine key _ ?_
 repeat (first|(with_reducible first|refine mu_seq hK ?_|refine mu_skip hK ?_|(refine mu_region_end hK ?_;try subst hkk)|refine mu_block hK ?_|refine mu_inBlock hK ?_|refine mu_ret hK ?_|refine mu_end hK ?_)|refine mu_exit hK rfl ?_|(with_reducible refine mu_regionH hK (fun kk hkk=>?_);simp only [List.size_toArray,List.length_cons,List.length_nil,Nat.reduceAdd,Nat.zero_add,List.range,List.range.loop])|(with_reducible refine mu_cf hK ?_ ?_;(· first|(walk_nrm;done)|(simp [Act.eval];done)))|(with_reducible refine mu_ct hK ?_ ?_;(· first|(walk_nrm;done)|(simp [Act.eval];done)))|(refine mu_unwanted hK rfl rfl ?_;walk_nrm)|(refine muv_val hV rfl (by first|exact .inl rfl|exact .inr rfl) rfl (by kernel_rfl) (fun J hJ=>?_);go_simp;with_reducible refine hJ _ ?_;clear hJ J;walk_nrm))
 refine yek _ ?_
 clear hK hV key yek K
 have hnA : norm (V.alloc (.cells #[] 3)) = (V.alloc (.cells #[] 3)):=norm_al hn _
 refine mua_put (L:=Lone) (v:=.slice (some ⟨V.heap.size,0,none⟩) 0 0) (mua_to0 hnA) (K:=fun g=>To0 Try.prog Post Z V g) (K':=fun g=>To0 Try.prog Post Z (V.alloc (.cells #[] 3)) g) rfl (.inl rfl) rfl (by kernel_rfl) (fun τ=>?_) ?_
 · go_simp
   first | exact ⟨by first | rfl | assumption | (simp only [re]; omega),rfl⟩ | rfl | (simp; done)
 have eVA : (V.alloc (.cells #[] 3)).heap[V.heap.size]? = some (.cells #[] 3 (0,0)):=by rw [al_get,if_pos rfl]
 have sVA : (V.alloc (.cells #[] 3)).heap.size = V.heap.size + 1:=by rw [al_size]
 have kVA : Kp V (V.alloc (.cells #[] 3)):=⟨by rw [sVA]; omega,fun b hb=>by rw [al_get,if_neg (by omega)]⟩
 generalize (V.alloc (.cells #[] 3)) = VA at *
 walk_nrm
 have rowA : VA.ownsRow 0 3 1 (.slice (some ⟨V.heap.size,0,none⟩) 0 0) 0 []:=⟨rfl,.inr ⟨V.heap.size,0,#[],rfl,Nat.zero_le _,eVA,Nat.le_refl _,Nat.zero_le _,rfl,rfl⟩⟩
 obtain ⟨K,hK,hV,key,yek⟩:=kKV (L:=Lone) (J:=fun g=>To0 Try.prog Post Z VA g) mu_to0 (muv_to0 hnA)
 refine key _ ?_
 repeat (first|(with_reducible first|refine mu_seq hK ?_|refine mu_skip hK ?_|(refine mu_region_end hK ?_;try subst hkk)|refine mu_block hK ?_|refine mu_inBlock hK ?_|refine mu_ret hK ?_|refine mu_end hK ?_)|refine mu_exit hK rfl ?_|(with_reducible refine mu_regionH hK (fun kk hkk=>?_);simp only [List.size_toArray,List.length_cons,List.length_nil,Nat.reduceAdd,Nat.zero_add,List.range,List.range.loop])|(with_reducible refine mu_cf hK ?_ ?_;(· first|(walk_nrm;done)|(simp [Act.eval];done)))|(with_reducible refine mu_ct hK ?_ ?_;(· first|(walk_nrm;done)|(simp [Act.eval];done)))|(refine mu_unwanted hK rfl rfl ?_;walk_nrm)|(refine muv_val hV rfl (by first|exact .inl rfl|exact .inr rfl) rfl (by kernel_rfl) (fun J hJ=>?_);go_simp;with_reducible refine hJ _ ?_;clear hJ J;walk_nrm))
 refine yek _ ?_
 clear hK hV key yek K
 refine to0_ex (L:=Lone) rfl rfl rfl (by kernel_rfl) (fun v W=>W.ownsRow 0 3 1 v (0 + pl) ([] ++ ps.map (fun p=>Value.int .i64 p)) ∧ Grw VA W (.slice (some ⟨V.heap.size,0,none⟩) 0 0) v) (fun τ=>?_) fun v2 V2 ⟨s1,s2,s3,s4⟩ hn2=>?_
 · obtain ⟨v',w',a1,a2,a3⟩:=app_from (V:=re VA τ 0) (t:=23) (e:=3) (z:=.int .i64 0) (B:=8) (A:=pa) (m:=pl) (c:=pc) (ys:=ps.map (fun p=>Value.int .i64 p)) Try.underlying23 (by kernel_rfl) rfl (by decide) (by decide) (sz:=1) (owns_re rowA) (by rw [List.length_map,Nat.mul_one]; exact hpl) (fun h0=>by
     obtain ⟨g,o,e,hc⟩:=hp h0
     refine ⟨g,o,e,fun j u hu=>?_⟩
     obtain ⟨hj,hu'⟩:=List.getElem?_eq_some_iff.1 hu
     have hj' : j < ps.length:=by simpa using hj
     have h2 : V.cell? ⟨g,o + j,none⟩ = some u:=by rw [hc j hj',← hu']; simp
     exact cell_keep (V:=V) h2 (kVA.keep g (cell_lt h2))) (fun y hy=>by obtain ⟨x,_,rfl⟩:=List.mem_map.1 hy; rfl) (by omega)
   exact ⟨v',w',run_app_opm rfl rfl rfl a1,a2,a3⟩
 obtain ⟨yb,yn,yc,rfl⟩:=slice_ofA s1
 rw [Nat.zero_add,List.nil_append] at s1
 obtain rfl : yn = pl:=by
   obtain ⟨_,h⟩:=s1
   rcases h with ⟨h,h0⟩ | ⟨g,cap,cur,h,_⟩
   · injection h with _ h _; omega
   · injection h with _ h _
 walk_nrm
 obtain ⟨K,hK,hV,key,yek⟩:=kKV (L:=Lone) (J:=fun g=>To0 Try.prog Post Z V2 g) mu_to0 (muv_to0 hn2)
 refine key _ ?_
 repeat (first|(with_reducible first|refine mu_seq hK ?_|refine mu_skip hK ?_|(refine mu_region_end hK ?_;try subst hkk)|refine mu_block hK ?_|refine mu_inBlock hK ?_|refine mu_ret hK ?_|refine mu_end hK ?_)|refine mu_exit hK rfl ?_|(with_reducible refine mu_regionH hK (fun kk hkk=>?_);simp only [List.size_toArray,List.length_cons,List.length_nil,Nat.reduceAdd,Nat.zero_add,List.range,List.range.loop])|(with_reducible refine mu_cf hK ?_ ?_;(· first|(walk_nrm;done)|(simp [Act.eval];done)))|(with_reducible refine mu_ct hK ?_ ?_;(· first|(walk_nrm;done)|(simp [Act.eval];done)))|(refine mu_unwanted hK rfl rfl ?_;walk_nrm)|(refine muv_val hV rfl (by first|exact .inl rfl|exact .inr rfl) rfl (by kernel_rfl) (fun J hJ=>?_);go_simp;with_reducible refine hJ _ ?_;clear hJ J;walk_nrm))
 refine yek _ ?_
 clear hK hV key yek K
 try subst hkk
 refine hK0 _ V2 yb yc ⟨by simp,rfl,rfl,rfl,rfl,rfl,rfl,rfl,rfl,trivial⟩ hn2 ⟨by have:=kVA.size; omega,fun b hb=>?_⟩ ?_ fun b hb=>?_
 · rw [s3 b (by omega) (fun e=>by have:=Option.some.inj (show some V.heap.size = some b from e); omega)]
   exact kVA.keep b hb
 · rw [hpl]; exact s1
 · rcases s4 with h | h
   · rw [h] at hb
     have:=Option.some.inj (show some V.heap.size = some b from hb)
     omega
   · rw [h] at hb
     have:=Option.some.inj hb
     omega
theorem z_r10 (hn : norm V = V) (h0n : 0 < n) (hn9 : n < 1000000) (hk : k < 1000000000) {r1 : Nat} (hr1 : k % n = r1) {xs : List Value} (hrow : V.ownsRow 0 3 1 (Value.slice va m vc) m xs) (hm : m < 900000000) (hT : Fg 161 [(0,.slice la n lc),(2,.int .i64 (Rn : Int)),(9,ov),(10,lv),(11,.int .i64 v),(12,.slice (some ⟨gd,0,none⟩) n dc),(13,.slice (some ⟨gb,0,none⟩) n bc),(14,Value.slice va m vc),(15,.int .i64 (k : Int))] T)
   (K : ∀ T' V' wa wc,Fg 161 [(0,.slice la n lc),(2,.int .i64 (Rn : Int)),(9,ov),(10,lv),(11,.int .i64 v),(12,.slice (some ⟨gd,0,none⟩) n dc),(13,.slice (some ⟨gb,0,none⟩) n bc),(14,.slice wa (m + 1) wc),(15,.int .i64 (k : Int))] T' → norm V' = V' → V'.ownsRow 0 3 1 (.slice wa (m + 1) wc) (m + 1) (xs ++ [.int .i64 (r1 : Int)]) → V.heap.size ≤ V'.heap.size → (∀ b,b < V.heap.size → (Value.slice va m vc).ownBlock ≠ some b → V'.heap[b]? = V.heap[b]?) → (∀ b,(Value.slice wa (m + 1) wc).ownBlock = some b → (Value.slice va m vc).ownBlock = some b ∨ V.heap.size ≤ b) → To0 Try.prog Post Z V' (G ((base 31).at ⟨T',[]⟩ kt) cs0)) :
   To0 Try.prog Post Z V (G ((base 31).at ⟨T,[]⟩ (.code zr10 :: kt)) cs0):=by
 have hK0:=K
 clear K
 have q3 : ((n : Int) == 0) = false:=by simp; omega
 have q4 : (n : Int) ≠ 0:=by omega
 have q5 : ¬ n = 0:=by omega
 have w0 : (k : Int).tmod (n : Int) = (r1 : Int):=by rw [Int.tmod_eq_emod_of_nonneg (by omega),← hr1]; simp
 have w1 : IntKind.i64.wrap (r1 : Int) = (r1 : Int):=by have:=Nat.mod_lt k h0n; rw [IntKind.wrap_i64]; omega
 clear hr1
 obtain ⟨hs,h0,h2,h9,h10,h11,h12,h13,h14,h15,-⟩:=hT
 obtain ⟨f,hf,hT⟩:=array161f T hs
 rw [hT]
 simp only [hf _ _ h0,hf _ _ h2,hf _ _ h9,hf _ _ h10,hf _ _ h11,hf _ _ h12,hf _ _ h13,hf _ _ h14,hf _ _ h15]
 clear hf hs h0 h2 h9 h10 h11 h12 h13 h14 h15
 subst hT
 generalize hX0 : zr10 = X0
 simp only [zr10,zLA,zx,Z31,nva,nvb,nvk,nvl,Try.f31,Option.getD_some] at hX0
 subst hX0
 obtain ⟨K,hK,hV,key,yek⟩:=kKV (L:=Lone) (J:=fun g=>To0 Try.prog Post Z V g) mu_to0 (muv_to0 hn)
 refine key _ ?_
 repeat (first|(with_reducible first|refine mu_seq hK ?_|refine mu_skip hK ?_|(refine mu_region_end hK ?_;try subst hkk)|refine mu_block hK ?_|refine mu_inBlock hK ?_|refine mu_ret hK ?_|refine mu_end hK ?_)|refine mu_exit hK rfl ?_|(with_reducible refine mu_regionH hK (fun kk hkk=>?_);simp only [List.size_toArray,List.length_cons,List.length_nil,Nat.reduceAdd,Nat.zero_add,List.range,List.range.loop])|(with_reducible refine mu_cf hK ?_ ?_;(· first|(walk_nrm;done)|(simp [Act.eval];done)))|(with_reducible refine mu_ct hK ?_ ?_;(· first|(walk_nrm;done)|(simp [Act.eval];done)))|(refine mu_unwanted hK rfl rfl ?_;walk_nrm)|(refine muv_val hV rfl (by first|exact .inl rfl|exact .inr rfl) rfl (by kernel_rfl) (fun J hJ=>?_);go_simp;with_reducible refine hJ _ ?_;clear hJ J;walk_nrm))
 refine yek _ ?_
 clear hK hV key yek K
 have hnA : norm (V.alloc (.cells #[.int .i64 (r1 : Int)] 3)) = (V.alloc (.cells #[.int .i64 (r1 : Int)] 3)):=norm_al hn _
 refine mua_put (L:=Lone) (v:=.slice (some ⟨V.heap.size,0,none⟩) 1 1) (mua_to0 hnA) (K:=fun g=>To0 Try.prog Post Z V g) (K':=fun g=>To0 Try.prog Post Z (V.alloc (.cells #[.int .i64 (r1 : Int)] 3)) g) rfl (.inl rfl) rfl (by kernel_rfl) (fun τ=>?_) ?_
 · go_simp
   first | exact ⟨by first | rfl | assumption | (simp only [re]; omega),rfl⟩ | rfl | (simp; done)
 have eVA : (V.alloc (.cells #[.int .i64 (r1 : Int)] 3)).heap[V.heap.size]? = some (.cells #[.int .i64 (r1 : Int)] 3 (0,0)):=by rw [al_get,if_pos rfl]
 have sVA : (V.alloc (.cells #[.int .i64 (r1 : Int)] 3)).heap.size = V.heap.size + 1:=by rw [al_size]
 have kVA : Kp V (V.alloc (.cells #[.int .i64 (r1 : Int)] 3)):=⟨by rw [sVA]; omega,fun b hb=>by rw [al_get,if_neg (by omega)]⟩
 generalize (V.alloc (.cells #[.int .i64 (r1 : Int)] 3)) = VA at *
 walk_nrm
 have rowA : VA.ownsRow 0 3 1 (Value.slice va m vc) m xs:=row_keep hrow fun b hb=>kVA.keep b (row_at hrow hb)
 have litA : VA.ownsRow 0 3 1 (.slice (some ⟨V.heap.size,0,none⟩) 1 1) 1 [.int .i64 (r1 : Int)]:=⟨rfl,.inr ⟨V.heap.size,1,#[.int .i64 (r1 : Int)],rfl,Nat.zero_le _,eVA,Nat.le_refl _,by simp [maxLen],rfl,rfl⟩⟩
 obtain ⟨K,hK,hV,key,yek⟩:=kKV (L:=Lone) (J:=fun g=>To0 Try.prog Post Z VA g) mu_to0 (muv_to0 hnA)
 refine key _ ?_
 repeat (first|(with_reducible first|refine mu_seq hK ?_|refine mu_skip hK ?_|(refine mu_region_end hK ?_;try subst hkk)|refine mu_block hK ?_|refine mu_inBlock hK ?_|refine mu_ret hK ?_|refine mu_end hK ?_)|refine mu_exit hK rfl ?_|(with_reducible refine mu_regionH hK (fun kk hkk=>?_);simp only [List.size_toArray,List.length_cons,List.length_nil,Nat.reduceAdd,Nat.zero_add,List.range,List.range.loop])|(with_reducible refine mu_cf hK ?_ ?_;(· first|(walk_nrm;done)|(simp [Act.eval];done)))|(with_reducible refine mu_ct hK ?_ ?_;(· first|(walk_nrm;done)|(simp [Act.eval];done)))|(refine mu_unwanted hK rfl rfl ?_;walk_nrm)|(refine muv_val hV rfl (by first|exact .inl rfl|exact .inr rfl) rfl (by kernel_rfl) (fun J hJ=>?_);go_simp;with_reducible refine hJ _ ?_;clear hJ J;walk_nrm))
 refine yek _ ?_
 clear hK hV key yek K
 refine to0_ex (L:=Lone) rfl rfl rfl (by kernel_rfl) (fun v W=>W.ownsRow 0 3 1 v (m + 1) (xs ++ [.int .i64 (r1 : Int)]) ∧ Grw VA W (Value.slice va m vc) v) (fun τ=>?_) fun v2 V2 ⟨s1,s2,s3,s4⟩ hn2=>?_
 · obtain ⟨v',w',a1,a2,a3⟩:=app_row (V:=re VA τ 0) (t:=23) (e:=3) (z:=.int .i64 0) (B:=8) Try.underlying23 (by kernel_rfl) rfl (by decide) (by decide) (owns_re rowA) (owns_re litA) (by simp [Value.oneCell']) (by omega)
   exact ⟨v',w',run_app_opm rfl rfl rfl a1,a2,a3⟩
 obtain ⟨yb,yn,yc,rfl⟩:=slice_ofA s1
 obtain rfl : yn = m + 1:=by
   obtain ⟨_,h⟩:=s1
   rcases h with ⟨h,h0⟩ | ⟨g,cap,cur,h,_⟩
   · injection h with _ h _; omega
   · injection h with _ h _
 walk_nrm
 obtain ⟨K,hK,hV,key,yek⟩:=kKV (L:=Lone) (J:=fun g=>To0 Try.prog Post Z V2 g) mu_to0 (muv_to0 hn2)
 refine key _ ?_
 repeat (first|(with_reducible first|refine mu_seq hK ?_|refine mu_skip hK ?_|(refine mu_region_end hK ?_;try subst hkk)|refine mu_block hK ?_|refine mu_inBlock hK ?_|refine mu_ret hK ?_|refine mu_end hK ?_)|refine mu_exit hK rfl ?_|(with_reducible refine mu_regionH hK (fun kk hkk=>?_);simp only [List.size_toArray,List.length_cons,List.length_nil,Nat.reduceAdd,Nat.zero_add,List.range,List.range.loop])|(with_reducible refine mu_cf hK ?_ ?_;(· first|(walk_nrm;done)|(simp [Act.eval];done)))|(with_reducible refine mu_ct hK ?_ ?_;(· first|(walk_nrm;done)|(simp [Act.eval];done)))|(refine mu_unwanted hK rfl rfl ?_;walk_nrm)|(refine muv_val hV rfl (by first|exact .inl rfl|exact .inr rfl) rfl (by kernel_rfl) (fun J hJ=>?_);go_simp;with_reducible refine hJ _ ?_;clear hJ J;walk_nrm))
 refine yek _ ?_
 clear hK hV key yek K
 try subst hkk
 refine hK0 _ V2 yb yc ⟨by simp,rfl,rfl,rfl,rfl,rfl,rfl,rfl,rfl,rfl,trivial⟩ hn2 s1 (by have:=kVA.size; omega) (fun b hb hno=>?_) fun b hb=>?_
 · rw [s3 b (by omega) hno]
   exact kVA.keep b hb
 · rcases s4 with h | h
   · exact .inl (h ▸ hb)
   · rw [h] at hb
     have:=Option.some.inj hb
     right; omega
theorem z_r18 {m2 vc2 : Nat} {va2 : Option Addr} (hn : norm V = V) {xs : List Value} (hrow : V.ownsRow 0 3 1 (Value.slice va2 m2 vc2) m2 xs) (hm : m2 < 900000000) (hT : Fg 161 [(0,.slice la n lc),(9,Value.slice va2 m2 vc2),(10,lv),(11,.int .i64 v),(12,.slice (some ⟨gd,0,none⟩) n dc),(13,.slice (some ⟨gb,0,none⟩) n bc),(14,.slice va m vc),(16,.int .i64 (k : Int)),(17,.int .i64 (i : Int))] T)
   (K : ∀ T' V' wa wc,Fg 161 [(0,.slice la n lc),(9,.slice wa (m2 + 1) wc),(10,lv),(11,.int .i64 v),(12,.slice (some ⟨gd,0,none⟩) n dc),(13,.slice (some ⟨gb,0,none⟩) n bc),(14,.slice va m vc),(16,.int .i64 (k : Int)),(17,.int .i64 (i : Int))] T' → norm V' = V' → V'.ownsRow 0 3 1 (.slice wa (m2 + 1) wc) (m2 + 1) (xs ++ [.int .i64 (i : Int)]) → V.heap.size ≤ V'.heap.size → (∀ b,b < V.heap.size → (Value.slice va2 m2 vc2).ownBlock ≠ some b → V'.heap[b]? = V.heap[b]?) → (∀ b,(Value.slice wa (m2 + 1) wc).ownBlock = some b → (Value.slice va2 m2 vc2).ownBlock = some b ∨ V.heap.size ≤ b) → To0 Try.prog Post Z V' (G ((base 31).at ⟨T',[]⟩ kt) cs0)) :
   To0 Try.prog Post Z V (G ((base 31).at ⟨T,[]⟩ (.code zr18 :: kt)) cs0):=by
 have hK0:=K
 clear K
 obtain ⟨hs,h0,h9,h10,h11,h12,h13,h14,h16,h17,-⟩:=hT
 obtain ⟨f,hf,hT⟩:=array161f T hs
 rw [hT]
 simp only [hf _ _ h0,hf _ _ h9,hf _ _ h10,hf _ _ h11,hf _ _ h12,hf _ _ h13,hf _ _ h14,hf _ _ h16,hf _ _ h17]
 clear hf hs h0 h9 h10 h11 h12 h13 h14 h16 h17
 subst hT
 generalize hX0 : zr18 = X0
 simp only [zr18,zb17,zb14,zLB,zy,zx,Z31,nva,nvb,nvk,nvl,Try.f31,Option.getD_some] at hX0
 subst hX0
 obtain ⟨K,hK,hV,key,yek⟩:=kKV (L:=Lone) (J:=fun g=>To0 Try.prog Post Z V g) mu_to0 (muv_to0 hn)
 refine key _ ?_
 repeat (first|(with_reducible first|refine mu_seq hK ?_|refine mu_skip hK ?_|(refine mu_region_end hK ?_;try subst hkk)|refine mu_block hK ?_|refine mu_inBlock hK ?_|refine mu_ret hK ?_|refine mu_end hK ?_)|refine mu_exit hK rfl ?_|(with_reducible refine mu_regionH hK (fun kk hkk=>?_);simp only [List.size_toArray,List.length_cons,List.length_nil,Nat.reduceAdd,Nat.zero_add,List.range,List.range.loop])|(with_reducible refine mu_cf hK ?_ ?_;(· first|(walk_nrm;done)|(simp [Act.eval];done)))|(with_reducible refine mu_ct hK ?_ ?_;(· first|(walk_nrm;done)|(simp [Act.eval];done)))|(refine mu_unwanted hK rfl rfl ?_;walk_nrm)|(refine muv_val hV rfl (by first|exact .inl rfl|exact .inr rfl) rfl (by kernel_rfl) (fun J hJ=>?_);go_simp;with_reducible refine hJ _ ?_;clear hJ J;walk_nrm))
 refine yek _ ?_
 clear hK hV key yek K
 have hnA : norm (V.alloc (.cells #[.int .i64 (i : Int)] 3)) = (V.alloc (.cells #[.int .i64 (i : Int)] 3)):=norm_al hn _
 refine mua_put (L:=Lone) (v:=.slice (some ⟨V.heap.size,0,none⟩) 1 1) (mua_to0 hnA) (K:=fun g=>To0 Try.prog Post Z V g) (K':=fun g=>To0 Try.prog Post Z (V.alloc (.cells #[.int .i64 (i : Int)] 3)) g) rfl (.inl rfl) rfl (by kernel_rfl) (fun τ=>?_) ?_
 · go_simp
   first | exact ⟨by first | rfl | assumption | (simp only [re]; omega),rfl⟩ | rfl | (simp; done)
 have eVA : (V.alloc (.cells #[.int .i64 (i : Int)] 3)).heap[V.heap.size]? = some (.cells #[.int .i64 (i : Int)] 3 (0,0)):=by rw [al_get,if_pos rfl]
 have sVA : (V.alloc (.cells #[.int .i64 (i : Int)] 3)).heap.size = V.heap.size + 1:=by rw [al_size]
 have kVA : Kp V (V.alloc (.cells #[.int .i64 (i : Int)] 3)):=⟨by rw [sVA]; omega,fun b hb=>by rw [al_get,if_neg (by omega)]⟩
 generalize (V.alloc (.cells #[.int .i64 (i : Int)] 3)) = VA at *
 walk_nrm
 have rowA : VA.ownsRow 0 3 1 (Value.slice va2 m2 vc2) m2 xs:=row_keep hrow fun b hb=>kVA.keep b (row_at hrow hb)
 have litA : VA.ownsRow 0 3 1 (.slice (some ⟨V.heap.size,0,none⟩) 1 1) 1 [.int .i64 (i : Int)]:=⟨rfl,.inr ⟨V.heap.size,1,#[.int .i64 (i : Int)],rfl,Nat.zero_le _,eVA,Nat.le_refl _,by simp [maxLen],rfl,rfl⟩⟩
 obtain ⟨K,hK,hV,key,yek⟩:=kKV (L:=Lone) (J:=fun g=>To0 Try.prog Post Z VA g) mu_to0 (muv_to0 hnA)
 refine key _ ?_
 repeat (first|(with_reducible first|refine mu_seq hK ?_|refine mu_skip hK ?_|(refine mu_region_end hK ?_;try subst hkk)|refine mu_block hK ?_|refine mu_inBlock hK ?_|refine mu_ret hK ?_|refine mu_end hK ?_)|refine mu_exit hK rfl ?_|(with_reducible refine mu_regionH hK (fun kk hkk=>?_);simp only [List.size_toArray,List.length_cons,List.length_nil,Nat.reduceAdd,Nat.zero_add,List.range,List.range.loop])|(with_reducible refine mu_cf hK ?_ ?_;(· first|(walk_nrm;done)|(simp [Act.eval];done)))|(with_reducible refine mu_ct hK ?_ ?_;(· first|(walk_nrm;done)|(simp [Act.eval];done)))|(refine mu_unwanted hK rfl rfl ?_;walk_nrm)|(refine muv_val hV rfl (by first|exact .inl rfl|exact .inr rfl) rfl (by kernel_rfl) (fun J hJ=>?_);go_simp;with_reducible refine hJ _ ?_;clear hJ J;walk_nrm))
 refine yek _ ?_
 clear hK hV key yek K
 refine to0_ex (L:=Lone) rfl rfl rfl (by kernel_rfl) (fun v W=>W.ownsRow 0 3 1 v (m2 + 1) (xs ++ [.int .i64 (i : Int)]) ∧ Grw VA W (Value.slice va2 m2 vc2) v) (fun τ=>?_) fun v2 V2 ⟨s1,s2,s3,s4⟩ hn2=>?_
 · obtain ⟨v',w',a1,a2,a3⟩:=app_row (V:=re VA τ 0) (t:=23) (e:=3) (z:=.int .i64 0) (B:=8) Try.underlying23 (by kernel_rfl) rfl (by decide) (by decide) (owns_re rowA) (owns_re litA) (by simp [Value.oneCell']) (by omega)
   exact ⟨v',w',run_app_opm rfl rfl rfl a1,a2,a3⟩
 obtain ⟨yb,yn,yc,rfl⟩:=slice_ofA s1
 obtain rfl : yn = m2 + 1:=by
   obtain ⟨_,h⟩:=s1
   rcases h with ⟨h,h0⟩ | ⟨g,cap,cur,h,_⟩
   · injection h with _ h _; omega
   · injection h with _ h _
 walk_nrm
 obtain ⟨K,hK,hV,key,yek⟩:=kKV (L:=Lone) (J:=fun g=>To0 Try.prog Post Z V2 g) mu_to0 (muv_to0 hn2)
 refine key _ ?_
 repeat (first|(with_reducible first|refine mu_seq hK ?_|refine mu_skip hK ?_|(refine mu_region_end hK ?_;try subst hkk)|refine mu_block hK ?_|refine mu_inBlock hK ?_|refine mu_ret hK ?_|refine mu_end hK ?_)|refine mu_exit hK rfl ?_|(with_reducible refine mu_regionH hK (fun kk hkk=>?_);simp only [List.size_toArray,List.length_cons,List.length_nil,Nat.reduceAdd,Nat.zero_add,List.range,List.range.loop])|(with_reducible refine mu_cf hK ?_ ?_;(· first|(walk_nrm;done)|(simp [Act.eval];done)))|(with_reducible refine mu_ct hK ?_ ?_;(· first|(walk_nrm;done)|(simp [Act.eval];done)))|(refine mu_unwanted hK rfl rfl ?_;walk_nrm)|(refine muv_val hV rfl (by first|exact .inl rfl|exact .inr rfl) rfl (by kernel_rfl) (fun J hJ=>?_);go_simp;with_reducible refine hJ _ ?_;clear hJ J;walk_nrm))
 refine yek _ ?_
 clear hK hV key yek K
 try subst hkk
 refine hK0 _ V2 yb yc ⟨by simp,rfl,rfl,rfl,rfl,rfl,rfl,rfl,rfl,rfl,trivial⟩ hn2 s1 (by have:=kVA.size; omega) (fun b hb hno=>?_) fun b hb=>?_
 · rw [s3 b (by omega) hno]
   exact kVA.keep b hb
 · rcases s4 with h | h
   · exact .inl (h ▸ hb)
   · rw [h] at hb
     have:=Option.some.inj hb
     right; omega
end
end Go.Proofs.Ytibcdikfbhmheaa
