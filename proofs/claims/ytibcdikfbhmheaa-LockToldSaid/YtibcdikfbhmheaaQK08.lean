import Derived.Test.YtibcdikfbhmheaaQK07
import Derived.Test.YtibcdikfbhmheaaB25
import Derived.Test.YtibcdikfbhmheaaQK05
import Derived.Test.YtibcdikfbhmheaaQK01
set_option linter.unusedSimpArgs false
set_option linter.unusedVariables false
set_option maxRecDepth 100000
set_option maxHeartbeats 4000000
namespace Go.Proofs.Ytibcdikfbhmheaa
open Go Go.Conc Go.Proofs
open Go.ConcN (sumTo upd sumTo_upd upd_ne upd_same)
set_option linter.unusedVariables false
theorem arrg_QK08 {n : Nat} (T : Array Value) (h : T.size = n) : ∃ f : Nat → Value,(∀ i v,T[i]? = some v → f i = v) ∧ T = ((List.range n).map f).toArray:=by
 refine ⟨fun i=>T.getD i undef,fun i v hv=>by simp [Array.getD_eq_getD_getElem?,hv],?_⟩
 generalize hf : (fun i=>T.getD i undef) = f
 have e : T.toList = (List.range n).map f:=by
   apply List.ext_getElem?
   intro i
   rw [List.getElem?_map,Array.getElem?_toList]
   by_cases hi : i < n
   · rw [List.getElem?_range hi,Option.map_some,← hf]
     simp [Array.getD_eq_getD_getElem?,Array.getElem?_eq_getElem (show i < T.size by omega)]
   · rw [List.getElem?_eq_none (by simp; omega),Array.getElem?_eq_none (by omega)]
     rfl
 rw [← Array.toArray_toList (xs:=T),e]
theorem array53f (T : Array Value) (h : T.size = 53) : ∃ f : Nat → Value,(∀ i v,T[i]? = some v → f i = v) ∧ T = #[f 0,f 1,f 2,f 3,f 4,f 5,f 6,f 7,f 8,f 9,f 10,f 11,f 12,f 13,f 14,f 15,f 16,f 17,f 18,f 19,f 20,f 21,f 22,f 23,f 24,f 25,f 26,f 27,f 28,f 29,f 30,f 31,f 32,f 33,f 34,f 35,f 36,f 37,f 38,f 39,f 40,f 41,f 42,f 43,f 44,f 45,f 46,f 47,f 48,f 49,f 50,f 51,f 52]:=arrg_QK08 T h
noncomputable def mB : Code:=Try.f11.body.getD .skip
noncomputable def m0 : Code:=nva mB
noncomputable def mX1 : Code:=nvb mB
noncomputable def m1 : Code:=nva (nva mX1)
noncomputable def mw2 : Code:=nvc (nvb (nva mX1))
noncomputable def mX3 : Code:=nvb mX1
noncomputable def m3 : Code:=nva mX3
noncomputable def mX4 : Code:=nvb mX3
noncomputable def m4 : Code:=nva mX4
noncomputable def mX5 : Code:=nvb mX4
noncomputable def m5 : Code:=nva mX5
noncomputable def mX6 : Code:=nvb mX5
noncomputable def m6 : Code:=nva mX6
noncomputable def mX7 : Code:=nvb mX6
noncomputable def m7 : Code:=nva mX7
noncomputable def mX8 : Code:=nvb mX7
noncomputable def m8 : Code:=nva mX8
noncomputable def mX9 : Code:=nvb mX8
noncomputable def m9 : Code:=nva mX9
noncomputable def mX10 : Code:=nvb mX9
noncomputable def m10 : Code:=nva (nva mX10)
noncomputable def mL : Code:=nvl (nvk (nvb (nva mX10)))
noncomputable def mX14 : Code:=nvb mX10
noncomputable def m14 : Code:=nva mX14
noncomputable def mX15 : Code:=nvb mX14
noncomputable def m11 : Code:=nva (nva mL)
noncomputable def m13 : Code:=nvk (nva (nvb mL))
noncomputable def m12 : Code:=nvb (nvb mL)
noncomputable def mo14 : Array Oper:=rops m14
theorem mB_eq : mB = .seq m0 (.seq (.seq m1 (.cond (.tmp 18) mw2 .skip)) (.seq m3 (.seq m4 (.seq m5 (.seq m6 (.seq m7 (.seq m8 (.seq m9 (.seq (.seq m10 (.block 0 (.loop mL))) (.seq m14 mX15)))))))))):=by kernel_rfl
theorem mL_eq : mL = .seq (.seq m11 (.cond (.tmp 29) .skip (.exit 0))) (.seq (.block 1 m13) m12):=by kernel_rfl
section
variable {W V : World} {Z : Cuts} {a u n pl pc lb mb cb sb hb k fc i : Nat} {pa fa : Option Addr} {T : Array Value} {kt : List Item} {cs0 : List Frame}
theorem x_r0 (hn : norm V = V) (hT : Fg 53 [(0,.int .u8 (a : Int)),(1,.int .u8 (u : Int)),(2,.slice pa pl pc)] T)
   (K : ∀ T' V',Fg 53 [(0,.int .u8 (a : Int)),(2,.slice pa pl pc),(4,.pointer (some ⟨V.heap.size,0,none⟩)),(6,.bool false)] T' → norm V' = V' → Kp V V' → V'.heap.size = V.heap.size + 1 → V'.heap[V.heap.size]? = some (.cells #[.int .u8 (u : Int)] 5 (0,0)) → To0 Try.prog (LPost W) Z V' (G ((base 11).at ⟨T',[]⟩ kt) cs0)) :
   To0 Try.prog (LPost W) Z V (G ((base 11).at ⟨T,[]⟩ (.code m0 :: kt)) cs0):=by
 have hK0:=K
 clear K
 obtain ⟨hs,h0,h1,h2,-⟩:=hT
 obtain ⟨f,hf,hT⟩:=array53f T hs
 rw [hT]
 simp only [hf _ _ h0,hf _ _ h1,hf _ _ h2]
 clear hf hs h0 h1 h2
 subst hT
 generalize hX0 : m0 = X0
 simp only [m0,mB,nva,Try.f11,Option.getD_some] at hX0
 subst hX0
 obtain ⟨K,hK,hV,key,yek⟩:=kKV (L:=Lone) (J:=fun g=>To0 Try.prog (LPost W) Z V g) mu_to0 (muv_to0 hn)
 refine key _ ?_
 repeat (first|(with_reducible first|refine mu_seq hK ?_|refine mu_skip hK ?_|(refine mu_region_end hK ?_;try subst hkk)|refine mu_block hK ?_|refine mu_inBlock hK ?_|refine mu_ret hK ?_|refine mu_end hK ?_)|refine mu_exit hK rfl ?_|(with_reducible refine mu_regionH hK (fun kk hkk=>?_);simp only [List.size_toArray,List.length_cons,List.length_nil,Nat.reduceAdd,Nat.zero_add,List.range,List.range.loop])|(with_reducible refine mu_cf hK ?_ ?_;(· first|(walk_nrm;done)|(simp [Act.eval];done)))|(with_reducible refine mu_ct hK ?_ ?_;(· first|(walk_nrm;done)|(simp [Act.eval];done)))|(refine mu_unwanted hK rfl rfl ?_;walk_nrm)|(refine muv_val hV rfl (by first|exact .inl rfl|exact .inr rfl) rfl (by kernel_rfl) (fun J hJ=>?_);go_simp;with_reducible refine hJ _ ?_;clear hJ J;walk_nrm))
 refine yek _ ?_
 clear hK hV key yek K
 have hnA : norm (V.alloc (.cells #[.int .u8 (u : Int)] 5)) = (V.alloc (.cells #[.int .u8 (u : Int)] 5)):=norm_al hn _
 refine mua_put (L:=Lone) (v:=.pointer (some ⟨V.heap.size,0,none⟩)) (mua_to0 hnA) (K:=fun g=>To0 Try.prog (LPost W) Z V g) (K':=fun g=>To0 Try.prog (LPost W) Z (V.alloc (.cells #[.int .u8 (u : Int)] 5)) g) rfl (.inl rfl) rfl (by kernel_rfl) (fun τ=>?_) ?_
 · go_simp
   first | exact ⟨by first | rfl | assumption | (simp only [re]; omega),rfl⟩ | rfl | (simp; done)
 have eVA : (V.alloc (.cells #[.int .u8 (u : Int)] 5)).heap[V.heap.size]? = some (.cells #[.int .u8 (u : Int)] 5 (0,0)):=by rw [al_get,if_pos rfl]
 have sVA : (V.alloc (.cells #[.int .u8 (u : Int)] 5)).heap.size = V.heap.size + 1:=by rw [al_size]
 have kVA : Kp V (V.alloc (.cells #[.int .u8 (u : Int)] 5)):=⟨by rw [sVA]; omega,fun b hb=>by rw [al_get,if_neg (by omega)]⟩
 generalize (V.alloc (.cells #[.int .u8 (u : Int)] 5)) = VA at *
 walk_nrm
 obtain ⟨K,hK,hV,key,yek⟩:=kKV (L:=Lone) (J:=fun g=>To0 Try.prog (LPost W) Z VA g) mu_to0 (muv_to0 hnA)
 refine key _ ?_
 repeat (first|(with_reducible first|refine mu_seq hK ?_|refine mu_skip hK ?_|(refine mu_region_end hK ?_;try subst hkk)|refine mu_block hK ?_|refine mu_inBlock hK ?_|refine mu_ret hK ?_|refine mu_end hK ?_)|refine mu_exit hK rfl ?_|(with_reducible refine mu_regionH hK (fun kk hkk=>?_);simp only [List.size_toArray,List.length_cons,List.length_nil,Nat.reduceAdd,Nat.zero_add,List.range,List.range.loop])|(with_reducible refine mu_cf hK ?_ ?_;(· first|(walk_nrm;done)|(simp [Act.eval];done)))|(with_reducible refine mu_ct hK ?_ ?_;(· first|(walk_nrm;done)|(simp [Act.eval];done)))|(refine mu_unwanted hK rfl rfl ?_;walk_nrm)|(refine muv_val hV rfl (by first|exact .inl rfl|exact .inr rfl) rfl (by kernel_rfl) (fun J hJ=>?_);go_simp;with_reducible refine hJ _ ?_;clear hJ J;walk_nrm))
 refine yek _ ?_
 clear hK hV key yek K
 try subst hkk
 exact hK0 _ VA ⟨by simp,rfl,rfl,rfl,rfl,trivial⟩ hnA kVA sVA eVA
theorem x_r1 (hn : norm V = V) {x : Bool} (hx : decide ((200 : Int) < (pl : Int)) = x) (hT : Fg 53 [(0,.int .u8 (a : Int)),(2,.slice pa pl pc),(4,.pointer (some ⟨lb,0,none⟩)),(6,.bool false)] T)
   (K : ∀ T',Fg 53 [(0,.int .u8 (a : Int)),(2,.slice pa pl pc),(4,.pointer (some ⟨lb,0,none⟩)),(6,.bool false)] T' → T'[18]? = some (.bool x) → To0 Try.prog (LPost W) Z V (G ((base 11).at ⟨T',[]⟩ kt) cs0)) :
   To0 Try.prog (LPost W) Z V (G ((base 11).at ⟨T,[]⟩ (.code m1 :: kt)) cs0):=by
 refine reg_gb ⟨_,Try.func11⟩ (by kernel_rfl) K fun τ=>?_
 clear K
 obtain ⟨hs,h0,h2,h4,h6,-⟩:=hT
 obtain ⟨f,hf,hT⟩:=array53f T hs
 rw [hT]
 simp only [hf _ _ h0,hf _ _ h2,hf _ _ h4,hf _ _ h6]
 clear hf hs h0 h2 h4 h6
 subst hT
 simp only [m1,mX1,mB,nva,nvb,Try.f11,Option.getD_some]
 cases x <;> go_wp2_with fail
 all_goals (first | exact ⟨hn,⟨by simp,rfl,rfl,rfl,rfl,trivial⟩⟩ | exact ⟨hn,⟨by simp,rfl,rfl,rfl,rfl,trivial⟩,rfl⟩ | (exfalso; simp at hx; omega) | (exfalso; simp at hx hy; omega) | (refine ⟨hn,⟨by simp,rfl,rfl,rfl,rfl,trivial⟩,?_⟩; simp at hx ⊢; omega) | (refine ⟨hn,⟨by simp,rfl,rfl,rfl,rfl,trivial⟩,?_⟩; simp at hx hy ⊢; omega))
theorem x_r3 (hn : norm V = V) (ha : a < 256) (hr : a % 9 = n) (hT : Fg 53 [(0,.int .u8 (a : Int)),(2,.slice pa pl pc),(4,.pointer (some ⟨lb,0,none⟩)),(6,.bool false)] T)
   (K : ∀ T',Fg 53 [(2,.slice pa pl pc),(4,.pointer (some ⟨lb,0,none⟩)),(7,.int .i64 (n : Int))] T' → To0 Try.prog (LPost W) Z V (G ((base 11).at ⟨T',[]⟩ kt) cs0)) :
   To0 Try.prog (LPost W) Z V (G ((base 11).at ⟨T,[]⟩ (.code m3 :: kt)) cs0):=by
 refine reg_go ⟨_,Try.func11⟩ (by kernel_rfl) K fun τ=>?_
 clear K
 have w1 : IntKind.i64.wrap (a : Int) = (a : Int):=by rw [IntKind.wrap_i64]; omega
 have w0 : (a : Int).tmod 9 = (n : Int):=by rw [Int.tmod_eq_emod_of_nonneg (by omega),← hr]; simp
 have w2 : IntKind.i64.wrap (n : Int) = (n : Int):=by rw [IntKind.wrap_i64]; omega
 clear hr
 obtain ⟨hs,h0,h2,h4,h6,-⟩:=hT
 obtain ⟨f,hf,hT⟩:=array53f T hs
 rw [hT]
 simp only [hf _ _ h0,hf _ _ h2,hf _ _ h4,hf _ _ h6]
 clear hf hs h0 h2 h4 h6
 subst hT
 simp only [m3,mX3,mX1,mB,nva,nvb,Try.f11,Option.getD_some]
 go_wp2_with fail
 exact ⟨hn,⟨by simp,rfl,rfl,rfl,trivial⟩⟩
theorem x_r4 (hn : norm V = V) (hT : Fg 53 [(2,.slice pa pl pc),(4,.pointer (some ⟨lb,0,none⟩)),(7,.int .i64 (n : Int))] T)
   (K : ∀ T' V',Fg 53 [(2,.slice pa pl pc),(4,.pointer (some ⟨lb,0,none⟩)),(7,.int .i64 (n : Int)),(8,.pointer (some ⟨V.heap.size,0,none⟩))] T' → norm V' = V' → Kp V V' → V'.heap.size = V.heap.size + 1 → V'.heap[V.heap.size]? = some (.cells #[.slice none 0 0,.int .i64 0] 95 (0,0)) → To0 Try.prog (LPost W) Z V' (G ((base 11).at ⟨T',[]⟩ kt) cs0)) :
   To0 Try.prog (LPost W) Z V (G ((base 11).at ⟨T,[]⟩ (.code m4 :: kt)) cs0):=by
 have hK0:=K
 clear K
 obtain ⟨hs,h2,h4,h7,-⟩:=hT
 obtain ⟨f,hf,hT⟩:=array53f T hs
 rw [hT]
 simp only [hf _ _ h2,hf _ _ h4,hf _ _ h7]
 clear hf hs h2 h4 h7
 subst hT
 generalize hX0 : m4 = X0
 simp only [m4,mX4,mX3,mX1,mB,nva,nvb,Try.f11,Option.getD_some] at hX0
 subst hX0
 obtain ⟨K,hK,hV,key,yek⟩:=kKV (L:=Lone) (J:=fun g=>To0 Try.prog (LPost W) Z V g) mu_to0 (muv_to0 hn)
 refine key _ ?_
 repeat (first|(with_reducible first|refine mu_seq hK ?_|refine mu_skip hK ?_|(refine mu_region_end hK ?_;try subst hkk)|refine mu_block hK ?_|refine mu_inBlock hK ?_|refine mu_ret hK ?_|refine mu_end hK ?_)|refine mu_exit hK rfl ?_|(with_reducible refine mu_regionH hK (fun kk hkk=>?_);simp only [List.size_toArray,List.length_cons,List.length_nil,Nat.reduceAdd,Nat.zero_add,List.range,List.range.loop])|(with_reducible refine mu_cf hK ?_ ?_;(· first|(walk_nrm;done)|(simp [Act.eval];done)))|(with_reducible refine mu_ct hK ?_ ?_;(· first|(walk_nrm;done)|(simp [Act.eval];done)))|(refine mu_unwanted hK rfl rfl ?_;walk_nrm)|(refine muv_val hV rfl (by first|exact .inl rfl|exact .inr rfl) rfl (by kernel_rfl) (fun J hJ=>?_);go_simp;with_reducible refine hJ _ ?_;clear hJ J;walk_nrm))
 refine yek _ ?_
 clear hK hV key yek K
 have hnA : norm (V.alloc (.cells #[.slice none 0 0,.int .i64 0] 95)) = (V.alloc (.cells #[.slice none 0 0,.int .i64 0] 95)):=norm_al hn _
 refine mua_put (L:=Lone) (v:=.pointer (some ⟨V.heap.size,0,none⟩)) (mua_to0 hnA) (K:=fun g=>To0 Try.prog (LPost W) Z V g) (K':=fun g=>To0 Try.prog (LPost W) Z (V.alloc (.cells #[.slice none 0 0,.int .i64 0] 95)) g) rfl (.inl rfl) rfl (by kernel_rfl) (fun τ=>?_) ?_
 · go_simp
   first | exact ⟨by first | rfl | assumption | (simp only [re]; omega),rfl⟩ | rfl | (simp; done)
 have eVA : (V.alloc (.cells #[.slice none 0 0,.int .i64 0] 95)).heap[V.heap.size]? = some (.cells #[.slice none 0 0,.int .i64 0] 95 (0,0)):=by rw [al_get,if_pos rfl]
 have sVA : (V.alloc (.cells #[.slice none 0 0,.int .i64 0] 95)).heap.size = V.heap.size + 1:=by rw [al_size]
 have kVA : Kp V (V.alloc (.cells #[.slice none 0 0,.int .i64 0] 95)):=⟨by rw [sVA]; omega,fun b hb=>by rw [al_get,if_neg (by omega)]⟩
 generalize (V.alloc (.cells #[.slice none 0 0,.int .i64 0] 95)) = VA at *
 walk_nrm
 obtain ⟨K,hK,hV,key,yek⟩:=kKV (L:=Lone) (J:=fun g=>To0 Try.prog (LPost W) Z VA g) mu_to0 (muv_to0 hnA)
 refine key _ ?_
 repeat (first|(with_reducible first|refine mu_seq hK ?_|refine mu_skip hK ?_|(refine mu_region_end hK ?_;try subst hkk)|refine mu_block hK ?_|refine mu_inBlock hK ?_|refine mu_ret hK ?_|refine mu_end hK ?_)|refine mu_exit hK rfl ?_|(with_reducible refine mu_regionH hK (fun kk hkk=>?_);simp only [List.size_toArray,List.length_cons,List.length_nil,Nat.reduceAdd,Nat.zero_add,List.range,List.range.loop])|(with_reducible refine mu_cf hK ?_ ?_;(· first|(walk_nrm;done)|(simp [Act.eval];done)))|(with_reducible refine mu_ct hK ?_ ?_;(· first|(walk_nrm;done)|(simp [Act.eval];done)))|(refine mu_unwanted hK rfl rfl ?_;walk_nrm)|(refine muv_val hV rfl (by first|exact .inl rfl|exact .inr rfl) rfl (by kernel_rfl) (fun J hJ=>?_);go_simp;with_reducible refine hJ _ ?_;clear hJ J;walk_nrm))
 refine yek _ ?_
 clear hK hV key yek K
 try subst hkk
 exact hK0 _ VA ⟨by simp,rfl,rfl,rfl,rfl,trivial⟩ hnA kVA sVA eVA
theorem x_r5 (hn : norm V = V) (hT : Fg 53 [(2,.slice pa pl pc),(4,.pointer (some ⟨lb,0,none⟩)),(7,.int .i64 (n : Int)),(8,.pointer (some ⟨mb,0,none⟩))] T)
   (K : ∀ T' V',Fg 53 [(2,.slice pa pl pc),(4,.pointer (some ⟨lb,0,none⟩)),(7,.int .i64 (n : Int)),(8,.pointer (some ⟨mb,0,none⟩)),(9,.pointer (some ⟨V.heap.size,0,none⟩))] T' → norm V' = V' → Kp V V' → V'.heap.size = V.heap.size + 1 → V'.heap[V.heap.size]? = some (.cells #[.slice none 0 0] 102 (0,0)) → To0 Try.prog (LPost W) Z V' (G ((base 11).at ⟨T',[]⟩ kt) cs0)) :
   To0 Try.prog (LPost W) Z V (G ((base 11).at ⟨T,[]⟩ (.code m5 :: kt)) cs0):=by
 have hK0:=K
 clear K
 obtain ⟨hs,h2,h4,h7,h8,-⟩:=hT
 obtain ⟨f,hf,hT⟩:=array53f T hs
 rw [hT]
 simp only [hf _ _ h2,hf _ _ h4,hf _ _ h7,hf _ _ h8]
 clear hf hs h2 h4 h7 h8
 subst hT
 generalize hX0 : m5 = X0
 simp only [m5,mX5,mX4,mX3,mX1,mB,nva,nvb,Try.f11,Option.getD_some] at hX0
 subst hX0
 obtain ⟨K,hK,hV,key,yek⟩:=kKV (L:=Lone) (J:=fun g=>To0 Try.prog (LPost W) Z V g) mu_to0 (muv_to0 hn)
 refine key _ ?_
 repeat (first|(with_reducible first|refine mu_seq hK ?_|refine mu_skip hK ?_|(refine mu_region_end hK ?_;try subst hkk)|refine mu_block hK ?_|refine mu_inBlock hK ?_|refine mu_ret hK ?_|refine mu_end hK ?_)|refine mu_exit hK rfl ?_|(with_reducible refine mu_regionH hK (fun kk hkk=>?_);simp only [List.size_toArray,List.length_cons,List.length_nil,Nat.reduceAdd,Nat.zero_add,List.range,List.range.loop])|(with_reducible refine mu_cf hK ?_ ?_;(· first|(walk_nrm;done)|(simp [Act.eval];done)))|(with_reducible refine mu_ct hK ?_ ?_;(· first|(walk_nrm;done)|(simp [Act.eval];done)))|(refine mu_unwanted hK rfl rfl ?_;walk_nrm)|(refine muv_val hV rfl (by first|exact .inl rfl|exact .inr rfl) rfl (by kernel_rfl) (fun J hJ=>?_);go_simp;with_reducible refine hJ _ ?_;clear hJ J;walk_nrm))
 refine yek _ ?_
 clear hK hV key yek K
 have hnA : norm (V.alloc (.cells #[.slice none 0 0] 102)) = (V.alloc (.cells #[.slice none 0 0] 102)):=norm_al hn _
 refine mua_put (L:=Lone) (v:=.pointer (some ⟨V.heap.size,0,none⟩)) (mua_to0 hnA) (K:=fun g=>To0 Try.prog (LPost W) Z V g) (K':=fun g=>To0 Try.prog (LPost W) Z (V.alloc (.cells #[.slice none 0 0] 102)) g) rfl (.inl rfl) rfl (by kernel_rfl) (fun τ=>?_) ?_
 · go_simp
   first | exact ⟨by first | rfl | assumption | (simp only [re]; omega),rfl⟩ | rfl | (simp; done)
 have eVA : (V.alloc (.cells #[.slice none 0 0] 102)).heap[V.heap.size]? = some (.cells #[.slice none 0 0] 102 (0,0)):=by rw [al_get,if_pos rfl]
 have sVA : (V.alloc (.cells #[.slice none 0 0] 102)).heap.size = V.heap.size + 1:=by rw [al_size]
 have kVA : Kp V (V.alloc (.cells #[.slice none 0 0] 102)):=⟨by rw [sVA]; omega,fun b hb=>by rw [al_get,if_neg (by omega)]⟩
 generalize (V.alloc (.cells #[.slice none 0 0] 102)) = VA at *
 walk_nrm
 obtain ⟨K,hK,hV,key,yek⟩:=kKV (L:=Lone) (J:=fun g=>To0 Try.prog (LPost W) Z VA g) mu_to0 (muv_to0 hnA)
 refine key _ ?_
 repeat (first|(with_reducible first|refine mu_seq hK ?_|refine mu_skip hK ?_|(refine mu_region_end hK ?_;try subst hkk)|refine mu_block hK ?_|refine mu_inBlock hK ?_|refine mu_ret hK ?_|refine mu_end hK ?_)|refine mu_exit hK rfl ?_|(with_reducible refine mu_regionH hK (fun kk hkk=>?_);simp only [List.size_toArray,List.length_cons,List.length_nil,Nat.reduceAdd,Nat.zero_add,List.range,List.range.loop])|(with_reducible refine mu_cf hK ?_ ?_;(· first|(walk_nrm;done)|(simp [Act.eval];done)))|(with_reducible refine mu_ct hK ?_ ?_;(· first|(walk_nrm;done)|(simp [Act.eval];done)))|(refine mu_unwanted hK rfl rfl ?_;walk_nrm)|(refine muv_val hV rfl (by first|exact .inl rfl|exact .inr rfl) rfl (by kernel_rfl) (fun J hJ=>?_);go_simp;with_reducible refine hJ _ ?_;clear hJ J;walk_nrm))
 refine yek _ ?_
 clear hK hV key yek K
 try subst hkk
 exact hK0 _ VA ⟨by simp,rfl,rfl,rfl,rfl,rfl,trivial⟩ hnA kVA sVA eVA
theorem x_r6 (hn : norm V = V) (hT : Fg 53 [(2,.slice pa pl pc),(4,.pointer (some ⟨lb,0,none⟩)),(7,.int .i64 (n : Int)),(8,.pointer (some ⟨mb,0,none⟩)),(9,.pointer (some ⟨cb,0,none⟩))] T)
   (K : ∀ T' V',Fg 53 [(2,.slice pa pl pc),(4,.pointer (some ⟨lb,0,none⟩)),(7,.int .i64 (n : Int)),(8,.pointer (some ⟨mb,0,none⟩)),(9,.pointer (some ⟨cb,0,none⟩)),(10,.pointer (some ⟨V.heap.size,0,none⟩)),(11,.pointer (some ⟨(V.heap.size + 1),0,none⟩))] T' → norm V' = V' → Kp V V' → V'.heap.size = V.heap.size + 2 → V'.heap[V.heap.size]? = some (.cells #[.bool false] 4 (0,0)) → V'.heap[V.heap.size + 1]? = some (.cells #[.int .i64 0] 3 (0,0)) → To0 Try.prog (LPost W) Z V' (G ((base 11).at ⟨T',[]⟩ kt) cs0)) :
   To0 Try.prog (LPost W) Z V (G ((base 11).at ⟨T,[]⟩ (.code m6 :: kt)) cs0):=by
 have hK0:=K
 clear K
 obtain ⟨hs,h2,h4,h7,h8,h9,-⟩:=hT
 obtain ⟨f,hf,hT⟩:=array53f T hs
 rw [hT]
 simp only [hf _ _ h2,hf _ _ h4,hf _ _ h7,hf _ _ h8,hf _ _ h9]
 clear hf hs h2 h4 h7 h8 h9
 subst hT
 generalize hX0 : m6 = X0
 simp only [m6,mX6,mX5,mX4,mX3,mX1,mB,nva,nvb,Try.f11,Option.getD_some] at hX0
 subst hX0
 obtain ⟨K,hK,hV,key,yek⟩:=kKV (L:=Lone) (J:=fun g=>To0 Try.prog (LPost W) Z V g) mu_to0 (muv_to0 hn)
 refine key _ ?_
 repeat (first|(with_reducible first|refine mu_seq hK ?_|refine mu_skip hK ?_|(refine mu_region_end hK ?_;try subst hkk)|refine mu_block hK ?_|refine mu_inBlock hK ?_|refine mu_ret hK ?_|refine mu_end hK ?_)|refine mu_exit hK rfl ?_|(with_reducible refine mu_regionH hK (fun kk hkk=>?_);simp only [List.size_toArray,List.length_cons,List.length_nil,Nat.reduceAdd,Nat.zero_add,List.range,List.range.loop])|(with_reducible refine mu_cf hK ?_ ?_;(· first|(walk_nrm;done)|(simp [Act.eval];done)))|(with_reducible refine mu_ct hK ?_ ?_;(· first|(walk_nrm;done)|(simp [Act.eval];done)))|(refine mu_unwanted hK rfl rfl ?_;walk_nrm)|(refine muv_val hV rfl (by first|exact .inl rfl|exact .inr rfl) rfl (by kernel_rfl) (fun J hJ=>?_);go_simp;with_reducible refine hJ _ ?_;clear hJ J;walk_nrm))
 refine yek _ ?_
 clear hK hV key yek K
 have hnA : norm (V.alloc (.cells #[.bool false] 4)) = (V.alloc (.cells #[.bool false] 4)):=norm_al hn _
 refine mua_put (L:=Lone) (v:=.pointer (some ⟨V.heap.size,0,none⟩)) (mua_to0 hnA) (K:=fun g=>To0 Try.prog (LPost W) Z V g) (K':=fun g=>To0 Try.prog (LPost W) Z (V.alloc (.cells #[.bool false] 4)) g) rfl (.inl rfl) rfl (by kernel_rfl) (fun τ=>?_) ?_
 · go_simp
   first | exact ⟨by first | rfl | assumption | (simp only [re]; omega),rfl⟩ | rfl | (simp; done)
 have eVA : (V.alloc (.cells #[.bool false] 4)).heap[V.heap.size]? = some (.cells #[.bool false] 4 (0,0)):=by rw [al_get,if_pos rfl]
 have sVA : (V.alloc (.cells #[.bool false] 4)).heap.size = V.heap.size + 1:=by rw [al_size]
 have kVA : Kp V (V.alloc (.cells #[.bool false] 4)):=⟨by rw [sVA]; omega,fun b hb=>by rw [al_get,if_neg (by omega)]⟩
 generalize (V.alloc (.cells #[.bool false] 4)) = VA at *
 walk_nrm
 obtain ⟨K,hK,hV,key,yek⟩:=kKV (L:=Lone) (J:=fun g=>To0 Try.prog (LPost W) Z VA g) mu_to0 (muv_to0 hnA)
 refine key _ ?_
 repeat (first|(with_reducible first|refine mu_seq hK ?_|refine mu_skip hK ?_|(refine mu_region_end hK ?_;try subst hkk)|refine mu_block hK ?_|refine mu_inBlock hK ?_|refine mu_ret hK ?_|refine mu_end hK ?_)|refine mu_exit hK rfl ?_|(with_reducible refine mu_regionH hK (fun kk hkk=>?_);simp only [List.size_toArray,List.length_cons,List.length_nil,Nat.reduceAdd,Nat.zero_add,List.range,List.range.loop])|(with_reducible refine mu_cf hK ?_ ?_;(· first|(walk_nrm;done)|(simp [Act.eval];done)))|(with_reducible refine mu_ct hK ?_ ?_;(· first|(walk_nrm;done)|(simp [Act.eval];done)))|(refine mu_unwanted hK rfl rfl ?_;walk_nrm)|(refine muv_val hV rfl (by first|exact .inl rfl|exact .inr rfl) rfl (by kernel_rfl) (fun J hJ=>?_);go_simp;with_reducible refine hJ _ ?_;clear hJ J;walk_nrm))
 refine yek _ ?_
 clear hK hV key yek K
 have hnB : norm (VA.alloc (.cells #[.int .i64 0] 3)) = (VA.alloc (.cells #[.int .i64 0] 3)):=norm_al hnA _
 refine mua_put (L:=Lone) (v:=.pointer (some ⟨VA.heap.size,0,none⟩)) (mua_to0 hnB) (K:=fun g=>To0 Try.prog (LPost W) Z VA g) (K':=fun g=>To0 Try.prog (LPost W) Z (VA.alloc (.cells #[.int .i64 0] 3)) g) rfl (.inl rfl) rfl (by kernel_rfl) (fun τ=>?_) ?_
 · go_simp
   first | exact ⟨by first | rfl | assumption | (simp only [re]; omega),rfl⟩ | rfl | (simp; done)
 have eVB : (VA.alloc (.cells #[.int .i64 0] 3)).heap[VA.heap.size]? = some (.cells #[.int .i64 0] 3 (0,0)):=by rw [al_get,if_pos rfl]
 have sVB : (VA.alloc (.cells #[.int .i64 0] 3)).heap.size = VA.heap.size + 1:=by rw [al_size]
 have kVB : Kp VA (VA.alloc (.cells #[.int .i64 0] 3)):=⟨by rw [sVB]; omega,fun b hb=>by rw [al_get,if_neg (by omega)]⟩
 generalize (VA.alloc (.cells #[.int .i64 0] 3)) = VB at *
 walk_nrm
 have eA2 : VB.heap[V.heap.size]? = some (.cells #[.bool false] 4 (0,0)):=(kVB.keep _ (by omega)).trans eVA
 have kAB : Kp V VB:=kVA.trans kVB
 have sAB : VB.heap.size = V.heap.size + 2:=by omega
 rw [sVA] at eVB
 simp only [sVA]
 clear eVA kVA kVB sVB sVA hnA
 generalize hb9 : V.heap.size = b9 at *
 try walk_nrm
 have r0VS : ∀ τ,(re VB τ 0).cell? ⟨b9,0,none⟩ = some (.bool false):=fun τ=>cell_of eA2 (by simp)
 have z0VS : ∀ τ,(re VB τ 0).frozen? ⟨b9,0,none⟩ = false:=fun τ=>by simp [World.frozen?,re,eA2]
 have hnVS : norm (VB.setCell ⟨b9,0,none⟩ (.bool false)) = (VB.setCell ⟨b9,0,none⟩ (.bool false)):=(norm_set hnB _ _)
 refine mus_put (L:=Lone) (mus_to0 hnVS) (K:=fun g=>To0 Try.prog (LPost W) Z VB g) (K':=fun g=>To0 Try.prog (LPost W) Z (VB.setCell ⟨b9,0,none⟩ (.bool false)) g) rfl (.inl rfl) rfl (by kernel_rfl) (fun τ=>?_) ?_
 · go_simp
   try rfl
 have kVS : ∀ b,b ≠ b9 → (VB.setCell ⟨b9,0,none⟩ (.bool false)).heap[b]? = VB.heap[b]?:=fun b hb=>by rw [setCell_heap,if_neg hb]
 have eVS : (VB.setCell ⟨b9,0,none⟩ (.bool false)).heap[b9]? = some (.cells #[.bool false] 4 (0,0)):=by
   rw [setCell_heap,if_pos rfl,eA2]
   simp
 have sVS : (VB.setCell ⟨b9,0,none⟩ (.bool false)).heap.size = VB.heap.size:=by simp [World.setCell]
 generalize (VB.setCell ⟨b9,0,none⟩ (.bool false)) = VS at *
 clear r0VS z0VS
 walk_nrm
 have e11 : VS.heap[b9 + 1]? = some (.cells #[.int .i64 0] 3 (0,0)):=(kVS _ (by omega)).trans eVB
 generalize hb8 : b9 + 1 = b8 at *
 have r0VT : ∀ τ,(re VS τ 0).cell? ⟨b8,0,none⟩ = some (.int .i64 0):=fun τ=>cell_of e11 (by simp)
 have z0VT : ∀ τ,(re VS τ 0).frozen? ⟨b8,0,none⟩ = false:=fun τ=>by simp [World.frozen?,re,e11]
 have hnVT : norm (VS.setCell ⟨b8,0,none⟩ (.int .i64 0)) = (VS.setCell ⟨b8,0,none⟩ (.int .i64 0)):=(norm_set hnVS _ _)
 refine mus_put (L:=Lone) (mus_to0 hnVT) (K:=fun g=>To0 Try.prog (LPost W) Z VS g) (K':=fun g=>To0 Try.prog (LPost W) Z (VS.setCell ⟨b8,0,none⟩ (.int .i64 0)) g) rfl (.inl rfl) rfl (by kernel_rfl) (fun τ=>?_) ?_
 · go_simp
   try rfl
 have kVT : ∀ b,b ≠ b8 → (VS.setCell ⟨b8,0,none⟩ (.int .i64 0)).heap[b]? = VS.heap[b]?:=fun b hb=>by rw [setCell_heap,if_neg hb]
 have eVT : (VS.setCell ⟨b8,0,none⟩ (.int .i64 0)).heap[b8]? = some (.cells #[.int .i64 0] 3 (0,0)):=by
   rw [setCell_heap,if_pos rfl,e11]
   simp
 have sVT : (VS.setCell ⟨b8,0,none⟩ (.int .i64 0)).heap.size = VS.heap.size:=by simp [World.setCell]
 generalize (VS.setCell ⟨b8,0,none⟩ (.int .i64 0)) = VT at *
 clear r0VT z0VT
 walk_nrm
 obtain ⟨K,hK,hV,key,yek⟩:=kKV (L:=Lone) (J:=fun g=>To0 Try.prog (LPost W) Z VT g) mu_to0 (muv_to0 hnVT)
 refine key _ ?_
 repeat (first|(with_reducible first|refine mu_seq hK ?_|refine mu_skip hK ?_|(refine mu_region_end hK ?_;try subst hkk)|refine mu_block hK ?_|refine mu_inBlock hK ?_|refine mu_ret hK ?_|refine mu_end hK ?_)|refine mu_exit hK rfl ?_|(with_reducible refine mu_regionH hK (fun kk hkk=>?_);simp only [List.size_toArray,List.length_cons,List.length_nil,Nat.reduceAdd,Nat.zero_add,List.range,List.range.loop])|(with_reducible refine mu_cf hK ?_ ?_;(· first|(walk_nrm;done)|(simp [Act.eval];done)))|(with_reducible refine mu_ct hK ?_ ?_;(· first|(walk_nrm;done)|(simp [Act.eval];done)))|(refine mu_unwanted hK rfl rfl ?_;walk_nrm)|(refine muv_val hV rfl (by first|exact .inl rfl|exact .inr rfl) rfl (by kernel_rfl) (fun J hJ=>?_);go_simp;with_reducible refine hJ _ ?_;clear hJ J;walk_nrm))
 refine yek _ ?_
 clear hK hV key yek K
 try subst hkk
 exact hK0 _ VT ⟨by simp,rfl,rfl,rfl,rfl,rfl,rfl,rfl,trivial⟩ hnVT ⟨by omega,fun b hb=>(kVT b (by omega)).trans ((kVS b (by omega)).trans (kAB.keep b (by omega)))⟩ (by omega) ((kVT b9 (by omega)).trans eVS) eVT
theorem x_r7 (hn : norm V = V) (hT : Fg 53 [(2,.slice pa pl pc),(4,.pointer (some ⟨lb,0,none⟩)),(7,.int .i64 (n : Int)),(8,.pointer (some ⟨mb,0,none⟩)),(9,.pointer (some ⟨cb,0,none⟩)),(10,.pointer (some ⟨sb,0,none⟩)),(11,.pointer (some ⟨hb,0,none⟩))] T) (K : ∀ T',Fg 53 [(2,.slice pa pl pc),(4,.pointer (some ⟨lb,0,none⟩)),(7,.int .i64 (n : Int)),(8,.pointer (some ⟨mb,0,none⟩)),(9,.pointer (some ⟨cb,0,none⟩)),(10,.pointer (some ⟨sb,0,none⟩)),(11,.pointer (some ⟨hb,0,none⟩)),(12,.func (.func 48) #[] #[bq mb,bq sb,bq cb,bq hb])] T' → To0 Try.prog (LPost W) Z V (G ((base 11).at ⟨T',[]⟩ kt) cs0)) :
   To0 Try.prog (LPost W) Z V (G ((base 11).at ⟨T,[]⟩ (.code m7 :: kt)) cs0):=by
 have hK0:=K
 clear K
 have hbq : ∀ b,bq b = .pointer (some ⟨b,0,none⟩):=fun b=>rfl
 simp only [bq] at *
 obtain ⟨hs,h2,h4,h7,h8,h9,h10,h11,-⟩:=hT
 obtain ⟨f,hf,hT⟩:=array53f T hs
 rw [hT]
 simp only [hf _ _ h2,hf _ _ h4,hf _ _ h7,hf _ _ h8,hf _ _ h9,hf _ _ h10,hf _ _ h11]
 clear hf hs h2 h4 h7 h8 h9 h10 h11
 subst hT
 generalize hX0 : m7 = X0
 simp only [m7,mX7,mX6,mX5,mX4,mX3,mX1,mB,nva,nvb,Try.f11,Option.getD_some] at hX0
 subst hX0
 obtain ⟨K,hK,hV,key,yek⟩:=kKV (L:=Lone) (J:=fun g=>To0 Try.prog (LPost W) Z V g) mu_to0 (muv_to0 hn)
 refine key _ ?_
 repeat (first|(with_reducible first|refine mu_seq hK ?_|refine mu_skip hK ?_|(refine mu_region_end hK ?_;try subst hkk)|refine mu_block hK ?_|refine mu_inBlock hK ?_|refine mu_ret hK ?_|refine mu_end hK ?_)|refine mu_exit hK rfl ?_|(with_reducible refine mu_regionH hK (fun kk hkk=>?_);simp only [List.size_toArray,List.length_cons,List.length_nil,Nat.reduceAdd,Nat.zero_add,List.range,List.range.loop])|(with_reducible refine mu_cf hK ?_ ?_;(· first|(walk_nrm;done)|(simp [Act.eval];done)))|(with_reducible refine mu_ct hK ?_ ?_;(· first|(walk_nrm;done)|(simp [Act.eval];done)))|(refine mu_unwanted hK rfl rfl ?_;walk_nrm)|(refine muv_val hV rfl (by first|exact .inl rfl|exact .inr rfl) rfl (by kernel_rfl) (fun J hJ=>?_);go_simp;with_reducible refine hJ _ ?_;clear hJ J;walk_nrm))
 refine yek _ ?_
 clear hK hV key yek K
 try subst hkk
 exact hK0 _ ⟨by simp,rfl,rfl,rfl,rfl,rfl,rfl,rfl,rfl,trivial⟩
theorem x_r8 (hn : norm V = V) (hT : Fg 53 [(2,.slice pa pl pc),(4,.pointer (some ⟨lb,0,none⟩)),(7,.int .i64 (n : Int)),(8,.pointer (some ⟨mb,0,none⟩)),(9,.pointer (some ⟨cb,0,none⟩)),(10,.pointer (some ⟨sb,0,none⟩)),(11,.pointer (some ⟨hb,0,none⟩)),(12,.func (.func 48) #[] #[bq mb,bq sb,bq cb,bq hb])] T) (K : ∀ T',Fg 53 [(2,.slice pa pl pc),(4,.pointer (some ⟨lb,0,none⟩)),(7,.int .i64 (n : Int)),(8,.pointer (some ⟨mb,0,none⟩)),(9,.pointer (some ⟨cb,0,none⟩)),(10,.pointer (some ⟨sb,0,none⟩)),(11,.pointer (some ⟨hb,0,none⟩)),(12,.func (.func 48) #[] #[bq mb,bq sb,bq cb,bq hb]),(13,.func (.func 50) #[] #[bq lb,bq mb,bq sb,bq cb])] T' → To0 Try.prog (LPost W) Z V (G ((base 11).at ⟨T',[]⟩ kt) cs0)) :
   To0 Try.prog (LPost W) Z V (G ((base 11).at ⟨T,[]⟩ (.code m8 :: kt)) cs0):=by
 have hK0:=K
 clear K
 have hbq : ∀ b,bq b = .pointer (some ⟨b,0,none⟩):=fun b=>rfl
 simp only [bq] at *
 obtain ⟨hs,h2,h4,h7,h8,h9,h10,h11,h12,-⟩:=hT
 obtain ⟨f,hf,hT⟩:=array53f T hs
 rw [hT]
 simp only [hf _ _ h2,hf _ _ h4,hf _ _ h7,hf _ _ h8,hf _ _ h9,hf _ _ h10,hf _ _ h11,hf _ _ h12]
 clear hf hs h2 h4 h7 h8 h9 h10 h11 h12
 subst hT
 generalize hX0 : m8 = X0
 simp only [m8,mX8,mX7,mX6,mX5,mX4,mX3,mX1,mB,nva,nvb,Try.f11,Option.getD_some] at hX0
 subst hX0
 obtain ⟨K,hK,hV,key,yek⟩:=kKV (L:=Lone) (J:=fun g=>To0 Try.prog (LPost W) Z V g) mu_to0 (muv_to0 hn)
 refine key _ ?_
 repeat (first|(with_reducible first|refine mu_seq hK ?_|refine mu_skip hK ?_|(refine mu_region_end hK ?_;try subst hkk)|refine mu_block hK ?_|refine mu_inBlock hK ?_|refine mu_ret hK ?_|refine mu_end hK ?_)|refine mu_exit hK rfl ?_|(with_reducible refine mu_regionH hK (fun kk hkk=>?_);simp only [List.size_toArray,List.length_cons,List.length_nil,Nat.reduceAdd,Nat.zero_add,List.range,List.range.loop])|(with_reducible refine mu_cf hK ?_ ?_;(· first|(walk_nrm;done)|(simp [Act.eval];done)))|(with_reducible refine mu_ct hK ?_ ?_;(· first|(walk_nrm;done)|(simp [Act.eval];done)))|(refine mu_unwanted hK rfl rfl ?_;walk_nrm)|(refine muv_val hV rfl (by first|exact .inl rfl|exact .inr rfl) rfl (by kernel_rfl) (fun J hJ=>?_);go_simp;with_reducible refine hJ _ ?_;clear hJ J;walk_nrm))
 refine yek _ ?_
 clear hK hV key yek K
 try subst hkk
 exact hK0 _ ⟨by simp,rfl,rfl,rfl,rfl,rfl,rfl,rfl,rfl,rfl,trivial⟩
theorem x_r9 (hn : norm V = V) (hT : Fg 53 [(2,.slice pa pl pc),(4,.pointer (some ⟨lb,0,none⟩)),(7,.int .i64 (n : Int)),(8,.pointer (some ⟨mb,0,none⟩)),(9,.pointer (some ⟨cb,0,none⟩)),(10,.pointer (some ⟨sb,0,none⟩)),(11,.pointer (some ⟨hb,0,none⟩)),(12,.func (.func 48) #[] #[bq mb,bq sb,bq cb,bq hb]),(13,.func (.func 50) #[] #[bq lb,bq mb,bq sb,bq cb])] T)
   (K : ∀ T' V',Fg 53 [(2,.slice pa pl pc),(7,.int .i64 (n : Int)),(8,.pointer (some ⟨mb,0,none⟩)),(9,.pointer (some ⟨cb,0,none⟩)),(10,.pointer (some ⟨sb,0,none⟩)),(11,.pointer (some ⟨hb,0,none⟩)),(12,.func (.func 48) #[] #[bq mb,bq sb,bq cb,bq hb]),(14,.slice (some ⟨V.heap.size,0,none⟩) 1 1)] T' → norm V' = V' → Kp V V' → V'.heap.size = V.heap.size + 1 → V'.heap[V.heap.size]? = some (.cells #[.func (.func 50) #[] #[.pointer (some ⟨lb,0,none⟩),.pointer (some ⟨mb,0,none⟩),.pointer (some ⟨sb,0,none⟩),.pointer (some ⟨cb,0,none⟩)]] 70 (0,0)) → To0 Try.prog (LPost W) Z V' (G ((base 11).at ⟨T',[]⟩ kt) cs0)) :
   To0 Try.prog (LPost W) Z V (G ((base 11).at ⟨T,[]⟩ (.code m9 :: kt)) cs0):=by
 have hK0:=K
 clear K
 have hbq : ∀ b,bq b = .pointer (some ⟨b,0,none⟩):=fun b=>rfl
 simp only [bq] at *
 obtain ⟨hs,h2,h4,h7,h8,h9,h10,h11,h12,h13,-⟩:=hT
 obtain ⟨f,hf,hT⟩:=array53f T hs
 rw [hT]
 simp only [hf _ _ h2,hf _ _ h4,hf _ _ h7,hf _ _ h8,hf _ _ h9,hf _ _ h10,hf _ _ h11,hf _ _ h12,hf _ _ h13]
 clear hf hs h2 h4 h7 h8 h9 h10 h11 h12 h13
 subst hT
 generalize hX0 : m9 = X0
 simp only [m9,mX9,mX8,mX7,mX6,mX5,mX4,mX3,mX1,mB,nva,nvb,Try.f11,Option.getD_some] at hX0
 subst hX0
 obtain ⟨K,hK,hV,key,yek⟩:=kKV (L:=Lone) (J:=fun g=>To0 Try.prog (LPost W) Z V g) mu_to0 (muv_to0 hn)
 refine key _ ?_
 repeat (first|(with_reducible first|refine mu_seq hK ?_|refine mu_skip hK ?_|(refine mu_region_end hK ?_;try subst hkk)|refine mu_block hK ?_|refine mu_inBlock hK ?_|refine mu_ret hK ?_|refine mu_end hK ?_)|refine mu_exit hK rfl ?_|(with_reducible refine mu_regionH hK (fun kk hkk=>?_);simp only [List.size_toArray,List.length_cons,List.length_nil,Nat.reduceAdd,Nat.zero_add,List.range,List.range.loop])|(with_reducible refine mu_cf hK ?_ ?_;(· first|(walk_nrm;done)|(simp [Act.eval];done)))|(with_reducible refine mu_ct hK ?_ ?_;(· first|(walk_nrm;done)|(simp [Act.eval];done)))|(refine mu_unwanted hK rfl rfl ?_;walk_nrm)|(refine muv_val hV rfl (by first|exact .inl rfl|exact .inr rfl) rfl (by kernel_rfl) (fun J hJ=>?_);go_simp;with_reducible refine hJ _ ?_;clear hJ J;walk_nrm))
 refine yek _ ?_
 clear hK hV key yek K
 have hnA : norm (V.alloc (.cells #[.func (.func 50) #[] #[.pointer (some ⟨lb,0,none⟩),.pointer (some ⟨mb,0,none⟩),.pointer (some ⟨sb,0,none⟩),.pointer (some ⟨cb,0,none⟩)]] 70)) = (V.alloc (.cells #[.func (.func 50) #[] #[.pointer (some ⟨lb,0,none⟩),.pointer (some ⟨mb,0,none⟩),.pointer (some ⟨sb,0,none⟩),.pointer (some ⟨cb,0,none⟩)]] 70)):=norm_al hn _
 refine mua_put (L:=Lone) (v:=.slice (some ⟨V.heap.size,0,none⟩) 1 1) (mua_to0 hnA) (K:=fun g=>To0 Try.prog (LPost W) Z V g) (K':=fun g=>To0 Try.prog (LPost W) Z (V.alloc (.cells #[.func (.func 50) #[] #[.pointer (some ⟨lb,0,none⟩),.pointer (some ⟨mb,0,none⟩),.pointer (some ⟨sb,0,none⟩),.pointer (some ⟨cb,0,none⟩)]] 70)) g) rfl (.inl rfl) rfl (by kernel_rfl) (fun τ=>?_) ?_
 · go_simp
   first | exact ⟨by first | rfl | assumption | (simp only [re]; omega),rfl⟩ | rfl | (simp; done)
 have eVA : (V.alloc (.cells #[.func (.func 50) #[] #[.pointer (some ⟨lb,0,none⟩),.pointer (some ⟨mb,0,none⟩),.pointer (some ⟨sb,0,none⟩),.pointer (some ⟨cb,0,none⟩)]] 70)).heap[V.heap.size]? = some (.cells #[.func (.func 50) #[] #[.pointer (some ⟨lb,0,none⟩),.pointer (some ⟨mb,0,none⟩),.pointer (some ⟨sb,0,none⟩),.pointer (some ⟨cb,0,none⟩)]] 70 (0,0)):=by rw [al_get,if_pos rfl]
 have sVA : (V.alloc (.cells #[.func (.func 50) #[] #[.pointer (some ⟨lb,0,none⟩),.pointer (some ⟨mb,0,none⟩),.pointer (some ⟨sb,0,none⟩),.pointer (some ⟨cb,0,none⟩)]] 70)).heap.size = V.heap.size + 1:=by rw [al_size]
 have kVA : Kp V (V.alloc (.cells #[.func (.func 50) #[] #[.pointer (some ⟨lb,0,none⟩),.pointer (some ⟨mb,0,none⟩),.pointer (some ⟨sb,0,none⟩),.pointer (some ⟨cb,0,none⟩)]] 70)):=⟨by rw [sVA]; omega,fun b hb=>by rw [al_get,if_neg (by omega)]⟩
 generalize (V.alloc (.cells #[.func (.func 50) #[] #[.pointer (some ⟨lb,0,none⟩),.pointer (some ⟨mb,0,none⟩),.pointer (some ⟨sb,0,none⟩),.pointer (some ⟨cb,0,none⟩)]] 70)) = VA at *
 walk_nrm
 obtain ⟨K,hK,hV,key,yek⟩:=kKV (L:=Lone) (J:=fun g=>To0 Try.prog (LPost W) Z VA g) mu_to0 (muv_to0 hnA)
 refine key _ ?_
 repeat (first|(with_reducible first|refine mu_seq hK ?_|refine mu_skip hK ?_|(refine mu_region_end hK ?_;try subst hkk)|refine mu_block hK ?_|refine mu_inBlock hK ?_|refine mu_ret hK ?_|refine mu_end hK ?_)|refine mu_exit hK rfl ?_|(with_reducible refine mu_regionH hK (fun kk hkk=>?_);simp only [List.size_toArray,List.length_cons,List.length_nil,Nat.reduceAdd,Nat.zero_add,List.range,List.range.loop])|(with_reducible refine mu_cf hK ?_ ?_;(· first|(walk_nrm;done)|(simp [Act.eval];done)))|(with_reducible refine mu_ct hK ?_ ?_;(· first|(walk_nrm;done)|(simp [Act.eval];done)))|(refine mu_unwanted hK rfl rfl ?_;walk_nrm)|(refine muv_val hV rfl (by first|exact .inl rfl|exact .inr rfl) rfl (by kernel_rfl) (fun J hJ=>?_);go_simp;with_reducible refine hJ _ ?_;clear hJ J;walk_nrm))
 refine yek _ ?_
 clear hK hV key yek K
 try subst hkk
 exact hK0 _ VA ⟨by simp,rfl,rfl,rfl,rfl,rfl,rfl,rfl,rfl,trivial⟩ hnA kVA sVA eVA
theorem x_r10 (hn : norm V = V) (hT : Fg 53 [(2,.slice pa pl pc),(7,.int .i64 (n : Int)),(8,.pointer (some ⟨mb,0,none⟩)),(9,.pointer (some ⟨cb,0,none⟩)),(10,.pointer (some ⟨sb,0,none⟩)),(11,.pointer (some ⟨hb,0,none⟩)),(12,.func (.func 48) #[] #[bq mb,bq sb,bq cb,bq hb]),(14,.slice fa k fc)] T)
   (K : ∀ T',Fg 53 [(2,.slice pa pl pc),(7,.int .i64 (n : Int)),(8,.pointer (some ⟨mb,0,none⟩)),(9,.pointer (some ⟨cb,0,none⟩)),(10,.pointer (some ⟨sb,0,none⟩)),(11,.pointer (some ⟨hb,0,none⟩)),(12,.func (.func 48) #[] #[bq mb,bq sb,bq cb,bq hb]),(14,.slice fa k fc),(15,.int .i64 0)] T' → To0 Try.prog (LPost W) Z V (G ((base 11).at ⟨T',[]⟩ kt) cs0)) :
   To0 Try.prog (LPost W) Z V (G ((base 11).at ⟨T,[]⟩ (.code m10 :: kt)) cs0):=by
 refine reg_go ⟨_,Try.func11⟩ (by kernel_rfl) K fun τ=>?_
 clear K
 obtain ⟨hs,h2,h7,h8,h9,h10,h11,h12,h14,-⟩:=hT
 obtain ⟨f,hf,hT⟩:=array53f T hs
 rw [hT]
 simp only [hf _ _ h2,hf _ _ h7,hf _ _ h8,hf _ _ h9,hf _ _ h10,hf _ _ h11,hf _ _ h12,hf _ _ h14]
 clear hf hs h2 h7 h8 h9 h10 h11 h12 h14
 subst hT
 simp only [m10,mX10,mX9,mX8,mX7,mX6,mX5,mX4,mX3,mX1,mB,nva,nvb,Try.f11,Option.getD_some]
 go_wp2_with fail
 exact ⟨hn,⟨by simp,rfl,rfl,rfl,rfl,rfl,rfl,rfl,rfl,rfl,trivial⟩⟩
theorem x_r11 (hn : norm V = V) {x : Bool} (hx : decide ((i : Int) < (n : Int)) = x) (hT : Fg 53 [(2,.slice pa pl pc),(7,.int .i64 (n : Int)),(8,.pointer (some ⟨mb,0,none⟩)),(9,.pointer (some ⟨cb,0,none⟩)),(10,.pointer (some ⟨sb,0,none⟩)),(11,.pointer (some ⟨hb,0,none⟩)),(12,.func (.func 48) #[] #[bq mb,bq sb,bq cb,bq hb]),(14,.slice fa k fc),(15,.int .i64 (i : Int))] T)
   (K : ∀ T',Fg 53 [(2,.slice pa pl pc),(7,.int .i64 (n : Int)),(8,.pointer (some ⟨mb,0,none⟩)),(9,.pointer (some ⟨cb,0,none⟩)),(10,.pointer (some ⟨sb,0,none⟩)),(11,.pointer (some ⟨hb,0,none⟩)),(12,.func (.func 48) #[] #[bq mb,bq sb,bq cb,bq hb]),(14,.slice fa k fc),(15,.int .i64 (i : Int))] T' → T'[29]? = some (.bool x) → To0 Try.prog (LPost W) Z V (G ((base 11).at ⟨T',[]⟩ kt) cs0)) :
   To0 Try.prog (LPost W) Z V (G ((base 11).at ⟨T,[]⟩ (.code m11 :: kt)) cs0):=by
 refine reg_gb ⟨_,Try.func11⟩ (by kernel_rfl) K fun τ=>?_
 clear K
 obtain ⟨hs,h2,h7,h8,h9,h10,h11,h12,h14,h15,-⟩:=hT
 obtain ⟨f,hf,hT⟩:=array53f T hs
 rw [hT]
 simp only [hf _ _ h2,hf _ _ h7,hf _ _ h8,hf _ _ h9,hf _ _ h10,hf _ _ h11,hf _ _ h12,hf _ _ h14,hf _ _ h15]
 clear hf hs h2 h7 h8 h9 h10 h11 h12 h14 h15
 subst hT
 simp only [m11,mL,mX10,mX9,mX8,mX7,mX6,mX5,mX4,mX3,mX1,mB,nva,nvb,nvk,nvl,Try.f11,Option.getD_some]
 cases x <;> go_wp2_with fail
 all_goals (first | exact ⟨hn,⟨by simp,rfl,rfl,rfl,rfl,rfl,rfl,rfl,rfl,rfl,trivial⟩⟩ | exact ⟨hn,⟨by simp,rfl,rfl,rfl,rfl,rfl,rfl,rfl,rfl,rfl,trivial⟩,rfl⟩ | (exfalso; simp at hx; omega) | (exfalso; simp at hx hy; omega) | (refine ⟨hn,⟨by simp,rfl,rfl,rfl,rfl,rfl,rfl,rfl,rfl,rfl,trivial⟩,?_⟩; simp at hx ⊢; omega) | (refine ⟨hn,⟨by simp,rfl,rfl,rfl,rfl,rfl,rfl,rfl,rfl,rfl,trivial⟩,?_⟩; simp at hx hy ⊢; omega))
theorem x_r12 (hn : norm V = V) (hk : i < 1000000) (hT : Fg 53 [(2,.slice pa pl pc),(7,.int .i64 (n : Int)),(8,.pointer (some ⟨mb,0,none⟩)),(9,.pointer (some ⟨cb,0,none⟩)),(10,.pointer (some ⟨sb,0,none⟩)),(11,.pointer (some ⟨hb,0,none⟩)),(12,.func (.func 48) #[] #[bq mb,bq sb,bq cb,bq hb]),(14,.slice fa k fc),(15,.int .i64 (i : Int))] T)
   (K : ∀ T',Fg 53 [(2,.slice pa pl pc),(7,.int .i64 (n : Int)),(8,.pointer (some ⟨mb,0,none⟩)),(9,.pointer (some ⟨cb,0,none⟩)),(10,.pointer (some ⟨sb,0,none⟩)),(11,.pointer (some ⟨hb,0,none⟩)),(12,.func (.func 48) #[] #[bq mb,bq sb,bq cb,bq hb]),(14,.slice fa k fc),(15,.int .i64 ((i + 1 : Nat) : Int))] T' → To0 Try.prog (LPost W) Z V (G ((base 11).at ⟨T',[]⟩ kt) cs0)) :
   To0 Try.prog (LPost W) Z V (G ((base 11).at ⟨T,[]⟩ (.code m12 :: kt)) cs0):=by
 refine reg_go ⟨_,Try.func11⟩ (by kernel_rfl) K fun τ=>?_
 clear K
 have w1 : IntKind.i64.wrap ((i : Int) + 1) = ((i + 1 : Nat) : Int):=by rw [IntKind.wrap_i64]; omega
 obtain ⟨hs,h2,h7,h8,h9,h10,h11,h12,h14,h15,-⟩:=hT
 obtain ⟨f,hf,hT⟩:=array53f T hs
 rw [hT]
 simp only [hf _ _ h2,hf _ _ h7,hf _ _ h8,hf _ _ h9,hf _ _ h10,hf _ _ h11,hf _ _ h12,hf _ _ h14,hf _ _ h15]
 clear hf hs h2 h7 h8 h9 h10 h11 h12 h14 h15
 subst hT
 simp only [m12,mL,mX10,mX9,mX8,mX7,mX6,mX5,mX4,mX3,mX1,mB,nva,nvb,nvk,nvl,Try.f11,Option.getD_some]
 go_wp2_with fail
 exact ⟨hn,⟨by simp,rfl,rfl,rfl,rfl,rfl,rfl,rfl,rfl,rfl,trivial⟩⟩
theorem x_r13 (hn : norm V = V) {xs : List Value} (hrow : V.ownsRow 0 70 1 (Value.slice fa k fc) k xs) (hm : k < 900000000) (hT : Fg 53 [(2,.slice pa pl pc),(7,.int .i64 (n : Int)),(8,.pointer (some ⟨mb,0,none⟩)),(9,.pointer (some ⟨cb,0,none⟩)),(10,.pointer (some ⟨sb,0,none⟩)),(11,.pointer (some ⟨hb,0,none⟩)),(12,.func (.func 48) #[] #[bq mb,bq sb,bq cb,bq hb]),(14,Value.slice fa k fc),(15,.int .i64 (i : Int))] T)
   (K : ∀ T' V' wa wc,Fg 53 [(2,.slice pa pl pc),(7,.int .i64 (n : Int)),(8,.pointer (some ⟨mb,0,none⟩)),(9,.pointer (some ⟨cb,0,none⟩)),(10,.pointer (some ⟨sb,0,none⟩)),(11,.pointer (some ⟨hb,0,none⟩)),(12,.func (.func 48) #[] #[bq mb,bq sb,bq cb,bq hb]),(14,.slice wa (k + 1) wc),(15,.int .i64 (i : Int))] T' → norm V' = V' → V'.ownsRow 0 70 1 (.slice wa (k + 1) wc) (k + 1) (xs ++ [.func (.func 48) #[] #[bq mb,bq sb,bq cb,bq hb]]) → V.heap.size ≤ V'.heap.size → (∀ b,b < V.heap.size → (Value.slice fa k fc).ownBlock ≠ some b → V'.heap[b]? = V.heap[b]?) → (∀ b,(Value.slice wa (k + 1) wc).ownBlock = some b → (Value.slice fa k fc).ownBlock = some b ∨ V.heap.size ≤ b) → To0 Try.prog (LPost W) Z V' (G ((base 11).at ⟨T',[]⟩ kt) cs0)) :
   To0 Try.prog (LPost W) Z V (G ((base 11).at ⟨T,[]⟩ (.code m13 :: kt)) cs0):=by
 have hK0:=K
 clear K
 have hbq : ∀ b,bq b = .pointer (some ⟨b,0,none⟩):=fun b=>rfl
 simp only [bq] at *
 obtain ⟨hs,h2,h7,h8,h9,h10,h11,h12,h14,h15,-⟩:=hT
 obtain ⟨f,hf,hT⟩:=array53f T hs
 rw [hT]
 simp only [hf _ _ h2,hf _ _ h7,hf _ _ h8,hf _ _ h9,hf _ _ h10,hf _ _ h11,hf _ _ h12,hf _ _ h14,hf _ _ h15]
 clear hf hs h2 h7 h8 h9 h10 h11 h12 h14 h15
 subst hT
 generalize hX0 : m13 = X0
 simp only [m13,mL,mX10,mX9,mX8,mX7,mX6,mX5,mX4,mX3,mX1,mB,nva,nvb,nvk,nvl,Try.f11,Option.getD_some] at hX0
 subst hX0
 obtain ⟨K,hK,hV,key,yek⟩:=kKV (L:=Lone) (J:=fun g=>To0 Try.prog (LPost W) Z V g) mu_to0 (muv_to0 hn)
 refine key _ ?_
 repeat (first|(with_reducible first|refine mu_seq hK ?_|refine mu_skip hK ?_|(refine mu_region_end hK ?_;try subst hkk)|refine mu_block hK ?_|refine mu_inBlock hK ?_|refine mu_ret hK ?_|refine mu_end hK ?_)|refine mu_exit hK rfl ?_|(with_reducible refine mu_regionH hK (fun kk hkk=>?_);simp only [List.size_toArray,List.length_cons,List.length_nil,Nat.reduceAdd,Nat.zero_add,List.range,List.range.loop])|(with_reducible refine mu_cf hK ?_ ?_;(· first|(walk_nrm;done)|(simp [Act.eval];done)))|(with_reducible refine mu_ct hK ?_ ?_;(· first|(walk_nrm;done)|(simp [Act.eval];done)))|(refine mu_unwanted hK rfl rfl ?_;walk_nrm)|(refine muv_val hV rfl (by first|exact .inl rfl|exact .inr rfl) rfl (by kernel_rfl) (fun J hJ=>?_);go_simp;with_reducible refine hJ _ ?_;clear hJ J;walk_nrm))
 refine yek _ ?_
 clear hK hV key yek K
 have hnA : norm (V.alloc (.cells #[.func (.func 48) #[] #[bq mb,bq sb,bq cb,bq hb]] 70)) = (V.alloc (.cells #[.func (.func 48) #[] #[bq mb,bq sb,bq cb,bq hb]] 70)):=norm_al hn _
 refine mua_put (L:=Lone) (v:=.slice (some ⟨V.heap.size,0,none⟩) 1 1) (mua_to0 hnA) (K:=fun g=>To0 Try.prog (LPost W) Z V g) (K':=fun g=>To0 Try.prog (LPost W) Z (V.alloc (.cells #[.func (.func 48) #[] #[bq mb,bq sb,bq cb,bq hb]] 70)) g) rfl (.inl rfl) rfl (by kernel_rfl) (fun τ=>?_) ?_
 · go_simp
   first | exact ⟨by first | rfl | assumption | (simp only [re]; omega),rfl⟩ | rfl | (simp; done)
 have eVA : (V.alloc (.cells #[.func (.func 48) #[] #[bq mb,bq sb,bq cb,bq hb]] 70)).heap[V.heap.size]? = some (.cells #[.func (.func 48) #[] #[bq mb,bq sb,bq cb,bq hb]] 70 (0,0)):=by rw [al_get,if_pos rfl]
 have sVA : (V.alloc (.cells #[.func (.func 48) #[] #[bq mb,bq sb,bq cb,bq hb]] 70)).heap.size = V.heap.size + 1:=by rw [al_size]
 have kVA : Kp V (V.alloc (.cells #[.func (.func 48) #[] #[bq mb,bq sb,bq cb,bq hb]] 70)):=⟨by rw [sVA]; omega,fun b hb=>by rw [al_get,if_neg (by omega)]⟩
 generalize (V.alloc (.cells #[.func (.func 48) #[] #[bq mb,bq sb,bq cb,bq hb]] 70)) = VA at *
 walk_nrm
 have rowA : VA.ownsRow 0 70 1 (Value.slice fa k fc) k xs:=row_keep hrow fun b hb=>kVA.keep b (row_at hrow hb)
 have litA : VA.ownsRow 0 70 1 (.slice (some ⟨V.heap.size,0,none⟩) 1 1) 1 [.func (.func 48) #[] #[bq mb,bq sb,bq cb,bq hb]]:=⟨rfl,.inr ⟨V.heap.size,1,#[.func (.func 48) #[] #[bq mb,bq sb,bq cb,bq hb]],rfl,Nat.zero_le _,eVA,Nat.le_refl _,by simp [maxLen],rfl,rfl⟩⟩
 obtain ⟨K,hK,hV,key,yek⟩:=kKV (L:=Lone) (J:=fun g=>To0 Try.prog (LPost W) Z VA g) mu_to0 (muv_to0 hnA)
 refine key _ ?_
 repeat (first|(with_reducible first|refine mu_seq hK ?_|refine mu_skip hK ?_|(refine mu_region_end hK ?_;try subst hkk)|refine mu_block hK ?_|refine mu_inBlock hK ?_|refine mu_ret hK ?_|refine mu_end hK ?_)|refine mu_exit hK rfl ?_|(with_reducible refine mu_regionH hK (fun kk hkk=>?_);simp only [List.size_toArray,List.length_cons,List.length_nil,Nat.reduceAdd,Nat.zero_add,List.range,List.range.loop])|(with_reducible refine mu_cf hK ?_ ?_;(· first|(walk_nrm;done)|(simp [Act.eval];done)))|(with_reducible refine mu_ct hK ?_ ?_;(· first|(walk_nrm;done)|(simp [Act.eval];done)))|(refine mu_unwanted hK rfl rfl ?_;walk_nrm)|(refine muv_val hV rfl (by first|exact .inl rfl|exact .inr rfl) rfl (by kernel_rfl) (fun J hJ=>?_);go_simp;with_reducible refine hJ _ ?_;clear hJ J;walk_nrm))
 refine yek _ ?_
 clear hK hV key yek K
 refine to0_ex (L:=Lone) rfl rfl rfl (by kernel_rfl) (fun v W=>W.ownsRow 0 70 1 v (k + 1) (xs ++ [.func (.func 48) #[] #[bq mb,bq sb,bq cb,bq hb]]) ∧ Grw VA W (Value.slice fa k fc) v) (fun τ=>?_) fun v2 V2 ⟨s1,s2,s3,s4⟩ hn2=>?_
 · obtain ⟨v',w',a1,a2,a3⟩:=app_row (V:=re VA τ 0) (t:=49) (e:=70) (z:=.nilFunc) (B:=8) Try.underlying49 (by kernel_rfl) (by rfl) (by decide) (by decide) (owns_re rowA) (owns_re litA) (by simp [Value.oneCell']) (by omega)
   exact ⟨v',w',run_app_opm rfl rfl rfl a1,a2,a3⟩
 obtain ⟨yb,yn,yc,rfl⟩:=slice_of s1
 obtain rfl : yn = k + 1:=by
   obtain ⟨_,h⟩:=s1
   rcases h with ⟨h,h0⟩ | ⟨g,cap,cur,h,_⟩
   · injection h with _ h _; omega
   · injection h with _ h _
 walk_nrm
 obtain ⟨K,hK,hV,key,yek⟩:=kKV (L:=Lone) (J:=fun g=>To0 Try.prog (LPost W) Z V2 g) mu_to0 (muv_to0 hn2)
 refine key _ ?_
 repeat (first|(with_reducible first|refine mu_seq hK ?_|refine mu_skip hK ?_|(refine mu_region_end hK ?_;try subst hkk)|refine mu_block hK ?_|refine mu_inBlock hK ?_|refine mu_ret hK ?_|refine mu_end hK ?_)|refine mu_exit hK rfl ?_|(with_reducible refine mu_regionH hK (fun kk hkk=>?_);simp only [List.size_toArray,List.length_cons,List.length_nil,Nat.reduceAdd,Nat.zero_add,List.range,List.range.loop])|(with_reducible refine mu_cf hK ?_ ?_;(· first|(walk_nrm;done)|(simp [Act.eval];done)))|(with_reducible refine mu_ct hK ?_ ?_;(· first|(walk_nrm;done)|(simp [Act.eval];done)))|(refine mu_unwanted hK rfl rfl ?_;walk_nrm)|(refine muv_val hV rfl (by first|exact .inl rfl|exact .inr rfl) rfl (by kernel_rfl) (fun J hJ=>?_);go_simp;with_reducible refine hJ _ ?_;clear hJ J;walk_nrm))
 refine yek _ ?_
 clear hK hV key yek K
 try subst hkk
 refine hK0 _ V2 yb yc ⟨by simp,rfl,rfl,rfl,rfl,rfl,rfl,rfl,rfl,rfl,trivial⟩ hn2 s1 (by have:=kVA.size; omega) (fun b hb hno=>?_) fun b hb=>?_
 · rw [s3 b (by omega) hno]
   exact kVA.keep b hb
 · rcases s4 with h | h
   · exact .inl (h ▸ hb)
   · rw [h] at hb
     have:=Option.some.inj hb
     right; omega
theorem x_r14 (hn : norm V = V) (hT : Fg 53 [(2,.slice pa pl pc),(7,.int .i64 (n : Int)),(8,.pointer (some ⟨mb,0,none⟩)),(9,.pointer (some ⟨cb,0,none⟩)),(10,.pointer (some ⟨sb,0,none⟩)),(11,.pointer (some ⟨hb,0,none⟩)),(12,.func (.func 48) #[] #[bq mb,bq sb,bq cb,bq hb]),(14,.slice fa k fc),(15,.int .i64 (i : Int))] T) (K : ∀ T',Fg 53 [(7,.int .i64 (n : Int)),(8,.pointer (some ⟨mb,0,none⟩)),(9,.pointer (some ⟨cb,0,none⟩)),(10,.pointer (some ⟨sb,0,none⟩)),(11,.pointer (some ⟨hb,0,none⟩))] T' → To0 Try.prog (LPost W) Z V (G (Frame.enter Try.prog 23 #[.slice fa k fc,.slice pa pl pc,.int .i64 200] .normal) (((base 11).at ⟨T',[]⟩ (.inRegion mo14 (2 :: []) :: kt)) :: cs0))) :
   To0 Try.prog (LPost W) Z V (G ((base 11).at ⟨T,[]⟩ (.code m14 :: kt)) cs0):=by
 have hK0:=K
 clear K
 have hbq : ∀ b,bq b = .pointer (some ⟨b,0,none⟩):=fun b=>rfl
 simp only [bq] at *
 obtain ⟨hs,h2,h7,h8,h9,h10,h11,h12,h14,h15,-⟩:=hT
 obtain ⟨f,hf,hT⟩:=array53f T hs
 rw [hT]
 simp only [hf _ _ h2,hf _ _ h7,hf _ _ h8,hf _ _ h9,hf _ _ h10,hf _ _ h11,hf _ _ h12,hf _ _ h14,hf _ _ h15]
 clear hf hs h2 h7 h8 h9 h10 h11 h12 h14 h15
 subst hT
 generalize hX0 : m14 = X0
 simp only [m14,mX14,mX10,mX9,mX8,mX7,mX6,mX5,mX4,mX3,mX1,mB,nva,nvb,Try.f11,Option.getD_some] at hX0
 subst hX0
 obtain ⟨K,hK,hV,key,yek⟩:=kKV (L:=Lone) (J:=fun g=>To0 Try.prog (LPost W) Z V g) mu_to0 (muv_to0 hn)
 refine key _ ?_
 repeat (first|(with_reducible first|refine mu_seq hK ?_|refine mu_skip hK ?_|(refine mu_region_end hK ?_;try subst hkk)|refine mu_block hK ?_|refine mu_inBlock hK ?_|refine mu_ret hK ?_|refine mu_end hK ?_)|refine mu_exit hK rfl ?_|(with_reducible refine mu_regionH hK (fun kk hkk=>?_);simp only [List.size_toArray,List.length_cons,List.length_nil,Nat.reduceAdd,Nat.zero_add,List.range,List.range.loop])|(with_reducible refine mu_cf hK ?_ ?_;(· first|(walk_nrm;done)|(simp [Act.eval];done)))|(with_reducible refine mu_ct hK ?_ ?_;(· first|(walk_nrm;done)|(simp [Act.eval];done)))|(refine mu_unwanted hK rfl rfl ?_;walk_nrm)|(refine muv_val hV rfl (by first|exact .inl rfl|exact .inr rfl) rfl (by kernel_rfl) (fun J hJ=>?_);go_simp;with_reducible refine hJ _ ?_;clear hJ J;walk_nrm))
 refine mu_call hK rfl rfl (by decide) rfl Try.func23 (by kernel_rfl) rfl ?_
 rw [← enter_at (P:=Try.prog) _ Try.func23 rfl]
 walk_nrm
 refine yek _ ?_
 clear hK hV key yek K
 try subst hkk
 refine hK0 _ ⟨by simp,rfl,rfl,rfl,rfl,rfl,trivial⟩
end
end Go.Proofs.Ytibcdikfbhmheaa

namespace Go.Proofs.Ytibcdikfbhmheaa
open Go Go.Conc Go.Proofs
open Go.ConcN (sumTo upd sumTo_upd upd_ne upd_same)
set_option linter.unusedVariables false
section
variable {W V : World} {Z : Cuts} {a u n pl pc lb mb cb sb hb k fc i : Nat} {pa fa : Option Addr} {T : Array Value} {kt : List Item} {v : Value} {xb : Option Addr} {xc : Nat} {qv : Value}
theorem x_live (L : LS W Z V) (hs : T.size = 53) : To0 Try.prog (LPost W) Z V (G ((base 11).at ⟨T,[]⟩ (.code mw2 :: kt)) []):=by
 obtain ⟨f,hf,hT⟩:=array53f T hs
 rw [hT]
 clear hf hs
 subst hT
 generalize hX0 : mw2 = X0
 simp only [mw2,mX1,mB,nva,nvb,nvc,Try.f11,Option.getD_some] at hX0
 subst hX0
 obtain ⟨K,hK,hV,key,yek⟩:=kKV (L:=Lone) (J:=fun g=>To0 Try.prog (LPost W) Z V g) mu_to0 (muv_to0 L.n)
 refine key _ ?_
 repeat (first|(with_reducible first|refine mu_seq hK ?_|refine mu_skip hK ?_|(refine mu_region_end hK ?_;try subst hkk)|refine mu_block hK ?_|refine mu_inBlock hK ?_|refine mu_ret hK ?_|refine mu_end hK ?_)|refine mu_exit hK rfl ?_|(with_reducible refine mu_regionH hK (fun kk hkk=>?_);simp only [List.size_toArray,List.length_cons,List.length_nil,Nat.reduceAdd,Nat.zero_add,List.range,List.range.loop])|(with_reducible refine mu_cf hK ?_ ?_;(· first|(walk_nrm;done)|(simp [Act.eval];done)))|(with_reducible refine mu_ct hK ?_ ?_;(· first|(walk_nrm;done)|(simp [Act.eval];done)))|(refine mu_unwanted hK rfl rfl ?_;walk_nrm)|(refine muv_val hV rfl (by first|exact .inl rfl|exact .inr rfl) rfl (by kernel_rfl) (fun J hJ=>?_);go_simp;with_reducible refine hJ _ ?_;clear hJ J;walk_nrm))
 refine mu_call hK rfl rfl (by decide) rfl Try.func43 (by kernel_rfl) rfl ?_
 rw [← enter_at (P:=Try.prog) _ Try.func43 rfl]
 walk_nrm
 refine yek _ ?_
 clear hK hV key yek K
 refine live28_go L.n L.z fun Zq Vq hnq hzq hoq kq=>?_
 have Lq:=L.next hnq hzq hoq kq
 walk_nrm
 obtain ⟨K,hK,hV,key,yek⟩:=kKV (L:=Lone) (J:=fun g=>To0 Try.prog (LPost W) Zq Vq g) mu_to0 (muv_to0 Lq.n)
 refine key _ ?_
 repeat (first|(with_reducible first|refine mu_seq hK ?_|refine mu_skip hK ?_|(refine mu_region_end hK ?_;try subst hkk)|refine mu_block hK ?_|refine mu_inBlock hK ?_|refine mu_ret hK ?_|refine mu_end hK ?_)|refine mu_exit hK rfl ?_|(with_reducible refine mu_regionH hK (fun kk hkk=>?_);simp only [List.size_toArray,List.length_cons,List.length_nil,Nat.reduceAdd,Nat.zero_add,List.range,List.range.loop])|(with_reducible refine mu_cf hK ?_ ?_;(· first|(walk_nrm;done)|(simp [Act.eval];done)))|(with_reducible refine mu_ct hK ?_ ?_;(· first|(walk_nrm;done)|(simp [Act.eval];done)))|(refine mu_unwanted hK rfl rfl ?_;walk_nrm)|(refine muv_val hV rfl (by first|exact .inl rfl|exact .inr rfl) rfl (by kernel_rfl) (fun J hJ=>?_);go_simp;with_reducible refine hJ _ ?_;clear hJ J;walk_nrm))
 refine yek _ ?_
 clear hK hV key yek K
 exact law_last (by kernel_rfl) rfl rfl Try.func11 rfl rfl Lq.o Lq.k
theorem x_end (L : LS W Z V) (e8 : V.heap[hb]? = some (.cells #[.int .i64 (n : Int)] 3 (0,0))) (e9 : V.cell? ⟨cb,0,none⟩ = some (.slice xb 0 xc)) (e5 : V.cell? ⟨mb,1,none⟩ = some (.int .i64 0)) (hT : Fg 53 [(7,.int .i64 (n : Int)),(8,.pointer (some ⟨mb,0,none⟩)),(9,.pointer (some ⟨cb,0,none⟩)),(10,.pointer (some ⟨sb,0,none⟩)),(11,.pointer (some ⟨hb,0,none⟩))] T) :
   To0 Try.prog (LPost W) Z V (G ((base 11).at (Act.put ⟨T,[]⟩ ((mo14[2]?).bind (·.dst)) v) [.inRegion mo14 [],.code mX15]) []):=by
 have c8 : ∀ τ,(re V τ 0).cell? ⟨hb,0,none⟩ = some (.int .i64 (n : Int)):=fun τ=>cell_of e8 (by simp)
 have c9 : ∀ τ,(re V τ 0).cell? ⟨cb,0,none⟩ = some (.slice xb 0 xc):=fun τ=>e9
 have c5 : ∀ τ,(re V τ 0).cell? ⟨mb,1,none⟩ = some (.int .i64 0):=fun τ=>e5
 have hd : ((mo14[2]?).bind (·.dst)) = some 38:=by kernel_rfl
 rw [hd]
 clear hd e8 e9 e5
 refine mu_region_end mu_to0 ?_
 have hT2 : Fg 53 [(7,.int .i64 (n : Int)),(8,.pointer (some ⟨mb,0,none⟩)),(9,.pointer (some ⟨cb,0,none⟩)),(10,.pointer (some ⟨sb,0,none⟩)),(11,.pointer (some ⟨hb,0,none⟩))] (Act.put ⟨T,[]⟩ (some 38) v).tmps:=by
   obtain ⟨hs,h7,h8,h9,h10,h11,-⟩:=hT
   refine ⟨by simpa [Act.put] using hs,?_,?_,?_,?_,?_,trivial⟩ <;> (simp only [Act.put]; rw [Array.getElem?_setIfInBounds_ne (by decide)]; assumption)
 have hput : Act.put ⟨T,[]⟩ (some 38) v = ⟨(Act.put ⟨T,[]⟩ (some 38) v).tmps,[]⟩:=rfl
 rw [hput]
 generalize (Act.put ⟨T,[]⟩ (some 38) v).tmps = T2 at *
 clear hput hT
 have hT:=hT2
 clear hT2
 obtain ⟨hs,h7,h8,h9,h10,h11,-⟩:=hT
 obtain ⟨f,hf,hT⟩:=array53f T2 hs
 rw [hT]
 simp only [hf _ _ h7,hf _ _ h8,hf _ _ h9,hf _ _ h10,hf _ _ h11]
 clear hf hs h7 h8 h9 h10 h11
 subst hT
 generalize hX0 : mX15 = X0
 simp only [mX15,mX14,mX10,mX9,mX8,mX7,mX6,mX5,mX4,mX3,mX1,mB,nvb,Try.f11,Option.getD_some] at hX0
 subst hX0
 obtain ⟨K,hK,hV,key,yek⟩:=kKV (L:=Lone) (J:=fun g=>To0 Try.prog (LPost W) Z V g) mu_to0 (muv_to0 L.n)
 refine key _ ?_
 repeat (first|(with_reducible first|refine mu_seq hK ?_|refine mu_skip hK ?_|(refine mu_region_end hK ?_;try subst hkk)|refine mu_block hK ?_|refine mu_inBlock hK ?_|refine mu_ret hK ?_|refine mu_end hK ?_)|refine mu_exit hK rfl ?_|(with_reducible refine mu_regionH hK (fun kk hkk=>?_);simp only [List.size_toArray,List.length_cons,List.length_nil,Nat.reduceAdd,Nat.zero_add,List.range,List.range.loop])|(with_reducible refine mu_cf hK ?_ ?_;(· first|(walk_nrm;done)|(simp [Act.eval];done)))|(with_reducible refine mu_ct hK ?_ ?_;(· first|(walk_nrm;done)|(simp [Act.eval];done)))|(refine mu_unwanted hK rfl rfl ?_;walk_nrm)|(refine muv_val hV rfl (by first|exact .inl rfl|exact .inr rfl) rfl (by kernel_rfl) (fun J hJ=>?_);go_simp;with_reducible refine hJ _ ?_;clear hJ J;walk_nrm))
 refine mu_call hK rfl rfl (by decide) rfl Try.func52 (by kernel_rfl) rfl ?_
 rw [← enter_at (P:=Try.prog) _ Try.func52 rfl]
 walk_nrm
 refine wai52c hK hV c9 ?_
 walk_nrm
 repeat (first|(with_reducible first|refine mu_seq hK ?_|refine mu_skip hK ?_|(refine mu_region_end hK ?_;try subst hkk)|refine mu_block hK ?_|refine mu_inBlock hK ?_|refine mu_ret hK ?_|refine mu_end hK ?_)|refine mu_exit hK rfl ?_|(with_reducible refine mu_regionH hK (fun kk hkk=>?_);simp only [List.size_toArray,List.length_cons,List.length_nil,Nat.reduceAdd,Nat.zero_add,List.range,List.range.loop])|(with_reducible refine mu_cf hK ?_ ?_;(· first|(walk_nrm;done)|(simp [Act.eval];done)))|(with_reducible refine mu_ct hK ?_ ?_;(· first|(walk_nrm;done)|(simp [Act.eval];done)))|(refine mu_unwanted hK rfl rfl ?_;walk_nrm)|(refine muv_val hV rfl (by first|exact .inl rfl|exact .inr rfl) rfl (by kernel_rfl) (fun J hJ=>?_);go_simp;with_reducible refine hJ _ ?_;clear hJ J;walk_nrm))
 refine mu_call hK rfl rfl (by decide) rfl Try.func47 (by kernel_rfl) rfl ?_
 rw [← enter_at (P:=Try.prog) _ Try.func47 rfl]
 walk_nrm
 refine own47b hK hV c5 ?_
 walk_nrm
 repeat (first|(with_reducible first|refine mu_seq hK ?_|refine mu_skip hK ?_|(refine mu_region_end hK ?_;try subst hkk)|refine mu_block hK ?_|refine mu_inBlock hK ?_|refine mu_ret hK ?_|refine mu_end hK ?_)|refine mu_exit hK rfl ?_|(with_reducible refine mu_regionH hK (fun kk hkk=>?_);simp only [List.size_toArray,List.length_cons,List.length_nil,Nat.reduceAdd,Nat.zero_add,List.range,List.range.loop])|(with_reducible refine mu_cf hK ?_ ?_;(· first|(walk_nrm;done)|(simp [Act.eval];done)))|(with_reducible refine mu_ct hK ?_ ?_;(· first|(walk_nrm;done)|(simp [Act.eval];done)))|(refine mu_unwanted hK rfl rfl ?_;walk_nrm)|(refine muv_val hV rfl (by first|exact .inl rfl|exact .inr rfl) rfl (by kernel_rfl) (fun J hJ=>?_);go_simp;with_reducible refine hJ _ ?_;clear hJ J;walk_nrm))
 refine mu_call hK rfl rfl (by decide) rfl Try.func43 (by kernel_rfl) rfl ?_
 rw [← enter_at (P:=Try.prog) _ Try.func43 rfl]
 walk_nrm
 refine yek _ ?_
 clear hK hV key yek K
 clear c8 c9 c5
 refine live28_go L.n L.z fun Zq Vq hnq hzq hoq kq=>?_
 have Lq:=L.next hnq hzq hoq kq
 walk_nrm
 obtain ⟨K,hK,hV,key,yek⟩:=kKV (L:=Lone) (J:=fun g=>To0 Try.prog (LPost W) Zq Vq g) mu_to0 (muv_to0 Lq.n)
 refine key _ ?_
 repeat (first|(with_reducible first|refine mu_seq hK ?_|refine mu_skip hK ?_|(refine mu_region_end hK ?_;try subst hkk)|refine mu_block hK ?_|refine mu_inBlock hK ?_|refine mu_ret hK ?_|refine mu_end hK ?_)|refine mu_exit hK rfl ?_|(with_reducible refine mu_regionH hK (fun kk hkk=>?_);simp only [List.size_toArray,List.length_cons,List.length_nil,Nat.reduceAdd,Nat.zero_add,List.range,List.range.loop])|(with_reducible refine mu_cf hK ?_ ?_;(· first|(walk_nrm;done)|(simp [Act.eval];done)))|(with_reducible refine mu_ct hK ?_ ?_;(· first|(walk_nrm;done)|(simp [Act.eval];done)))|(refine mu_unwanted hK rfl rfl ?_;walk_nrm)|(refine muv_val hV rfl (by first|exact .inl rfl|exact .inr rfl) rfl (by kernel_rfl) (fun J hJ=>?_);go_simp;with_reducible refine hJ _ ?_;clear hJ J;walk_nrm))
 refine yek _ ?_
 clear hK hV key yek K
 exact law_last (by kernel_rfl) rfl rfl Try.func11 rfl rfl Lq.o Lq.k
end
end Go.Proofs.Ytibcdikfbhmheaa
