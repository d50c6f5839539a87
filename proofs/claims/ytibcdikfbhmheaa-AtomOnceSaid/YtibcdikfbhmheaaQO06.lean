import Derived.Test.YtibcdikfbhmheaaQO04
import Derived.Test.YtibcdikfbhmheaaQO05
set_option linter.unusedSimpArgs false
set_option linter.unusedVariables false
set_option maxRecDepth 100000
set_option maxHeartbeats 4000000
namespace Go.Proofs.Ytibcdikfbhmheaa
open Go Go.Conc Go.Proofs
open Go.ConcN (sumTo upd sumTo_upd upd_ne upd_same)
set_option linter.unusedVariables false
theorem arrg_QO06 {n : Nat} (T : Array Value) (h : T.size = n) : ∃ f : Nat → Value,(∀ i v,T[i]? = some v → f i = v) ∧ T = ((List.range n).map f).toArray:=by
 refine ⟨fun i=>T.getD i undef,fun i v hv=>by simp [Array.getD_eq_getD_getElem?,hv],?_⟩
 generalize hf : (fun i=>T.getD i undef) = f
 have e : T.toList = (List.range n).map f:=by
   apply List.ext_getElem?
   intro i
   rw [List.getElem?_map,Array.getElem?_toList]
   by_cases hi : i < n
   · rw [List.getElem?_range hi,Option.map_some,← hf]
     simp [Array.getD_eq_getD_getElem?,Array.getElem?_eq_getElem (show i < T.size by omega)]
   · rw [List.getElem?_eq_none (by simp; omega),Array.getElem?_eq_none (by omega)]
     rfl
 rw [← Array.toArray_toList (xs:=T),e]
theorem array104f (T : Array Value) (h : T.size = 104) : ∃ f : Nat → Value,(∀ i v,T[i]? = some v → f i = v) ∧ T = #[f 0,f 1,f 2,f 3,f 4,f 5,f 6,f 7,f 8,f 9,f 10,f 11,f 12,f 13,f 14,f 15,f 16,f 17,f 18,f 19,f 20,f 21,f 22,f 23,f 24,f 25,f 26,f 27,f 28,f 29,f 30,f 31,f 32,f 33,f 34,f 35,f 36,f 37,f 38,f 39,f 40,f 41,f 42,f 43,f 44,f 45,f 46,f 47,f 48,f 49,f 50,f 51,f 52,f 53,f 54,f 55,f 56,f 57,f 58,f 59,f 60,f 61,f 62,f 63,f 64,f 65,f 66,f 67,f 68,f 69,f 70,f 71,f 72,f 73,f 74,f 75,f 76,f 77,f 78,f 79,f 80,f 81,f 82,f 83,f 84,f 85,f 86,f 87,f 88,f 89,f 90,f 91,f 92,f 93,f 94,f 95,f 96,f 97,f 98,f 99,f 100,f 101,f 102,f 103]:=arrg_QO06 T h
def nvc : Code → Code | .cond _ x _=>x | c=>c
noncomputable def pB : Code:=Try.f9.body.getD .skip
noncomputable def p0 : Code:=nva pB
noncomputable def pX1 : Code:=nvb pB
noncomputable def p1 : Code:=nva (nva pX1)
noncomputable def pw2 : Code:=nvc (nvb (nva pX1))
noncomputable def pX3 : Code:=nvb pX1
noncomputable def p3 : Code:=nva pX3
noncomputable def pX4 : Code:=nvb pX3
noncomputable def p4 : Code:=nva pX4
noncomputable def pX5 : Code:=nvb pX4
noncomputable def p5 : Code:=nva pX5
noncomputable def pX6 : Code:=nvb pX5
noncomputable def p6 : Code:=nva pX6
noncomputable def pX7 : Code:=nvb pX6
noncomputable def p7 : Code:=nva (nva pX7)
noncomputable def pL : Code:=nvl (nvk (nvb (nva pX7)))
noncomputable def pX11 : Code:=nvb pX7
noncomputable def p8 : Code:=nva (nva pL)
noncomputable def p10 : Code:=nvk (nva (nvb pL))
noncomputable def p9 : Code:=nvb (nvb pL)
noncomputable def p11 : Code:=nva (nva pX11)
noncomputable def pw12 : Code:=nvc (nvb (nva pX11))
noncomputable def pX13 : Code:=nvb pX11
noncomputable def p13 : Code:=nva pX13
noncomputable def pX14 : Code:=nvb pX13
noncomputable def po13 : Array Oper:=rops p13
theorem pB_eq : pB = .seq p0 (.seq (.seq p1 (.cond (.tmp 18) pw2 .skip)) (.seq p3 (.seq p4 (.seq p5 (.seq p6 (.seq (.seq p7 (.block 0 (.loop pL))) (.seq (.seq p11 (.cond (.tmp 32) pw12 .skip)) (.seq p13 pX14)))))))):=by kernel_rfl
theorem pL_eq : pL = .seq (.seq p8 (.cond (.tmp 25) .skip (.exit 0))) (.seq (.block 1 p10) p9):=by kernel_rfl
section
variable {W V : World} {Z : Cuts} {a n pl pc ob pb cb db k fc i : Nat} {pa fa : Option Addr} {no : Bool} {T : Array Value} {kt : List Item} {cs0 : List Frame}
theorem z_r0 (hn : norm V = V) (hT : Fg 104 [(0,.int .u8 (a : Int)),(1,.slice pa pl pc),(2,.bool no)] T)
   (K : ∀ T',Fg 104 [(0,.int .u8 (a : Int)),(1,.slice pa pl pc),(2,.bool no),(6,.bool false)] T' → To0 Try.prog (LPost W) Z V (G ((base 9).at ⟨T',[]⟩ kt) cs0)) :
   To0 Try.prog (LPost W) Z V (G ((base 9).at ⟨T,[]⟩ (.code p0 :: kt)) cs0):=by
 refine reg_go ⟨_,Try.func9⟩ (by kernel_rfl) K fun τ=>?_
 clear K
 obtain ⟨hs,h0,h1,h2,-⟩:=hT
 obtain ⟨f,hf,hT⟩:=array104f T hs
 rw [hT]
 simp only [hf _ _ h0,hf _ _ h1,hf _ _ h2]
 clear hf hs h0 h1 h2
 subst hT
 simp only [p0,pB,nva,Try.f9,Option.getD_some]
 go_wp2_with fail
 exact ⟨hn,⟨by simp,rfl,rfl,rfl,rfl,trivial⟩⟩
theorem z_r1 (hn : norm V = V) {x : Bool} (hx : decide ((100 : Int) < (pl : Int)) = x) (hT : Fg 104 [(0,.int .u8 (a : Int)),(1,.slice pa pl pc),(2,.bool no),(6,.bool false)] T)
   (K : ∀ T',Fg 104 [(0,.int .u8 (a : Int)),(1,.slice pa pl pc),(2,.bool no),(6,.bool false)] T' → T'[18]? = some (.bool x) → To0 Try.prog (LPost W) Z V (G ((base 9).at ⟨T',[]⟩ kt) cs0)) :
   To0 Try.prog (LPost W) Z V (G ((base 9).at ⟨T,[]⟩ (.code p1 :: kt)) cs0):=by
 refine reg_gb ⟨_,Try.func9⟩ (by kernel_rfl) K fun τ=>?_
 clear K
 obtain ⟨hs,h0,h1,h2,h6,-⟩:=hT
 obtain ⟨f,hf,hT⟩:=array104f T hs
 rw [hT]
 simp only [hf _ _ h0,hf _ _ h1,hf _ _ h2,hf _ _ h6]
 clear hf hs h0 h1 h2 h6
 subst hT
 simp only [p1,pX1,pB,nva,nvb,Try.f9,Option.getD_some]
 cases x <;> go_wp2_with fail
 all_goals (first | exact ⟨hn,⟨by simp,rfl,rfl,rfl,rfl,trivial⟩⟩ | exact ⟨hn,⟨by simp,rfl,rfl,rfl,rfl,trivial⟩,rfl⟩ | (exfalso; simp at hx; omega) | (exfalso; simp at hx hy; omega) | (refine ⟨hn,⟨by simp,rfl,rfl,rfl,rfl,trivial⟩,?_⟩; simp at hx ⊢; omega) | (refine ⟨hn,⟨by simp,rfl,rfl,rfl,rfl,trivial⟩,?_⟩; simp at hx hy ⊢; omega))
theorem z_r3 (hn : norm V = V) (ha : a < 256) (hr : a % 9 = n) (hT : Fg 104 [(0,.int .u8 (a : Int)),(1,.slice pa pl pc),(2,.bool no),(6,.bool false)] T)
   (K : ∀ T',Fg 104 [(1,.slice pa pl pc),(2,.bool no),(6,.bool false),(7,.int .i64 (n : Int))] T' → To0 Try.prog (LPost W) Z V (G ((base 9).at ⟨T',[]⟩ kt) cs0)) :
   To0 Try.prog (LPost W) Z V (G ((base 9).at ⟨T,[]⟩ (.code p3 :: kt)) cs0):=by
 refine reg_go ⟨_,Try.func9⟩ (by kernel_rfl) K fun τ=>?_
 clear K
 have w1 : IntKind.i64.wrap (a : Int) = (a : Int):=by rw [IntKind.wrap_i64]; omega
 have w0 : (a : Int).tmod 9 = (n : Int):=by rw [Int.tmod_eq_emod_of_nonneg (by omega),← hr]; simp
 have w2 : IntKind.i64.wrap (n : Int) = (n : Int):=by rw [IntKind.wrap_i64]; omega
 clear hr
 obtain ⟨hs,h0,h1,h2,h6,-⟩:=hT
 obtain ⟨f,hf,hT⟩:=array104f T hs
 rw [hT]
 simp only [hf _ _ h0,hf _ _ h1,hf _ _ h2,hf _ _ h6]
 clear hf hs h0 h1 h2 h6
 subst hT
 simp only [p3,pX3,pX1,pB,nva,nvb,Try.f9,Option.getD_some]
 go_wp2_with fail
 exact ⟨hn,⟨by simp,rfl,rfl,rfl,rfl,trivial⟩⟩
theorem z_r4 (hn : norm V = V) (hT : Fg 104 [(1,.slice pa pl pc),(2,.bool no),(6,.bool false),(7,.int .i64 (n : Int))] T)
   (K : ∀ T' V',Fg 104 [(1,.slice pa pl pc),(2,.bool no),(6,.bool false),(7,.int .i64 (n : Int)),(8,.pointer (some ⟨V.heap.size,0,none⟩)),(9,.pointer (some ⟨(V.heap.size + 1),0,none⟩))] T' → norm V' = V' → Kp V V' → V'.heap.size = V.heap.size + 2 → V'.heap[V.heap.size]? = some (.cells #[.int .u32 0,.int .i32 0,.int .u32 0,.int .u32 0] 86 (0,0)) → V'.heap[V.heap.size + 1]? = some (.cells #[.int .u32 0,.int .i32 0,.int .u32 0,.int .u32 0] 86 (0,0)) → To0 Try.prog (LPost W) Z V' (G ((base 9).at ⟨T',[]⟩ kt) cs0)) :
   To0 Try.prog (LPost W) Z V (G ((base 9).at ⟨T,[]⟩ (.code p4 :: kt)) cs0):=by
 have hK0:=K
 clear K
 obtain ⟨hs,h1,h2,h6,h7,-⟩:=hT
 obtain ⟨f,hf,hT⟩:=array104f T hs
 rw [hT]
 simp only [hf _ _ h1,hf _ _ h2,hf _ _ h6,hf _ _ h7]
 clear hf hs h1 h2 h6 h7
 subst hT
 generalize hX0 : p4 = X0
 simp only [p4,pX4,pX3,pX1,pB,nva,nvb,Try.f9,Option.getD_some] at hX0
 subst hX0
 obtain ⟨K,hK,hV,key,yek⟩:=kKV (L:=Lone) (J:=fun g=>To0 Try.prog (LPost W) Z V g) mu_to0 (muv_to0 hn)
 refine key _ ?_
 repeat (first|(with_reducible first|refine mu_seq hK ?_|refine mu_skip hK ?_|(refine mu_region_end hK ?_;try subst hkk)|refine mu_block hK ?_|refine mu_inBlock hK ?_|refine mu_ret hK ?_|refine mu_end hK ?_)|refine mu_exit hK rfl ?_|(with_reducible refine mu_regionH hK (fun kk hkk=>?_);simp only [List.size_toArray,List.length_cons,List.length_nil,Nat.reduceAdd,Nat.zero_add,List.range,List.range.loop])|(with_reducible refine mu_cf hK ?_ ?_;(· first|(walk_nrm;done)|(simp [Act.eval];done)))|(with_reducible refine mu_ct hK ?_ ?_;(· first|(walk_nrm;done)|(simp [Act.eval];done)))|(refine mu_unwanted hK rfl rfl ?_;walk_nrm)|(refine muv_val hV rfl (by first|exact .inl rfl|exact .inr rfl) rfl (by kernel_rfl) (fun J hJ=>?_);go_simp;with_reducible refine hJ _ ?_;clear hJ J;walk_nrm))
 refine yek _ ?_
 clear hK hV key yek K
 have hnA : norm (V.alloc (.cells #[.int .u32 0,.int .i32 0,.int .u32 0,.int .u32 0] 86)) = (V.alloc (.cells #[.int .u32 0,.int .i32 0,.int .u32 0,.int .u32 0] 86)):=norm_al hn _
 refine mua_put (L:=Lone) (v:=.pointer (some ⟨V.heap.size,0,none⟩)) (mua_to0 hnA) (K:=fun g=>To0 Try.prog (LPost W) Z V g) (K':=fun g=>To0 Try.prog (LPost W) Z (V.alloc (.cells #[.int .u32 0,.int .i32 0,.int .u32 0,.int .u32 0] 86)) g) rfl (.inl rfl) rfl (by kernel_rfl) (fun τ=>?_) ?_
 · go_simp
   first | exact ⟨by first | rfl | assumption | (simp only [re]; omega),rfl⟩ | rfl | (simp; done)
 have eVA : (V.alloc (.cells #[.int .u32 0,.int .i32 0,.int .u32 0,.int .u32 0] 86)).heap[V.heap.size]? = some (.cells #[.int .u32 0,.int .i32 0,.int .u32 0,.int .u32 0] 86 (0,0)):=by rw [al_get,if_pos rfl]
 have sVA : (V.alloc (.cells #[.int .u32 0,.int .i32 0,.int .u32 0,.int .u32 0] 86)).heap.size = V.heap.size + 1:=by rw [al_size]
 have kVA : Kp V (V.alloc (.cells #[.int .u32 0,.int .i32 0,.int .u32 0,.int .u32 0] 86)):=⟨by rw [sVA]; omega,fun b hb=>by rw [al_get,if_neg (by omega)]⟩
 generalize (V.alloc (.cells #[.int .u32 0,.int .i32 0,.int .u32 0,.int .u32 0] 86)) = VA at *
 walk_nrm
 obtain ⟨K,hK,hV,key,yek⟩:=kKV (L:=Lone) (J:=fun g=>To0 Try.prog (LPost W) Z VA g) mu_to0 (muv_to0 hnA)
 refine key _ ?_
 repeat (first|(with_reducible first|refine mu_seq hK ?_|refine mu_skip hK ?_|(refine mu_region_end hK ?_;try subst hkk)|refine mu_block hK ?_|refine mu_inBlock hK ?_|refine mu_ret hK ?_|refine mu_end hK ?_)|refine mu_exit hK rfl ?_|(with_reducible refine mu_regionH hK (fun kk hkk=>?_);simp only [List.size_toArray,List.length_cons,List.length_nil,Nat.reduceAdd,Nat.zero_add,List.range,List.range.loop])|(with_reducible refine mu_cf hK ?_ ?_;(· first|(walk_nrm;done)|(simp [Act.eval];done)))|(with_reducible refine mu_ct hK ?_ ?_;(· first|(walk_nrm;done)|(simp [Act.eval];done)))|(refine mu_unwanted hK rfl rfl ?_;walk_nrm)|(refine muv_val hV rfl (by first|exact .inl rfl|exact .inr rfl) rfl (by kernel_rfl) (fun J hJ=>?_);go_simp;with_reducible refine hJ _ ?_;clear hJ J;walk_nrm))
 refine yek _ ?_
 clear hK hV key yek K
 have hnB : norm (VA.alloc (.cells #[.int .u32 0,.int .i32 0,.int .u32 0,.int .u32 0] 86)) = (VA.alloc (.cells #[.int .u32 0,.int .i32 0,.int .u32 0,.int .u32 0] 86)):=norm_al hnA _
 refine mua_put (L:=Lone) (v:=.pointer (some ⟨VA.heap.size,0,none⟩)) (mua_to0 hnB) (K:=fun g=>To0 Try.prog (LPost W) Z VA g) (K':=fun g=>To0 Try.prog (LPost W) Z (VA.alloc (.cells #[.int .u32 0,.int .i32 0,.int .u32 0,.int .u32 0] 86)) g) rfl (.inl rfl) rfl (by kernel_rfl) (fun τ=>?_) ?_
 · go_simp
   first | exact ⟨by first | rfl | assumption | (simp only [re]; omega),rfl⟩ | rfl | (simp; done)
 have eVB : (VA.alloc (.cells #[.int .u32 0,.int .i32 0,.int .u32 0,.int .u32 0] 86)).heap[VA.heap.size]? = some (.cells #[.int .u32 0,.int .i32 0,.int .u32 0,.int .u32 0] 86 (0,0)):=by rw [al_get,if_pos rfl]
 have sVB : (VA.alloc (.cells #[.int .u32 0,.int .i32 0,.int .u32 0,.int .u32 0] 86)).heap.size = VA.heap.size + 1:=by rw [al_size]
 have kVB : Kp VA (VA.alloc (.cells #[.int .u32 0,.int .i32 0,.int .u32 0,.int .u32 0] 86)):=⟨by rw [sVB]; omega,fun b hb=>by rw [al_get,if_neg (by omega)]⟩
 generalize (VA.alloc (.cells #[.int .u32 0,.int .i32 0,.int .u32 0,.int .u32 0] 86)) = VB at *
 walk_nrm
 have eA2 : VB.heap[V.heap.size]? = some (.cells #[.int .u32 0,.int .i32 0,.int .u32 0,.int .u32 0] 86 (0,0)):=(kVB.keep _ (by omega)).trans eVA
 have kAB : Kp V VB:=kVA.trans kVB
 have sAB : VB.heap.size = V.heap.size + 2:=by omega
 rw [sVA] at eVB
 simp only [sVA]
 clear eVA kVA kVB sVB sVA hnA
 obtain ⟨K,hK,hV,key,yek⟩:=kKV (L:=Lone) (J:=fun g=>To0 Try.prog (LPost W) Z VB g) mu_to0 (muv_to0 hnB)
 refine key _ ?_
 repeat (first|(with_reducible first|refine mu_seq hK ?_|refine mu_skip hK ?_|(refine mu_region_end hK ?_;try subst hkk)|refine mu_block hK ?_|refine mu_inBlock hK ?_|refine mu_ret hK ?_|refine mu_end hK ?_)|refine mu_exit hK rfl ?_|(with_reducible refine mu_regionH hK (fun kk hkk=>?_);simp only [List.size_toArray,List.length_cons,List.length_nil,Nat.reduceAdd,Nat.zero_add,List.range,List.range.loop])|(with_reducible refine mu_cf hK ?_ ?_;(· first|(walk_nrm;done)|(simp [Act.eval];done)))|(with_reducible refine mu_ct hK ?_ ?_;(· first|(walk_nrm;done)|(simp [Act.eval];done)))|(refine mu_unwanted hK rfl rfl ?_;walk_nrm)|(refine muv_val hV rfl (by first|exact .inl rfl|exact .inr rfl) rfl (by kernel_rfl) (fun J hJ=>?_);go_simp;with_reducible refine hJ _ ?_;clear hJ J;walk_nrm))
 refine yek _ ?_
 clear hK hV key yek K
 try subst hkk
 exact hK0 _ VB ⟨by simp,rfl,rfl,rfl,rfl,rfl,rfl,trivial⟩ hnB kAB sAB eA2 eVB
theorem z_r5 (hn : norm V = V) (hT : Fg 104 [(1,.slice pa pl pc),(2,.bool no),(6,.bool false),(7,.int .i64 (n : Int)),(8,.pointer (some ⟨ob,0,none⟩)),(9,.pointer (some ⟨pb,0,none⟩))] T)
   (K : ∀ T' V',Fg 104 [(1,.slice pa pl pc),(2,.bool no),(6,.bool false),(7,.int .i64 (n : Int)),(8,.pointer (some ⟨ob,0,none⟩)),(9,.pointer (some ⟨pb,0,none⟩)),(10,.pointer (some ⟨V.heap.size,0,none⟩)),(11,.pointer (some ⟨(V.heap.size + 1),0,none⟩))] T' → norm V' = V' → Kp V V' → V'.heap.size = V.heap.size + 2 → V'.heap[V.heap.size]? = some (.cells #[.int .i64 0] 3 (0,0)) → V'.heap[V.heap.size + 1]? = some (.cells #[.int .i64 0] 3 (0,0)) → To0 Try.prog (LPost W) Z V' (G ((base 9).at ⟨T',[]⟩ kt) cs0)) :
   To0 Try.prog (LPost W) Z V (G ((base 9).at ⟨T,[]⟩ (.code p5 :: kt)) cs0):=by
 have hK0:=K
 clear K
 obtain ⟨hs,h1,h2,h6,h7,h8,h9,-⟩:=hT
 obtain ⟨f,hf,hT⟩:=array104f T hs
 rw [hT]
 simp only [hf _ _ h1,hf _ _ h2,hf _ _ h6,hf _ _ h7,hf _ _ h8,hf _ _ h9]
 clear hf hs h1 h2 h6 h7 h8 h9
 subst hT
 generalize hX0 : p5 = X0
 simp only [p5,pX5,pX4,pX3,pX1,pB,nva,nvb,Try.f9,Option.getD_some] at hX0
 subst hX0
 obtain ⟨K,hK,hV,key,yek⟩:=kKV (L:=Lone) (J:=fun g=>To0 Try.prog (LPost W) Z V g) mu_to0 (muv_to0 hn)
 refine key _ ?_
 repeat (first|(with_reducible first|refine mu_seq hK ?_|refine mu_skip hK ?_|(refine mu_region_end hK ?_;try subst hkk)|refine mu_block hK ?_|refine mu_inBlock hK ?_|refine mu_ret hK ?_|refine mu_end hK ?_)|refine mu_exit hK rfl ?_|(with_reducible refine mu_regionH hK (fun kk hkk=>?_);simp only [List.size_toArray,List.length_cons,List.length_nil,Nat.reduceAdd,Nat.zero_add,List.range,List.range.loop])|(with_reducible refine mu_cf hK ?_ ?_;(· first|(walk_nrm;done)|(simp [Act.eval];done)))|(with_reducible refine mu_ct hK ?_ ?_;(· first|(walk_nrm;done)|(simp [Act.eval];done)))|(refine mu_unwanted hK rfl rfl ?_;walk_nrm)|(refine muv_val hV rfl (by first|exact .inl rfl|exact .inr rfl) rfl (by kernel_rfl) (fun J hJ=>?_);go_simp;with_reducible refine hJ _ ?_;clear hJ J;walk_nrm))
 refine yek _ ?_
 clear hK hV key yek K
 have hnA : norm (V.alloc (.cells #[.int .i64 0] 3)) = (V.alloc (.cells #[.int .i64 0] 3)):=norm_al hn _
 refine mua_put (L:=Lone) (v:=.pointer (some ⟨V.heap.size,0,none⟩)) (mua_to0 hnA) (K:=fun g=>To0 Try.prog (LPost W) Z V g) (K':=fun g=>To0 Try.prog (LPost W) Z (V.alloc (.cells #[.int .i64 0] 3)) g) rfl (.inl rfl) rfl (by kernel_rfl) (fun τ=>?_) ?_
 · go_simp
   first | exact ⟨by first | rfl | assumption | (simp only [re]; omega),rfl⟩ | rfl | (simp; done)
 have eVA : (V.alloc (.cells #[.int .i64 0] 3)).heap[V.heap.size]? = some (.cells #[.int .i64 0] 3 (0,0)):=by rw [al_get,if_pos rfl]
 have sVA : (V.alloc (.cells #[.int .i64 0] 3)).heap.size = V.heap.size + 1:=by rw [al_size]
 have kVA : Kp V (V.alloc (.cells #[.int .i64 0] 3)):=⟨by rw [sVA]; omega,fun b hb=>by rw [al_get,if_neg (by omega)]⟩
 generalize (V.alloc (.cells #[.int .i64 0] 3)) = VA at *
 walk_nrm
 obtain ⟨K,hK,hV,key,yek⟩:=kKV (L:=Lone) (J:=fun g=>To0 Try.prog (LPost W) Z VA g) mu_to0 (muv_to0 hnA)
 refine key _ ?_
 repeat (first|(with_reducible first|refine mu_seq hK ?_|refine mu_skip hK ?_|(refine mu_region_end hK ?_;try subst hkk)|refine mu_block hK ?_|refine mu_inBlock hK ?_|refine mu_ret hK ?_|refine mu_end hK ?_)|refine mu_exit hK rfl ?_|(with_reducible refine mu_regionH hK (fun kk hkk=>?_);simp only [List.size_toArray,List.length_cons,List.length_nil,Nat.reduceAdd,Nat.zero_add,List.range,List.range.loop])|(with_reducible refine mu_cf hK ?_ ?_;(· first|(walk_nrm;done)|(simp [Act.eval];done)))|(with_reducible refine mu_ct hK ?_ ?_;(· first|(walk_nrm;done)|(simp [Act.eval];done)))|(refine mu_unwanted hK rfl rfl ?_;walk_nrm)|(refine muv_val hV rfl (by first|exact .inl rfl|exact .inr rfl) rfl (by kernel_rfl) (fun J hJ=>?_);go_simp;with_reducible refine hJ _ ?_;clear hJ J;walk_nrm))
 refine yek _ ?_
 clear hK hV key yek K
 have hnB : norm (VA.alloc (.cells #[.int .i64 0] 3)) = (VA.alloc (.cells #[.int .i64 0] 3)):=norm_al hnA _
 refine mua_put (L:=Lone) (v:=.pointer (some ⟨VA.heap.size,0,none⟩)) (mua_to0 hnB) (K:=fun g=>To0 Try.prog (LPost W) Z VA g) (K':=fun g=>To0 Try.prog (LPost W) Z (VA.alloc (.cells #[.int .i64 0] 3)) g) rfl (.inl rfl) rfl (by kernel_rfl) (fun τ=>?_) ?_
 · go_simp
   first | exact ⟨by first | rfl | assumption | (simp only [re]; omega),rfl⟩ | rfl | (simp; done)
 have eVB : (VA.alloc (.cells #[.int .i64 0] 3)).heap[VA.heap.size]? = some (.cells #[.int .i64 0] 3 (0,0)):=by rw [al_get,if_pos rfl]
 have sVB : (VA.alloc (.cells #[.int .i64 0] 3)).heap.size = VA.heap.size + 1:=by rw [al_size]
 have kVB : Kp VA (VA.alloc (.cells #[.int .i64 0] 3)):=⟨by rw [sVB]; omega,fun b hb=>by rw [al_get,if_neg (by omega)]⟩
 generalize (VA.alloc (.cells #[.int .i64 0] 3)) = VB at *
 walk_nrm
 have eA2 : VB.heap[V.heap.size]? = some (.cells #[.int .i64 0] 3 (0,0)):=(kVB.keep _ (by omega)).trans eVA
 have kAB : Kp V VB:=kVA.trans kVB
 have sAB : VB.heap.size = V.heap.size + 2:=by omega
 rw [sVA] at eVB
 simp only [sVA]
 clear eVA kVA kVB sVB sVA hnA
 generalize hb9 : V.heap.size = b9 at *
 try walk_nrm
 have r0VS : ∀ τ,(re VB τ 0).cell? ⟨b9,0,none⟩ = some (.int .i64 0):=fun τ=>cell_of eA2 (by simp)
 have z0VS : ∀ τ,(re VB τ 0).frozen? ⟨b9,0,none⟩ = false:=fun τ=>by simp [World.frozen?,re,eA2]
 have hnVS : norm (VB.setCell ⟨b9,0,none⟩ (.int .i64 0)) = (VB.setCell ⟨b9,0,none⟩ (.int .i64 0)):=(norm_set hnB _ _)
 refine mus_put (L:=Lone) (mus_to0 hnVS) (K:=fun g=>To0 Try.prog (LPost W) Z VB g) (K':=fun g=>To0 Try.prog (LPost W) Z (VB.setCell ⟨b9,0,none⟩ (.int .i64 0)) g) rfl (.inl rfl) rfl (by kernel_rfl) (fun τ=>?_) ?_
 · go_simp
   try rfl
 have kVS : ∀ b,b ≠ b9 → (VB.setCell ⟨b9,0,none⟩ (.int .i64 0)).heap[b]? = VB.heap[b]?:=fun b hb=>by rw [setCell_heap,if_neg hb]
 have eVS : (VB.setCell ⟨b9,0,none⟩ (.int .i64 0)).heap[b9]? = some (.cells #[.int .i64 0] 3 (0,0)):=by
   rw [setCell_heap,if_pos rfl,eA2]
   simp
 have sVS : (VB.setCell ⟨b9,0,none⟩ (.int .i64 0)).heap.size = VB.heap.size:=by simp [World.setCell]
 generalize (VB.setCell ⟨b9,0,none⟩ (.int .i64 0)) = VS at *
 clear r0VS z0VS
 walk_nrm
 have e11 : VS.heap[b9 + 1]? = some (.cells #[.int .i64 0] 3 (0,0)):=(kVS _ (by omega)).trans eVB
 generalize hb8 : b9 + 1 = b8 at *
 have r0VT : ∀ τ,(re VS τ 0).cell? ⟨b8,0,none⟩ = some (.int .i64 0):=fun τ=>cell_of e11 (by simp)
 have z0VT : ∀ τ,(re VS τ 0).frozen? ⟨b8,0,none⟩ = false:=fun τ=>by simp [World.frozen?,re,e11]
 have hnVT : norm (VS.setCell ⟨b8,0,none⟩ (.int .i64 0)) = (VS.setCell ⟨b8,0,none⟩ (.int .i64 0)):=(norm_set hnVS _ _)
 refine mus_put (L:=Lone) (mus_to0 hnVT) (K:=fun g=>To0 Try.prog (LPost W) Z VS g) (K':=fun g=>To0 Try.prog (LPost W) Z (VS.setCell ⟨b8,0,none⟩ (.int .i64 0)) g) rfl (.inl rfl) rfl (by kernel_rfl) (fun τ=>?_) ?_
 · go_simp
   try rfl
 have kVT : ∀ b,b ≠ b8 → (VS.setCell ⟨b8,0,none⟩ (.int .i64 0)).heap[b]? = VS.heap[b]?:=fun b hb=>by rw [setCell_heap,if_neg hb]
 have eVT : (VS.setCell ⟨b8,0,none⟩ (.int .i64 0)).heap[b8]? = some (.cells #[.int .i64 0] 3 (0,0)):=by
   rw [setCell_heap,if_pos rfl,e11]
   simp
 have sVT : (VS.setCell ⟨b8,0,none⟩ (.int .i64 0)).heap.size = VS.heap.size:=by simp [World.setCell]
 generalize (VS.setCell ⟨b8,0,none⟩ (.int .i64 0)) = VT at *
 clear r0VT z0VT
 walk_nrm
 obtain ⟨K,hK,hV,key,yek⟩:=kKV (L:=Lone) (J:=fun g=>To0 Try.prog (LPost W) Z VT g) mu_to0 (muv_to0 hnVT)
 refine key _ ?_
 repeat (first|(with_reducible first|refine mu_seq hK ?_|refine mu_skip hK ?_|(refine mu_region_end hK ?_;try subst hkk)|refine mu_block hK ?_|refine mu_inBlock hK ?_|refine mu_ret hK ?_|refine mu_end hK ?_)|refine mu_exit hK rfl ?_|(with_reducible refine mu_regionH hK (fun kk hkk=>?_);simp only [List.size_toArray,List.length_cons,List.length_nil,Nat.reduceAdd,Nat.zero_add,List.range,List.range.loop])|(with_reducible refine mu_cf hK ?_ ?_;(· first|(walk_nrm;done)|(simp [Act.eval];done)))|(with_reducible refine mu_ct hK ?_ ?_;(· first|(walk_nrm;done)|(simp [Act.eval];done)))|(refine mu_unwanted hK rfl rfl ?_;walk_nrm)|(refine muv_val hV rfl (by first|exact .inl rfl|exact .inr rfl) rfl (by kernel_rfl) (fun J hJ=>?_);go_simp;with_reducible refine hJ _ ?_;clear hJ J;walk_nrm))
 refine yek _ ?_
 clear hK hV key yek K
 try subst hkk
 exact hK0 _ VT ⟨by simp,rfl,rfl,rfl,rfl,rfl,rfl,rfl,rfl,trivial⟩ hnVT ⟨by omega,fun b hb=>(kVT b (by omega)).trans ((kVS b (by omega)).trans (kAB.keep b (by omega)))⟩ (by omega) ((kVT b9 (by omega)).trans eVS) eVT
theorem z_r6 (hn : norm V = V) (hT : Fg 104 [(1,.slice pa pl pc),(2,.bool no),(6,.bool false),(7,.int .i64 (n : Int)),(8,.pointer (some ⟨ob,0,none⟩)),(9,.pointer (some ⟨pb,0,none⟩)),(10,.pointer (some ⟨cb,0,none⟩)),(11,.pointer (some ⟨db,0,none⟩))] T)
   (K : ∀ T',Fg 104 [(1,.slice pa pl pc),(2,.bool no),(6,.bool false),(7,.int .i64 (n : Int)),(8,.pointer (some ⟨ob,0,none⟩)),(9,.pointer (some ⟨pb,0,none⟩)),(10,.pointer (some ⟨cb,0,none⟩)),(11,.pointer (some ⟨db,0,none⟩)),(12,.slice none 0 0)] T' → To0 Try.prog (LPost W) Z V (G ((base 9).at ⟨T',[]⟩ kt) cs0)) :
   To0 Try.prog (LPost W) Z V (G ((base 9).at ⟨T,[]⟩ (.code p6 :: kt)) cs0):=by
 refine reg_go ⟨_,Try.func9⟩ (by kernel_rfl) K fun τ=>?_
 clear K
 obtain ⟨hs,h1,h2,h6,h7,h8,h9,h10,h11,-⟩:=hT
 obtain ⟨f,hf,hT⟩:=array104f T hs
 rw [hT]
 simp only [hf _ _ h1,hf _ _ h2,hf _ _ h6,hf _ _ h7,hf _ _ h8,hf _ _ h9,hf _ _ h10,hf _ _ h11]
 clear hf hs h1 h2 h6 h7 h8 h9 h10 h11
 subst hT
 simp only [p6,pX6,pX5,pX4,pX3,pX1,pB,nva,nvb,Try.f9,Option.getD_some]
 go_wp2_with fail
 exact ⟨hn,⟨by simp,rfl,rfl,rfl,rfl,rfl,rfl,rfl,rfl,rfl,trivial⟩⟩
theorem z_r7 (hn : norm V = V) (hT : Fg 104 [(1,.slice pa pl pc),(2,.bool no),(6,.bool false),(7,.int .i64 (n : Int)),(8,.pointer (some ⟨ob,0,none⟩)),(9,.pointer (some ⟨pb,0,none⟩)),(10,.pointer (some ⟨cb,0,none⟩)),(11,.pointer (some ⟨db,0,none⟩)),(12,.slice fa k fc)] T)
   (K : ∀ T',Fg 104 [(1,.slice pa pl pc),(2,.bool no),(6,.bool false),(7,.int .i64 (n : Int)),(8,.pointer (some ⟨ob,0,none⟩)),(9,.pointer (some ⟨pb,0,none⟩)),(10,.pointer (some ⟨cb,0,none⟩)),(11,.pointer (some ⟨db,0,none⟩)),(12,.slice fa k fc),(13,.int .i64 0)] T' → To0 Try.prog (LPost W) Z V (G ((base 9).at ⟨T',[]⟩ kt) cs0)) :
   To0 Try.prog (LPost W) Z V (G ((base 9).at ⟨T,[]⟩ (.code p7 :: kt)) cs0):=by
 refine reg_go ⟨_,Try.func9⟩ (by kernel_rfl) K fun τ=>?_
 clear K
 obtain ⟨hs,h1,h2,h6,h7,h8,h9,h10,h11,h12,-⟩:=hT
 obtain ⟨f,hf,hT⟩:=array104f T hs
 rw [hT]
 simp only [hf _ _ h1,hf _ _ h2,hf _ _ h6,hf _ _ h7,hf _ _ h8,hf _ _ h9,hf _ _ h10,hf _ _ h11,hf _ _ h12]
 clear hf hs h1 h2 h6 h7 h8 h9 h10 h11 h12
 subst hT
 simp only [p7,pX7,pX6,pX5,pX4,pX3,pX1,pB,nva,nvb,Try.f9,Option.getD_some]
 go_wp2_with fail
 exact ⟨hn,⟨by simp,rfl,rfl,rfl,rfl,rfl,rfl,rfl,rfl,rfl,rfl,trivial⟩⟩
theorem z_r8 (hn : norm V = V) {x : Bool} (hx : decide ((i : Int) < (n : Int)) = x) (hT : Fg 104 [(1,.slice pa pl pc),(2,.bool no),(6,.bool false),(7,.int .i64 (n : Int)),(8,.pointer (some ⟨ob,0,none⟩)),(9,.pointer (some ⟨pb,0,none⟩)),(10,.pointer (some ⟨cb,0,none⟩)),(11,.pointer (some ⟨db,0,none⟩)),(12,.slice fa k fc),(13,.int .i64 (i : Int))] T)
   (K : ∀ T',Fg 104 [(1,.slice pa pl pc),(2,.bool no),(6,.bool false),(7,.int .i64 (n : Int)),(8,.pointer (some ⟨ob,0,none⟩)),(9,.pointer (some ⟨pb,0,none⟩)),(10,.pointer (some ⟨cb,0,none⟩)),(11,.pointer (some ⟨db,0,none⟩)),(12,.slice fa k fc),(13,.int .i64 (i : Int))] T' → T'[25]? = some (.bool x) → To0 Try.prog (LPost W) Z V (G ((base 9).at ⟨T',[]⟩ kt) cs0)) :
   To0 Try.prog (LPost W) Z V (G ((base 9).at ⟨T,[]⟩ (.code p8 :: kt)) cs0):=by
 refine reg_gb ⟨_,Try.func9⟩ (by kernel_rfl) K fun τ=>?_
 clear K
 obtain ⟨hs,h1,h2,h6,h7,h8,h9,h10,h11,h12,h13,-⟩:=hT
 obtain ⟨f,hf,hT⟩:=array104f T hs
 rw [hT]
 simp only [hf _ _ h1,hf _ _ h2,hf _ _ h6,hf _ _ h7,hf _ _ h8,hf _ _ h9,hf _ _ h10,hf _ _ h11,hf _ _ h12,hf _ _ h13]
 clear hf hs h1 h2 h6 h7 h8 h9 h10 h11 h12 h13
 subst hT
 simp only [p8,pL,pX7,pX6,pX5,pX4,pX3,pX1,pB,nva,nvb,nvk,nvl,Try.f9,Option.getD_some]
 cases x <;> go_wp2_with fail
 all_goals (first | exact ⟨hn,⟨by simp,rfl,rfl,rfl,rfl,rfl,rfl,rfl,rfl,rfl,rfl,trivial⟩⟩ | exact ⟨hn,⟨by simp,rfl,rfl,rfl,rfl,rfl,rfl,rfl,rfl,rfl,rfl,trivial⟩,rfl⟩ | (exfalso; simp at hx; omega) | (exfalso; simp at hx hy; omega) | (refine ⟨hn,⟨by simp,rfl,rfl,rfl,rfl,rfl,rfl,rfl,rfl,rfl,rfl,trivial⟩,?_⟩; simp at hx ⊢; omega) | (refine ⟨hn,⟨by simp,rfl,rfl,rfl,rfl,rfl,rfl,rfl,rfl,rfl,rfl,trivial⟩,?_⟩; simp at hx hy ⊢; omega))
theorem z_r9 (hn : norm V = V) (hk : i < 1000000) (hT : Fg 104 [(1,.slice pa pl pc),(2,.bool no),(6,.bool false),(7,.int .i64 (n : Int)),(8,.pointer (some ⟨ob,0,none⟩)),(9,.pointer (some ⟨pb,0,none⟩)),(10,.pointer (some ⟨cb,0,none⟩)),(11,.pointer (some ⟨db,0,none⟩)),(12,.slice fa k fc),(13,.int .i64 (i : Int))] T)
   (K : ∀ T',Fg 104 [(1,.slice pa pl pc),(2,.bool no),(6,.bool false),(7,.int .i64 (n : Int)),(8,.pointer (some ⟨ob,0,none⟩)),(9,.pointer (some ⟨pb,0,none⟩)),(10,.pointer (some ⟨cb,0,none⟩)),(11,.pointer (some ⟨db,0,none⟩)),(12,.slice fa k fc),(13,.int .i64 ((i + 1 : Nat) : Int))] T' → To0 Try.prog (LPost W) Z V (G ((base 9).at ⟨T',[]⟩ kt) cs0)) :
   To0 Try.prog (LPost W) Z V (G ((base 9).at ⟨T,[]⟩ (.code p9 :: kt)) cs0):=by
 refine reg_go ⟨_,Try.func9⟩ (by kernel_rfl) K fun τ=>?_
 clear K
 have w1 : IntKind.i64.wrap ((i : Int) + 1) = ((i + 1 : Nat) : Int):=by rw [IntKind.wrap_i64]; omega
 obtain ⟨hs,h1,h2,h6,h7,h8,h9,h10,h11,h12,h13,-⟩:=hT
 obtain ⟨f,hf,hT⟩:=array104f T hs
 rw [hT]
 simp only [hf _ _ h1,hf _ _ h2,hf _ _ h6,hf _ _ h7,hf _ _ h8,hf _ _ h9,hf _ _ h10,hf _ _ h11,hf _ _ h12,hf _ _ h13]
 clear hf hs h1 h2 h6 h7 h8 h9 h10 h11 h12 h13
 subst hT
 simp only [p9,pL,pX7,pX6,pX5,pX4,pX3,pX1,pB,nva,nvb,nvk,nvl,Try.f9,Option.getD_some]
 go_wp2_with fail
 exact ⟨hn,⟨by simp,rfl,rfl,rfl,rfl,rfl,rfl,rfl,rfl,rfl,rfl,trivial⟩⟩
theorem z_r10 (hn : norm V = V) {xs : List Value} (hrow : V.ownsRow 0 70 1 (Value.slice fa k fc) k xs) (hm : k < 900000000) (hT : Fg 104 [(1,.slice pa pl pc),(2,.bool no),(6,.bool false),(7,.int .i64 (n : Int)),(8,.pointer (some ⟨ob,0,none⟩)),(9,.pointer (some ⟨pb,0,none⟩)),(10,.pointer (some ⟨cb,0,none⟩)),(11,.pointer (some ⟨db,0,none⟩)),(12,Value.slice fa k fc),(13,.int .i64 (i : Int))] T)
   (K : ∀ T' V' wa wc,Fg 104 [(1,.slice pa pl pc),(2,.bool no),(6,.bool false),(7,.int .i64 (n : Int)),(8,.pointer (some ⟨ob,0,none⟩)),(9,.pointer (some ⟨pb,0,none⟩)),(10,.pointer (some ⟨cb,0,none⟩)),(11,.pointer (some ⟨db,0,none⟩)),(12,.slice wa (k + 1) wc),(13,.int .i64 (i : Int))] T' → norm V' = V' → V'.ownsRow 0 70 1 (.slice wa (k + 1) wc) (k + 1) (xs ++ [.func (.func 35) #[] #[.pointer (some ⟨ob,0,none⟩),.pointer (some ⟨cb,0,none⟩),.pointer (some ⟨db,0,none⟩)]]) → V.heap.size ≤ V'.heap.size → (∀ b,b < V.heap.size → (Value.slice fa k fc).ownBlock ≠ some b → V'.heap[b]? = V.heap[b]?) → (∀ b,(Value.slice wa (k + 1) wc).ownBlock = some b → (Value.slice fa k fc).ownBlock = some b ∨ V.heap.size ≤ b) → To0 Try.prog (LPost W) Z V' (G ((base 9).at ⟨T',[]⟩ kt) cs0)) :
   To0 Try.prog (LPost W) Z V (G ((base 9).at ⟨T,[]⟩ (.code p10 :: kt)) cs0):=by
 have hK0:=K
 clear K
 obtain ⟨hs,h1,h2,h6,h7,h8,h9,h10,h11,h12,h13,-⟩:=hT
 obtain ⟨f,hf,hT⟩:=array104f T hs
 rw [hT]
 simp only [hf _ _ h1,hf _ _ h2,hf _ _ h6,hf _ _ h7,hf _ _ h8,hf _ _ h9,hf _ _ h10,hf _ _ h11,hf _ _ h12,hf _ _ h13]
 clear hf hs h1 h2 h6 h7 h8 h9 h10 h11 h12 h13
 subst hT
 generalize hX0 : p10 = X0
 simp only [p10,pL,pX7,pX6,pX5,pX4,pX3,pX1,pB,nva,nvb,nvk,nvl,Try.f9,Option.getD_some] at hX0
 subst hX0
 obtain ⟨K,hK,hV,key,yek⟩:=kKV (L:=Lone) (J:=fun g=>To0 Try.prog (LPost W) Z V g) mu_to0 (muv_to0 hn)
 refine key _ ?_
 repeat (first|(with_reducible first|refine mu_seq hK ?_|refine mu_skip hK ?_|(refine mu_region_end hK ?_;try subst hkk)|refine mu_block hK ?_|refine mu_inBlock hK ?_|refine mu_ret hK ?_|refine mu_end hK ?_)|refine mu_exit hK rfl ?_|(with_reducible refine mu_regionH hK (fun kk hkk=>?_);simp only [List.size_toArray,List.length_cons,List.length_nil,Nat.reduceAdd,Nat.zero_add,List.range,List.range.loop])|(with_reducible refine mu_cf hK ?_ ?_;(· first|(walk_nrm;done)|(simp [Act.eval];done)))|(with_reducible refine mu_ct hK ?_ ?_;(· first|(walk_nrm;done)|(simp [Act.eval];done)))|(refine mu_unwanted hK rfl rfl ?_;walk_nrm)|(refine muv_val hV rfl (by first|exact .inl rfl|exact .inr rfl) rfl (by kernel_rfl) (fun J hJ=>?_);go_simp;with_reducible refine hJ _ ?_;clear hJ J;walk_nrm))
 refine yek _ ?_
 clear hK hV key yek K
 have hnA : norm (V.alloc (.cells #[.func (.func 35) #[] #[.pointer (some ⟨ob,0,none⟩),.pointer (some ⟨cb,0,none⟩),.pointer (some ⟨db,0,none⟩)]] 70)) = (V.alloc (.cells #[.func (.func 35) #[] #[.pointer (some ⟨ob,0,none⟩),.pointer (some ⟨cb,0,none⟩),.pointer (some ⟨db,0,none⟩)]] 70)):=norm_al hn _
 refine mua_put (L:=Lone) (v:=.slice (some ⟨V.heap.size,0,none⟩) 1 1) (mua_to0 hnA) (K:=fun g=>To0 Try.prog (LPost W) Z V g) (K':=fun g=>To0 Try.prog (LPost W) Z (V.alloc (.cells #[.func (.func 35) #[] #[.pointer (some ⟨ob,0,none⟩),.pointer (some ⟨cb,0,none⟩),.pointer (some ⟨db,0,none⟩)]] 70)) g) rfl (.inl rfl) rfl (by kernel_rfl) (fun τ=>?_) ?_
 · go_simp
   first | exact ⟨by first | rfl | assumption | (simp only [re]; omega),rfl⟩ | rfl | (simp; done)
 have eVA : (V.alloc (.cells #[.func (.func 35) #[] #[.pointer (some ⟨ob,0,none⟩),.pointer (some ⟨cb,0,none⟩),.pointer (some ⟨db,0,none⟩)]] 70)).heap[V.heap.size]? = some (.cells #[.func (.func 35) #[] #[.pointer (some ⟨ob,0,none⟩),.pointer (some ⟨cb,0,none⟩),.pointer (some ⟨db,0,none⟩)]] 70 (0,0)):=by rw [al_get,if_pos rfl]
 have sVA : (V.alloc (.cells #[.func (.func 35) #[] #[.pointer (some ⟨ob,0,none⟩),.pointer (some ⟨cb,0,none⟩),.pointer (some ⟨db,0,none⟩)]] 70)).heap.size = V.heap.size + 1:=by rw [al_size]
 have kVA : Kp V (V.alloc (.cells #[.func (.func 35) #[] #[.pointer (some ⟨ob,0,none⟩),.pointer (some ⟨cb,0,none⟩),.pointer (some ⟨db,0,none⟩)]] 70)):=⟨by rw [sVA]; omega,fun b hb=>by rw [al_get,if_neg (by omega)]⟩
 generalize (V.alloc (.cells #[.func (.func 35) #[] #[.pointer (some ⟨ob,0,none⟩),.pointer (some ⟨cb,0,none⟩),.pointer (some ⟨db,0,none⟩)]] 70)) = VA at *
 walk_nrm
 have rowA : VA.ownsRow 0 70 1 (Value.slice fa k fc) k xs:=row_keep hrow fun b hb=>kVA.keep b (row_at hrow hb)
 have litA : VA.ownsRow 0 70 1 (.slice (some ⟨V.heap.size,0,none⟩) 1 1) 1 [.func (.func 35) #[] #[.pointer (some ⟨ob,0,none⟩),.pointer (some ⟨cb,0,none⟩),.pointer (some ⟨db,0,none⟩)]]:=⟨rfl,.inr ⟨V.heap.size,1,#[.func (.func 35) #[] #[.pointer (some ⟨ob,0,none⟩),.pointer (some ⟨cb,0,none⟩),.pointer (some ⟨db,0,none⟩)]],rfl,Nat.zero_le _,eVA,Nat.le_refl _,by simp [maxLen],rfl,rfl⟩⟩
 obtain ⟨K,hK,hV,key,yek⟩:=kKV (L:=Lone) (J:=fun g=>To0 Try.prog (LPost W) Z VA g) mu_to0 (muv_to0 hnA)
 refine key _ ?_
 repeat (first|(with_reducible first|refine mu_seq hK ?_|refine mu_skip hK ?_|(refine mu_region_end hK ?_;try subst hkk)|refine mu_block hK ?_|refine mu_inBlock hK ?_|refine mu_ret hK ?_|refine mu_end hK ?_)|refine mu_exit hK rfl ?_|(with_reducible refine mu_regionH hK (fun kk hkk=>?_);simp only [List.size_toArray,List.length_cons,List.length_nil,Nat.reduceAdd,Nat.zero_add,List.range,List.range.loop])|(with_reducible refine mu_cf hK ?_ ?_;(· first|(walk_nrm;done)|(simp [Act.eval];done)))|(with_reducible refine mu_ct hK ?_ ?_;(· first|(walk_nrm;done)|(simp [Act.eval];done)))|(refine mu_unwanted hK rfl rfl ?_;walk_nrm)|(refine muv_val hV rfl (by first|exact .inl rfl|exact .inr rfl) rfl (by kernel_rfl) (fun J hJ=>?_);go_simp;with_reducible refine hJ _ ?_;clear hJ J;walk_nrm))
 refine yek _ ?_
 clear hK hV key yek K
 refine to0_ex (L:=Lone) rfl rfl rfl (by kernel_rfl) (fun v W=>W.ownsRow 0 70 1 v (k + 1) (xs ++ [.func (.func 35) #[] #[.pointer (some ⟨ob,0,none⟩),.pointer (some ⟨cb,0,none⟩),.pointer (some ⟨db,0,none⟩)]]) ∧ Grw VA W (Value.slice fa k fc) v) (fun τ=>?_) fun v2 V2 ⟨s1,s2,s3,s4⟩ hn2=>?_
 · obtain ⟨v',w',a1,a2,a3⟩:=app_row (V:=re VA τ 0) (t:=49) (e:=70) (z:=.nilFunc) (B:=8) Try.underlying49 (by kernel_rfl) (by rfl) (by decide) (by decide) (owns_re rowA) (owns_re litA) (by simp [Value.oneCell']) (by omega)
   exact ⟨v',w',run_app_opm rfl rfl rfl a1,a2,a3⟩
 obtain ⟨yb,yn,yc,rfl⟩:=slice_of s1
 obtain rfl : yn = k + 1:=by
   obtain ⟨_,h⟩:=s1
   rcases h with ⟨h,h0⟩ | ⟨g,cap,cur,h,_⟩
   · injection h with _ h _; omega
   · injection h with _ h _
 walk_nrm
 obtain ⟨K,hK,hV,key,yek⟩:=kKV (L:=Lone) (J:=fun g=>To0 Try.prog (LPost W) Z V2 g) mu_to0 (muv_to0 hn2)
 refine key _ ?_
 repeat (first|(with_reducible first|refine mu_seq hK ?_|refine mu_skip hK ?_|(refine mu_region_end hK ?_;try subst hkk)|refine mu_block hK ?_|refine mu_inBlock hK ?_|refine mu_ret hK ?_|refine mu_end hK ?_)|refine mu_exit hK rfl ?_|(with_reducible refine mu_regionH hK (fun kk hkk=>?_);simp only [List.size_toArray,List.length_cons,List.length_nil,Nat.reduceAdd,Nat.zero_add,List.range,List.range.loop])|(with_reducible refine mu_cf hK ?_ ?_;(· first|(walk_nrm;done)|(simp [Act.eval];done)))|(with_reducible refine mu_ct hK ?_ ?_;(· first|(walk_nrm;done)|(simp [Act.eval];done)))|(refine mu_unwanted hK rfl rfl ?_;walk_nrm)|(refine muv_val hV rfl (by first|exact .inl rfl|exact .inr rfl) rfl (by kernel_rfl) (fun J hJ=>?_);go_simp;with_reducible refine hJ _ ?_;clear hJ J;walk_nrm))
 refine yek _ ?_
 clear hK hV key yek K
 try subst hkk
 refine hK0 _ V2 yb yc ⟨by simp,rfl,rfl,rfl,rfl,rfl,rfl,rfl,rfl,rfl,rfl,trivial⟩ hn2 s1 (by have:=kVA.size; omega) (fun b hb hno=>?_) fun b hb=>?_
 · rw [s3 b (by omega) hno]
   exact kVA.keep b hb
 · rcases s4 with h | h
   · exact .inl (h ▸ hb)
   · rw [h] at hb
     have:=Option.some.inj hb
     right; omega
theorem z_r11 (hn : norm V = V) (hc : V.cell? ⟨ob,3,none⟩ = some (.int .u32 0)) (hT : Fg 104 [(1,.slice pa pl pc),(2,.bool no),(6,.bool false),(7,.int .i64 (n : Int)),(8,.pointer (some ⟨ob,0,none⟩)),(9,.pointer (some ⟨pb,0,none⟩)),(10,.pointer (some ⟨cb,0,none⟩)),(11,.pointer (some ⟨db,0,none⟩)),(12,.slice fa k fc),(13,.int .i64 (i : Int))] T) (K : ∀ T',Fg 104 [(1,.slice pa pl pc),(2,.bool no),(6,.bool false),(7,.int .i64 (n : Int)),(8,.pointer (some ⟨ob,0,none⟩)),(9,.pointer (some ⟨pb,0,none⟩)),(10,.pointer (some ⟨cb,0,none⟩)),(11,.pointer (some ⟨db,0,none⟩)),(12,.slice fa k fc),(13,.int .i64 (i : Int))] T' → T'[32]? = some (.bool false) → To0 Try.prog (LPost W) Z V (G ((base 9).at ⟨T',[]⟩ kt) cs0)) :
   To0 Try.prog (LPost W) Z V (G ((base 9).at ⟨T,[]⟩ (.code p11 :: kt)) cs0):=by
 have hK0:=K
 clear K
 obtain ⟨hs,h1,h2,h6,h7,h8,h9,h10,h11,h12,h13,-⟩:=hT
 obtain ⟨f,hf,hT⟩:=array104f T hs
 rw [hT]
 simp only [hf _ _ h1,hf _ _ h2,hf _ _ h6,hf _ _ h7,hf _ _ h8,hf _ _ h9,hf _ _ h10,hf _ _ h11,hf _ _ h12,hf _ _ h13]
 clear hf hs h1 h2 h6 h7 h8 h9 h10 h11 h12 h13
 subst hT
 generalize hX0 : p11 = X0
 simp only [p11,pX11,pX7,pX6,pX5,pX4,pX3,pX1,pB,nva,nvb,Try.f9,Option.getD_some] at hX0
 subst hX0
 obtain ⟨K,hK,hV,key,yek⟩:=kKV (L:=Lone) (J:=fun g=>To0 Try.prog (LPost W) Z V g) mu_to0 (muv_to0 hn)
 refine key _ ?_
 repeat (first|(with_reducible first|refine mu_seq hK ?_|refine mu_skip hK ?_|(refine mu_region_end hK ?_;try subst hkk)|refine mu_block hK ?_|refine mu_inBlock hK ?_|refine mu_ret hK ?_|refine mu_end hK ?_)|refine mu_exit hK rfl ?_|(with_reducible refine mu_regionH hK (fun kk hkk=>?_);simp only [List.size_toArray,List.length_cons,List.length_nil,Nat.reduceAdd,Nat.zero_add,List.range,List.range.loop])|(with_reducible refine mu_cf hK ?_ ?_;(· first|(walk_nrm;done)|(simp [Act.eval];done)))|(with_reducible refine mu_ct hK ?_ ?_;(· first|(walk_nrm;done)|(simp [Act.eval];done)))|(refine mu_unwanted hK rfl rfl ?_;walk_nrm)|(refine muv_val hV rfl (by first|exact .inl rfl|exact .inr rfl) rfl (by kernel_rfl) (fun J hJ=>?_);go_simp;with_reducible refine hJ _ ?_;clear hJ J;walk_nrm))
 refine mu_call hK rfl rfl (by decide) rfl Try.func38 (by kernel_rfl) rfl ?_
 rw [← enter_at (P:=Try.prog) _ Try.func38 rfl]
 walk_nrm
 refine yek _ ?_
 clear hK hV key yek K
 refine o38f (KK:=fun d g V=>To0d Try.prog (LPost W) Z d V g) (d:=0) markTo0 hn hc ?_
 show To0 Try.prog (LPost W) Z V _
 walk_nrm
 obtain ⟨K,hK,hV,key,yek⟩:=kKV (L:=Lone) (J:=fun g=>To0 Try.prog (LPost W) Z V g) mu_to0 (muv_to0 hn)
 refine key _ ?_
 repeat (first|(with_reducible first|refine mu_seq hK ?_|refine mu_skip hK ?_|(refine mu_region_end hK ?_;try subst hkk)|refine mu_block hK ?_|refine mu_inBlock hK ?_|refine mu_ret hK ?_|refine mu_end hK ?_)|refine mu_exit hK rfl ?_|(with_reducible refine mu_regionH hK (fun kk hkk=>?_);simp only [List.size_toArray,List.length_cons,List.length_nil,Nat.reduceAdd,Nat.zero_add,List.range,List.range.loop])|(with_reducible refine mu_cf hK ?_ ?_;(· first|(walk_nrm;done)|(simp [Act.eval];done)))|(with_reducible refine mu_ct hK ?_ ?_;(· first|(walk_nrm;done)|(simp [Act.eval];done)))|(refine mu_unwanted hK rfl rfl ?_;walk_nrm)|(refine muv_val hV rfl (by first|exact .inl rfl|exact .inr rfl) rfl (by kernel_rfl) (fun J hJ=>?_);go_simp;with_reducible refine hJ _ ?_;clear hJ J;walk_nrm))
 refine yek _ ?_
 clear hK hV key yek K
 try subst hkk
 exact hK0 _ ⟨by simp,rfl,rfl,rfl,rfl,rfl,rfl,rfl,rfl,rfl,rfl,trivial⟩ rfl
theorem z_r13 (hn : norm V = V) (hT : Fg 104 [(1,.slice pa pl pc),(2,.bool no),(6,.bool false),(7,.int .i64 (n : Int)),(8,.pointer (some ⟨ob,0,none⟩)),(9,.pointer (some ⟨pb,0,none⟩)),(10,.pointer (some ⟨cb,0,none⟩)),(11,.pointer (some ⟨db,0,none⟩)),(12,.slice fa k fc),(13,.int .i64 (i : Int))] T) (K : ∀ T',Fg 104 [(2,.bool no),(6,.bool false),(7,.int .i64 (n : Int)),(8,.pointer (some ⟨ob,0,none⟩)),(9,.pointer (some ⟨pb,0,none⟩)),(10,.pointer (some ⟨cb,0,none⟩)),(11,.pointer (some ⟨db,0,none⟩))] T' → To0 Try.prog (LPost W) Z V (G (Frame.enter Try.prog 23 #[.slice fa k fc,.slice pa pl pc,.int .i64 3] .normal) (((base 9).at ⟨T',[]⟩ (.inRegion po13 (2 :: []) :: kt)) :: cs0))) :
   To0 Try.prog (LPost W) Z V (G ((base 9).at ⟨T,[]⟩ (.code p13 :: kt)) cs0):=by
 have hK0:=K
 clear K
 obtain ⟨hs,h1,h2,h6,h7,h8,h9,h10,h11,h12,h13,-⟩:=hT
 obtain ⟨f,hf,hT⟩:=array104f T hs
 rw [hT]
 simp only [hf _ _ h1,hf _ _ h2,hf _ _ h6,hf _ _ h7,hf _ _ h8,hf _ _ h9,hf _ _ h10,hf _ _ h11,hf _ _ h12,hf _ _ h13]
 clear hf hs h1 h2 h6 h7 h8 h9 h10 h11 h12 h13
 subst hT
 generalize hX0 : p13 = X0
 simp only [p13,pX13,pX11,pX7,pX6,pX5,pX4,pX3,pX1,pB,nva,nvb,Try.f9,Option.getD_some] at hX0
 subst hX0
 obtain ⟨K,hK,hV,key,yek⟩:=kKV (L:=Lone) (J:=fun g=>To0 Try.prog (LPost W) Z V g) mu_to0 (muv_to0 hn)
 refine key _ ?_
 repeat (first|(with_reducible first|refine mu_seq hK ?_|refine mu_skip hK ?_|(refine mu_region_end hK ?_;try subst hkk)|refine mu_block hK ?_|refine mu_inBlock hK ?_|refine mu_ret hK ?_|refine mu_end hK ?_)|refine mu_exit hK rfl ?_|(with_reducible refine mu_regionH hK (fun kk hkk=>?_);simp only [List.size_toArray,List.length_cons,List.length_nil,Nat.reduceAdd,Nat.zero_add,List.range,List.range.loop])|(with_reducible refine mu_cf hK ?_ ?_;(· first|(walk_nrm;done)|(simp [Act.eval];done)))|(with_reducible refine mu_ct hK ?_ ?_;(· first|(walk_nrm;done)|(simp [Act.eval];done)))|(refine mu_unwanted hK rfl rfl ?_;walk_nrm)|(refine muv_val hV rfl (by first|exact .inl rfl|exact .inr rfl) rfl (by kernel_rfl) (fun J hJ=>?_);go_simp;with_reducible refine hJ _ ?_;clear hJ J;walk_nrm))
 refine mu_call hK rfl rfl (by decide) rfl Try.func23 (by kernel_rfl) rfl ?_
 rw [← enter_at (P:=Try.prog) _ Try.func23 rfl]
 walk_nrm
 refine yek _ ?_
 clear hK hV key yek K
 try subst hkk
 refine hK0 _ ⟨by simp,rfl,rfl,rfl,rfl,rfl,rfl,rfl,trivial⟩
theorem z_live (L : LS W Z V) (hs : T.size = 104) : To0 Try.prog (LPost W) Z V (G ((base 9).at ⟨T,[]⟩ (.code pw2 :: kt)) []):=by
 obtain ⟨f,hf,hT⟩:=array104f T hs
 rw [hT]
 clear hf hs
 subst hT
 generalize hX0 : pw2 = X0
 simp only [pw2,pX1,pB,nva,nvb,nvc,Try.f9,Option.getD_some] at hX0
 subst hX0
 obtain ⟨K,hK,hV,key,yek⟩:=kKV (L:=Lone) (J:=fun g=>To0 Try.prog (LPost W) Z V g) mu_to0 (muv_to0 L.n)
 refine key _ ?_
 repeat (first|(with_reducible first|refine mu_seq hK ?_|refine mu_skip hK ?_|(refine mu_region_end hK ?_;try subst hkk)|refine mu_block hK ?_|refine mu_inBlock hK ?_|refine mu_ret hK ?_|refine mu_end hK ?_)|refine mu_exit hK rfl ?_|(with_reducible refine mu_regionH hK (fun kk hkk=>?_);simp only [List.size_toArray,List.length_cons,List.length_nil,Nat.reduceAdd,Nat.zero_add,List.range,List.range.loop])|(with_reducible refine mu_cf hK ?_ ?_;(· first|(walk_nrm;done)|(simp [Act.eval];done)))|(with_reducible refine mu_ct hK ?_ ?_;(· first|(walk_nrm;done)|(simp [Act.eval];done)))|(refine mu_unwanted hK rfl rfl ?_;walk_nrm)|(refine muv_val hV rfl (by first|exact .inl rfl|exact .inr rfl) rfl (by kernel_rfl) (fun J hJ=>?_);go_simp;with_reducible refine hJ _ ?_;clear hJ J;walk_nrm))
 refine mu_call hK rfl rfl (by decide) rfl Try.func28 (by kernel_rfl) rfl ?_
 rw [← enter_at (P:=Try.prog) _ Try.func28 rfl]
 walk_nrm
 refine yek _ ?_
 clear hK hV key yek K
 refine live28_go L.n fun Vq hnq kq=>?_
 have Lq:=L.same hnq kq
 walk_nrm
 obtain ⟨K,hK,hV,key,yek⟩:=kKV (L:=Lone) (J:=fun g=>To0 Try.prog (LPost W) Z Vq g) mu_to0 (muv_to0 Lq.n)
 refine key _ ?_
 repeat (first|(with_reducible first|refine mu_seq hK ?_|refine mu_skip hK ?_|(refine mu_region_end hK ?_;try subst hkk)|refine mu_block hK ?_|refine mu_inBlock hK ?_|refine mu_ret hK ?_|refine mu_end hK ?_)|refine mu_exit hK rfl ?_|(with_reducible refine mu_regionH hK (fun kk hkk=>?_);simp only [List.size_toArray,List.length_cons,List.length_nil,Nat.reduceAdd,Nat.zero_add,List.range,List.range.loop])|(with_reducible refine mu_cf hK ?_ ?_;(· first|(walk_nrm;done)|(simp [Act.eval];done)))|(with_reducible refine mu_ct hK ?_ ?_;(· first|(walk_nrm;done)|(simp [Act.eval];done)))|(refine mu_unwanted hK rfl rfl ?_;walk_nrm)|(refine muv_val hV rfl (by first|exact .inl rfl|exact .inr rfl) rfl (by kernel_rfl) (fun J hJ=>?_);go_simp;with_reducible refine hJ _ ?_;clear hJ J;walk_nrm))
 refine yek _ ?_
 clear hK hV key yek K
 exact law_last (by kernel_rfl) rfl rfl Try.func9 rfl rfl Lq.o Lq.k
end
end Go.Proofs.Ytibcdikfbhmheaa
