import Derived.Test.YtibcdikfbhmheaaQN04
import Derived.Test.YtibcdikfbhmheaaB14
import Derived.Test.YtibcdikfbhmheaaQN02
import Derived.Test.YtibcdikfbhmheaaB25
set_option linter.unusedSimpArgs false
set_option linter.unusedVariables false
set_option maxRecDepth 100000
set_option maxHeartbeats 4000000
namespace Go.Proofs.Ytibcdikfbhmheaa
open Go Go.Conc Go.Proofs
open Go.ConcN (sumTo upd sumTo_upd upd_ne upd_same)
set_option linter.unusedVariables false
section
variable {V : World} {Z : Cuts} {Post : Value → World → Prop} {pl pc Rn rb sb n k j : Nat} {pa : Option Addr} {T : Array Value} {kt : List Item} {cs0 : List Frame}
end
section
variable {V0 V V1 W : World} {n lc i sb rb : Nat} {la : Option Addr} {acts : Nat → List (Int × Int)} {ra : Nat → Option Addr} {rc : Nat → Nat} {x : TS × List Nat} {v : Value}
theorem RS.self (S : RS V0 n la lc acts x v V) : RS V n la lc acts x v V:=⟨S.nrm,Kp.refl V,S.out,S.le,S.cnt⟩
theorem RS.back (S : RS V n la lc acts x v V1) (h : Kp V0 V) : RS V0 n la lc acts x v V1:=⟨S.nrm,h.trans S.kp,S.out,S.le,S.cnt⟩
theorem RS.put (S : RS V0 n la lc acts x v V) {c : Array Value} (hb : V.heap[sb]? = some (.cells c 34 (0,0))) (hlo : V0.heap.size ≤ sb) (hoff : ∀ b,b ≠ sb → W.heap[b]? = V.heap[b]?) (hsz : W.heap.size = V.heap.size) (hn : norm W = W) : RS V0 n la lc acts x v W:=by
 obtain ⟨nrm,kp,⟨av,ov,pv,odv,lgv,e,r1,r2,r3,r4,r5⟩,le,cnt⟩:=S
 refine ⟨hn,⟨by rw [hsz]; exact kp.size,fun b h=>by rw [hoff b (by omega)]; exact kp.keep b h⟩,⟨av,ov,pv,odv,lgv,e,row_keep r1 fun b h=>hoff b fun e=>own_tyK r1 hb (by decide) (e ▸ h),row_keep r2 fun b h=>hoff b fun e=>own_tyK r2 hb (by decide) (e ▸ h),row_keep r3 fun b h=>hoff b fun e=>own_tyK r3 hb (by decide) (e ▸ h),row_keep r4 fun b h=>hoff b fun e=>own_tyK r4 hb (by decide) (e ▸ h),row_keep r5 fun b h=>hoff b fun e=>own_tyK r5 hb (by decide) (e ▸ h)⟩,le,cnt⟩
end
end Go.Proofs.Ytibcdikfbhmheaa

namespace Go.Proofs.Ytibcdikfbhmheaa
open Go Go.Conc Go.Proofs
open Go.ConcN (sumTo upd sumTo_upd upd_ne upd_same)
set_option linter.unusedVariables false
def Fxg : List (Nat × Value) → Array Value → Prop
 | [],_=>True
 | (j,v) :: l,T=>T[j]? = some v ∧ Fxg l T
def Fg (z : Nat) (l : List (Nat × Value)) (T : Array Value) : Prop:=T.size = z ∧ Fxg l T
end Go.Proofs.Ytibcdikfbhmheaa

namespace Go.Proofs.Ytibcdikfbhmheaa
open Go Go.Conc Go.Proofs
open Go.ConcN (sumTo upd sumTo_upd upd_ne upd_same)
set_option linter.unusedVariables false
theorem arrg_QN05 {n : Nat} (T : Array Value) (h : T.size = n) : ∃ f : Nat → Value,(∀ i v,T[i]? = some v → f i = v) ∧ T = ((List.range n).map f).toArray:=by
 refine ⟨fun i=>T.getD i undef,fun i v hv=>by simp [Array.getD_eq_getD_getElem?,hv],?_⟩
 generalize hf : (fun i=>T.getD i undef) = f
 have e : T.toList = (List.range n).map f:=by
   apply List.ext_getElem?
   intro i
   rw [List.getElem?_map,Array.getElem?_toList]
   by_cases hi : i < n
   · rw [List.getElem?_range hi,Option.map_some,← hf]
     simp [Array.getD_eq_getD_getElem?,Array.getElem?_eq_getElem (show i < T.size by omega)]
   · rw [List.getElem?_eq_none (by simp; omega),Array.getElem?_eq_none (by omega)]
     rfl
 rw [← Array.toArray_toList (xs:=T),e]
theorem array50f (T : Array Value) (h : T.size = 50) : ∃ f : Nat → Value,(∀ i v,T[i]? = some v → f i = v) ∧ T = #[f 0,f 1,f 2,f 3,f 4,f 5,f 6,f 7,f 8,f 9,f 10,f 11,f 12,f 13,f 14,f 15,f 16,f 17,f 18,f 19,f 20,f 21,f 22,f 23,f 24,f 25,f 26,f 27,f 28,f 29,f 30,f 31,f 32,f 33,f 34,f 35,f 36,f 37,f 38,f 39,f 40,f 41,f 42,f 43,f 44,f 45,f 46,f 47,f 48,f 49]:=arrg_QN05 T h
noncomputable def zB : Code:=Try.f13.body.getD .skip
noncomputable def z0 : Code:=nva zB
noncomputable def zX1 : Code:=nvb zB
noncomputable def z1 : Code:=nva zX1
noncomputable def zX2 : Code:=nvb zX1
noncomputable def z2 : Code:=nva zX2
noncomputable def zX3 : Code:=nvb zX2
noncomputable def z3 : Code:=nva zX3
noncomputable def zX4 : Code:=nvb zX3
noncomputable def z4 : Code:=nva zX4
noncomputable def zX5 : Code:=nvb zX4
noncomputable def z5 : Code:=nva zX5
noncomputable def zX6 : Code:=nvb zX5
noncomputable def z6 : Code:=nva zX6
noncomputable def zX7 : Code:=nvb zX6
noncomputable def z7 : Code:=nva zX7
noncomputable def zX8 : Code:=nvb zX7
noncomputable def z8 : Code:=nva zX8
noncomputable def zX9 : Code:=nvb zX8
noncomputable def z9 : Code:=nva zX9
noncomputable def zo7 : Array Oper:=rops z7
theorem zB_eq : zB = .seq z0 (.seq z1 (.seq z2 (.seq z3 (.seq z4 (.seq z5 (.seq z6 (.seq z7 (.seq z8 (.seq z9 .ret))))))))):=by simp only [z9,zX9,z8,zX8,z7,zX7,z6,zX6,z5,zX5,z4,zX4,z3,zX3,z2,zX2,z1,zX1,z0,zB,nva,nvb,Try.f13,Option.getD_some]
section
variable {W V : World} {Z : Cuts} {yb mb cb rb kb eb : Nat} {u : Int} {T : Array Value} {kt : List Item} {cs0 : List Frame}
theorem v_r0 (hn : norm V = V) (hT : Fg 50 [(0,.int .u8 u)] T)
   (K : ∀ T' V',Fg 50 [(1,.pointer (some ⟨V.heap.size,0,none⟩)),(2,.bool false)] T' → norm V' = V' → Kp V V' → V'.heap.size = V.heap.size + 1 → V'.heap[V.heap.size]? = some (.cells #[.int .u8 u] 5 (0,0)) → To0 Try.prog (LPost W) Z V' (G ((base 13).at ⟨T',[]⟩ kt) cs0)) :
   To0 Try.prog (LPost W) Z V (G ((base 13).at ⟨T,[]⟩ (.code z0 :: kt)) cs0):=by
 have hK0:=K
 clear K
 obtain ⟨hs,h0,-⟩:=hT
 obtain ⟨f,hf,hT⟩:=array50f T hs
 rw [hT]
 simp only [hf _ _ h0]
 clear hf hs h0
 subst hT
 generalize hX0 : z0 = X0
 simp only [z0,zB,nva,Try.f13,Option.getD_some] at hX0
 subst hX0
 obtain ⟨K,hK,hV,key,yek⟩:=kKV (L:=Lone) (J:=fun g=>To0 Try.prog (LPost W) Z V g) mu_to0 (muv_to0 hn)
 refine key _ ?_
 repeat (first|(with_reducible first|refine mu_seq hK ?_|refine mu_skip hK ?_|(refine mu_region_end hK ?_;try subst hkk)|refine mu_block hK ?_|refine mu_inBlock hK ?_|refine mu_ret hK ?_|refine mu_end hK ?_)|refine mu_exit hK rfl ?_|(with_reducible refine mu_regionH hK (fun kk hkk=>?_);simp only [List.size_toArray,List.length_cons,List.length_nil,Nat.reduceAdd,Nat.zero_add,List.range,List.range.loop])|(with_reducible refine mu_cf hK ?_ ?_;(· first|(walk_nrm;done)|(simp [Act.eval];done)))|(with_reducible refine mu_ct hK ?_ ?_;(· first|(walk_nrm;done)|(simp [Act.eval];done)))|(refine mu_unwanted hK rfl rfl ?_;walk_nrm)|(refine muv_val hV rfl (by first|exact .inl rfl|exact .inr rfl) rfl (by kernel_rfl) (fun J hJ=>?_);go_simp;with_reducible refine hJ _ ?_;clear hJ J;walk_nrm))
 refine yek _ ?_
 clear hK hV key yek K
 have hnA : norm (V.alloc (.cells #[.int .u8 u] 5)) = (V.alloc (.cells #[.int .u8 u] 5)):=norm_al hn _
 refine mua_put (L:=Lone) (v:=.pointer (some ⟨V.heap.size,0,none⟩)) (mua_to0 hnA) (K:=fun g=>To0 Try.prog (LPost W) Z V g) (K':=fun g=>To0 Try.prog (LPost W) Z (V.alloc (.cells #[.int .u8 u] 5)) g) rfl (.inl rfl) rfl (by kernel_rfl) (fun τ=>?_) ?_
 · go_simp
   first | exact ⟨by first | rfl | assumption | (simp only [re]; omega),rfl⟩ | rfl | (simp; done)
 have eVA : (V.alloc (.cells #[.int .u8 u] 5)).heap[V.heap.size]? = some (.cells #[.int .u8 u] 5 (0,0)):=by rw [al_get,if_pos rfl]
 have sVA : (V.alloc (.cells #[.int .u8 u] 5)).heap.size = V.heap.size + 1:=by rw [al_size]
 have kVA : Kp V (V.alloc (.cells #[.int .u8 u] 5)):=⟨by rw [sVA]; omega,fun b hb=>by rw [al_get,if_neg (by omega)]⟩
 generalize (V.alloc (.cells #[.int .u8 u] 5)) = VA at *
 walk_nrm
 obtain ⟨K,hK,hV,key,yek⟩:=kKV (L:=Lone) (J:=fun g=>To0 Try.prog (LPost W) Z VA g) mu_to0 (muv_to0 hnA)
 refine key _ ?_
 repeat (first|(with_reducible first|refine mu_seq hK ?_|refine mu_skip hK ?_|(refine mu_region_end hK ?_;try subst hkk)|refine mu_block hK ?_|refine mu_inBlock hK ?_|refine mu_ret hK ?_|refine mu_end hK ?_)|refine mu_exit hK rfl ?_|(with_reducible refine mu_regionH hK (fun kk hkk=>?_);simp only [List.size_toArray,List.length_cons,List.length_nil,Nat.reduceAdd,Nat.zero_add,List.range,List.range.loop])|(with_reducible refine mu_cf hK ?_ ?_;(· first|(walk_nrm;done)|(simp [Act.eval];done)))|(with_reducible refine mu_ct hK ?_ ?_;(· first|(walk_nrm;done)|(simp [Act.eval];done)))|(refine mu_unwanted hK rfl rfl ?_;walk_nrm)|(refine muv_val hV rfl (by first|exact .inl rfl|exact .inr rfl) rfl (by kernel_rfl) (fun J hJ=>?_);go_simp;with_reducible refine hJ _ ?_;clear hJ J;walk_nrm))
 refine yek _ ?_
 clear hK hV key yek K
 try subst hkk
 exact hK0 _ VA ⟨by simp,rfl,rfl,trivial⟩ hnA kVA sVA eVA
theorem v_r1 (hn : norm V = V) (hT : Fg 50 [(1,.pointer (some ⟨yb,0,none⟩)),(2,.bool false)] T)
   (K : ∀ T' V',Fg 50 [(1,.pointer (some ⟨yb,0,none⟩)),(2,.bool false),(3,.pointer (some ⟨V.heap.size,0,none⟩))] T' → norm V' = V' → Kp V V' → V'.heap.size = V.heap.size + 1 → V'.heap[V.heap.size]? = some (.cells #[.pointer none] 104 (0,0)) → To0 Try.prog (LPost W) Z V' (G ((base 13).at ⟨T',[]⟩ kt) cs0)) :
   To0 Try.prog (LPost W) Z V (G ((base 13).at ⟨T,[]⟩ (.code z1 :: kt)) cs0):=by
 have hK0:=K
 clear K
 obtain ⟨hs,h1,h2,-⟩:=hT
 obtain ⟨f,hf,hT⟩:=array50f T hs
 rw [hT]
 simp only [hf _ _ h1,hf _ _ h2]
 clear hf hs h1 h2
 subst hT
 generalize hX0 : z1 = X0
 simp only [z1,zX1,zB,nva,nvb,Try.f13,Option.getD_some] at hX0
 subst hX0
 obtain ⟨K,hK,hV,key,yek⟩:=kKV (L:=Lone) (J:=fun g=>To0 Try.prog (LPost W) Z V g) mu_to0 (muv_to0 hn)
 refine key _ ?_
 repeat (first|(with_reducible first|refine mu_seq hK ?_|refine mu_skip hK ?_|(refine mu_region_end hK ?_;try subst hkk)|refine mu_block hK ?_|refine mu_inBlock hK ?_|refine mu_ret hK ?_|refine mu_end hK ?_)|refine mu_exit hK rfl ?_|(with_reducible refine mu_regionH hK (fun kk hkk=>?_);simp only [List.size_toArray,List.length_cons,List.length_nil,Nat.reduceAdd,Nat.zero_add,List.range,List.range.loop])|(with_reducible refine mu_cf hK ?_ ?_;(· first|(walk_nrm;done)|(simp [Act.eval];done)))|(with_reducible refine mu_ct hK ?_ ?_;(· first|(walk_nrm;done)|(simp [Act.eval];done)))|(refine mu_unwanted hK rfl rfl ?_;walk_nrm)|(refine muv_val hV rfl (by first|exact .inl rfl|exact .inr rfl) rfl (by kernel_rfl) (fun J hJ=>?_);go_simp;with_reducible refine hJ _ ?_;clear hJ J;walk_nrm))
 refine yek _ ?_
 clear hK hV key yek K
 have hnA : norm (V.alloc (.cells #[.pointer none] 104)) = (V.alloc (.cells #[.pointer none] 104)):=norm_al hn _
 refine mua_put (L:=Lone) (v:=.pointer (some ⟨V.heap.size,0,none⟩)) (mua_to0 hnA) (K:=fun g=>To0 Try.prog (LPost W) Z V g) (K':=fun g=>To0 Try.prog (LPost W) Z (V.alloc (.cells #[.pointer none] 104)) g) rfl (.inl rfl) rfl (by kernel_rfl) (fun τ=>?_) ?_
 · go_simp
   first | exact ⟨by first | rfl | assumption | (simp only [re]; omega),rfl⟩ | rfl | (simp; done)
 have eVA : (V.alloc (.cells #[.pointer none] 104)).heap[V.heap.size]? = some (.cells #[.pointer none] 104 (0,0)):=by rw [al_get,if_pos rfl]
 have sVA : (V.alloc (.cells #[.pointer none] 104)).heap.size = V.heap.size + 1:=by rw [al_size]
 have kVA : Kp V (V.alloc (.cells #[.pointer none] 104)):=⟨by rw [sVA]; omega,fun b hb=>by rw [al_get,if_neg (by omega)]⟩
 generalize (V.alloc (.cells #[.pointer none] 104)) = VA at *
 walk_nrm
 obtain ⟨K,hK,hV,key,yek⟩:=kKV (L:=Lone) (J:=fun g=>To0 Try.prog (LPost W) Z VA g) mu_to0 (muv_to0 hnA)
 refine key _ ?_
 repeat (first|(with_reducible first|refine mu_seq hK ?_|refine mu_skip hK ?_|(refine mu_region_end hK ?_;try subst hkk)|refine mu_block hK ?_|refine mu_inBlock hK ?_|refine mu_ret hK ?_|refine mu_end hK ?_)|refine mu_exit hK rfl ?_|(with_reducible refine mu_regionH hK (fun kk hkk=>?_);simp only [List.size_toArray,List.length_cons,List.length_nil,Nat.reduceAdd,Nat.zero_add,List.range,List.range.loop])|(with_reducible refine mu_cf hK ?_ ?_;(· first|(walk_nrm;done)|(simp [Act.eval];done)))|(with_reducible refine mu_ct hK ?_ ?_;(· first|(walk_nrm;done)|(simp [Act.eval];done)))|(refine mu_unwanted hK rfl rfl ?_;walk_nrm)|(refine muv_val hV rfl (by first|exact .inl rfl|exact .inr rfl) rfl (by kernel_rfl) (fun J hJ=>?_);go_simp;with_reducible refine hJ _ ?_;clear hJ J;walk_nrm))
 refine yek _ ?_
 clear hK hV key yek K
 try subst hkk
 exact hK0 _ VA ⟨by simp,rfl,rfl,rfl,trivial⟩ hnA kVA sVA eVA
theorem v_r2 (hn : norm V = V) (hT : Fg 50 [(1,.pointer (some ⟨yb,0,none⟩)),(2,.bool false),(3,.pointer (some ⟨mb,0,none⟩))] T)
   (K : ∀ T' V',Fg 50 [(1,.pointer (some ⟨yb,0,none⟩)),(2,.bool false),(3,.pointer (some ⟨mb,0,none⟩)),(4,.pointer (some ⟨V.heap.size,0,none⟩))] T' → norm V' = V' → Kp V V' → V'.heap.size = V.heap.size + 1 → V'.heap[V.heap.size]? = some (.cells #[.pointer none] 126 (0,0)) → To0 Try.prog (LPost W) Z V' (G ((base 13).at ⟨T',[]⟩ kt) cs0)) :
   To0 Try.prog (LPost W) Z V (G ((base 13).at ⟨T,[]⟩ (.code z2 :: kt)) cs0):=by
 have hK0:=K
 clear K
 obtain ⟨hs,h1,h2,h3,-⟩:=hT
 obtain ⟨f,hf,hT⟩:=array50f T hs
 rw [hT]
 simp only [hf _ _ h1,hf _ _ h2,hf _ _ h3]
 clear hf hs h1 h2 h3
 subst hT
 generalize hX0 : z2 = X0
 simp only [z2,zX2,zX1,zB,nva,nvb,Try.f13,Option.getD_some] at hX0
 subst hX0
 obtain ⟨K,hK,hV,key,yek⟩:=kKV (L:=Lone) (J:=fun g=>To0 Try.prog (LPost W) Z V g) mu_to0 (muv_to0 hn)
 refine key _ ?_
 repeat (first|(with_reducible first|refine mu_seq hK ?_|refine mu_skip hK ?_|(refine mu_region_end hK ?_;try subst hkk)|refine mu_block hK ?_|refine mu_inBlock hK ?_|refine mu_ret hK ?_|refine mu_end hK ?_)|refine mu_exit hK rfl ?_|(with_reducible refine mu_regionH hK (fun kk hkk=>?_);simp only [List.size_toArray,List.length_cons,List.length_nil,Nat.reduceAdd,Nat.zero_add,List.range,List.range.loop])|(with_reducible refine mu_cf hK ?_ ?_;(· first|(walk_nrm;done)|(simp [Act.eval];done)))|(with_reducible refine mu_ct hK ?_ ?_;(· first|(walk_nrm;done)|(simp [Act.eval];done)))|(refine mu_unwanted hK rfl rfl ?_;walk_nrm)|(refine muv_val hV rfl (by first|exact .inl rfl|exact .inr rfl) rfl (by kernel_rfl) (fun J hJ=>?_);go_simp;with_reducible refine hJ _ ?_;clear hJ J;walk_nrm))
 refine yek _ ?_
 clear hK hV key yek K
 have hnA : norm (V.alloc (.cells #[.pointer none] 126)) = (V.alloc (.cells #[.pointer none] 126)):=norm_al hn _
 refine mua_put (L:=Lone) (v:=.pointer (some ⟨V.heap.size,0,none⟩)) (mua_to0 hnA) (K:=fun g=>To0 Try.prog (LPost W) Z V g) (K':=fun g=>To0 Try.prog (LPost W) Z (V.alloc (.cells #[.pointer none] 126)) g) rfl (.inl rfl) rfl (by kernel_rfl) (fun τ=>?_) ?_
 · go_simp
   first | exact ⟨by first | rfl | assumption | (simp only [re]; omega),rfl⟩ | rfl | (simp; done)
 have eVA : (V.alloc (.cells #[.pointer none] 126)).heap[V.heap.size]? = some (.cells #[.pointer none] 126 (0,0)):=by rw [al_get,if_pos rfl]
 have sVA : (V.alloc (.cells #[.pointer none] 126)).heap.size = V.heap.size + 1:=by rw [al_size]
 have kVA : Kp V (V.alloc (.cells #[.pointer none] 126)):=⟨by rw [sVA]; omega,fun b hb=>by rw [al_get,if_neg (by omega)]⟩
 generalize (V.alloc (.cells #[.pointer none] 126)) = VA at *
 walk_nrm
 obtain ⟨K,hK,hV,key,yek⟩:=kKV (L:=Lone) (J:=fun g=>To0 Try.prog (LPost W) Z VA g) mu_to0 (muv_to0 hnA)
 refine key _ ?_
 repeat (first|(with_reducible first|refine mu_seq hK ?_|refine mu_skip hK ?_|(refine mu_region_end hK ?_;try subst hkk)|refine mu_block hK ?_|refine mu_inBlock hK ?_|refine mu_ret hK ?_|refine mu_end hK ?_)|refine mu_exit hK rfl ?_|(with_reducible refine mu_regionH hK (fun kk hkk=>?_);simp only [List.size_toArray,List.length_cons,List.length_nil,Nat.reduceAdd,Nat.zero_add,List.range,List.range.loop])|(with_reducible refine mu_cf hK ?_ ?_;(· first|(walk_nrm;done)|(simp [Act.eval];done)))|(with_reducible refine mu_ct hK ?_ ?_;(· first|(walk_nrm;done)|(simp [Act.eval];done)))|(refine mu_unwanted hK rfl rfl ?_;walk_nrm)|(refine muv_val hV rfl (by first|exact .inl rfl|exact .inr rfl) rfl (by kernel_rfl) (fun J hJ=>?_);go_simp;with_reducible refine hJ _ ?_;clear hJ J;walk_nrm))
 refine yek _ ?_
 clear hK hV key yek K
 try subst hkk
 exact hK0 _ VA ⟨by simp,rfl,rfl,rfl,rfl,trivial⟩ hnA kVA sVA eVA
theorem v_r3 (hn : norm V = V) (hT : Fg 50 [(1,.pointer (some ⟨yb,0,none⟩)),(2,.bool false),(3,.pointer (some ⟨mb,0,none⟩)),(4,.pointer (some ⟨cb,0,none⟩))] T)
   (K : ∀ T' V',Fg 50 [(1,.pointer (some ⟨yb,0,none⟩)),(2,.bool false),(3,.pointer (some ⟨mb,0,none⟩)),(4,.pointer (some ⟨cb,0,none⟩)),(5,.pointer (some ⟨V.heap.size,0,none⟩))] T' → norm V' = V' → Kp V V' → V'.heap.size = V.heap.size + 1 → V'.heap[V.heap.size]? = some (.cells #[.slice none 0 0,.int .i64 0] 95 (0,0)) → To0 Try.prog (LPost W) Z V' (G ((base 13).at ⟨T',[]⟩ kt) cs0)) :
   To0 Try.prog (LPost W) Z V (G ((base 13).at ⟨T,[]⟩ (.code z3 :: kt)) cs0):=by
 have hK0:=K
 clear K
 obtain ⟨hs,h1,h2,h3,h4,-⟩:=hT
 obtain ⟨f,hf,hT⟩:=array50f T hs
 rw [hT]
 simp only [hf _ _ h1,hf _ _ h2,hf _ _ h3,hf _ _ h4]
 clear hf hs h1 h2 h3 h4
 subst hT
 generalize hX0 : z3 = X0
 simp only [z3,zX3,zX2,zX1,zB,nva,nvb,Try.f13,Option.getD_some] at hX0
 subst hX0
 obtain ⟨K,hK,hV,key,yek⟩:=kKV (L:=Lone) (J:=fun g=>To0 Try.prog (LPost W) Z V g) mu_to0 (muv_to0 hn)
 refine key _ ?_
 repeat (first|(with_reducible first|refine mu_seq hK ?_|refine mu_skip hK ?_|(refine mu_region_end hK ?_;try subst hkk)|refine mu_block hK ?_|refine mu_inBlock hK ?_|refine mu_ret hK ?_|refine mu_end hK ?_)|refine mu_exit hK rfl ?_|(with_reducible refine mu_regionH hK (fun kk hkk=>?_);simp only [List.size_toArray,List.length_cons,List.length_nil,Nat.reduceAdd,Nat.zero_add,List.range,List.range.loop])|(with_reducible refine mu_cf hK ?_ ?_;(· first|(walk_nrm;done)|(simp [Act.eval];done)))|(with_reducible refine mu_ct hK ?_ ?_;(· first|(walk_nrm;done)|(simp [Act.eval];done)))|(refine mu_unwanted hK rfl rfl ?_;walk_nrm)|(refine muv_val hV rfl (by first|exact .inl rfl|exact .inr rfl) rfl (by kernel_rfl) (fun J hJ=>?_);go_simp;with_reducible refine hJ _ ?_;clear hJ J;walk_nrm))
 refine yek _ ?_
 clear hK hV key yek K
 have hnA : norm (V.alloc (.cells #[.slice none 0 0,.int .i64 0] 95)) = (V.alloc (.cells #[.slice none 0 0,.int .i64 0] 95)):=norm_al hn _
 refine mua_put (L:=Lone) (v:=.pointer (some ⟨V.heap.size,0,none⟩)) (mua_to0 hnA) (K:=fun g=>To0 Try.prog (LPost W) Z V g) (K':=fun g=>To0 Try.prog (LPost W) Z (V.alloc (.cells #[.slice none 0 0,.int .i64 0] 95)) g) rfl (.inl rfl) rfl (by kernel_rfl) (fun τ=>?_) ?_
 · go_simp
   first | exact ⟨by first | rfl | assumption | (simp only [re]; omega),rfl⟩ | rfl | (simp; done)
 have eVA : (V.alloc (.cells #[.slice none 0 0,.int .i64 0] 95)).heap[V.heap.size]? = some (.cells #[.slice none 0 0,.int .i64 0] 95 (0,0)):=by rw [al_get,if_pos rfl]
 have sVA : (V.alloc (.cells #[.slice none 0 0,.int .i64 0] 95)).heap.size = V.heap.size + 1:=by rw [al_size]
 have kVA : Kp V (V.alloc (.cells #[.slice none 0 0,.int .i64 0] 95)):=⟨by rw [sVA]; omega,fun b hb=>by rw [al_get,if_neg (by omega)]⟩
 generalize (V.alloc (.cells #[.slice none 0 0,.int .i64 0] 95)) = VA at *
 walk_nrm
 obtain ⟨K,hK,hV,key,yek⟩:=kKV (L:=Lone) (J:=fun g=>To0 Try.prog (LPost W) Z VA g) mu_to0 (muv_to0 hnA)
 refine key _ ?_
 repeat (first|(with_reducible first|refine mu_seq hK ?_|refine mu_skip hK ?_|(refine mu_region_end hK ?_;try subst hkk)|refine mu_block hK ?_|refine mu_inBlock hK ?_|refine mu_ret hK ?_|refine mu_end hK ?_)|refine mu_exit hK rfl ?_|(with_reducible refine mu_regionH hK (fun kk hkk=>?_);simp only [List.size_toArray,List.length_cons,List.length_nil,Nat.reduceAdd,Nat.zero_add,List.range,List.range.loop])|(with_reducible refine mu_cf hK ?_ ?_;(· first|(walk_nrm;done)|(simp [Act.eval];done)))|(with_reducible refine mu_ct hK ?_ ?_;(· first|(walk_nrm;done)|(simp [Act.eval];done)))|(refine mu_unwanted hK rfl rfl ?_;walk_nrm)|(refine muv_val hV rfl (by first|exact .inl rfl|exact .inr rfl) rfl (by kernel_rfl) (fun J hJ=>?_);go_simp;with_reducible refine hJ _ ?_;clear hJ J;walk_nrm))
 refine yek _ ?_
 clear hK hV key yek K
 try subst hkk
 exact hK0 _ VA ⟨by simp,rfl,rfl,rfl,rfl,rfl,trivial⟩ hnA kVA sVA eVA
theorem v_r4 (hn : norm V = V) (hT : Fg 50 [(1,.pointer (some ⟨yb,0,none⟩)),(2,.bool false),(3,.pointer (some ⟨mb,0,none⟩)),(4,.pointer (some ⟨cb,0,none⟩)),(5,.pointer (some ⟨rb,0,none⟩))] T)
   (K : ∀ T' V',Fg 50 [(1,.pointer (some ⟨yb,0,none⟩)),(2,.bool false),(3,.pointer (some ⟨mb,0,none⟩)),(4,.pointer (some ⟨cb,0,none⟩)),(5,.pointer (some ⟨rb,0,none⟩)),(6,.pointer (some ⟨V.heap.size,0,none⟩))] T' → norm V' = V' → Kp V V' → V'.heap.size = V.heap.size + 1 → V'.heap[V.heap.size]? = some (.cells #[.slice none 0 0] 102 (0,0)) → To0 Try.prog (LPost W) Z V' (G ((base 13).at ⟨T',[]⟩ kt) cs0)) :
   To0 Try.prog (LPost W) Z V (G ((base 13).at ⟨T,[]⟩ (.code z4 :: kt)) cs0):=by
 have hK0:=K
 clear K
 obtain ⟨hs,h1,h2,h3,h4,h5,-⟩:=hT
 obtain ⟨f,hf,hT⟩:=array50f T hs
 rw [hT]
 simp only [hf _ _ h1,hf _ _ h2,hf _ _ h3,hf _ _ h4,hf _ _ h5]
 clear hf hs h1 h2 h3 h4 h5
 subst hT
 generalize hX0 : z4 = X0
 simp only [z4,zX4,zX3,zX2,zX1,zB,nva,nvb,Try.f13,Option.getD_some] at hX0
 subst hX0
 obtain ⟨K,hK,hV,key,yek⟩:=kKV (L:=Lone) (J:=fun g=>To0 Try.prog (LPost W) Z V g) mu_to0 (muv_to0 hn)
 refine key _ ?_
 repeat (first|(with_reducible first|refine mu_seq hK ?_|refine mu_skip hK ?_|(refine mu_region_end hK ?_;try subst hkk)|refine mu_block hK ?_|refine mu_inBlock hK ?_|refine mu_ret hK ?_|refine mu_end hK ?_)|refine mu_exit hK rfl ?_|(with_reducible refine mu_regionH hK (fun kk hkk=>?_);simp only [List.size_toArray,List.length_cons,List.length_nil,Nat.reduceAdd,Nat.zero_add,List.range,List.range.loop])|(with_reducible refine mu_cf hK ?_ ?_;(· first|(walk_nrm;done)|(simp [Act.eval];done)))|(with_reducible refine mu_ct hK ?_ ?_;(· first|(walk_nrm;done)|(simp [Act.eval];done)))|(refine mu_unwanted hK rfl rfl ?_;walk_nrm)|(refine muv_val hV rfl (by first|exact .inl rfl|exact .inr rfl) rfl (by kernel_rfl) (fun J hJ=>?_);go_simp;with_reducible refine hJ _ ?_;clear hJ J;walk_nrm))
 refine yek _ ?_
 clear hK hV key yek K
 have hnA : norm (V.alloc (.cells #[.slice none 0 0] 102)) = (V.alloc (.cells #[.slice none 0 0] 102)):=norm_al hn _
 refine mua_put (L:=Lone) (v:=.pointer (some ⟨V.heap.size,0,none⟩)) (mua_to0 hnA) (K:=fun g=>To0 Try.prog (LPost W) Z V g) (K':=fun g=>To0 Try.prog (LPost W) Z (V.alloc (.cells #[.slice none 0 0] 102)) g) rfl (.inl rfl) rfl (by kernel_rfl) (fun τ=>?_) ?_
 · go_simp
   first | exact ⟨by first | rfl | assumption | (simp only [re]; omega),rfl⟩ | rfl | (simp; done)
 have eVA : (V.alloc (.cells #[.slice none 0 0] 102)).heap[V.heap.size]? = some (.cells #[.slice none 0 0] 102 (0,0)):=by rw [al_get,if_pos rfl]
 have sVA : (V.alloc (.cells #[.slice none 0 0] 102)).heap.size = V.heap.size + 1:=by rw [al_size]
 have kVA : Kp V (V.alloc (.cells #[.slice none 0 0] 102)):=⟨by rw [sVA]; omega,fun b hb=>by rw [al_get,if_neg (by omega)]⟩
 generalize (V.alloc (.cells #[.slice none 0 0] 102)) = VA at *
 walk_nrm
 obtain ⟨K,hK,hV,key,yek⟩:=kKV (L:=Lone) (J:=fun g=>To0 Try.prog (LPost W) Z VA g) mu_to0 (muv_to0 hnA)
 refine key _ ?_
 repeat (first|(with_reducible first|refine mu_seq hK ?_|refine mu_skip hK ?_|(refine mu_region_end hK ?_;try subst hkk)|refine mu_block hK ?_|refine mu_inBlock hK ?_|refine mu_ret hK ?_|refine mu_end hK ?_)|refine mu_exit hK rfl ?_|(with_reducible refine mu_regionH hK (fun kk hkk=>?_);simp only [List.size_toArray,List.length_cons,List.length_nil,Nat.reduceAdd,Nat.zero_add,List.range,List.range.loop])|(with_reducible refine mu_cf hK ?_ ?_;(· first|(walk_nrm;done)|(simp [Act.eval];done)))|(with_reducible refine mu_ct hK ?_ ?_;(· first|(walk_nrm;done)|(simp [Act.eval];done)))|(refine mu_unwanted hK rfl rfl ?_;walk_nrm)|(refine muv_val hV rfl (by first|exact .inl rfl|exact .inr rfl) rfl (by kernel_rfl) (fun J hJ=>?_);go_simp;with_reducible refine hJ _ ?_;clear hJ J;walk_nrm))
 refine yek _ ?_
 clear hK hV key yek K
 try subst hkk
 exact hK0 _ VA ⟨by simp,rfl,rfl,rfl,rfl,rfl,rfl,trivial⟩ hnA kVA sVA eVA
theorem v_r5 (hn : norm V = V) (hT : Fg 50 [(1,.pointer (some ⟨yb,0,none⟩)),(2,.bool false),(3,.pointer (some ⟨mb,0,none⟩)),(4,.pointer (some ⟨cb,0,none⟩)),(5,.pointer (some ⟨rb,0,none⟩)),(6,.pointer (some ⟨kb,0,none⟩))] T)
   (K : ∀ T' V',Fg 50 [(1,.pointer (some ⟨yb,0,none⟩)),(2,.bool false),(3,.pointer (some ⟨mb,0,none⟩)),(4,.pointer (some ⟨cb,0,none⟩)),(5,.pointer (some ⟨rb,0,none⟩)),(6,.pointer (some ⟨kb,0,none⟩)),(7,.pointer (some ⟨V.heap.size,0,none⟩))] T' → norm V' = V' → Kp V V' → V'.heap.size = V.heap.size + 1 → V'.heap[V.heap.size]? = some (.cells #[.int .i64 0] 3 (0,0)) → To0 Try.prog (LPost W) Z V' (G ((base 13).at ⟨T',[]⟩ kt) cs0)) :
   To0 Try.prog (LPost W) Z V (G ((base 13).at ⟨T,[]⟩ (.code z5 :: kt)) cs0):=by
 have hK0:=K
 clear K
 obtain ⟨hs,h1,h2,h3,h4,h5,h6,-⟩:=hT
 obtain ⟨f,hf,hT⟩:=array50f T hs
 rw [hT]
 simp only [hf _ _ h1,hf _ _ h2,hf _ _ h3,hf _ _ h4,hf _ _ h5,hf _ _ h6]
 clear hf hs h1 h2 h3 h4 h5 h6
 subst hT
 generalize hX0 : z5 = X0
 simp only [z5,zX5,zX4,zX3,zX2,zX1,zB,nva,nvb,Try.f13,Option.getD_some] at hX0
 subst hX0
 obtain ⟨K,hK,hV,key,yek⟩:=kKV (L:=Lone) (J:=fun g=>To0 Try.prog (LPost W) Z V g) mu_to0 (muv_to0 hn)
 refine key _ ?_
 repeat (first|(with_reducible first|refine mu_seq hK ?_|refine mu_skip hK ?_|(refine mu_region_end hK ?_;try subst hkk)|refine mu_block hK ?_|refine mu_inBlock hK ?_|refine mu_ret hK ?_|refine mu_end hK ?_)|refine mu_exit hK rfl ?_|(with_reducible refine mu_regionH hK (fun kk hkk=>?_);simp only [List.size_toArray,List.length_cons,List.length_nil,Nat.reduceAdd,Nat.zero_add,List.range,List.range.loop])|(with_reducible refine mu_cf hK ?_ ?_;(· first|(walk_nrm;done)|(simp [Act.eval];done)))|(with_reducible refine mu_ct hK ?_ ?_;(· first|(walk_nrm;done)|(simp [Act.eval];done)))|(refine mu_unwanted hK rfl rfl ?_;walk_nrm)|(refine muv_val hV rfl (by first|exact .inl rfl|exact .inr rfl) rfl (by kernel_rfl) (fun J hJ=>?_);go_simp;with_reducible refine hJ _ ?_;clear hJ J;walk_nrm))
 refine yek _ ?_
 clear hK hV key yek K
 have hnA : norm (V.alloc (.cells #[.int .i64 0] 3)) = (V.alloc (.cells #[.int .i64 0] 3)):=norm_al hn _
 refine mua_put (L:=Lone) (v:=.pointer (some ⟨V.heap.size,0,none⟩)) (mua_to0 hnA) (K:=fun g=>To0 Try.prog (LPost W) Z V g) (K':=fun g=>To0 Try.prog (LPost W) Z (V.alloc (.cells #[.int .i64 0] 3)) g) rfl (.inl rfl) rfl (by kernel_rfl) (fun τ=>?_) ?_
 · go_simp
   first | exact ⟨by first | rfl | assumption | (simp only [re]; omega),rfl⟩ | rfl | (simp; done)
 have eVA : (V.alloc (.cells #[.int .i64 0] 3)).heap[V.heap.size]? = some (.cells #[.int .i64 0] 3 (0,0)):=by rw [al_get,if_pos rfl]
 have sVA : (V.alloc (.cells #[.int .i64 0] 3)).heap.size = V.heap.size + 1:=by rw [al_size]
 have kVA : Kp V (V.alloc (.cells #[.int .i64 0] 3)):=⟨by rw [sVA]; omega,fun b hb=>by rw [al_get,if_neg (by omega)]⟩
 generalize (V.alloc (.cells #[.int .i64 0] 3)) = VA at *
 walk_nrm
 generalize hb9 : V.heap.size = b9 at eVA sVA kVA hK0 ⊢
 try walk_nrm
 have r0VS : ∀ τ,(re VA τ 0).cell? ⟨b9,0,none⟩ = some (.int .i64 0):=fun τ=>cell_of eVA (by simp)
 have z0VS : ∀ τ,(re VA τ 0).frozen? ⟨b9,0,none⟩ = false:=fun τ=>by simp [World.frozen?,re,eVA]
 have hnVS : norm (VA.setCell ⟨b9,0,none⟩ (.int .i64 0)) = (VA.setCell ⟨b9,0,none⟩ (.int .i64 0)):=(norm_set hnA _ _)
 refine mus_put (L:=Lone) (mus_to0 hnVS) (K:=fun g=>To0 Try.prog (LPost W) Z VA g) (K':=fun g=>To0 Try.prog (LPost W) Z (VA.setCell ⟨b9,0,none⟩ (.int .i64 0)) g) rfl (.inl rfl) rfl (by kernel_rfl) (fun τ=>?_) ?_
 · go_simp
   try rfl
 have kVS : ∀ b,b ≠ b9 → (VA.setCell ⟨b9,0,none⟩ (.int .i64 0)).heap[b]? = VA.heap[b]?:=fun b hb=>by rw [setCell_heap,if_neg hb]
 have eVS : (VA.setCell ⟨b9,0,none⟩ (.int .i64 0)).heap[b9]? = some (.cells #[.int .i64 0] 3 (0,0)):=by
   rw [setCell_heap,if_pos rfl,eVA]
   simp
 have sVS : (VA.setCell ⟨b9,0,none⟩ (.int .i64 0)).heap.size = VA.heap.size:=by simp [World.setCell]
 generalize (VA.setCell ⟨b9,0,none⟩ (.int .i64 0)) = VS at *
 clear r0VS z0VS
 walk_nrm
 obtain ⟨K,hK,hV,key,yek⟩:=kKV (L:=Lone) (J:=fun g=>To0 Try.prog (LPost W) Z VS g) mu_to0 (muv_to0 hnVS)
 refine key _ ?_
 repeat (first|(with_reducible first|refine mu_seq hK ?_|refine mu_skip hK ?_|(refine mu_region_end hK ?_;try subst hkk)|refine mu_block hK ?_|refine mu_inBlock hK ?_|refine mu_ret hK ?_|refine mu_end hK ?_)|refine mu_exit hK rfl ?_|(with_reducible refine mu_regionH hK (fun kk hkk=>?_);simp only [List.size_toArray,List.length_cons,List.length_nil,Nat.reduceAdd,Nat.zero_add,List.range,List.range.loop])|(with_reducible refine mu_cf hK ?_ ?_;(· first|(walk_nrm;done)|(simp [Act.eval];done)))|(with_reducible refine mu_ct hK ?_ ?_;(· first|(walk_nrm;done)|(simp [Act.eval];done)))|(refine mu_unwanted hK rfl rfl ?_;walk_nrm)|(refine muv_val hV rfl (by first|exact .inl rfl|exact .inr rfl) rfl (by kernel_rfl) (fun J hJ=>?_);go_simp;with_reducible refine hJ _ ?_;clear hJ J;walk_nrm))
 refine yek _ ?_
 clear hK hV key yek K
 try subst hkk
 exact hK0 _ VS ⟨by simp,rfl,rfl,rfl,rfl,rfl,rfl,rfl,trivial⟩ hnVS ⟨by omega,fun b hb=>(kVS b (by omega)).trans (kVA.keep b hb)⟩ (by omega) eVS
theorem v_r6 (hn : norm V = V) (hT : Fg 50 [(1,.pointer (some ⟨yb,0,none⟩)),(2,.bool false),(3,.pointer (some ⟨mb,0,none⟩)),(4,.pointer (some ⟨cb,0,none⟩)),(5,.pointer (some ⟨rb,0,none⟩)),(6,.pointer (some ⟨kb,0,none⟩)),(7,.pointer (some ⟨eb,0,none⟩))] T) (K : ∀ T',Fg 50 [(1,.pointer (some ⟨yb,0,none⟩)),(2,.bool false),(3,.pointer (some ⟨mb,0,none⟩)),(4,.pointer (some ⟨cb,0,none⟩)),(5,.pointer (some ⟨rb,0,none⟩)),(6,.pointer (some ⟨kb,0,none⟩)),(7,.pointer (some ⟨eb,0,none⟩)),(8,.func (.func 57) #[] #[bq yb,bq mb,bq cb,bq rb,bq kb,bq eb])] T' → To0 Try.prog (LPost W) Z V (G ((base 13).at ⟨T',[]⟩ kt) cs0)) :
   To0 Try.prog (LPost W) Z V (G ((base 13).at ⟨T,[]⟩ (.code z6 :: kt)) cs0):=by
 have hK0:=K
 clear K
 obtain ⟨hs,h1,h2,h3,h4,h5,h6,h7,-⟩:=hT
 obtain ⟨f,hf,hT⟩:=array50f T hs
 rw [hT]
 simp only [hf _ _ h1,hf _ _ h2,hf _ _ h3,hf _ _ h4,hf _ _ h5,hf _ _ h6,hf _ _ h7]
 clear hf hs h1 h2 h3 h4 h5 h6 h7
 subst hT
 generalize hX0 : z6 = X0
 simp only [z6,zX6,zX5,zX4,zX3,zX2,zX1,zB,nva,nvb,Try.f13,Option.getD_some] at hX0
 subst hX0
 obtain ⟨K,hK,hV,key,yek⟩:=kKV (L:=Lone) (J:=fun g=>To0 Try.prog (LPost W) Z V g) mu_to0 (muv_to0 hn)
 refine key _ ?_
 repeat (first|(with_reducible first|refine mu_seq hK ?_|refine mu_skip hK ?_|(refine mu_region_end hK ?_;try subst hkk)|refine mu_block hK ?_|refine mu_inBlock hK ?_|refine mu_ret hK ?_|refine mu_end hK ?_)|refine mu_exit hK rfl ?_|(with_reducible refine mu_regionH hK (fun kk hkk=>?_);simp only [List.size_toArray,List.length_cons,List.length_nil,Nat.reduceAdd,Nat.zero_add,List.range,List.range.loop])|(with_reducible refine mu_cf hK ?_ ?_;(· first|(walk_nrm;done)|(simp [Act.eval];done)))|(with_reducible refine mu_ct hK ?_ ?_;(· first|(walk_nrm;done)|(simp [Act.eval];done)))|(refine mu_unwanted hK rfl rfl ?_;walk_nrm)|(refine muv_val hV rfl (by first|exact .inl rfl|exact .inr rfl) rfl (by kernel_rfl) (fun J hJ=>?_);go_simp;with_reducible refine hJ _ ?_;clear hJ J;walk_nrm))
 refine yek _ ?_
 clear hK hV key yek K
 try subst hkk
 exact hK0 _ ⟨by simp,rfl,rfl,rfl,rfl,rfl,rfl,rfl,rfl,trivial⟩
theorem v_r7 (hn : norm V = V) (hT : Fg 50 [(1,.pointer (some ⟨yb,0,none⟩)),(2,.bool false),(3,.pointer (some ⟨mb,0,none⟩)),(4,.pointer (some ⟨cb,0,none⟩)),(5,.pointer (some ⟨rb,0,none⟩)),(6,.pointer (some ⟨kb,0,none⟩)),(7,.pointer (some ⟨eb,0,none⟩)),(8,.func (.func 57) #[] #[bq yb,bq mb,bq cb,bq rb,bq kb,bq eb])] T) (K : ∀ T' V',Fg 50 [(1,.pointer (some ⟨yb,0,none⟩)),(2,.bool false),(3,.pointer (some ⟨mb,0,none⟩)),(4,.pointer (some ⟨cb,0,none⟩)),(5,.pointer (some ⟨rb,0,none⟩)),(6,.pointer (some ⟨kb,0,none⟩)),(7,.pointer (some ⟨eb,0,none⟩))] T' → norm V' = V' → Kp V V' → V'.heap[V.heap.size]? = some (.cells #[.func (.func 57) #[] #[bq yb,bq mb,bq cb,bq rb,bq kb,bq eb]] 70 (0,0)) → To0 Try.prog (LPost W) Z V' (G (Frame.enter Try.prog 23 #[.slice (some ⟨V.heap.size,0,none⟩) 1 1,.slice none 0 0,.int .i64 9] .normal) (((base 13).at ⟨T',[]⟩ (.inRegion zo7 (2 :: []) :: kt)) :: cs0))) :
   To0 Try.prog (LPost W) Z V (G ((base 13).at ⟨T,[]⟩ (.code z7 :: kt)) cs0):=by
 have hK0:=K
 clear K
 obtain ⟨hs,h1,h2,h3,h4,h5,h6,h7,h8,-⟩:=hT
 obtain ⟨f,hf,hT⟩:=array50f T hs
 rw [hT]
 simp only [hf _ _ h1,hf _ _ h2,hf _ _ h3,hf _ _ h4,hf _ _ h5,hf _ _ h6,hf _ _ h7,hf _ _ h8]
 clear hf hs h1 h2 h3 h4 h5 h6 h7 h8
 subst hT
 generalize hX0 : z7 = X0
 simp only [z7,zX7,zX6,zX5,zX4,zX3,zX2,zX1,zB,nva,nvb,Try.f13,Option.getD_some] at hX0
 subst hX0
 obtain ⟨K,hK,hV,key,yek⟩:=kKV (L:=Lone) (J:=fun g=>To0 Try.prog (LPost W) Z V g) mu_to0 (muv_to0 hn)
 refine key _ ?_
 repeat (first|(with_reducible first|refine mu_seq hK ?_|refine mu_skip hK ?_|(refine mu_region_end hK ?_;try subst hkk)|refine mu_block hK ?_|refine mu_inBlock hK ?_|refine mu_ret hK ?_|refine mu_end hK ?_)|refine mu_exit hK rfl ?_|(with_reducible refine mu_regionH hK (fun kk hkk=>?_);simp only [List.size_toArray,List.length_cons,List.length_nil,Nat.reduceAdd,Nat.zero_add,List.range,List.range.loop])|(with_reducible refine mu_cf hK ?_ ?_;(· first|(walk_nrm;done)|(simp [Act.eval];done)))|(with_reducible refine mu_ct hK ?_ ?_;(· first|(walk_nrm;done)|(simp [Act.eval];done)))|(refine mu_unwanted hK rfl rfl ?_;walk_nrm)|(refine muv_val hV rfl (by first|exact .inl rfl|exact .inr rfl) rfl (by kernel_rfl) (fun J hJ=>?_);go_simp;with_reducible refine hJ _ ?_;clear hJ J;walk_nrm))
 refine yek _ ?_
 clear hK hV key yek K
 have hnA : norm (V.alloc (.cells #[.func (.func 57) #[] #[bq yb,bq mb,bq cb,bq rb,bq kb,bq eb]] 70)) = (V.alloc (.cells #[.func (.func 57) #[] #[bq yb,bq mb,bq cb,bq rb,bq kb,bq eb]] 70)):=norm_al hn _
 refine mua_put (L:=Lone) (v:=.slice (some ⟨V.heap.size,0,none⟩) 1 1) (mua_to0 hnA) (K:=fun g=>To0 Try.prog (LPost W) Z V g) (K':=fun g=>To0 Try.prog (LPost W) Z (V.alloc (.cells #[.func (.func 57) #[] #[bq yb,bq mb,bq cb,bq rb,bq kb,bq eb]] 70)) g) rfl (.inl rfl) rfl (by kernel_rfl) (fun τ=>?_) ?_
 · go_simp
   first | exact ⟨by first | rfl | assumption | (simp only [re]; omega),rfl⟩ | rfl | (simp; done)
 have eVA : (V.alloc (.cells #[.func (.func 57) #[] #[bq yb,bq mb,bq cb,bq rb,bq kb,bq eb]] 70)).heap[V.heap.size]? = some (.cells #[.func (.func 57) #[] #[bq yb,bq mb,bq cb,bq rb,bq kb,bq eb]] 70 (0,0)):=by rw [al_get,if_pos rfl]
 have sVA : (V.alloc (.cells #[.func (.func 57) #[] #[bq yb,bq mb,bq cb,bq rb,bq kb,bq eb]] 70)).heap.size = V.heap.size + 1:=by rw [al_size]
 have kVA : Kp V (V.alloc (.cells #[.func (.func 57) #[] #[bq yb,bq mb,bq cb,bq rb,bq kb,bq eb]] 70)):=⟨by rw [sVA]; omega,fun b hb=>by rw [al_get,if_neg (by omega)]⟩
 generalize (V.alloc (.cells #[.func (.func 57) #[] #[bq yb,bq mb,bq cb,bq rb,bq kb,bq eb]] 70)) = VA at *
 walk_nrm
 obtain ⟨K,hK,hV,key,yek⟩:=kKV (L:=Lone) (J:=fun g=>To0 Try.prog (LPost W) Z VA g) mu_to0 (muv_to0 hnA)
 refine key _ ?_
 repeat (first|(with_reducible first|refine mu_seq hK ?_|refine mu_skip hK ?_|(refine mu_region_end hK ?_;try subst hkk)|refine mu_block hK ?_|refine mu_inBlock hK ?_|refine mu_ret hK ?_|refine mu_end hK ?_)|refine mu_exit hK rfl ?_|(with_reducible refine mu_regionH hK (fun kk hkk=>?_);simp only [List.size_toArray,List.length_cons,List.length_nil,Nat.reduceAdd,Nat.zero_add,List.range,List.range.loop])|(with_reducible refine mu_cf hK ?_ ?_;(· first|(walk_nrm;done)|(simp [Act.eval];done)))|(with_reducible refine mu_ct hK ?_ ?_;(· first|(walk_nrm;done)|(simp [Act.eval];done)))|(refine mu_unwanted hK rfl rfl ?_;walk_nrm)|(refine muv_val hV rfl (by first|exact .inl rfl|exact .inr rfl) rfl (by kernel_rfl) (fun J hJ=>?_);go_simp;with_reducible refine hJ _ ?_;clear hJ J;walk_nrm))
 refine mu_call hK rfl rfl (by decide) rfl Try.func23 (by kernel_rfl) rfl ?_
 rw [← enter_at (P:=Try.prog) _ Try.func23 rfl]
 walk_nrm
 refine yek _ ?_
 clear hK hV key yek K
 try subst hkk
 refine hK0 _ VA ⟨by simp,rfl,rfl,rfl,rfl,rfl,rfl,rfl,trivial⟩ hnA kVA eVA
end
end Go.Proofs.Ytibcdikfbhmheaa
