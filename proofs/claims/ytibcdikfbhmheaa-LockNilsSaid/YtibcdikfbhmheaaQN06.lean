import Derived.Test.YtibcdikfbhmheaaQN05
set_option linter.unusedSimpArgs false
set_option linter.unusedVariables false
set_option maxRecDepth 100000
set_option maxHeartbeats 4000000
namespace Go.Proofs.Ytibcdikfbhmheaa
open Go Go.Conc Go.Proofs
open Go.ConcN (sumTo upd sumTo_upd upd_ne upd_same)
set_option linter.unusedVariables false
section
variable {W V : World} {Z : Cuts} {yb mb cb rb kb eb : Nat} {u : Int} {T : Array Value} {v : Value}
theorem v_end (L : LS W Z V) (e3 : V.heap[mb]? = some (.cells #[.pointer none] 104 (0,0))) (e4 : V.heap[cb]? = some (.cells #[.pointer none] 126 (0,0))) (e5 : V.heap[rb]? = some (.cells #[.slice none 0 0,.int .i64 0] 95 (0,0))) (e6 : V.heap[kb]? = some (.cells #[.slice none 0 0] 102 (0,0))) (e7 : V.heap[eb]? = some (.cells #[.int .i64 6] 3 (0,0))) (hT : Fg 50 [(1,.pointer (some ⟨yb,0,none⟩)),(2,.bool false),(3,.pointer (some ⟨mb,0,none⟩)),(4,.pointer (some ⟨cb,0,none⟩)),(5,.pointer (some ⟨rb,0,none⟩)),(6,.pointer (some ⟨kb,0,none⟩)),(7,.pointer (some ⟨eb,0,none⟩))] T) :
   To0 Try.prog (LPost W) Z V (G ((base 13).at (Act.put ⟨T,[]⟩ ((zo7[2]?).bind (·.dst)) v) [.inRegion zo7 [],.code (.seq z8 (.seq z9 .ret))]) []):=by
 have c3 : ∀ τ,(re V τ 0).cell? ⟨mb,0,none⟩ = some (.pointer none):=fun τ=>cell_of e3 (by simp)
 have c4 : ∀ τ,(re V τ 0).cell? ⟨cb,0,none⟩ = some (.pointer none):=fun τ=>cell_of e4 (by simp)
 have c5 : ∀ τ,(re V τ 0).cell? ⟨rb,1,none⟩ = some (.int .i64 0):=fun τ=>cell_of e5 (by simp)
 have c6 : ∀ τ,(re V τ 0).cell? ⟨kb,0,none⟩ = some (.slice none 0 0):=fun τ=>cell_of e6 (by simp)
 have c7 : ∀ τ,(re V τ 0).cell? ⟨eb,0,none⟩ = some (.int .i64 6):=fun τ=>cell_of e7 (by simp)
 have hd : ((zo7[2]?).bind (·.dst)) = some 13:=by kernel_rfl
 rw [hd]
 clear hd e3 e4 e5 e6 e7
 refine mu_region_end mu_to0 ?_
 have hT2 : Fg 50 [(1,.pointer (some ⟨yb,0,none⟩)),(2,.bool false),(3,.pointer (some ⟨mb,0,none⟩)),(4,.pointer (some ⟨cb,0,none⟩)),(5,.pointer (some ⟨rb,0,none⟩)),(6,.pointer (some ⟨kb,0,none⟩)),(7,.pointer (some ⟨eb,0,none⟩))] (Act.put ⟨T,[]⟩ (some 13) v).tmps:=by
   obtain ⟨hs,h1,h2,h3,h4,h5,h6,h7,-⟩:=hT
   refine ⟨by simpa [Act.put] using hs,?_,?_,?_,?_,?_,?_,?_,trivial⟩ <;> (simp only [Act.put]; rw [Array.getElem?_setIfInBounds_ne (by decide)]; assumption)
 have hput : Act.put ⟨T,[]⟩ (some 13) v = ⟨(Act.put ⟨T,[]⟩ (some 13) v).tmps,[]⟩:=rfl
 rw [hput]
 generalize (Act.put ⟨T,[]⟩ (some 13) v).tmps = T2 at *
 clear hput hT
 have hT:=hT2
 clear hT2
 obtain ⟨hs,h1,h2,h3,h4,h5,h6,h7,-⟩:=hT
 obtain ⟨f,hf,hT⟩:=array50f T2 hs
 rw [hT]
 simp only [hf _ _ h1,hf _ _ h2,hf _ _ h3,hf _ _ h4,hf _ _ h5,hf _ _ h6,hf _ _ h7]
 clear hf hs h1 h2 h3 h4 h5 h6 h7
 subst hT
 generalize hX0 : z8 = X0
 generalize hX1 : z9 = X1
 simp only [z9,zX9,z8,zX8,zX7,zX6,zX5,zX4,zX3,zX2,zX1,zB,nva,nvb,Try.f13,Option.getD_some] at hX0 hX1
 subst hX0 hX1
 obtain ⟨K,hK,hV,key,yek⟩:=kKV (L:=Lone) (J:=fun g=>To0 Try.prog (LPost W) Z V g) mu_to0 (muv_to0 L.n)
 refine key _ ?_
 repeat (first|(with_reducible first|refine mu_seq hK ?_|refine mu_skip hK ?_|(refine mu_region_end hK ?_;try subst hkk)|refine mu_block hK ?_|refine mu_inBlock hK ?_|refine mu_ret hK ?_|refine mu_end hK ?_)|refine mu_exit hK rfl ?_|(with_reducible refine mu_regionH hK (fun kk hkk=>?_);simp only [List.size_toArray,List.length_cons,List.length_nil,Nat.reduceAdd,Nat.zero_add,List.range,List.range.loop])|(with_reducible refine mu_cf hK ?_ ?_;(· first|(walk_nrm;done)|(simp [Act.eval];done)))|(with_reducible refine mu_ct hK ?_ ?_;(· first|(walk_nrm;done)|(simp [Act.eval];done)))|(refine mu_unwanted hK rfl rfl ?_;walk_nrm)|(refine muv_val hV rfl (by first|exact .inl rfl|exact .inr rfl) rfl (by kernel_rfl) (fun J hJ=>?_);go_simp;with_reducible refine hJ _ ?_;clear hJ J;walk_nrm))
 refine mu_call hK rfl rfl (by decide) rfl Try.func45 (by kernel_rfl) rfl ?_
 rw [← enter_at (P:=Try.prog) _ Try.func45 rfl]
 walk_nrm
 refine nil45b hK hV ?_
 walk_nrm
 repeat (first|(with_reducible first|refine mu_seq hK ?_|refine mu_skip hK ?_|(refine mu_region_end hK ?_;try subst hkk)|refine mu_block hK ?_|refine mu_inBlock hK ?_|refine mu_ret hK ?_|refine mu_end hK ?_)|refine mu_exit hK rfl ?_|(with_reducible refine mu_regionH hK (fun kk hkk=>?_);simp only [List.size_toArray,List.length_cons,List.length_nil,Nat.reduceAdd,Nat.zero_add,List.range,List.range.loop])|(with_reducible refine mu_cf hK ?_ ?_;(· first|(walk_nrm;done)|(simp [Act.eval];done)))|(with_reducible refine mu_ct hK ?_ ?_;(· first|(walk_nrm;done)|(simp [Act.eval];done)))|(refine mu_unwanted hK rfl rfl ?_;walk_nrm)|(refine muv_val hV rfl (by first|exact .inl rfl|exact .inr rfl) rfl (by kernel_rfl) (fun J hJ=>?_);go_simp;with_reducible refine hJ _ ?_;clear hJ J;walk_nrm))
 refine mu_call hK rfl rfl (by decide) rfl Try.func46 (by kernel_rfl) rfl ?_
 rw [← enter_at (P:=Try.prog) _ Try.func46 rfl]
 walk_nrm
 refine nil46b hK hV ?_
 walk_nrm
 repeat (first|(with_reducible first|refine mu_seq hK ?_|refine mu_skip hK ?_|(refine mu_region_end hK ?_;try subst hkk)|refine mu_block hK ?_|refine mu_inBlock hK ?_|refine mu_ret hK ?_|refine mu_end hK ?_)|refine mu_exit hK rfl ?_|(with_reducible refine mu_regionH hK (fun kk hkk=>?_);simp only [List.size_toArray,List.length_cons,List.length_nil,Nat.reduceAdd,Nat.zero_add,List.range,List.range.loop])|(with_reducible refine mu_cf hK ?_ ?_;(· first|(walk_nrm;done)|(simp [Act.eval];done)))|(with_reducible refine mu_ct hK ?_ ?_;(· first|(walk_nrm;done)|(simp [Act.eval];done)))|(refine mu_unwanted hK rfl rfl ?_;walk_nrm)|(refine muv_val hV rfl (by first|exact .inl rfl|exact .inr rfl) rfl (by kernel_rfl) (fun J hJ=>?_);go_simp;with_reducible refine hJ _ ?_;clear hJ J;walk_nrm))
 refine mu_call hK rfl rfl (by decide) rfl Try.func49 (by kernel_rfl) rfl ?_
 rw [← enter_at (P:=Try.prog) _ Try.func49 rfl]
 walk_nrm
 refine nil49c hK hV ?_
 walk_nrm
 repeat (first|(with_reducible first|refine mu_seq hK ?_|refine mu_skip hK ?_|(refine mu_region_end hK ?_;try subst hkk)|refine mu_block hK ?_|refine mu_inBlock hK ?_|refine mu_ret hK ?_|refine mu_end hK ?_)|refine mu_exit hK rfl ?_|(with_reducible refine mu_regionH hK (fun kk hkk=>?_);simp only [List.size_toArray,List.length_cons,List.length_nil,Nat.reduceAdd,Nat.zero_add,List.range,List.range.loop])|(with_reducible refine mu_cf hK ?_ ?_;(· first|(walk_nrm;done)|(simp [Act.eval];done)))|(with_reducible refine mu_ct hK ?_ ?_;(· first|(walk_nrm;done)|(simp [Act.eval];done)))|(refine mu_unwanted hK rfl rfl ?_;walk_nrm)|(refine muv_val hV rfl (by first|exact .inl rfl|exact .inr rfl) rfl (by kernel_rfl) (fun J hJ=>?_);go_simp;with_reducible refine hJ _ ?_;clear hJ J;walk_nrm))
 refine mu_call hK rfl rfl (by decide) rfl Try.func58 (by kernel_rfl) rfl ?_
 rw [← enter_at (P:=Try.prog) _ Try.func58 rfl]
 walk_nrm
 refine nil58b hK hV ?_
 walk_nrm
 repeat (first|(with_reducible first|refine mu_seq hK ?_|refine mu_skip hK ?_|(refine mu_region_end hK ?_;try subst hkk)|refine mu_block hK ?_|refine mu_inBlock hK ?_|refine mu_ret hK ?_|refine mu_end hK ?_)|refine mu_exit hK rfl ?_|(with_reducible refine mu_regionH hK (fun kk hkk=>?_);simp only [List.size_toArray,List.length_cons,List.length_nil,Nat.reduceAdd,Nat.zero_add,List.range,List.range.loop])|(with_reducible refine mu_cf hK ?_ ?_;(· first|(walk_nrm;done)|(simp [Act.eval];done)))|(with_reducible refine mu_ct hK ?_ ?_;(· first|(walk_nrm;done)|(simp [Act.eval];done)))|(refine mu_unwanted hK rfl rfl ?_;walk_nrm)|(refine muv_val hV rfl (by first|exact .inl rfl|exact .inr rfl) rfl (by kernel_rfl) (fun J hJ=>?_);go_simp;with_reducible refine hJ _ ?_;clear hJ J;walk_nrm))
 refine mu_call hK rfl rfl (by decide) rfl Try.func51 (by kernel_rfl) rfl ?_
 rw [← enter_at (P:=Try.prog) _ Try.func51 rfl]
 walk_nrm
 refine nil51b hK hV ?_
 walk_nrm
 repeat (first|(with_reducible first|refine mu_seq hK ?_|refine mu_skip hK ?_|(refine mu_region_end hK ?_;try subst hkk)|refine mu_block hK ?_|refine mu_inBlock hK ?_|refine mu_ret hK ?_|refine mu_end hK ?_)|refine mu_exit hK rfl ?_|(with_reducible refine mu_regionH hK (fun kk hkk=>?_);simp only [List.size_toArray,List.length_cons,List.length_nil,Nat.reduceAdd,Nat.zero_add,List.range,List.range.loop])|(with_reducible refine mu_cf hK ?_ ?_;(· first|(walk_nrm;done)|(simp [Act.eval];done)))|(with_reducible refine mu_ct hK ?_ ?_;(· first|(walk_nrm;done)|(simp [Act.eval];done)))|(refine mu_unwanted hK rfl rfl ?_;walk_nrm)|(refine muv_val hV rfl (by first|exact .inl rfl|exact .inr rfl) rfl (by kernel_rfl) (fun J hJ=>?_);go_simp;with_reducible refine hJ _ ?_;clear hJ J;walk_nrm))
 refine mu_call hK rfl rfl (by decide) rfl Try.func47 (by kernel_rfl) rfl ?_
 rw [← enter_at (P:=Try.prog) _ Try.func47 rfl]
 walk_nrm
 refine own47a hK hV ?_
 walk_nrm
 repeat (first|(with_reducible first|refine mu_seq hK ?_|refine mu_skip hK ?_|(refine mu_region_end hK ?_;try subst hkk)|refine mu_block hK ?_|refine mu_inBlock hK ?_|refine mu_ret hK ?_|refine mu_end hK ?_)|refine mu_exit hK rfl ?_|(with_reducible refine mu_regionH hK (fun kk hkk=>?_);simp only [List.size_toArray,List.length_cons,List.length_nil,Nat.reduceAdd,Nat.zero_add,List.range,List.range.loop])|(with_reducible refine mu_cf hK ?_ ?_;(· first|(walk_nrm;done)|(simp [Act.eval];done)))|(with_reducible refine mu_ct hK ?_ ?_;(· first|(walk_nrm;done)|(simp [Act.eval];done)))|(refine mu_unwanted hK rfl rfl ?_;walk_nrm)|(refine muv_val hV rfl (by first|exact .inl rfl|exact .inr rfl) rfl (by kernel_rfl) (fun J hJ=>?_);go_simp;with_reducible refine hJ _ ?_;clear hJ J;walk_nrm))
 refine mu_call hK rfl rfl (by decide) rfl Try.func52 (by kernel_rfl) rfl ?_
 rw [← enter_at (P:=Try.prog) _ Try.func52 rfl]
 walk_nrm
 refine wai52a hK hV ?_
 walk_nrm
 repeat (first|(with_reducible first|refine mu_seq hK ?_|refine mu_skip hK ?_|(refine mu_region_end hK ?_;try subst hkk)|refine mu_block hK ?_|refine mu_inBlock hK ?_|refine mu_ret hK ?_|refine mu_end hK ?_)|refine mu_exit hK rfl ?_|(with_reducible refine mu_regionH hK (fun kk hkk=>?_);simp only [List.size_toArray,List.length_cons,List.length_nil,Nat.reduceAdd,Nat.zero_add,List.range,List.range.loop])|(with_reducible refine mu_cf hK ?_ ?_;(· first|(walk_nrm;done)|(simp [Act.eval];done)))|(with_reducible refine mu_ct hK ?_ ?_;(· first|(walk_nrm;done)|(simp [Act.eval];done)))|(refine mu_unwanted hK rfl rfl ?_;walk_nrm)|(refine muv_val hV rfl (by first|exact .inl rfl|exact .inr rfl) rfl (by kernel_rfl) (fun J hJ=>?_);go_simp;with_reducible refine hJ _ ?_;clear hJ J;walk_nrm))
 refine mu_call hK rfl rfl (by decide) rfl Try.func47 (by kernel_rfl) rfl ?_
 rw [← enter_at (P:=Try.prog) _ Try.func47 rfl]
 walk_nrm
 refine own47b hK hV c5 ?_
 walk_nrm
 repeat (first|(with_reducible first|refine mu_seq hK ?_|refine mu_skip hK ?_|(refine mu_region_end hK ?_;try subst hkk)|refine mu_block hK ?_|refine mu_inBlock hK ?_|refine mu_ret hK ?_|refine mu_end hK ?_)|refine mu_exit hK rfl ?_|(with_reducible refine mu_regionH hK (fun kk hkk=>?_);simp only [List.size_toArray,List.length_cons,List.length_nil,Nat.reduceAdd,Nat.zero_add,List.range,List.range.loop])|(with_reducible refine mu_cf hK ?_ ?_;(· first|(walk_nrm;done)|(simp [Act.eval];done)))|(with_reducible refine mu_ct hK ?_ ?_;(· first|(walk_nrm;done)|(simp [Act.eval];done)))|(refine mu_unwanted hK rfl rfl ?_;walk_nrm)|(refine muv_val hV rfl (by first|exact .inl rfl|exact .inr rfl) rfl (by kernel_rfl) (fun J hJ=>?_);go_simp;with_reducible refine hJ _ ?_;clear hJ J;walk_nrm))
 refine mu_call hK rfl rfl (by decide) rfl Try.func52 (by kernel_rfl) rfl ?_
 rw [← enter_at (P:=Try.prog) _ Try.func52 rfl]
 walk_nrm
 refine wai52b hK hV c6 ?_
 walk_nrm
 repeat (first|(with_reducible first|refine mu_seq hK ?_|refine mu_skip hK ?_|(refine mu_region_end hK ?_;try subst hkk)|refine mu_block hK ?_|refine mu_inBlock hK ?_|refine mu_ret hK ?_|refine mu_end hK ?_)|refine mu_exit hK rfl ?_|(with_reducible refine mu_regionH hK (fun kk hkk=>?_);simp only [List.size_toArray,List.length_cons,List.length_nil,Nat.reduceAdd,Nat.zero_add,List.range,List.range.loop])|(with_reducible refine mu_cf hK ?_ ?_;(· first|(walk_nrm;done)|(simp [Act.eval];done)))|(with_reducible refine mu_ct hK ?_ ?_;(· first|(walk_nrm;done)|(simp [Act.eval];done)))|(refine mu_unwanted hK rfl rfl ?_;walk_nrm)|(refine muv_val hV rfl (by first|exact .inl rfl|exact .inr rfl) rfl (by kernel_rfl) (fun J hJ=>?_);go_simp;with_reducible refine hJ _ ?_;clear hJ J;walk_nrm))
 refine mu_call hK rfl rfl (by decide) rfl Try.func43 (by kernel_rfl) rfl ?_
 rw [← enter_at (P:=Try.prog) _ Try.func43 rfl]
 walk_nrm
 refine yek _ ?_
 clear hK hV key yek K
 clear c3 c4 c5 c6 c7
 refine live28_go L.n L.z fun Zq Vq hnq hzq hoq kq=>?_
 have Lq:=L.next hnq hzq hoq kq
 walk_nrm
 obtain ⟨K,hK,hV,key,yek⟩:=kKV (L:=Lone) (J:=fun g=>To0 Try.prog (LPost W) Zq Vq g) mu_to0 (muv_to0 Lq.n)
 refine key _ ?_
 repeat (first|(with_reducible first|refine mu_seq hK ?_|refine mu_skip hK ?_|(refine mu_region_end hK ?_;try subst hkk)|refine mu_block hK ?_|refine mu_inBlock hK ?_|refine mu_ret hK ?_|refine mu_end hK ?_)|refine mu_exit hK rfl ?_|(with_reducible refine mu_regionH hK (fun kk hkk=>?_);simp only [List.size_toArray,List.length_cons,List.length_nil,Nat.reduceAdd,Nat.zero_add,List.range,List.range.loop])|(with_reducible refine mu_cf hK ?_ ?_;(· first|(walk_nrm;done)|(simp [Act.eval];done)))|(with_reducible refine mu_ct hK ?_ ?_;(· first|(walk_nrm;done)|(simp [Act.eval];done)))|(refine mu_unwanted hK rfl rfl ?_;walk_nrm)|(refine muv_val hV rfl (by first|exact .inl rfl|exact .inr rfl) rfl (by kernel_rfl) (fun J hJ=>?_);go_simp;with_reducible refine hJ _ ?_;clear hJ J;walk_nrm))
 refine yek _ ?_
 clear hK hV key yek K
 exact law_last (by kernel_rfl) rfl rfl Try.func13 rfl rfl Lq.o Lq.k
end
end Go.Proofs.Ytibcdikfbhmheaa

namespace Go.Proofs.Ytibcdikfbhmheaa
open Go Go.Conc Go.Proofs
open Go.ConcN (sumTo upd sumTo_upd upd_ne upd_same)
set_option linter.unusedVariables false
def ndst (y : Nat) (x : Nat × List Nat) (i : Nat) : Nat × List Nat:=if x.1 ≤ y then (x.1 + 1,x.2 ++ [i]) else x
def ndrs (y : Nat) : Nat → Nat × List Nat → Nat × List Nat
 | 0,x=>x
 | m + 1,x=>if (ndst y x 0).2.length = x.2.length then ndst y x 0 else ndrs y m (ndst y x 0)
theorem nst_run (y s : Nat) : (nst y s = 0 ∨ nst y s = 1) ↔ s ≤ y:=by
 unfold nst
 by_cases h0 : s = 0
 · rw [if_pos h0]
   exact ⟨fun _=>by omega,fun _=>.inl rfl⟩
 · rw [if_neg h0]
   by_cases h : s ≤ y
   · rw [if_pos h]
     exact ⟨fun _=>h,fun _=>.inr rfl⟩
   · rw [if_neg h]
     exact ⟨fun e=>by omega,fun e=>absurd e h⟩
theorem nd_stp (D : Nd) (C : Cw) (x : Nat × List Nat) (i : Nat) : stp (Und D C) x i = ndst D.y x i:=by
 unfold stp ndst
 by_cases ht : x.1 ≤ D.y
 · rw [if_pos ht]
   exact if_pos ((nst_run D.y x.1).2 ht)
 · rw [if_neg ht]
   exact if_neg fun e=>ht ((nst_run D.y x.1).1 e)
theorem nd_rnds (D : Nd) (C : Cw) : ∀ (R : Nat) (x : Nat × List Nat),rnds (Und D C) 1 R x = ndrs D.y R x
 | 0,x=>rfl
 | m + 1,x=>by
   have e : rnd (Und D C) 1 x = ndst D.y x 0:=nd_stp D C x 0
   show (if (rnd (Und D C) 1 x).2.length = x.2.length then rnd (Und D C) 1 x else rnds (Und D C) 1 m (rnd (Und D C) 1 x)) = (if (ndst D.y x 0).2.length = x.2.length then ndst D.y x 0 else ndrs D.y m (ndst D.y x 0))
   rw [e]
   by_cases h : (ndst D.y x 0).2.length = x.2.length
   · exact (if_pos h).trans (if_pos h).symm
   · exact (if_neg h).trans ((nd_rnds D C m _).trans (if_neg h).symm)
theorem nd_end (y : Nat) (hy : y < 3) : (ndrs y 9 (0,[])).1 = y + 1:=by
 rcases (show y = 0 ∨ y = 1 ∨ y = 2 by omega) with rfl | rfl | rfl <;> rfl
section
variable {W V : World} {Z : Cuts} {u : Int}
theorem kp_at {V V' : World} (k : Kp V V') {b : Nat} {o : Obj} (h : V.heap[b]? = some o) : V'.heap[b]? = some o:=(k.keep b (Array.getElem?_eq_some_iff.1 h).1).trans h
theorem lock_nils (L : LS W Z V) (hu : 0 ≤ u ∧ u < 256) :
   To0 Try.prog (LPost W) Z V (G (Frame.enter Try.prog 13 #[.int .u8 u] .normal) []):=by
 rw [enter_at (P:=Try.prog) _ Try.func13 rfl]
 refine (fun (h : ∀ T : Array Value,Fg 50 [(0,.int .u8 u)] T → To0 Try.prog (LPost W) Z V (G ((base 13).at ⟨T,[]⟩ [.code zB]) []))=>h _ ⟨by simp [Try.f13],by simp,trivial⟩) ?_
 intro T hT
 rw [zB_eq]
 refine mu_seq mu_to0 ?_
 refine v_r0 L.n hT fun T1 V1 hT1 n1 k1 s1 e1=>?_
 refine mu_seq mu_to0 ?_
 refine v_r1 n1 hT1 fun T2 V2 hT2 n2 k2 s2 e2=>?_
 refine mu_seq mu_to0 ?_
 refine v_r2 n2 hT2 fun T3 V3 hT3 n3 k3 s3 e3=>?_
 refine mu_seq mu_to0 ?_
 refine v_r3 n3 hT3 fun T4 V4 hT4 n4 k4 s4 e4=>?_
 refine mu_seq mu_to0 ?_
 refine v_r4 n4 hT4 fun T5 V5 hT5 n5 k5 s5 e5=>?_
 refine mu_seq mu_to0 ?_
 refine v_r5 n5 hT5 fun T6 V6 hT6 n6 k6 s6 e6=>?_
 refine mu_seq mu_to0 ?_
 refine v_r6 n6 hT6 fun T7 hT7=>?_
 refine mu_seq mu_to0 ?_
 refine v_r7 n6 hT7 fun T8 V7 hT8 n7 k7 e7=>?_
 have f1:=kp_at k7 (kp_at k6 (kp_at k5 (kp_at k4 (kp_at k3 (kp_at k2 e1)))))
 have f2:=kp_at k7 (kp_at k6 (kp_at k5 (kp_at k4 (kp_at k3 e2))))
 have f3:=kp_at k7 (kp_at k6 (kp_at k5 (kp_at k4 e3)))
 have f4:=kp_at k7 (kp_at k6 (kp_at k5 e4))
 have f5:=kp_at k7 (kp_at k6 e5)
 have f6:=kp_at k7 e6
 have kk : Kp V V7:=(((((k1.trans k2).trans k3).trans k4).trans k5).trans k6).trans k7
 have hs7:=k7.size
 clear k1 k2 k3 k4 k5 k6 e1 e2 e3 e4 e5 e6 n1 n2 n3 n4 n5 hT hT1 hT2 hT3 hT4 hT5 hT6 hT7
 generalize hyb : V.heap.size = yb at *
 generalize hmb : V1.heap.size = mb at *
 generalize hcb : V2.heap.size = cb at *
 generalize hrb : V3.heap.size = rb at *
 generalize hkb : V4.heap.size = kb at *
 generalize heb : V5.heap.size = eb at *
 generalize hfb : V6.heap.size = fb at *
 obtain ⟨y,hy⟩ : ∃ y : Nat,(y : Int) = u % 3:=⟨(u % 3).toNat,by omega⟩
 obtain ⟨D,hD⟩ : ∃ D : Nd,D = ⟨u,y,yb,mb,cb,rb,kb,eb,V7⟩:=⟨_,rfl⟩
 have O : NdOk D:=by
   subst hD
   exact ⟨hu,hy,⟨by show yb < V7.heap.size; omega,by show yb ≠ eb; omega,f1⟩,⟨by show mb < V7.heap.size; omega,by show mb ≠ eb; omega,f2⟩,⟨by show cb < V7.heap.size; omega,by show cb ≠ eb; omega,f3⟩,by show eb < V7.heap.size; omega⟩
 have hDy : D.y = y:=by rw [hD]
 have hDe : D.eb = eb:=by rw [hD]
 have hDV : D.Vr = V7:=by rw [hD]
 have hI0 : NInv D (0 : Nat) (fun b=>b < V7.heap.size) V7:=by
   subst hD
   exact ⟨Nat.le_refl _,by rw [if_pos (Nat.zero_le _)]; exact f6,fun b hb=>⟨hb,fun _=>rfl⟩⟩
 have hfn : ([.func (.func 57) #[] #[bq yb,bq mb,bq cb,bq rb,bq kb,bq eb]] : List Value).length = 1:=rfl
 have hF : FnRow V7 (.slice (some ⟨fb,0,none⟩) 1 1) [.func (.func 57) #[] #[bq yb,bq mb,bq cb,bq rb,bq kb,bq eb]]:=by
   refine ⟨⟨_,_,rfl,fun _=>⟨fb,0,rfl,(Array.getElem?_eq_some_iff.1 e7).1,fun k hk=>?_⟩⟩,fun k hk=>.inr ?_⟩
   · obtain rfl : k = 0:=by simpa using hk
     exact cell_of e7 (by simp)
   · obtain rfl : k = 0:=by simpa using hk
     exact ⟨_,_,_,rfl⟩
 have L7:=L.same n7 kk
 refine run_go (U:=fun C=>Und D C) (σ0:=fun _=>(0 : Nat)) (own0:=fun b=>b < V7.heap.size) (Rn:=9) (ps:=[]) n7 hF (by simp) L7.z (fun b h=>h) ⟨⟨_,_,rfl,fun h=>by simp at h⟩,fun p hp=>by cases hp⟩ (by simp) (by simp) (fun C E hOk hCn hf=>und_ok O (by rw [hCn]; rfl) fun i hi=>?_) (fun C hCn i hi=>?_) (fun C _=>hI0) fun C σ' xs' Z' V8 ov ovr pkr own' hCn he A=>?_
 · rw [hf i]
   rw [hCn] at hi
   obtain rfl : i = 0:=by simpa using hi
   subst hD
   rfl
 · obtain rfl : i = 0:=by simpa using hi
   rfl
 have hI : NInv D σ' own' V8:=A.inv
 have h3:=O.y3
 have hσ : (σ' : Nat) = D.y + 1:=by
   have e : ((σ',xs') : Nat × List Nat).1 = _:=congrArg Prod.fst he
   exact e.trans ((congrArg Prod.fst (nd_rnds D C 9 ((0 : Nat),([] : List Nat)))).trans (nd_end D.y h3))
 have hold : ∀ b,b < V7.heap.size → b ≠ eb → V8.heap[b]? = V7.heap[b]?:=fun b hb hne=>by
   have h:=(hI.old b (by rw [hDV]; exact hb)).2 (by rw [hDe]; exact hne)
   rw [hDV] at h
   exact h
 have k8 : Kp V V8:=⟨by have:=A.big; omega,fun b hb=>(hold b (by omega) (by omega)).trans (kk.keep b (by omega))⟩
 have L8:=L.next A.nrm A.shut (fun b hb=>A.zold b (by omega)) k8
 have hres:=hI.res
 rw [hDe,hσ,if_neg (by omega)] at hres
 refine v_end L8 ((hold mb (by omega) (by omega)).trans f2) ((hold cb (by omega) (by omega)).trans f3) ((hold rb (by omega) (by omega)).trans f4) ((hold kb (by omega) (by omega)).trans f5) hres hT8
end
end Go.Proofs.Ytibcdikfbhmheaa
