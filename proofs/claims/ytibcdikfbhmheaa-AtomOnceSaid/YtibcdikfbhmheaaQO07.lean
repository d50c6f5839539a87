import Derived.Test.YtibcdikfbhmheaaQO06
set_option linter.unusedSimpArgs false
set_option linter.unusedVariables false
set_option maxRecDepth 100000
set_option maxHeartbeats 4000000
namespace Go.Proofs.Ytibcdikfbhmheaa
open Go Go.Conc Go.Proofs
open Go.ConcN (sumTo upd sumTo_upd upd_ne upd_same)
set_option linter.unusedVariables false
noncomputable def p14 : Code:=nva (nva pX14)
noncomputable def pw15 : Code:=nvc (nvb (nva pX14))
noncomputable def pX16 : Code:=nvb pX14
noncomputable def p16 : Code:=nva (nva pX16)
noncomputable def pw17 : Code:=nvc (nvb (nva pX16))
noncomputable def pX20 : Code:=nvb pX16
theorem pX14_eq : pX14 = .seq (.seq p14 (.cond (.tmp 50) pw15 .skip)) (.seq (.seq p16 (.cond (.tmp 51) pw17 .skip)) pX20):=by kernel_rfl
section
variable {W V : World} {Z : Cuts} {a n pl pc ob pb cb db k fc i : Nat} {pa fa : Option Addr} {no : Bool} {main : Bool} {KK : Nat → Goroutine → World → Prop} {T : Array Value} {kt : List Item} {cs0 : List Frame}
theorem y_r14z (hM : MarkK Try.prog main Z KK) (hn : norm V = V) (eo : V.heap[ob]? = some (.cells #[.int .u32 0,.int .i32 0,.int .u32 0,.int .u32 0] 86 (0,0))) (ec : V.heap[cb]? = some (.cells #[.int .i64 0] 3 (0,0))) (ed : V.heap[db]? = some (.cells #[.int .i64 0] 3 (0,0))) (hT : Fg 104 [(2,.bool no),(6,.bool false),(7,.int .i64 0),(8,.pointer (some ⟨ob,0,none⟩)),(9,.pointer (some ⟨pb,0,none⟩)),(10,.pointer (some ⟨cb,0,none⟩)),(11,.pointer (some ⟨db,0,none⟩))] T)
   (K : ∀ T',Fg 104 [(2,.bool no),(6,.bool false),(8,.pointer (some ⟨ob,0,none⟩)),(9,.pointer (some ⟨pb,0,none⟩)),(10,.pointer (some ⟨cb,0,none⟩))] T' → T'[50]? = some (.bool false) → KK 0 (G ((base 9).at ⟨T',[]⟩ kt) cs0) V) :
   KK 0 (G ((base 9).at ⟨T,[]⟩ (.code p14 :: kt)) cs0) V:=by
 have hK0:=K
 clear K
 have c10 : ∀ τ,(re V τ 0).cell? ⟨cb,0,none⟩ = some (.int .i64 0):=fun τ=>cell_of ec (by simp)
 have c11 : ∀ τ,(re V τ 0).cell? ⟨db,0,none⟩ = some (.int .i64 0):=fun τ=>cell_of ed (by simp)
 have c8 : V.cell? ⟨ob,3,none⟩ = some (.int .u32 0):=cell_of eo (by simp)
 clear eo ec ed
 obtain ⟨hs,h2,h6,h7,h8,h9,h10,h11,-⟩:=hT
 obtain ⟨f,hf,hT⟩:=array104f T hs
 rw [hT]
 simp only [hf _ _ h2,hf _ _ h6,hf _ _ h7,hf _ _ h8,hf _ _ h9,hf _ _ h10,hf _ _ h11]
 clear hf hs h2 h6 h7 h8 h9 h10 h11
 subst hT
 generalize hX0 : p14 = X0
 simp only [p14,pX14,pX13,pX11,pX7,pX6,pX5,pX4,pX3,pX1,pB,nva,nvb,Try.f9,Option.getD_some] at hX0
 subst hX0
 obtain ⟨K,hK,hV,key,yek⟩:=kKV (L:=Lone) (J:=fun g=>KK 0 g V) hM.mu (hM.muv hn)
 refine key _ ?_
 repeat (first|(with_reducible first|refine mu_seq hK ?_|refine mu_skip hK ?_|(refine mu_region_end hK ?_;try subst hkk)|refine mu_block hK ?_|refine mu_inBlock hK ?_|refine mu_ret hK ?_|refine mu_end hK ?_)|refine mu_exit hK rfl ?_|(with_reducible refine mu_regionH hK (fun kk hkk=>?_);simp only [List.size_toArray,List.length_cons,List.length_nil,Nat.reduceAdd,Nat.zero_add,List.range,List.range.loop])|(with_reducible refine mu_cf hK ?_ ?_;(· first|(walk_nrm;done)|(simp [Act.eval];done)))|(with_reducible refine mu_ct hK ?_ ?_;(· first|(walk_nrm;done)|(simp [Act.eval];done)))|(refine mu_unwanted hK rfl rfl ?_;walk_nrm)|(refine muv_val hV rfl (by first|exact .inl rfl|exact .inr rfl) rfl (by kernel_rfl) (fun J hJ=>?_);go_simp;with_reducible refine hJ _ ?_;clear hJ J;walk_nrm))
 refine mu_call hK rfl rfl (by decide) rfl Try.func38 (by kernel_rfl) rfl ?_
 rw [← enter_at (P:=Try.prog) _ Try.func38 rfl]
 walk_nrm
 refine yek _ ?_
 clear hK hV key yek K
 refine o38f hM hn c8 ?_
 walk_nrm
 obtain ⟨K,hK,hV,key,yek⟩:=kKV (L:=Lone) (J:=fun g=>KK 0 g V) hM.mu (hM.muv hn)
 refine key _ ?_
 repeat (first|(with_reducible first|refine mu_seq hK ?_|refine mu_skip hK ?_|(refine mu_region_end hK ?_;try subst hkk)|refine mu_block hK ?_|refine mu_inBlock hK ?_|refine mu_ret hK ?_|refine mu_end hK ?_)|refine mu_exit hK rfl ?_|(with_reducible refine mu_regionH hK (fun kk hkk=>?_);simp only [List.size_toArray,List.length_cons,List.length_nil,Nat.reduceAdd,Nat.zero_add,List.range,List.range.loop])|(with_reducible refine mu_cf hK ?_ ?_;(· first|(walk_nrm;done)|(simp [Act.eval];done)))|(with_reducible refine mu_ct hK ?_ ?_;(· first|(walk_nrm;done)|(simp [Act.eval];done)))|(refine mu_unwanted hK rfl rfl ?_;walk_nrm)|(refine muv_val hV rfl (by first|exact .inl rfl|exact .inr rfl) rfl (by kernel_rfl) (fun J hJ=>?_);go_simp;with_reducible refine hJ _ ?_;clear hJ J;walk_nrm))
 refine yek _ ?_
 clear hK hV key yek K
 try subst hkk
 exact hK0 _ ⟨by simp,rfl,rfl,rfl,rfl,rfl,trivial⟩ rfl
theorem y_r14p (hM : MarkK Try.prog main Z KK) (hn : norm V = V) (hp : 0 < n) (hn9 : n < 9) (eo : V.heap[ob]? = some (.cells #[.int .u32 1,.int .i32 0,.int .u32 0,.int .u32 1] 86 (0,0))) (ec : V.heap[cb]? = some (.cells #[.int .i64 1] 3 (0,0))) (ed : V.heap[db]? = some (.cells #[.int .i64 1] 3 (0,0))) (hT : Fg 104 [(2,.bool no),(6,.bool false),(7,.int .i64 (n : Int)),(8,.pointer (some ⟨ob,0,none⟩)),(9,.pointer (some ⟨pb,0,none⟩)),(10,.pointer (some ⟨cb,0,none⟩)),(11,.pointer (some ⟨db,0,none⟩))] T)
   (K : ∀ T',Fg 104 [(2,.bool no),(6,.bool false),(8,.pointer (some ⟨ob,0,none⟩)),(9,.pointer (some ⟨pb,0,none⟩)),(10,.pointer (some ⟨cb,0,none⟩))] T' → T'[50]? = some (.bool false) → KK 0 (G ((base 9).at ⟨T',[]⟩ kt) cs0) V) :
   KK 0 (G ((base 9).at ⟨T,[]⟩ (.code p14 :: kt)) cs0) V:=by
 have hK0:=K
 clear K
 have c10 : ∀ τ,(re V τ 0).cell? ⟨cb,0,none⟩ = some (.int .i64 1):=fun τ=>cell_of ec (by simp)
 have c11 : ∀ τ,(re V τ 0).cell? ⟨db,0,none⟩ = some (.int .i64 1):=fun τ=>cell_of ed (by simp)
 have c8 : V.cell? ⟨ob,3,none⟩ = some (.int .u32 1):=cell_of eo (by simp)
 clear eo ec ed
 have q4 : (if (1 : Int) < (n : Int) then (1 : Int) else (n : Int)) = 1:=by split <;> omega
 have q5 : decide ((0 : Int) < (n : Int)) = true:=by simp; omega
 obtain ⟨hs,h2,h6,h7,h8,h9,h10,h11,-⟩:=hT
 obtain ⟨f,hf,hT⟩:=array104f T hs
 rw [hT]
 simp only [hf _ _ h2,hf _ _ h6,hf _ _ h7,hf _ _ h8,hf _ _ h9,hf _ _ h10,hf _ _ h11]
 clear hf hs h2 h6 h7 h8 h9 h10 h11
 subst hT
 generalize hX0 : p14 = X0
 simp only [p14,pX14,pX13,pX11,pX7,pX6,pX5,pX4,pX3,pX1,pB,nva,nvb,Try.f9,Option.getD_some] at hX0
 subst hX0
 obtain ⟨K,hK,hV,key,yek⟩:=kKV (L:=Lone) (J:=fun g=>KK 0 g V) hM.mu (hM.muv hn)
 refine key _ ?_
 repeat (first|(with_reducible first|refine mu_seq hK ?_|refine mu_skip hK ?_|(refine mu_region_end hK ?_;try subst hkk)|refine mu_block hK ?_|refine mu_inBlock hK ?_|refine mu_ret hK ?_|refine mu_end hK ?_)|refine mu_exit hK rfl ?_|(with_reducible refine mu_regionH hK (fun kk hkk=>?_);simp only [List.size_toArray,List.length_cons,List.length_nil,Nat.reduceAdd,Nat.zero_add,List.range,List.range.loop])|(with_reducible refine mu_cf hK ?_ ?_;(· first|(walk_nrm;done)|(simp [Act.eval];done)))|(with_reducible refine mu_ct hK ?_ ?_;(· first|(walk_nrm;done)|(simp [Act.eval];done)))|(refine mu_unwanted hK rfl rfl ?_;walk_nrm)|(refine muv_val hV rfl (by first|exact .inl rfl|exact .inr rfl) rfl (by kernel_rfl) (fun J hJ=>?_);go_simp;with_reducible refine hJ _ ?_;clear hJ J;walk_nrm))
 refine mu_call hK rfl rfl (by decide) rfl Try.func38 (by kernel_rfl) rfl ?_
 rw [← enter_at (P:=Try.prog) _ Try.func38 rfl]
 walk_nrm
 refine yek _ ?_
 clear hK hV key yek K
 refine o38t hM hn c8 ?_
 walk_nrm
 obtain ⟨K,hK,hV,key,yek⟩:=kKV (L:=Lone) (J:=fun g=>KK 0 g V) hM.mu (hM.muv hn)
 refine key _ ?_
 repeat (first|(with_reducible first|refine mu_seq hK ?_|refine mu_skip hK ?_|(refine mu_region_end hK ?_;try subst hkk)|refine mu_block hK ?_|refine mu_inBlock hK ?_|refine mu_ret hK ?_|refine mu_end hK ?_)|refine mu_exit hK rfl ?_|(with_reducible refine mu_regionH hK (fun kk hkk=>?_);simp only [List.size_toArray,List.length_cons,List.length_nil,Nat.reduceAdd,Nat.zero_add,List.range,List.range.loop])|(with_reducible refine mu_cf hK ?_ ?_;(· first|(walk_nrm;done)|(simp [Act.eval];done)))|(with_reducible refine mu_ct hK ?_ ?_;(· first|(walk_nrm;done)|(simp [Act.eval];done)))|(refine mu_unwanted hK rfl rfl ?_;walk_nrm)|(refine muv_val hV rfl (by first|exact .inl rfl|exact .inr rfl) rfl (by kernel_rfl) (fun J hJ=>?_);go_simp;with_reducible refine hJ _ ?_;clear hJ J;walk_nrm))
 refine yek _ ?_
 clear hK hV key yek K
 try subst hkk
 exact hK0 _ ⟨by simp,rfl,rfl,rfl,rfl,rfl,trivial⟩ rfl
theorem y_r16 (hM : MarkK Try.prog main Z KK) (hn : norm V = V) (hT : Fg 104 [(2,.bool no),(6,.bool false),(8,.pointer (some ⟨ob,0,none⟩)),(9,.pointer (some ⟨pb,0,none⟩)),(10,.pointer (some ⟨cb,0,none⟩))] T) (K : ∀ T',Fg 104 [(2,.bool no),(6,.bool false),(8,.pointer (some ⟨ob,0,none⟩)),(9,.pointer (some ⟨pb,0,none⟩)),(10,.pointer (some ⟨cb,0,none⟩))] T' → T'[51]? = some (.bool no) → KK 0 (G ((base 9).at ⟨T',[]⟩ kt) cs0) V) :
   KK 0 (G ((base 9).at ⟨T,[]⟩ (.code p16 :: kt)) cs0) V:=by
 have hK0:=K
 clear K
 obtain ⟨hs,h2,h6,h8,h9,h10,-⟩:=hT
 obtain ⟨f,hf,hT⟩:=array104f T hs
 rw [hT]
 simp only [hf _ _ h2,hf _ _ h6,hf _ _ h8,hf _ _ h9,hf _ _ h10]
 clear hf hs h2 h6 h8 h9 h10
 subst hT
 generalize hX0 : p16 = X0
 simp only [p16,pX16,pX14,pX13,pX11,pX7,pX6,pX5,pX4,pX3,pX1,pB,nva,nvb,Try.f9,Option.getD_some] at hX0
 subst hX0
 obtain ⟨K,hK,hV,key,yek⟩:=kKV (L:=Lone) (J:=fun g=>KK 0 g V) hM.mu (hM.muv hn)
 refine key _ ?_
 repeat (first|(with_reducible first|refine mu_seq hK ?_|refine mu_skip hK ?_|(refine mu_region_end hK ?_;try subst hkk)|refine mu_block hK ?_|refine mu_inBlock hK ?_|refine mu_ret hK ?_|refine mu_end hK ?_)|refine mu_exit hK rfl ?_|(with_reducible refine mu_regionH hK (fun kk hkk=>?_);simp only [List.size_toArray,List.length_cons,List.length_nil,Nat.reduceAdd,Nat.zero_add,List.range,List.range.loop])|(with_reducible refine mu_cf hK ?_ ?_;(· first|(walk_nrm;done)|(simp [Act.eval];done)))|(with_reducible refine mu_ct hK ?_ ?_;(· first|(walk_nrm;done)|(simp [Act.eval];done)))|(refine mu_unwanted hK rfl rfl ?_;walk_nrm)|(refine muv_val hV rfl (by first|exact .inl rfl|exact .inr rfl) rfl (by kernel_rfl) (fun J hJ=>?_);go_simp;with_reducible refine hJ _ ?_;clear hJ J;walk_nrm))
 refine yek _ ?_
 clear hK hV key yek K
 try subst hkk
 exact hK0 _ ⟨by simp,rfl,rfl,rfl,rfl,rfl,trivial⟩ rfl
theorem y_r20 (hM : MarkK Try.prog main Z KK) (hn : norm V = V) {c : Int} (hc : c < 99) {bw : Nat} (hbw : bw ≤ pb) (ep : V.heap[pb]? = some (.cells #[.int .u32 0,.int .i32 0,.int .u32 0,.int .u32 0] 86 (0,0))) (ec : V.heap[cb]? = some (.cells #[.int .i64 c] 3 (0,0))) (hcp : cb ≠ pb) (hT : Fg 104 [(2,.bool no),(6,.bool false),(8,.pointer (some ⟨ob,0,none⟩)),(9,.pointer (some ⟨pb,0,none⟩)),(10,.pointer (some ⟨cb,0,none⟩))] T)
   (hl : ∀ (V' : World) (b₀ : Frame) (a₀ : Act) (ops₀ : Array Oper) (i₀ : Nat) (rest₀ : List Nat) (k₀ : List Item) (cs1 : List Frame),norm V' = V' → (V.heap.size ≤ V'.heap.size ∧ ∀ b,b < V.heap.size → b ≠ pb → V'.heap[b]? = V.heap[b]?) → (∀ V2,norm V2 = V2 → Kp V' V2 → KK 0 (G (b₀.at (a₀.put ((ops₀[i₀]?).bind (·.dst)) (.bool true)) (.inRegion ops₀ rest₀ :: k₀)) cs1) V2) → KK 0 (G (Frame.enter Try.prog 28 #[] .normal) (b₀.at a₀ (.inRegion ops₀ (i₀ :: rest₀) :: k₀) :: cs1)) V')
   (K : ∀ T' kt' V2,T'.size = 104 → T'[6]? = some (.bool true) → norm V2 = V2 → (V.heap.size ≤ V2.heap.size ∧ ∀ b,b < V.heap.size → b ≠ pb → V2.heap[b]? = V.heap[b]?) → KK 0 (G { (base 9).at ⟨T',[]⟩ kt' with mode:=.returning } cs0) V2) :
   KK 0 (G ((base 9).at ⟨T,[]⟩ (.code pX20 :: kt)) cs0) V:=by
 have hK0:=K
 clear K
 have l_c:=(Array.getElem?_eq_some_iff.1 ec).1
 have l_p:=(Array.getElem?_eq_some_iff.1 ep).1
 obtain ⟨hs,h2,h6,h8,h9,h10,-⟩:=hT
 obtain ⟨f,hf,hT⟩:=array104f T hs
 rw [hT]
 simp only [hf _ _ h2,hf _ _ h6,hf _ _ h8,hf _ _ h9,hf _ _ h10]
 clear hf hs h2 h6 h8 h9 h10
 subst hT
 generalize hX0 : pX20 = X0
 simp only [pX20,pX16,pX14,pX13,pX11,pX7,pX6,pX5,pX4,pX3,pX1,pB,nvb,Try.f9,Option.getD_some] at hX0
 subst hX0
 obtain ⟨K,hK,hV,key,yek⟩:=kKV (L:=Lone) (J:=fun g=>KK 0 g V) hM.mu (hM.muv hn)
 refine key _ ?_
 repeat (first|(with_reducible first|refine mu_seq hK ?_|refine mu_skip hK ?_|(refine mu_region_end hK ?_;try subst hkk)|refine mu_block hK ?_|refine mu_inBlock hK ?_|refine mu_ret hK ?_|refine mu_end hK ?_)|refine mu_exit hK rfl ?_|(with_reducible refine mu_regionH hK (fun kk hkk=>?_);simp only [List.size_toArray,List.length_cons,List.length_nil,Nat.reduceAdd,Nat.zero_add,List.range,List.range.loop])|(with_reducible refine mu_cf hK ?_ ?_;(· first|(walk_nrm;done)|(simp [Act.eval];done)))|(with_reducible refine mu_ct hK ?_ ?_;(· first|(walk_nrm;done)|(simp [Act.eval];done)))|(refine mu_unwanted hK rfl rfl ?_;walk_nrm)|(refine muv_val hV rfl (by first|exact .inl rfl|exact .inr rfl) rfl (by kernel_rfl) (fun J hJ=>?_);go_simp;with_reducible refine hJ _ ?_;clear hJ J;walk_nrm))
 refine mu_call hK rfl rfl (by decide) rfl Try.func36 (by kernel_rfl) rfl ?_
 rw [← enter_at (P:=Try.prog) _ Try.func36 rfl]
 walk_nrm
 refine yek _ ?_
 clear hK hV key yek K
 refine o36n hM hn ep fun V1 hn1 s1 ep1 k1=>?_
 walk_nrm
 obtain ⟨K,hK,hV,key,yek⟩:=kKV (L:=Lone) (J:=fun g=>KK 0 g V1) hM.mu (hM.muv hn1)
 refine key _ ?_
 repeat (first|(with_reducible first|refine mu_seq hK ?_|refine mu_skip hK ?_|(refine mu_region_end hK ?_;try subst hkk)|refine mu_block hK ?_|refine mu_inBlock hK ?_|refine mu_ret hK ?_|refine mu_end hK ?_)|refine mu_exit hK rfl ?_|(with_reducible refine mu_regionH hK (fun kk hkk=>?_);simp only [List.size_toArray,List.length_cons,List.length_nil,Nat.reduceAdd,Nat.zero_add,List.range,List.range.loop])|(with_reducible refine mu_cf hK ?_ ?_;(· first|(walk_nrm;done)|(simp [Act.eval];done)))|(with_reducible refine mu_ct hK ?_ ?_;(· first|(walk_nrm;done)|(simp [Act.eval];done)))|(refine mu_unwanted hK rfl rfl ?_;walk_nrm)|(refine muv_val hV rfl (by first|exact .inl rfl|exact .inr rfl) rfl (by kernel_rfl) (fun J hJ=>?_);go_simp;with_reducible refine hJ _ ?_;clear hJ J;walk_nrm))
 refine mu_call hK rfl rfl (by decide) rfl Try.func38 (by kernel_rfl) rfl ?_
 rw [← enter_at (P:=Try.prog) _ Try.func38 rfl]
 walk_nrm
 refine yek _ ?_
 clear hK hV key yek K
 refine o38t hM hn1 (cell_of ep1 (by simp)) ?_
 walk_nrm
 obtain ⟨K,hK,hV,key,yek⟩:=kKV (L:=Lone) (J:=fun g=>KK 0 g V1) hM.mu (hM.muv hn1)
 refine key _ ?_
 repeat (first|(with_reducible first|refine mu_seq hK ?_|refine mu_skip hK ?_|(refine mu_region_end hK ?_;try subst hkk)|refine mu_block hK ?_|refine mu_inBlock hK ?_|refine mu_ret hK ?_|refine mu_end hK ?_)|refine mu_exit hK rfl ?_|(with_reducible refine mu_regionH hK (fun kk hkk=>?_);simp only [List.size_toArray,List.length_cons,List.length_nil,Nat.reduceAdd,Nat.zero_add,List.range,List.range.loop])|(with_reducible refine mu_cf hK ?_ ?_;(· first|(walk_nrm;done)|(simp [Act.eval];done)))|(with_reducible refine mu_ct hK ?_ ?_;(· first|(walk_nrm;done)|(simp [Act.eval];done)))|(refine mu_unwanted hK rfl rfl ?_;walk_nrm)|(refine muv_val hV rfl (by first|exact .inl rfl|exact .inr rfl) rfl (by kernel_rfl) (fun J hJ=>?_);go_simp;with_reducible refine hJ _ ?_;clear hJ J;walk_nrm))
 refine mu_call hK rfl rfl (by decide) rfl Try.func36 (by kernel_rfl) rfl ?_
 rw [← enter_at (P:=Try.prog) _ Try.func36 rfl]
 walk_nrm
 refine yek _ ?_
 clear hK hV key yek K
 refine o36t hM hn1 ep1 fun V2 hn2 s2 ep2 k2=>?_
 have ec2:=((k2 _ (by omega) hcp).trans (k1 _ l_c hcp)).trans ec
 have c10 : ∀ τ,(re V2 τ 0).cell? ⟨cb,0,none⟩ = some (.int .i64 c):=fun τ=>cell_of ec2 (by simp)
 have q9 : decide (c < 99) = true:=decide_eq_true hc
 walk_nrm
 obtain ⟨K,hK,hV,key,yek⟩:=kKV (L:=Lone) (J:=fun g=>KK 0 g V2) hM.mu (hM.muv hn2)
 refine key _ ?_
 repeat (first|(with_reducible first|refine mu_seq hK ?_|refine mu_skip hK ?_|(refine mu_region_end hK ?_;try subst hkk)|refine mu_block hK ?_|refine mu_inBlock hK ?_|refine mu_ret hK ?_|refine mu_end hK ?_)|refine mu_exit hK rfl ?_|(with_reducible refine mu_regionH hK (fun kk hkk=>?_);simp only [List.size_toArray,List.length_cons,List.length_nil,Nat.reduceAdd,Nat.zero_add,List.range,List.range.loop])|(with_reducible refine mu_cf hK ?_ ?_;(· first|(walk_nrm;done)|(simp [Act.eval];done)))|(with_reducible refine mu_ct hK ?_ ?_;(· first|(walk_nrm;done)|(simp [Act.eval];done)))|(refine mu_unwanted hK rfl rfl ?_;walk_nrm)|(refine muv_val hV rfl (by first|exact .inl rfl|exact .inr rfl) rfl (by kernel_rfl) (fun J hJ=>?_);go_simp;with_reducible refine hJ _ ?_;clear hJ J;walk_nrm))
 refine mu_call hK rfl rfl (by decide) rfl Try.func28 (by kernel_rfl) rfl ?_
 rw [← enter_at (P:=Try.prog) _ Try.func28 rfl]
 walk_nrm
 refine yek _ ?_
 clear hK hV key yek K
 have kk : V.heap.size ≤ V2.heap.size ∧ ∀ b,b < V.heap.size → b ≠ pb → V2.heap[b]? = V.heap[b]?:=⟨Nat.le_trans s1 s2,fun b hb h=>(k2 b (Nat.lt_of_lt_of_le hb s1) h).trans (k1 b hb h)⟩
 refine hl V2 _ _ _ _ _ _ _ hn2 kk fun V3 hn3 k3=>?_
 clear c10
 walk_nrm
 obtain ⟨K,hK,hV,key,yek⟩:=kKV (L:=Lone) (J:=fun g=>KK 0 g V3) hM.mu (hM.muv hn3)
 refine key _ ?_
 repeat (first|(with_reducible first|refine mu_seq hK ?_|refine mu_skip hK ?_|(refine mu_region_end hK ?_;try subst hkk)|refine mu_block hK ?_|refine mu_inBlock hK ?_|refine mu_ret hK ?_|refine mu_end hK ?_)|refine mu_exit hK rfl ?_|(with_reducible refine mu_regionH hK (fun kk hkk=>?_);simp only [List.size_toArray,List.length_cons,List.length_nil,Nat.reduceAdd,Nat.zero_add,List.range,List.range.loop])|(with_reducible refine mu_cf hK ?_ ?_;(· first|(walk_nrm;done)|(simp [Act.eval];done)))|(with_reducible refine mu_ct hK ?_ ?_;(· first|(walk_nrm;done)|(simp [Act.eval];done)))|(refine mu_unwanted hK rfl rfl ?_;walk_nrm)|(refine muv_val hV rfl (by first|exact .inl rfl|exact .inr rfl) rfl (by kernel_rfl) (fun J hJ=>?_);go_simp;with_reducible refine hJ _ ?_;clear hJ J;walk_nrm))
 refine yek _ ?_
 clear hK hV key yek K
 refine hK0 _ _ V3 ?_ ?_ hn3 ⟨Nat.le_trans kk.1 k3.size,fun b hb h=>(k3.keep b (Nat.lt_of_lt_of_le hb kk.1)).trans (kk.2 b hb h)⟩
 · rfl
 · rfl
theorem y_r17 (hM : MarkK Try.prog main Z KK) (hn : norm V = V) {c : Int} (hc : c < 99) (ec : V.heap[cb]? = some (.cells #[.int .i64 c] 3 (0,0))) (hT : Fg 104 [(2,.bool no),(6,.bool false),(8,.pointer (some ⟨ob,0,none⟩)),(9,.pointer (some ⟨pb,0,none⟩)),(10,.pointer (some ⟨cb,0,none⟩))] T)
   (hl : ∀ (V' : World) (b₀ : Frame) (a₀ : Act) (ops₀ : Array Oper) (i₀ : Nat) (rest₀ : List Nat) (k₀ : List Item) (cs1 : List Frame),norm V' = V' → Kp V V' → (∀ V2,norm V2 = V2 → Kp V' V2 → KK 0 (G (b₀.at (a₀.put ((ops₀[i₀]?).bind (·.dst)) (.bool true)) (.inRegion ops₀ rest₀ :: k₀)) cs1) V2) → KK 0 (G (Frame.enter Try.prog 28 #[] .normal) (b₀.at a₀ (.inRegion ops₀ (i₀ :: rest₀) :: k₀) :: cs1)) V')
   (K : ∀ T' kt' V2,T'.size = 104 → T'[6]? = some (.bool true) → norm V2 = V2 → Kp V V2 → KK 0 (G { (base 9).at ⟨T',[]⟩ kt' with mode:=.returning } cs0) V2) :
   KK 0 (G ((base 9).at ⟨T,[]⟩ (.code pw17 :: kt)) cs0) V:=by
 have hK0:=K
 clear K
 have l_c:=(Array.getElem?_eq_some_iff.1 ec).1
 obtain ⟨hs,h2,h6,h8,h9,h10,-⟩:=hT
 obtain ⟨f,hf,hT⟩:=array104f T hs
 rw [hT]
 simp only [hf _ _ h2,hf _ _ h6,hf _ _ h8,hf _ _ h9,hf _ _ h10]
 clear hf hs h2 h6 h8 h9 h10
 subst hT
 generalize hX0 : pw17 = X0
 simp only [pw17,pX16,pX14,pX13,pX11,pX7,pX6,pX5,pX4,pX3,pX1,pB,nva,nvb,nvc,Try.f9,Option.getD_some] at hX0
 subst hX0
 obtain ⟨K,hK,hV,key,yek⟩:=kKV (L:=Lone) (J:=fun g=>KK 0 g V) hM.mu (hM.muv hn)
 refine key _ ?_
 repeat (first|(with_reducible first|refine mu_seq hK ?_|refine mu_skip hK ?_|(refine mu_region_end hK ?_;try subst hkk)|refine mu_block hK ?_|refine mu_inBlock hK ?_|refine mu_ret hK ?_|refine mu_end hK ?_)|refine mu_exit hK rfl ?_|(with_reducible refine mu_regionH hK (fun kk hkk=>?_);simp only [List.size_toArray,List.length_cons,List.length_nil,Nat.reduceAdd,Nat.zero_add,List.range,List.range.loop])|(with_reducible refine mu_cf hK ?_ ?_;(· first|(walk_nrm;done)|(simp [Act.eval];done)))|(with_reducible refine mu_ct hK ?_ ?_;(· first|(walk_nrm;done)|(simp [Act.eval];done)))|(refine mu_unwanted hK rfl rfl ?_;walk_nrm)|(refine muv_val hV rfl (by first|exact .inl rfl|exact .inr rfl) rfl (by kernel_rfl) (fun J hJ=>?_);go_simp;with_reducible refine hJ _ ?_;clear hJ J;walk_nrm))
 refine mu_call hK rfl rfl (by decide) rfl Try.func36 (by kernel_rfl) rfl ?_
 rw [← enter_at (P:=Try.prog) _ Try.func36 rfl]
 walk_nrm
 refine yek _ ?_
 clear hK hV key yek K
 refine o36z hM hn fun V1 hn1 k1=>?_
 have ec1:=(k1.keep _ l_c).trans ec
 have c10 : ∀ τ,(re V1 τ 0).cell? ⟨cb,0,none⟩ = some (.int .i64 c):=fun τ=>cell_of ec1 (by simp)
 have q9 : decide (c < 99) = true:=decide_eq_true hc
 walk_nrm
 obtain ⟨K,hK,hV,key,yek⟩:=kKV (L:=Lone) (J:=fun g=>KK 0 g V1) hM.mu (hM.muv hn1)
 refine key _ ?_
 repeat (first|(with_reducible first|refine mu_seq hK ?_|refine mu_skip hK ?_|(refine mu_region_end hK ?_;try subst hkk)|refine mu_block hK ?_|refine mu_inBlock hK ?_|refine mu_ret hK ?_|refine mu_end hK ?_)|refine mu_exit hK rfl ?_|(with_reducible refine mu_regionH hK (fun kk hkk=>?_);simp only [List.size_toArray,List.length_cons,List.length_nil,Nat.reduceAdd,Nat.zero_add,List.range,List.range.loop])|(with_reducible refine mu_cf hK ?_ ?_;(· first|(walk_nrm;done)|(simp [Act.eval];done)))|(with_reducible refine mu_ct hK ?_ ?_;(· first|(walk_nrm;done)|(simp [Act.eval];done)))|(refine mu_unwanted hK rfl rfl ?_;walk_nrm)|(refine muv_val hV rfl (by first|exact .inl rfl|exact .inr rfl) rfl (by kernel_rfl) (fun J hJ=>?_);go_simp;with_reducible refine hJ _ ?_;clear hJ J;walk_nrm))
 refine mu_call hK rfl rfl (by decide) rfl Try.func38 (by kernel_rfl) rfl ?_
 rw [← enter_at (P:=Try.prog) _ Try.func38 rfl]
 walk_nrm
 refine yek _ ?_
 clear hK hV key yek K
 refine o38z hM hn1 ?_
 walk_nrm
 obtain ⟨K,hK,hV,key,yek⟩:=kKV (L:=Lone) (J:=fun g=>KK 0 g V1) hM.mu (hM.muv hn1)
 refine key _ ?_
 repeat (first|(with_reducible first|refine mu_seq hK ?_|refine mu_skip hK ?_|(refine mu_region_end hK ?_;try subst hkk)|refine mu_block hK ?_|refine mu_inBlock hK ?_|refine mu_ret hK ?_|refine mu_end hK ?_)|refine mu_exit hK rfl ?_|(with_reducible refine mu_regionH hK (fun kk hkk=>?_);simp only [List.size_toArray,List.length_cons,List.length_nil,Nat.reduceAdd,Nat.zero_add,List.range,List.range.loop])|(with_reducible refine mu_cf hK ?_ ?_;(· first|(walk_nrm;done)|(simp [Act.eval];done)))|(with_reducible refine mu_ct hK ?_ ?_;(· first|(walk_nrm;done)|(simp [Act.eval];done)))|(refine mu_unwanted hK rfl rfl ?_;walk_nrm)|(refine muv_val hV rfl (by first|exact .inl rfl|exact .inr rfl) rfl (by kernel_rfl) (fun J hJ=>?_);go_simp;with_reducible refine hJ _ ?_;clear hJ J;walk_nrm))
 refine mu_call hK rfl rfl (by decide) rfl Try.func34 (by kernel_rfl) rfl ?_
 simp only [Try.f34]
 walk_nrm
 refine yek _ ?_
 clear hK hV key yek K
 obtain ⟨K,hK,hV,key,yek⟩:=kKV (L:=Lone) (J:=fun g=>KK 0 g V1) hM.mu (hM.muv hn1)
 refine key _ ?_
 repeat (first|(with_reducible first|refine mu_seq hK ?_|refine mu_skip hK ?_|(refine mu_region_end hK ?_;try subst hkk)|refine mu_block hK ?_|refine mu_inBlock hK ?_|refine mu_ret hK ?_|refine mu_end hK ?_)|refine mu_exit hK rfl ?_|(with_reducible refine mu_regionH hK (fun kk hkk=>?_);simp only [List.size_toArray,List.length_cons,List.length_nil,Nat.reduceAdd,Nat.zero_add,List.range,List.range.loop])|(with_reducible refine mu_cf hK ?_ ?_;(· first|(walk_nrm;done)|(simp [Act.eval];done)))|(with_reducible refine mu_ct hK ?_ ?_;(· first|(walk_nrm;done)|(simp [Act.eval];done)))|(refine mu_unwanted hK rfl rfl ?_;walk_nrm)|(refine muv_val hV rfl (by first|exact .inl rfl|exact .inr rfl) rfl (by kernel_rfl) (fun J hJ=>?_);go_simp;with_reducible refine hJ _ ?_;clear hJ J;walk_nrm))
 refine mu_leave1 hK rfl rfl Try.func34 rfl ?_
 walk_nrm
 refine yek _ ?_
 clear hK hV key yek K
 obtain ⟨K,hK,hV,key,yek⟩:=kKV (L:=Lone) (J:=fun g=>KK 0 g V1) hM.mu (hM.muv hn1)
 refine key _ ?_
 repeat (first|(with_reducible first|refine mu_seq hK ?_|refine mu_skip hK ?_|(refine mu_region_end hK ?_;try subst hkk)|refine mu_block hK ?_|refine mu_inBlock hK ?_|refine mu_ret hK ?_|refine mu_end hK ?_)|refine mu_exit hK rfl ?_|(with_reducible refine mu_regionH hK (fun kk hkk=>?_);simp only [List.size_toArray,List.length_cons,List.length_nil,Nat.reduceAdd,Nat.zero_add,List.range,List.range.loop])|(with_reducible refine mu_cf hK ?_ ?_;(· first|(walk_nrm;done)|(simp [Act.eval];done)))|(with_reducible refine mu_ct hK ?_ ?_;(· first|(walk_nrm;done)|(simp [Act.eval];done)))|(refine mu_unwanted hK rfl rfl ?_;walk_nrm)|(refine muv_val hV rfl (by first|exact .inl rfl|exact .inr rfl) rfl (by kernel_rfl) (fun J hJ=>?_);go_simp;with_reducible refine hJ _ ?_;clear hJ J;walk_nrm))
 refine mu_call hK rfl rfl (by decide) rfl Try.func40 (by kernel_rfl) rfl ?_
 simp only [Try.f40]
 walk_nrm
 refine yek _ ?_
 clear hK hV key yek K
 obtain ⟨K,hK,hV,key,yek⟩:=kKV (L:=Lone) (J:=fun g=>KK 0 g V1) hM.mu (hM.muv hn1)
 refine key _ ?_
 repeat (first|(with_reducible first|refine mu_seq hK ?_|refine mu_skip hK ?_|(refine mu_region_end hK ?_;try subst hkk)|refine mu_block hK ?_|refine mu_inBlock hK ?_|refine mu_ret hK ?_|refine mu_end hK ?_)|refine mu_exit hK rfl ?_|(with_reducible refine mu_regionH hK (fun kk hkk=>?_);simp only [List.size_toArray,List.length_cons,List.length_nil,Nat.reduceAdd,Nat.zero_add,List.range,List.range.loop])|(with_reducible refine mu_cf hK ?_ ?_;(· first|(walk_nrm;done)|(simp [Act.eval];done)))|(with_reducible refine mu_ct hK ?_ ?_;(· first|(walk_nrm;done)|(simp [Act.eval];done)))|(refine mu_unwanted hK rfl rfl ?_;walk_nrm)|(refine muv_val hV rfl (by first|exact .inl rfl|exact .inr rfl) rfl (by kernel_rfl) (fun J hJ=>?_);go_simp;with_reducible refine hJ _ ?_;clear hJ J;walk_nrm))
 refine mu_leave1 hK rfl rfl Try.func40 rfl ?_
 walk_nrm
 refine yek _ ?_
 clear hK hV key yek K
 obtain ⟨K,hK,hV,key,yek⟩:=kKV (L:=Lone) (J:=fun g=>KK 0 g V1) hM.mu (hM.muv hn1)
 refine key _ ?_
 repeat (first|(with_reducible first|refine mu_seq hK ?_|refine mu_skip hK ?_|(refine mu_region_end hK ?_;try subst hkk)|refine mu_block hK ?_|refine mu_inBlock hK ?_|refine mu_ret hK ?_|refine mu_end hK ?_)|refine mu_exit hK rfl ?_|(with_reducible refine mu_regionH hK (fun kk hkk=>?_);simp only [List.size_toArray,List.length_cons,List.length_nil,Nat.reduceAdd,Nat.zero_add,List.range,List.range.loop])|(with_reducible refine mu_cf hK ?_ ?_;(· first|(walk_nrm;done)|(simp [Act.eval];done)))|(with_reducible refine mu_ct hK ?_ ?_;(· first|(walk_nrm;done)|(simp [Act.eval];done)))|(refine mu_unwanted hK rfl rfl ?_;walk_nrm)|(refine muv_val hV rfl (by first|exact .inl rfl|exact .inr rfl) rfl (by kernel_rfl) (fun J hJ=>?_);go_simp;with_reducible refine hJ _ ?_;clear hJ J;walk_nrm))
 refine mu_call hK rfl rfl (by decide) rfl Try.func41 (by kernel_rfl) rfl ?_
 simp only [Try.f41]
 walk_nrm
 refine yek _ ?_
 clear hK hV key yek K
 obtain ⟨K,hK,hV,key,yek⟩:=kKV (L:=Lone) (J:=fun g=>KK 0 g V1) hM.mu (hM.muv hn1)
 refine key _ ?_
 repeat (first|(with_reducible first|refine mu_seq hK ?_|refine mu_skip hK ?_|(refine mu_region_end hK ?_;try subst hkk)|refine mu_block hK ?_|refine mu_inBlock hK ?_|refine mu_ret hK ?_|refine mu_end hK ?_)|refine mu_exit hK rfl ?_|(with_reducible refine mu_regionH hK (fun kk hkk=>?_);simp only [List.size_toArray,List.length_cons,List.length_nil,Nat.reduceAdd,Nat.zero_add,List.range,List.range.loop])|(with_reducible refine mu_cf hK ?_ ?_;(· first|(walk_nrm;done)|(simp [Act.eval];done)))|(with_reducible refine mu_ct hK ?_ ?_;(· first|(walk_nrm;done)|(simp [Act.eval];done)))|(refine mu_unwanted hK rfl rfl ?_;walk_nrm)|(refine muv_val hV rfl (by first|exact .inl rfl|exact .inr rfl) rfl (by kernel_rfl) (fun J hJ=>?_);go_simp;with_reducible refine hJ _ ?_;clear hJ J;walk_nrm))
 refine mu_leave1 hK rfl rfl Try.func41 rfl ?_
 walk_nrm
 refine yek _ ?_
 clear hK hV key yek K
 obtain ⟨K,hK,hV,key,yek⟩:=kKV (L:=Lone) (J:=fun g=>KK 0 g V1) hM.mu (hM.muv hn1)
 refine key _ ?_
 repeat (first|(with_reducible first|refine mu_seq hK ?_|refine mu_skip hK ?_|(refine mu_region_end hK ?_;try subst hkk)|refine mu_block hK ?_|refine mu_inBlock hK ?_|refine mu_ret hK ?_|refine mu_end hK ?_)|refine mu_exit hK rfl ?_|(with_reducible refine mu_regionH hK (fun kk hkk=>?_);simp only [List.size_toArray,List.length_cons,List.length_nil,Nat.reduceAdd,Nat.zero_add,List.range,List.range.loop])|(with_reducible refine mu_cf hK ?_ ?_;(· first|(walk_nrm;done)|(simp [Act.eval];done)))|(with_reducible refine mu_ct hK ?_ ?_;(· first|(walk_nrm;done)|(simp [Act.eval];done)))|(refine mu_unwanted hK rfl rfl ?_;walk_nrm)|(refine muv_val hV rfl (by first|exact .inl rfl|exact .inr rfl) rfl (by kernel_rfl) (fun J hJ=>?_);go_simp;with_reducible refine hJ _ ?_;clear hJ J;walk_nrm))
 refine mu_call hK rfl rfl (by decide) rfl Try.func32 (by kernel_rfl) rfl ?_
 simp only [Try.f32]
 walk_nrm
 refine yek _ ?_
 clear hK hV key yek K
 obtain ⟨K,hK,hV,key,yek⟩:=kKV (L:=Lone) (J:=fun g=>KK 0 g V1) hM.mu (hM.muv hn1)
 refine key _ ?_
 repeat (first|(with_reducible first|refine mu_seq hK ?_|refine mu_skip hK ?_|(refine mu_region_end hK ?_;try subst hkk)|refine mu_block hK ?_|refine mu_inBlock hK ?_|refine mu_ret hK ?_|refine mu_end hK ?_)|refine mu_exit hK rfl ?_|(with_reducible refine mu_regionH hK (fun kk hkk=>?_);simp only [List.size_toArray,List.length_cons,List.length_nil,Nat.reduceAdd,Nat.zero_add,List.range,List.range.loop])|(with_reducible refine mu_cf hK ?_ ?_;(· first|(walk_nrm;done)|(simp [Act.eval];done)))|(with_reducible refine mu_ct hK ?_ ?_;(· first|(walk_nrm;done)|(simp [Act.eval];done)))|(refine mu_unwanted hK rfl rfl ?_;walk_nrm)|(refine muv_val hV rfl (by first|exact .inl rfl|exact .inr rfl) rfl (by kernel_rfl) (fun J hJ=>?_);go_simp;with_reducible refine hJ _ ?_;clear hJ J;walk_nrm))
 refine mu_leave1 hK rfl rfl Try.func32 rfl ?_
 walk_nrm
 refine yek _ ?_
 clear hK hV key yek K
 obtain ⟨K,hK,hV,key,yek⟩:=kKV (L:=Lone) (J:=fun g=>KK 0 g V1) hM.mu (hM.muv hn1)
 refine key _ ?_
 repeat (first|(with_reducible first|refine mu_seq hK ?_|refine mu_skip hK ?_|(refine mu_region_end hK ?_;try subst hkk)|refine mu_block hK ?_|refine mu_inBlock hK ?_|refine mu_ret hK ?_|refine mu_end hK ?_)|refine mu_exit hK rfl ?_|(with_reducible refine mu_regionH hK (fun kk hkk=>?_);simp only [List.size_toArray,List.length_cons,List.length_nil,Nat.reduceAdd,Nat.zero_add,List.range,List.range.loop])|(with_reducible refine mu_cf hK ?_ ?_;(· first|(walk_nrm;done)|(simp [Act.eval];done)))|(with_reducible refine mu_ct hK ?_ ?_;(· first|(walk_nrm;done)|(simp [Act.eval];done)))|(refine mu_unwanted hK rfl rfl ?_;walk_nrm)|(refine muv_val hV rfl (by first|exact .inl rfl|exact .inr rfl) rfl (by kernel_rfl) (fun J hJ=>?_);go_simp;with_reducible refine hJ _ ?_;clear hJ J;walk_nrm))
 refine mu_call hK rfl rfl (by decide) rfl Try.func28 (by kernel_rfl) rfl ?_
 rw [← enter_at (P:=Try.prog) _ Try.func28 rfl]
 walk_nrm
 refine yek _ ?_
 clear hK hV key yek K
 refine hl V1 _ _ _ _ _ _ _ hn1 k1 fun V3 hn3 k3=>?_
 clear c10
 walk_nrm
 obtain ⟨K,hK,hV,key,yek⟩:=kKV (L:=Lone) (J:=fun g=>KK 0 g V3) hM.mu (hM.muv hn3)
 refine key _ ?_
 repeat (first|(with_reducible first|refine mu_seq hK ?_|refine mu_skip hK ?_|(refine mu_region_end hK ?_;try subst hkk)|refine mu_block hK ?_|refine mu_inBlock hK ?_|refine mu_ret hK ?_|refine mu_end hK ?_)|refine mu_exit hK rfl ?_|(with_reducible refine mu_regionH hK (fun kk hkk=>?_);simp only [List.size_toArray,List.length_cons,List.length_nil,Nat.reduceAdd,Nat.zero_add,List.range,List.range.loop])|(with_reducible refine mu_cf hK ?_ ?_;(· first|(walk_nrm;done)|(simp [Act.eval];done)))|(with_reducible refine mu_ct hK ?_ ?_;(· first|(walk_nrm;done)|(simp [Act.eval];done)))|(refine mu_unwanted hK rfl rfl ?_;walk_nrm)|(refine muv_val hV rfl (by first|exact .inl rfl|exact .inr rfl) rfl (by kernel_rfl) (fun J hJ=>?_);go_simp;with_reducible refine hJ _ ?_;clear hJ J;walk_nrm))
 refine yek _ ?_
 clear hK hV key yek K
 refine hK0 _ _ V3 ?_ ?_ hn3 (k1.trans k3)
 · rfl
 · rfl
end
end Go.Proofs.Ytibcdikfbhmheaa

namespace Go.Proofs.Ytibcdikfbhmheaa
open Go Go.Conc Go.Proofs
open Go.ConcN (sumTo upd sumTo_upd upd_ne upd_same)
set_option linter.unusedVariables false
theorem row_cellsO {V : World} {e : TypeId} {sz : Nat} {v : Value} {n : Nat} {xs : List Value} (h : V.ownsRow 0 e sz v n xs) : ∃ b c,v = .slice b n c ∧ (0 < n → ∃ g,b = some ⟨g,0,none⟩ ∧ g < V.heap.size ∧ ∀ j x,xs[j]? = some x → V.cell? ⟨g,j,none⟩ = some x):=by
 obtain ⟨h1,h2⟩:=h
 rcases h2 with ⟨rfl,rfl⟩ | ⟨g,cap,cur,rfl,_,h4,h5,h6,h7,h8⟩
 · exact ⟨none,0,rfl,fun h=>by omega⟩
 · refine ⟨_,cap,rfl,fun _=>⟨g,rfl,(Array.getElem?_eq_some_iff.1 h4).1,fun j x hx=>cell_of h4 ?_⟩⟩
   rw [← h8] at hx
   have hj : j < n * sz:=by
     apply Nat.lt_of_not_le
     intro hge
     rw [List.getElem?_eq_none (by rw [List.length_take]; omega)] at hx
     cases hx
   rw [List.getElem?_take,if_pos hj] at hx
   simpa using hx
theorem kp_atO {V V' : World} (k : Kp V V') {b : Nat} {o : Obj} (h : V.heap[b]? = some o) : V'.heap[b]? = some o:=(k.keep b (Array.getElem?_eq_some_iff.1 h).1).trans h
def ofw (ob cb db : Nat) : Value:=.func (.func 35) #[] #[.pointer (some ⟨ob,0,none⟩),.pointer (some ⟨cb,0,none⟩),.pointer (some ⟨db,0,none⟩)]
structure OF (V0 : World) (ob cb db k : Nat) (fa : Option Addr) (fc : Nat) (V : World) : Prop where
 nrm : norm V = V
 kp : Kp V0 V
 row : V.ownsRow 0 70 1 (.slice fa k fc) k (List.replicate k (ofw ob cb db))
 own : ∀ b,(Value.slice fa k fc).ownBlock = some b → V0.heap.size ≤ b
section
variable {W V0 V : World} {Z : Cuts} {a n pl pc ob pb cb db i fc : Nat} {pa fa : Option Addr} {no : Bool} {T : Array Value} {kt : List Item} {cs0 : List Frame} {ps : List Int}
def OTF (ob pb cb db n k i pl pc fc : Nat) (no : Bool) (pa fa : Option Addr) (T : Array Value) : Prop:=Fg 104 [(1,.slice pa pl pc),(2,.bool no),(6,.bool false),(7,.int .i64 (n : Int)),(8,.pointer (some ⟨ob,0,none⟩)),(9,.pointer (some ⟨pb,0,none⟩)),(10,.pointer (some ⟨cb,0,none⟩)),(11,.pointer (some ⟨db,0,none⟩)),(12,.slice fa k fc),(13,.int .i64 (i : Int))] T
theorem z_loop (hn9 : n < 9) : ∀ (q i : Nat) (fa : Option Addr) (fc : Nat) (V : World) (T : Array Value),q + i = n → OF V0 ob cb db i fa fc V → OTF ob pb cb db n i i pl pc fc no pa fa T →
   (∀ fa fc V' T',OF V0 ob cb db n fa fc V' → OTF ob pb cb db n n n pl pc fc no pa fa T' → To0 Try.prog (LPost W) Z V' (G ((base 9).at ⟨T',[]⟩ kt) cs0)) →
   To0 Try.prog (LPost W) Z V (G ((base 9).at ⟨T,[]⟩ (.code pL :: .inLoop pL :: .inBlock 0 :: kt)) cs0):=by
 intro q
 induction q with
 | zero =>
   intro i fa fc V T hq M hT K
   refine (fun (h : ∀ Y,Y = pL → To0 Try.prog (LPost W) Z V (G ((base 9).at ⟨T,[]⟩ (.code Y :: .inLoop pL :: .inBlock 0 :: kt)) cs0))=>h pL rfl) ?_
   intro Y hY
   rw [pL_eq] at hY
   subst hY
   refine mu_seq mu_to0 (mu_seq mu_to0 ?_)
   refine z_r8 (x:=false) M.nrm (decide_eq_false (by omega)) hT fun T1 hT1 h25=>?_
   refine mu_cond mu_to0 false (evt h25) ?_
   refine mu_exit mu_to0 rfl ?_
   obtain rfl : i = n:=by omega
   exact K fa fc V T1 M hT1
 | succ q ih =>
   intro i fa fc V T hq M hT K
   refine (fun (h : ∀ Y,Y = pL → To0 Try.prog (LPost W) Z V (G ((base 9).at ⟨T,[]⟩ (.code Y :: .inLoop pL :: .inBlock 0 :: kt)) cs0))=>h pL rfl) ?_
   intro Y hY
   rw [pL_eq] at hY
   subst hY
   refine mu_seq mu_to0 (mu_seq mu_to0 ?_)
   refine z_r8 (x:=true) M.nrm (decide_eq_true (by omega)) hT fun T1 hT1 h25=>?_
   refine mu_cond mu_to0 true (evt h25) ?_
   refine mu_skip mu_to0 (mu_seq mu_to0 (mu_block mu_to0 ?_))
   refine z_r10 M.nrm M.row (by omega) hT1 fun T2 V2 wa wc hT2 n2 r2 s2 k2 o2=>mu_inBlock mu_to0 ?_
   refine z_r9 n2 (by omega) hT2 fun T3 hT3=>mu_inLoop mu_to0 ?_
   refine ih (i + 1) wa wc V2 T3 (by omega) ⟨n2,⟨by have:=M.kp.size; omega,fun b hb=>by rw [k2 b (by have:=M.kp.size; omega) (fun e=>by have:=M.own b e; omega)]; exact M.kp.keep b hb⟩,?_,fun b hb=>?_⟩ hT3 K
   · rw [List.replicate_succ']; exact r2
   · rcases o2 b hb with h | h
     · exact M.own b h
     · have:=M.kp.size; omega
theorem ofs_get {k : Nat} (h : k < n) : (List.replicate n (ofw ob cb db)).getD k .nilFunc = ofw ob cb db:=by
 rw [List.getD_eq_getElem?_getD,List.getElem?_replicate,if_pos h]
 rfl
theorem y_end (L : LS W Z V) (hpb : (vw W).heap.size ≤ pb) (hn9 : n < 9) {c : Bool} (hc : c = decide (0 < n)) (eo : V.heap[ob]? = some (.cells #[.int .u32 (bi c),.int .i32 0,.int .u32 0,.int .u32 (bi c)] 86 (0,0))) (ec : V.heap[cb]? = some (.cells #[.int .i64 (bi c)] 3 (0,0))) (ed : V.heap[db]? = some (.cells #[.int .i64 (bi c)] 3 (0,0)))
   (ep : V.heap[pb]? = some (.cells #[.int .u32 0,.int .i32 0,.int .u32 0,.int .u32 0] 86 (0,0))) (hcp : cb ≠ pb) (hT : Fg 104 [(2,.bool no),(6,.bool false),(7,.int .i64 (n : Int)),(8,.pointer (some ⟨ob,0,none⟩)),(9,.pointer (some ⟨pb,0,none⟩)),(10,.pointer (some ⟨cb,0,none⟩)),(11,.pointer (some ⟨db,0,none⟩))] T) :
   To0 Try.prog (LPost W) Z V (G ((base 9).at ⟨T,[]⟩ [.code pX14]) []):=by
 have hM : MarkK Try.prog true Z (fun d g V=>To0d Try.prog (LPost W) Z d V g):=markTo0
 have last : ∀ (T' : Array Value) kt' V2,T'.size = 104 → T'[6]? = some (.bool true) → norm V2 = V2 → (V.heap.size ≤ V2.heap.size ∧ ∀ b,b < V.heap.size → b ≠ pb → V2.heap[b]? = V.heap[b]?) → To0d Try.prog (LPost W) Z 0 V2 (G { (base 9).at ⟨T',[]⟩ kt' with mode:=.returning } []):=fun T' kt' V2 _ h6 n2 k2=>by
   show To0 Try.prog (LPost W) Z V2 _
   refine law_last (by kernel_rfl) rfl rfl Try.func9 rfl ?_ L.o ⟨Nat.le_trans L.k.size k2.1,fun b hb=>(k2.2 b (Nat.lt_of_lt_of_le hb L.k.size) (by omega)).trans (L.k.keep b hb)⟩
   show T'.getD 6 undef = _
   rw [Array.getD_eq_getD_getElem?,h6]
   rfl
 have c99 : bi c < 99:=by cases c <;> decide
 show To0d Try.prog (LPost W) Z 0 V _
 rw [pX14_eq]
 refine mu_seq (K:=fun g=>To0d Try.prog (LPost W) Z 0 V g) hM.mu (mu_seq hM.mu ?_)
 have mid : ∀ T',Fg 104 [(2,.bool no),(6,.bool false),(8,.pointer (some ⟨ob,0,none⟩)),(9,.pointer (some ⟨pb,0,none⟩)),(10,.pointer (some ⟨cb,0,none⟩))] T' → T'[50]? = some (.bool false) → To0d Try.prog (LPost W) Z 0 V (G ((base 9).at ⟨T',[]⟩ [.code (.cond (.tmp 50) pw15 .skip),.code (.seq (.seq p16 (.cond (.tmp 51) pw17 .skip)) pX20)]) []):=fun T' hT' h50=>by
   refine mu_cond (K:=fun g=>To0d Try.prog (LPost W) Z 0 V g) hM.mu false (evt h50) (mu_skip hM.mu (mu_seq hM.mu (mu_seq hM.mu ?_)))
   refine y_r16 hM L.n hT' fun T2 hT2 h51=>?_
   cases hno : no with
   | true =>
     rw [hno] at h51 hT2
     refine mu_cond (K:=fun g=>To0d Try.prog (LPost W) Z 0 V g) hM.mu true (evt h51) ?_
     refine y_r17 hM L.n c99 ec hT2 (fun V' b₀ a₀ ops₀ i₀ rest₀ k₀ cs1 hn' k' hK=>?_) fun T3 kt' V2 hs h6 n2 k2=>last T3 kt' V2 hs h6 n2 ⟨k2.size,fun b hb _=>k2.keep b hb⟩
     exact live28_go hn' hK
   | false =>
     rw [hno] at h51 hT2
     refine mu_cond (K:=fun g=>To0d Try.prog (LPost W) Z 0 V g) hM.mu false (evt h51) (mu_skip hM.mu ?_)
     refine y_r20 (bw:=0) hM L.n c99 (Nat.zero_le _) ep ec hcp hT2 (fun V' b₀ a₀ ops₀ i₀ rest₀ k₀ cs1 hn' k' hK=>?_) fun T3 kt' V2 hs h6 n2 k2=>last T3 kt' V2 hs h6 n2 k2
     exact live28_go hn' hK
 cases c with
 | false =>
   obtain rfl : n = 0:=by have:=of_decide_eq_false hc.symm; omega
   exact y_r14z hM L.n eo ec ed hT mid
 | true=>exact y_r14p hM L.n (of_decide_eq_true hc.symm) hn9 eo ec ed hT mid
set_option maxHeartbeats 1000000 in
theorem atom_once (L : LS W Z V) (ha : a < 256) (hpl : ps.length = pl) (hp : Pks V (fun _=>False) (.slice pa pl pc) ps) :
   To0 Try.prog (LPost W) Z V (G (Frame.enter Try.prog 9 #[.int .u8 (a : Int),.slice pa pl pc,.bool no] .normal) []):=by
 rw [enter_at (P:=Try.prog) _ Try.func9 rfl]
 refine (fun (h : ∀ T : Array Value,Fg 104 [(0,.int .u8 (a : Int)),(1,.slice pa pl pc),(2,.bool no)] T → To0 Try.prog (LPost W) Z V (G ((base 9).at ⟨T,[]⟩ [.code pB]) []))=>h _ ⟨by simp [Try.f9],by simp,by simp,by simp,trivial⟩) ?_
 intro T hT
 rw [pB_eq]
 refine mu_seq mu_to0 ?_
 refine z_r0 L.n hT fun T1 hT1=>?_
 refine mu_seq mu_to0 (mu_seq mu_to0 ?_)
 refine z_r1 (x:=decide ((100 : Int) < (pl : Int))) L.n rfl hT1 fun T2 hT2 h18=>?_
 by_cases hbig : 100 < pl
 · have e : decide ((100 : Int) < (pl : Int)) = true:=by simp; omega
   rw [e] at h18
   refine mu_cond mu_to0 true (evt h18) ?_
   exact z_live L hT2.1
 have e : decide ((100 : Int) < (pl : Int)) = false:=by simp; omega
 rw [e] at h18
 refine mu_cond mu_to0 false (evt h18) (mu_skip mu_to0 ?_)
 obtain ⟨n,hr⟩ : ∃ n,a % 9 = n:=⟨_,rfl⟩
 refine mu_seq mu_to0 ?_
 refine z_r3 L.n ha hr hT2 fun T3 hT3=>?_
 refine mu_seq mu_to0 ?_
 refine z_r4 L.n hT3 fun T4 V4 hT4 n4 k4 s4 e4 e4'=>?_
 refine mu_seq mu_to0 ?_
 refine z_r5 n4 hT4 fun T5 V5 hT5 n5 k5 s5 e5 e5'=>?_
 refine mu_seq mu_to0 ?_
 refine z_r6 n5 hT5 fun T6 hT6=>?_
 refine mu_seq mu_to0 (mu_seq mu_to0 ?_)
 refine z_r7 n5 hT6 fun T7 hT7=>?_
 refine mu_block mu_to0 (mu_loop mu_to0 ?_)
 have f4:=kp_atO k5 e4
 have f4':=kp_atO k5 e4'
 have kk : Kp V V5:=k4.trans k5
 clear k4 k5 e4 e4' n4 hT hT1 hT2 hT3 hT4 hT5 hT6 h18 e
 generalize hob : V.heap.size = ob at *
 generalize hpb : ob + 1 = pb at *
 generalize hcb : V4.heap.size = cb at *
 generalize hdb : cb + 1 = db at *
 have hn9 : n < 9:=by omega
 have M0 : OF V5 ob cb db 0 none 0 V5:=⟨n5,Kp.refl _,⟨rfl,.inl ⟨rfl,rfl⟩⟩,fun b hb=>by cases hb⟩
 refine z_loop (V0:=V5) hn9 n 0 _ _ V5 T7 (by omega) M0 hT7 fun fa fc V10 T11 M hT11=>?_
 clear M0 hT7
 have g4:=kp_atO M.kp f4
 have g4':=kp_atO M.kp f4'
 have g5:=kp_atO M.kp e5
 have g5':=kp_atO M.kp e5'
 have k10 : Kp V V10:=kk.trans M.kp
 have L10:=L.same M.nrm k10
 refine mu_seq mu_to0 (mu_seq mu_to0 ?_)
 refine z_r11 M.nrm (cell_of g4 (by simp)) hT11 fun T12 hT12 h32=>?_
 refine mu_cond mu_to0 false (evt h32) (mu_skip mu_to0 (mu_seq mu_to0 ?_))
 refine z_r13 M.nrm hT12 fun T13 hT13=>?_
 obtain ⟨D,hD⟩ : ∃ D : Od,D = ⟨n,ob,cb,db⟩:=⟨_,rfl⟩
 have O : OdOk D:=⟨by subst hD; exact ⟨by show cb ≠ ob; omega,by show db ≠ ob; omega,by show db ≠ cb; omega⟩⟩
 have l1:=(Array.getElem?_eq_some_iff.1 g4).1
 have l2:=(Array.getElem?_eq_some_iff.1 g4').1
 have l3:=(Array.getElem?_eq_some_iff.1 g5).1
 have l4:=(Array.getElem?_eq_some_iff.1 g5').1
 have hown0 : ∀ b,(b = ob ∨ b = cb ∨ b = db) → V.heap.size ≤ b ∧ b < V10.heap.size ∧ b ≠ pb:=fun b hb=>by
   rcases hb with rfl | rfl | rfl <;> omega
 have hI0 : OInv D ⟨fun _=>0,false⟩ (fun b=>b = ob ∨ b = cb ∨ b = db) V10:=by
   subst hD
   exact ⟨g4,g5,g5',.inl rfl,.inr (.inl rfl),.inr (.inr rfl)⟩
 have hfl : (List.replicate n (ofw ob cb db)).length = n:=by simp
 have hF : FnRow V10 (.slice fa n fc) (List.replicate n (ofw ob cb db)):=by
   refine ⟨⟨fa,fc,by rw [hfl],fun h0=>?_⟩,fun k hk=>.inr ?_⟩
   · rw [hfl] at h0
     obtain ⟨b,c,e,h⟩:=row_cellsO M.row
     injection e with e _ _
     obtain ⟨g,hb,hg,hc⟩:=h h0
     refine ⟨g,0,e.trans hb,hg,fun k hk=>?_⟩
     rw [hfl] at hk
     rw [Nat.zero_add,ofs_get hk]
     exact hc k _ (by rw [List.getElem?_replicate,if_pos hk])
   · rw [hfl] at hk
     rw [ofs_get hk]
     exact ⟨_,_,_,rfl⟩
 have hs10:=k10.size
 have hP : Pks V10 (fun b=>b = ob ∨ b = cb ∨ b = db) (.slice pa pl pc) ps:=by
   obtain ⟨⟨pb',pcc,epv,hpr⟩,hpr2⟩:=hp
   refine ⟨⟨pb',pcc,epv,fun h0=>?_⟩,hpr2⟩
   obtain ⟨g,o,e,hg,_,hc⟩:=hpr h0
   exact ⟨g,o,e,by omega,fun h=>by have:=(hown0 g h).1; omega,fun k hk=>k10.cell (hc k hk)⟩
 refine run_go (U:=fun C=>Uon D C) (σ0:=fun _=>(⟨fun _=>0,false⟩ : OS)) (own0:=fun b=>b = ob ∨ b = cb ∨ b = db) (Rn:=3) M.nrm hF (by rw [hfl]; omega) L10.z (fun b h=>(hown0 b h).2.1) hP.u (by omega) (by simp) (fun C E hOk hCn hf=>?_) (fun C hCn i hi=>?_) (fun C _=>hI0) fun C σ' xs' Z' V11 ov ovr pkr own' hCn he A=>?_
 · rw [hfl] at hCn
   refine uon_ok O fun i hi=>?_
   rw [hf i,ofs_get (by omega)]
   subst hD
   rfl
 · rw [hfl] at hi
   show stv 0 = st0 (List.replicate n (ofw ob cb db)) i
   unfold st0
   rw [ofs_get hi]
   rfl
 rw [hfl] at hCn he
 have hI : OInv D σ' own' V11:=A.inv
 have hc : (σ' : OS).c = decide (0 < n):=by
   have h1:=he.trans (orun_eq n D C 3 _ ps)
   have h2:=once_law (n:=n) ps
   exact (congrArg (fun x : OS × List Nat=>x.1.c) h1).trans h2
 have k11 : Kp V V11:=⟨by have:=A.big; omega,fun b hb=>by
   rw [A.keep b (by omega) (fun h=>by have:=(hown0 b h).1; omega)]
   exact k10.keep b hb⟩
 have L11:=L.next A.nrm A.shut (fun b hb=>A.zold b (by omega)) k11
 have ep : V11.heap[pb]? = some (.cells #[.int .u32 0,.int .i32 0,.int .u32 0,.int .u32 0] 86 (0,0)):=(A.keep pb l2 fun h=>(hown0 pb h).2.2 rfl).trans g4'
 have eo:=hI.ob
 have ec:=hI.cb
 have ed:=hI.db
 simp only [hD] at eo ec ed
 have hd : ((po13[2]?).bind (·.dst)) = some 35:=by kernel_rfl
 rw [hd]
 refine mu_region_end mu_to0 ?_
 rw [show Act.put ⟨T13,[]⟩ (some 35) (.tuple #[.agg #[ov,ovr,pkr],.int .i64 0]) = ⟨(Act.put ⟨T13,[]⟩ (some 35) (.tuple #[.agg #[ov,ovr,pkr],.int .i64 0])).tmps,[]⟩ from rfl]
 refine y_end (no:=no) L11 (by have:=L.k.size; omega) hn9 hc eo ec ed ep (by omega) ?_
 obtain ⟨hs,h2,h6,h7,h8,h9,h10,h11,-⟩:=hT13
 refine ⟨by simpa [Act.put] using hs,?_,?_,?_,?_,?_,?_,?_,trivial⟩ <;> (simp only [Act.put]; rw [Array.getElem?_setIfInBounds_ne (by decide)]; assumption)
end
end Go.Proofs.Ytibcdikfbhmheaa
