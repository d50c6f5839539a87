import Derived.Test.YtibcdikfbhmheaaQO01
set_option linter.unusedSimpArgs false
set_option linter.unusedVariables false
set_option maxRecDepth 100000
set_option maxHeartbeats 4000000
namespace Go.Proofs.Ytibcdikfbhmheaa
open Go Go.Conc Go.Proofs
open Go.ConcN (sumTo upd sumTo_upd upd_ne upd_same)
set_option linter.unusedVariables false
@[go_sem] theorem neq1f (fid : FuncId) (g n) (w : World) : (binOp BinOp.neq 1 (.func (.func fid) g n) .nilFunc).run Try.prog w = .ok (.bool true) w:=by kernel_rfl
@[go_sem] theorem neq1n (w : World) : (binOp BinOp.neq 1 .nilFunc .nilFunc).run Try.prog w = .ok (.bool false) w:=by kernel_rfl
section
variable {main : Bool} {Z : Cuts} {KK : Nat → Goroutine → World → Prop} {d : Nat} {V : World} {b₀ fr : Frame} {a₀ : Act} {ops₀ : Array Oper} {i₀ : Nat} {rest₀ : List Nat} {k₀ kt : List Item} {cs0 cs : List Frame} {ob cb nb pb fb : Nat}
theorem o145d (hM : MarkK Try.prog main Z KK) (hn : norm V = V) (hc : V.cell? ⟨ob,1,none⟩ = some (.int .i32 1)) (hz : V.frozen? ⟨ob,1,none⟩ = false) (hlt : ob < V.heap.size) (hm : fr.mode = .returning) (h : KK d (G fr cs) (V.setCell ⟨ob,1,none⟩ (.int .i32 0))) : KK d (G (Frame.enter Try.prog 145 #[.pointer (some ⟨ob,1,none⟩)] .deferred) (fr :: cs)) V:=by
 rw [enter_atD (P:=Try.prog) _ Try.func145 rfl]
 simp only [Try.f145]
 walk_nrm
 obtain ⟨K,hK,hV,key,yek⟩:=kKV (L:=Lone) (J:=fun g=>KK d g V) hM.mu (hM.muv hn)
 refine key _ ?_
 repeat (first|(with_reducible first|refine mu_seq hK ?_|refine mu_skip hK ?_|(refine mu_region_end hK ?_;try subst hkk)|refine mu_block hK ?_|refine mu_inBlock hK ?_|refine mu_ret hK ?_|refine mu_end hK ?_)|refine mu_exit hK rfl ?_|(with_reducible refine mu_regionH hK (fun kk hkk=>?_);simp only [List.size_toArray,List.length_cons,List.length_nil,Nat.reduceAdd,Nat.zero_add,List.range,List.range.loop])|(with_reducible refine mu_cf hK ?_ ?_;(· first|(walk_nrm;done)|(simp [Act.eval];done)))|(with_reducible refine mu_ct hK ?_ ?_;(· first|(walk_nrm;done)|(simp [Act.eval];done)))|(refine mu_unwanted hK rfl rfl ?_;walk_nrm)|(refine muv_val hV rfl (by first|exact .inl rfl|exact .inr rfl) rfl (by kernel_rfl) (fun J hJ=>?_);go_simp;with_reducible refine hJ _ ?_;clear hJ J;walk_nrm))
 refine mu_call hK rfl rfl (by decide) rfl Try.func163 (by kernel_rfl) rfl ?_
 rw [← enter_at (P:=Try.prog) _ Try.func163 rfl]
 walk_nrm
 refine yek _ ?_
 clear hK hV key yek K
 refine o163 hM hn hc hz hlt ?_
 have hn2:=norm_set hn ⟨ob,1,none⟩ (.int .i32 0)
 clear hc hz
 generalize V.setCell ⟨ob,1,none⟩ (.int .i32 0) = V2 at *
 walk_nrm
 obtain ⟨K,hK,hV,key,yek⟩:=kKV (L:=Lone) (J:=fun g=>KK d g V2) hM.mu (hM.muv hn2)
 refine key _ ?_
 repeat (first|(with_reducible first|refine mu_seq hK ?_|refine mu_skip hK ?_|(refine mu_region_end hK ?_;try subst hkk)|refine mu_block hK ?_|refine mu_inBlock hK ?_|refine mu_ret hK ?_|refine mu_end hK ?_)|refine mu_exit hK rfl ?_|(with_reducible refine mu_regionH hK (fun kk hkk=>?_);simp only [List.size_toArray,List.length_cons,List.length_nil,Nat.reduceAdd,Nat.zero_add,List.range,List.range.loop])|(with_reducible refine mu_cf hK ?_ ?_;(· first|(walk_nrm;done)|(simp [Act.eval];done)))|(with_reducible refine mu_ct hK ?_ ?_;(· first|(walk_nrm;done)|(simp [Act.eval];done)))|(refine mu_unwanted hK rfl rfl ?_;walk_nrm)|(refine muv_val hV rfl (by first|exact .inl rfl|exact .inr rfl) rfl (by kernel_rfl) (fun J hJ=>?_);go_simp;with_reducible refine hJ _ ?_;clear hJ J;walk_nrm))
 refine yek _ ?_
 clear hK hV key yek K
 refine mu_back (K:=fun g=>KK d g V2) (v:=undef) hM.mu rfl rfl Try.func145 rfl (.inl hm) ?_
 rw [back_eq hm]
 exact h
structure Onb (V : World) (ob nb pb fb : Nat) (x : Value) (fv : Value) (c0 c1 c3 : Int) : Prop where
 o : V.heap[ob]? = some (.cells #[.int .u32 c0,.int .i32 c1,.int .u32 0,.int .u32 c3] 86 (0,0))
 n : V.heap[nb]? = some (.cells #[x] 4 (0,0))
 p : V.heap[pb]? = some (.cells #[.pointer (some ⟨ob,0,none⟩)] 88 (0,0))
 f : V.heap[fb]? = some (.cells #[fv] 1 (0,0))
 ne : ob ≠ nb ∧ ob ≠ pb ∧ ob ≠ fb ∧ nb ≠ pb ∧ nb ≠ fb ∧ pb ≠ fb
theorem o85f (hM : MarkK Try.prog main Z KK) (hn : norm V = V) (B : Onb V ob nb pb fb (.bool false) (.func (.func 37) #[] #[.pointer (some ⟨cb,0,none⟩)]) 0 1 0) {m : Int} (hcb : V.heap[cb]? = some (.cells #[.int .i64 m] 3 (0,0))) (hcn : cb ≠ ob ∧ cb ≠ nb ∧ cb ≠ pb ∧ cb ≠ fb)
   (h : ∀ V2,norm V2 = V2 → V2.heap.size = V.heap.size → Onb V2 ob nb pb fb (.bool true) (.func (.func 37) #[] #[.pointer (some ⟨cb,0,none⟩)]) 0 1 1 → V2.heap[cb]? = some (.cells #[.int .i64 (IntKind.i64.wrap (m + 1))] 3 (0,0)) → (∀ b,b ≠ ob → b ≠ nb → b ≠ cb → V2.heap[b]? = V.heap[b]?) → KK d (G (b₀.at (a₀.put ((ops₀[i₀]?).bind (·.dst)) (.tuple #[])) (.inRegion ops₀ rest₀ :: k₀)) cs0) V2) :
   KK d (G (Frame.enter Try.prog 85 #[.pointer (some ⟨nb,0,none⟩),.pointer (some ⟨pb,0,none⟩),.pointer (some ⟨fb,0,none⟩)] .normal) (b₀.at a₀ (.inRegion ops₀ (i₀ :: rest₀) :: k₀) :: cs0)) V:=by
 obtain ⟨n1,n2,n3,n4,n5,n6⟩:=B.ne
 have e_n : ∀ τ,(re V τ 0).cell? ⟨nb,0,none⟩ = some (.bool false):=fun τ=>cell_of B.n (by simp)
 have e_p : ∀ τ,(re V τ 0).cell? ⟨pb,0,none⟩ = some (.pointer (some ⟨ob,0,none⟩)):=fun τ=>cell_of B.p (by simp)
 have e_f : ∀ τ,(re V τ 0).cell? ⟨fb,0,none⟩ = some (.func (.func 37) #[] #[.pointer (some ⟨cb,0,none⟩)]):=fun τ=>cell_of B.f (by simp)
 have z_n : ∀ τ,(re V τ 0).frozen? ⟨nb,0,none⟩ = false:=fun τ=>by simp [World.frozen?,re,B.n]
 rw [enter_at (P:=Try.prog) _ Try.func85 rfl]
 simp only [Try.f85]
 walk_nrm
 obtain ⟨K,hK,hV,key,yek⟩:=kKV (L:=Lone) (J:=fun g=>KK d g V) hM.mu (hM.muv hn)
 refine key _ ?_
 repeat (first|(with_reducible first|refine mu_seq hK ?_|refine mu_skip hK ?_|(refine mu_region_end hK ?_;try subst hkk)|refine mu_block hK ?_|refine mu_inBlock hK ?_|refine mu_ret hK ?_|refine mu_end hK ?_)|refine mu_exit hK rfl ?_|(with_reducible refine mu_regionH hK (fun kk hkk=>?_);simp only [List.size_toArray,List.length_cons,List.length_nil,Nat.reduceAdd,Nat.zero_add,List.range,List.range.loop])|(with_reducible refine mu_cf hK ?_ ?_;(· first|(walk_nrm;done)|(simp [Act.eval];done)))|(with_reducible refine mu_ct hK ?_ ?_;(· first|(walk_nrm;done)|(simp [Act.eval];done)))|(refine mu_unwanted hK rfl rfl ?_;walk_nrm)|(refine muv_val hV rfl (by first|exact .inl rfl|exact .inr rfl) rfl (by kernel_rfl) (fun J hJ=>?_);go_simp;with_reducible refine hJ _ ?_;clear hJ J;walk_nrm))
 refine yek _ ?_
 clear hK hV key yek K
 have hn1:=norm_set hn ⟨nb,0,none⟩ (.bool true)
 refine mus_put (L:=Lone) (hM.mus hn1) (K:=fun g=>KK d g V) (K':=fun g=>KK d g (V.setCell ⟨nb,0,none⟩ (.bool true))) rfl (.inl rfl) rfl (by kernel_rfl) (fun τ=>?_) ?_
 · go_simp
   try rfl
 have k1 : ∀ b,b ≠ nb → (V.setCell ⟨nb,0,none⟩ (.bool true)).heap[b]? = V.heap[b]?:=fun b hb=>by rw [setCell_heap,if_neg hb]
 have s1 : (V.setCell ⟨nb,0,none⟩ (.bool true)).heap.size = V.heap.size:=by simp [World.setCell]
 have e1 : (V.setCell ⟨nb,0,none⟩ (.bool true)).heap[nb]? = some (.cells #[.bool true] 4 (0,0)):=by
   rw [setCell_heap,if_pos rfl,B.n]
   simp
 generalize V.setCell ⟨nb,0,none⟩ (.bool true) = V1 at *
 clear e_n e_p e_f z_n
 have e_p : ∀ τ,(re V1 τ 0).cell? ⟨pb,0,none⟩ = some (.pointer (some ⟨ob,0,none⟩)):=fun τ=>cell_of ((k1 _ (Ne.symm n4)).trans B.p) (by simp)
 have o1:=(k1 ob n1).trans B.o
 walk_nrm
 obtain ⟨K,hK,hV,key,yek⟩:=kKV (L:=Lone) (J:=fun g=>KK d g V1) hM.mu (hM.muv hn1)
 refine key _ ?_
 repeat (first|(with_reducible first|refine mu_seq hK ?_|refine mu_skip hK ?_|(refine mu_region_end hK ?_;try subst hkk)|refine mu_block hK ?_|refine mu_inBlock hK ?_|refine mu_ret hK ?_|refine mu_end hK ?_)|refine mu_exit hK rfl ?_|(with_reducible refine mu_regionH hK (fun kk hkk=>?_);simp only [List.size_toArray,List.length_cons,List.length_nil,Nat.reduceAdd,Nat.zero_add,List.range,List.range.loop])|(with_reducible refine mu_cf hK ?_ ?_;(· first|(walk_nrm;done)|(simp [Act.eval];done)))|(with_reducible refine mu_ct hK ?_ ?_;(· first|(walk_nrm;done)|(simp [Act.eval];done)))|(refine mu_unwanted hK rfl rfl ?_;walk_nrm)|(refine muv_val hV rfl (by first|exact .inl rfl|exact .inr rfl) rfl (by kernel_rfl) (fun J hJ=>?_);go_simp;with_reducible refine hJ _ ?_;clear hJ J;walk_nrm))
 refine mu_call hK rfl rfl (by decide) rfl Try.func86 (by kernel_rfl) rfl ?_
 rw [← enter_at (P:=Try.prog) _ Try.func86 rfl]
 walk_nrm
 refine yek _ ?_
 clear hK hV key yek K
 refine o86n (o:=3) (u:=.int .u32 0) hM hn1 (cell_of o1 (by simp)) (by simp [World.frozen?,o1]) ?_
 have hn2:=norm_set hn1 ⟨ob,3,none⟩ (.int .u32 1)
 have k2 : ∀ b,b ≠ ob → (V1.setCell ⟨ob,3,none⟩ (.int .u32 1)).heap[b]? = V1.heap[b]?:=fun b hb=>by rw [setCell_heap,if_neg hb]
 have s2 : (V1.setCell ⟨ob,3,none⟩ (.int .u32 1)).heap.size = V1.heap.size:=by simp [World.setCell]
 have e2 : (V1.setCell ⟨ob,3,none⟩ (.int .u32 1)).heap[ob]? = some (.cells #[.int .u32 0,.int .i32 1,.int .u32 0,.int .u32 1] 86 (0,0)):=by
   rw [setCell_heap,if_pos rfl,o1]
   simp
 clear e_p
 generalize V1.setCell ⟨ob,3,none⟩ (.int .u32 1) = V2 at *
 have kk2 : ∀ b,b ≠ ob → b ≠ nb → V2.heap[b]? = V.heap[b]?:=fun b h1 h2=>(k2 b h1).trans (k1 b h2)
 have e_f : ∀ τ,(re V2 τ 0).cell? ⟨fb,0,none⟩ = some (.func (.func 37) #[] #[.pointer (some ⟨cb,0,none⟩)]):=fun τ=>cell_of ((kk2 _ (Ne.symm n3) (Ne.symm n5)).trans B.f) (by simp)
 have e_c : ∀ τ,(re V2 τ 0).cell? ⟨cb,0,none⟩ = some (.int .i64 m):=fun τ=>cell_of ((kk2 _ hcn.1 hcn.2.1).trans hcb) (by simp)
 have z_c : ∀ τ,(re V2 τ 0).frozen? ⟨cb,0,none⟩ = false:=fun τ=>by simp [World.frozen?,re,(kk2 _ hcn.1 hcn.2.1).trans hcb]
 walk_nrm
 obtain ⟨K,hK,hV,key,yek⟩:=kKV (L:=Lone) (J:=fun g=>KK d g V2) hM.mu (hM.muv hn2)
 refine key _ ?_
 repeat (first|(with_reducible first|refine mu_seq hK ?_|refine mu_skip hK ?_|(refine mu_region_end hK ?_;try subst hkk)|refine mu_block hK ?_|refine mu_inBlock hK ?_|refine mu_ret hK ?_|refine mu_end hK ?_)|refine mu_exit hK rfl ?_|(with_reducible refine mu_regionH hK (fun kk hkk=>?_);simp only [List.size_toArray,List.length_cons,List.length_nil,Nat.reduceAdd,Nat.zero_add,List.range,List.range.loop])|(with_reducible refine mu_cf hK ?_ ?_;(· first|(walk_nrm;done)|(simp [Act.eval];done)))|(with_reducible refine mu_ct hK ?_ ?_;(· first|(walk_nrm;done)|(simp [Act.eval];done)))|(refine mu_unwanted hK rfl rfl ?_;walk_nrm)|(refine muv_val hV rfl (by first|exact .inl rfl|exact .inr rfl) rfl (by kernel_rfl) (fun J hJ=>?_);go_simp;with_reducible refine hJ _ ?_;clear hJ J;walk_nrm))
 refine mu_enterV hK (f:=37) (args:=#[.pointer (some ⟨cb,0,none⟩)]) rfl rfl (by decide) (fun w=>?_) (fun w=>?_) ?_
 · go_simp
 · simp [go_sem,callFunc,Try.func37,Try.f37]
 rw [enter_at (P:=Try.prog) _ Try.func37 rfl]
 simp only [Try.f37]
 walk_nrm
 refine yek _ ?_
 clear hK hV key yek K
 obtain ⟨K,hK,hV,key,yek⟩:=kKV (L:=Lone) (J:=fun g=>KK d g V2) hM.mu (hM.muv hn2)
 refine key _ ?_
 repeat (first|(with_reducible first|refine mu_seq hK ?_|refine mu_skip hK ?_|(refine mu_region_end hK ?_;try subst hkk)|refine mu_block hK ?_|refine mu_inBlock hK ?_|refine mu_ret hK ?_|refine mu_end hK ?_)|refine mu_exit hK rfl ?_|(with_reducible refine mu_regionH hK (fun kk hkk=>?_);simp only [List.size_toArray,List.length_cons,List.length_nil,Nat.reduceAdd,Nat.zero_add,List.range,List.range.loop])|(with_reducible refine mu_cf hK ?_ ?_;(· first|(walk_nrm;done)|(simp [Act.eval];done)))|(with_reducible refine mu_ct hK ?_ ?_;(· first|(walk_nrm;done)|(simp [Act.eval];done)))|(refine mu_unwanted hK rfl rfl ?_;walk_nrm)|(refine muv_val hV rfl (by first|exact .inl rfl|exact .inr rfl) rfl (by kernel_rfl) (fun J hJ=>?_);go_simp;with_reducible refine hJ _ ?_;clear hJ J;walk_nrm))
 refine yek _ ?_
 clear hK hV key yek K
 have hn3:=norm_set hn2 ⟨cb,0,none⟩ (.int .i64 (IntKind.i64.wrap (m + 1)))
 refine mus_put (L:=Lone) (hM.mus hn3) (K:=fun g=>KK d g V2) (K':=fun g=>KK d g (V2.setCell ⟨cb,0,none⟩ (.int .i64 (IntKind.i64.wrap (m + 1))))) rfl (.inl rfl) rfl (by kernel_rfl) (fun τ=>?_) ?_
 · go_simp
   try rfl
 have k3 : ∀ b,b ≠ cb → (V2.setCell ⟨cb,0,none⟩ (.int .i64 (IntKind.i64.wrap (m + 1)))).heap[b]? = V2.heap[b]?:=fun b hb=>by rw [setCell_heap,if_neg hb]
 have s3 : (V2.setCell ⟨cb,0,none⟩ (.int .i64 (IntKind.i64.wrap (m + 1)))).heap.size = V2.heap.size:=by simp [World.setCell]
 have e3 : (V2.setCell ⟨cb,0,none⟩ (.int .i64 (IntKind.i64.wrap (m + 1)))).heap[cb]? = some (.cells #[.int .i64 (IntKind.i64.wrap (m + 1))] 3 (0,0)):=by
   rw [setCell_heap,if_pos rfl,kk2 _ hcn.1 hcn.2.1,hcb]
   simp
 clear e_c z_c e_f
 generalize V2.setCell ⟨cb,0,none⟩ (.int .i64 (IntKind.i64.wrap (m + 1))) = V3 at *
 walk_nrm
 obtain ⟨K,hK,hV,key,yek⟩:=kKV (L:=Lone) (J:=fun g=>KK d g V3) hM.mu (hM.muv hn3)
 refine key _ ?_
 repeat (first|(with_reducible first|refine mu_seq hK ?_|refine mu_skip hK ?_|(refine mu_region_end hK ?_;try subst hkk)|refine mu_block hK ?_|refine mu_inBlock hK ?_|refine mu_ret hK ?_|refine mu_end hK ?_)|refine mu_exit hK rfl ?_|(with_reducible refine mu_regionH hK (fun kk hkk=>?_);simp only [List.size_toArray,List.length_cons,List.length_nil,Nat.reduceAdd,Nat.zero_add,List.range,List.range.loop])|(with_reducible refine mu_cf hK ?_ ?_;(· first|(walk_nrm;done)|(simp [Act.eval];done)))|(with_reducible refine mu_ct hK ?_ ?_;(· first|(walk_nrm;done)|(simp [Act.eval];done)))|(refine mu_unwanted hK rfl rfl ?_;walk_nrm)|(refine muv_val hV rfl (by first|exact .inl rfl|exact .inr rfl) rfl (by kernel_rfl) (fun J hJ=>?_);go_simp;with_reducible refine hJ _ ?_;clear hJ J;walk_nrm))
 refine yek _ ?_
 clear hK hV key yek K
 refine mu_leave0 (K:=fun g=>KK d g V3) hM.mu rfl rfl Try.func37 rfl ?_
 walk_nrm
 obtain ⟨K,hK,hV,key,yek⟩:=kKV (L:=Lone) (J:=fun g=>KK d g V3) hM.mu (hM.muv hn3)
 refine key _ ?_
 repeat (first|(with_reducible first|refine mu_seq hK ?_|refine mu_skip hK ?_|(refine mu_region_end hK ?_;try subst hkk)|refine mu_block hK ?_|refine mu_inBlock hK ?_|refine mu_ret hK ?_|refine mu_end hK ?_)|refine mu_exit hK rfl ?_|(with_reducible refine mu_regionH hK (fun kk hkk=>?_);simp only [List.size_toArray,List.length_cons,List.length_nil,Nat.reduceAdd,Nat.zero_add,List.range,List.range.loop])|(with_reducible refine mu_cf hK ?_ ?_;(· first|(walk_nrm;done)|(simp [Act.eval];done)))|(with_reducible refine mu_ct hK ?_ ?_;(· first|(walk_nrm;done)|(simp [Act.eval];done)))|(refine mu_unwanted hK rfl rfl ?_;walk_nrm)|(refine muv_val hV rfl (by first|exact .inl rfl|exact .inr rfl) rfl (by kernel_rfl) (fun J hJ=>?_);go_simp;with_reducible refine hJ _ ?_;clear hJ J;walk_nrm))
 refine yek _ ?_
 clear hK hV key yek K
 refine mu_leave0 (K:=fun g=>KK d g V3) hM.mu rfl rfl Try.func85 rfl ?_
 obtain ⟨c1,c2,c3,c4⟩:=hcn
 exact h V3 hn3 (s3.trans (s2.trans s1)) ⟨(k3 _ (Ne.symm c1)).trans e2,(k3 _ (Ne.symm c2)).trans ((k2 _ (Ne.symm n1)).trans e1),(k3 _ (Ne.symm c3)).trans ((kk2 _ (Ne.symm n2) (Ne.symm n4)).trans B.p),(k3 _ (Ne.symm c4)).trans ((kk2 _ (Ne.symm n3) (Ne.symm n5)).trans B.f),B.ne⟩ e3 fun b h1 h2 h3=>(k3 b h3).trans (kk2 b h1 h2)
theorem o85n (hM : MarkK Try.prog main Z KK) (hn : norm V = V) (B : Onb V ob nb pb fb (.bool false) (.nilFunc) 0 1 0)
   (h : ∀ V2,norm V2 = V2 → V2.heap.size = V.heap.size → Onb V2 ob nb pb fb (.bool true) (.nilFunc) 0 1 1 → (∀ b,b ≠ ob → b ≠ nb → V2.heap[b]? = V.heap[b]?) → KK d (G (b₀.at (a₀.put ((ops₀[i₀]?).bind (·.dst)) (.tuple #[])) (.inRegion ops₀ rest₀ :: k₀)) cs0) V2) :
   KK d (G (Frame.enter Try.prog 85 #[.pointer (some ⟨nb,0,none⟩),.pointer (some ⟨pb,0,none⟩),.pointer (some ⟨fb,0,none⟩)] .normal) (b₀.at a₀ (.inRegion ops₀ (i₀ :: rest₀) :: k₀) :: cs0)) V:=by
 obtain ⟨n1,n2,n3,n4,n5,n6⟩:=B.ne
 have e_n : ∀ τ,(re V τ 0).cell? ⟨nb,0,none⟩ = some (.bool false):=fun τ=>cell_of B.n (by simp)
 have e_p : ∀ τ,(re V τ 0).cell? ⟨pb,0,none⟩ = some (.pointer (some ⟨ob,0,none⟩)):=fun τ=>cell_of B.p (by simp)
 have e_f : ∀ τ,(re V τ 0).cell? ⟨fb,0,none⟩ = some (.nilFunc):=fun τ=>cell_of B.f (by simp)
 have z_n : ∀ τ,(re V τ 0).frozen? ⟨nb,0,none⟩ = false:=fun τ=>by simp [World.frozen?,re,B.n]
 rw [enter_at (P:=Try.prog) _ Try.func85 rfl]
 simp only [Try.f85]
 walk_nrm
 obtain ⟨K,hK,hV,key,yek⟩:=kKV (L:=Lone) (J:=fun g=>KK d g V) hM.mu (hM.muv hn)
 refine key _ ?_
 repeat (first|(with_reducible first|refine mu_seq hK ?_|refine mu_skip hK ?_|(refine mu_region_end hK ?_;try subst hkk)|refine mu_block hK ?_|refine mu_inBlock hK ?_|refine mu_ret hK ?_|refine mu_end hK ?_)|refine mu_exit hK rfl ?_|(with_reducible refine mu_regionH hK (fun kk hkk=>?_);simp only [List.size_toArray,List.length_cons,List.length_nil,Nat.reduceAdd,Nat.zero_add,List.range,List.range.loop])|(with_reducible refine mu_cf hK ?_ ?_;(· first|(walk_nrm;done)|(simp [Act.eval];done)))|(with_reducible refine mu_ct hK ?_ ?_;(· first|(walk_nrm;done)|(simp [Act.eval];done)))|(refine mu_unwanted hK rfl rfl ?_;walk_nrm)|(refine muv_val hV rfl (by first|exact .inl rfl|exact .inr rfl) rfl (by kernel_rfl) (fun J hJ=>?_);go_simp;with_reducible refine hJ _ ?_;clear hJ J;walk_nrm))
 refine yek _ ?_
 clear hK hV key yek K
 have hn1:=norm_set hn ⟨nb,0,none⟩ (.bool true)
 refine mus_put (L:=Lone) (hM.mus hn1) (K:=fun g=>KK d g V) (K':=fun g=>KK d g (V.setCell ⟨nb,0,none⟩ (.bool true))) rfl (.inl rfl) rfl (by kernel_rfl) (fun τ=>?_) ?_
 · go_simp
   try rfl
 have k1 : ∀ b,b ≠ nb → (V.setCell ⟨nb,0,none⟩ (.bool true)).heap[b]? = V.heap[b]?:=fun b hb=>by rw [setCell_heap,if_neg hb]
 have s1 : (V.setCell ⟨nb,0,none⟩ (.bool true)).heap.size = V.heap.size:=by simp [World.setCell]
 have e1 : (V.setCell ⟨nb,0,none⟩ (.bool true)).heap[nb]? = some (.cells #[.bool true] 4 (0,0)):=by
   rw [setCell_heap,if_pos rfl,B.n]
   simp
 generalize V.setCell ⟨nb,0,none⟩ (.bool true) = V1 at *
 clear e_n e_p e_f z_n
 have e_p : ∀ τ,(re V1 τ 0).cell? ⟨pb,0,none⟩ = some (.pointer (some ⟨ob,0,none⟩)):=fun τ=>cell_of ((k1 _ (Ne.symm n4)).trans B.p) (by simp)
 have o1:=(k1 ob n1).trans B.o
 walk_nrm
 obtain ⟨K,hK,hV,key,yek⟩:=kKV (L:=Lone) (J:=fun g=>KK d g V1) hM.mu (hM.muv hn1)
 refine key _ ?_
 repeat (first|(with_reducible first|refine mu_seq hK ?_|refine mu_skip hK ?_|(refine mu_region_end hK ?_;try subst hkk)|refine mu_block hK ?_|refine mu_inBlock hK ?_|refine mu_ret hK ?_|refine mu_end hK ?_)|refine mu_exit hK rfl ?_|(with_reducible refine mu_regionH hK (fun kk hkk=>?_);simp only [List.size_toArray,List.length_cons,List.length_nil,Nat.reduceAdd,Nat.zero_add,List.range,List.range.loop])|(with_reducible refine mu_cf hK ?_ ?_;(· first|(walk_nrm;done)|(simp [Act.eval];done)))|(with_reducible refine mu_ct hK ?_ ?_;(· first|(walk_nrm;done)|(simp [Act.eval];done)))|(refine mu_unwanted hK rfl rfl ?_;walk_nrm)|(refine muv_val hV rfl (by first|exact .inl rfl|exact .inr rfl) rfl (by kernel_rfl) (fun J hJ=>?_);go_simp;with_reducible refine hJ _ ?_;clear hJ J;walk_nrm))
 refine mu_call hK rfl rfl (by decide) rfl Try.func86 (by kernel_rfl) rfl ?_
 rw [← enter_at (P:=Try.prog) _ Try.func86 rfl]
 walk_nrm
 refine yek _ ?_
 clear hK hV key yek K
 refine o86n (o:=3) (u:=.int .u32 0) hM hn1 (cell_of o1 (by simp)) (by simp [World.frozen?,o1]) ?_
 have hn2:=norm_set hn1 ⟨ob,3,none⟩ (.int .u32 1)
 have k2 : ∀ b,b ≠ ob → (V1.setCell ⟨ob,3,none⟩ (.int .u32 1)).heap[b]? = V1.heap[b]?:=fun b hb=>by rw [setCell_heap,if_neg hb]
 have s2 : (V1.setCell ⟨ob,3,none⟩ (.int .u32 1)).heap.size = V1.heap.size:=by simp [World.setCell]
 have e2 : (V1.setCell ⟨ob,3,none⟩ (.int .u32 1)).heap[ob]? = some (.cells #[.int .u32 0,.int .i32 1,.int .u32 0,.int .u32 1] 86 (0,0)):=by
   rw [setCell_heap,if_pos rfl,o1]
   simp
 clear e_p
 generalize V1.setCell ⟨ob,3,none⟩ (.int .u32 1) = V2 at *
 have kk2 : ∀ b,b ≠ ob → b ≠ nb → V2.heap[b]? = V.heap[b]?:=fun b h1 h2=>(k2 b h1).trans (k1 b h2)
 have e_f : ∀ τ,(re V2 τ 0).cell? ⟨fb,0,none⟩ = some (.nilFunc):=fun τ=>cell_of ((kk2 _ (Ne.symm n3) (Ne.symm n5)).trans B.f) (by simp)
 walk_nrm
 obtain ⟨K,hK,hV,key,yek⟩:=kKV (L:=Lone) (J:=fun g=>KK d g V2) hM.mu (hM.muv hn2)
 refine key _ ?_
 repeat (first|(with_reducible first|refine mu_seq hK ?_|refine mu_skip hK ?_|(refine mu_region_end hK ?_;try subst hkk)|refine mu_block hK ?_|refine mu_inBlock hK ?_|refine mu_ret hK ?_|refine mu_end hK ?_)|refine mu_exit hK rfl ?_|(with_reducible refine mu_regionH hK (fun kk hkk=>?_);simp only [List.size_toArray,List.length_cons,List.length_nil,Nat.reduceAdd,Nat.zero_add,List.range,List.range.loop])|(with_reducible refine mu_cf hK ?_ ?_;(· first|(walk_nrm;done)|(simp [Act.eval];done)))|(with_reducible refine mu_ct hK ?_ ?_;(· first|(walk_nrm;done)|(simp [Act.eval];done)))|(refine mu_unwanted hK rfl rfl ?_;walk_nrm)|(refine muv_val hV rfl (by first|exact .inl rfl|exact .inr rfl) rfl (by kernel_rfl) (fun J hJ=>?_);go_simp;with_reducible refine hJ _ ?_;clear hJ J;walk_nrm))
 refine yek _ ?_
 clear hK hV key yek K
 refine mu_leave0 (K:=fun g=>KK d g V2) hM.mu rfl rfl Try.func85 rfl ?_
 exact h V2 hn2 (s2.trans s1) ⟨e2,(k2 _ (Ne.symm n1)).trans e1,(kk2 _ (Ne.symm n2) (Ne.symm n4)).trans B.p,(kk2 _ (Ne.symm n3) (Ne.symm n5)).trans B.f,B.ne⟩ kk2
theorem o121f (hM : MarkK Try.prog main Z KK) (hn : norm V = V) (B : Onb V ob nb pb fb (.bool false) (.func (.func 37) #[] #[.pointer (some ⟨cb,0,none⟩)]) 0 0 0) {m : Int} (hcb : V.heap[cb]? = some (.cells #[.int .i64 m] 3 (0,0))) (hcn : cb ≠ ob ∧ cb ≠ nb ∧ cb ≠ pb ∧ cb ≠ fb)
   (h : ∀ V2,norm V2 = V2 → V2.heap.size = V.heap.size → Onb V2 ob nb pb fb (.bool true) (.func (.func 37) #[] #[.pointer (some ⟨cb,0,none⟩)]) 1 0 1 → V2.heap[cb]? = some (.cells #[.int .i64 (IntKind.i64.wrap (m + 1))] 3 (0,0)) → (∀ b,b ≠ ob → b ≠ nb → b ≠ cb → V2.heap[b]? = V.heap[b]?) → KK d (G (b₀.at (a₀.put ((ops₀[i₀]?).bind (·.dst)) (.tuple #[])) (.inRegion ops₀ rest₀ :: k₀)) cs0) V2) :
   KK d (G (Frame.enter Try.prog 121 #[.pointer (some ⟨ob,0,none⟩),.func (.func 85) #[] #[.pointer (some ⟨nb,0,none⟩),.pointer (some ⟨pb,0,none⟩),.pointer (some ⟨fb,0,none⟩)]] .normal) (b₀.at a₀ (.inRegion ops₀ (i₀ :: rest₀) :: k₀) :: cs0)) V:=by
 obtain ⟨n1,n2,n3,n4,n5,n6⟩:=B.ne
 have l_o:=(Array.getElem?_eq_some_iff.1 B.o).1
 rw [enter_at (P:=Try.prog) _ Try.func121 rfl]
 simp only [Try.f121]
 walk_nrm
 obtain ⟨K,hK,hV,key,yek⟩:=kKV (L:=Lone) (J:=fun g=>KK d g V) hM.mu (hM.muv hn)
 refine key _ ?_
 repeat (first|(with_reducible first|refine mu_seq hK ?_|refine mu_skip hK ?_|(refine mu_region_end hK ?_;try subst hkk)|refine mu_block hK ?_|refine mu_inBlock hK ?_|refine mu_ret hK ?_|refine mu_end hK ?_)|refine mu_exit hK rfl ?_|(with_reducible refine mu_regionH hK (fun kk hkk=>?_);simp only [List.size_toArray,List.length_cons,List.length_nil,Nat.reduceAdd,Nat.zero_add,List.range,List.range.loop])|(with_reducible refine mu_cf hK ?_ ?_;(· first|(walk_nrm;done)|(simp [Act.eval];done)))|(with_reducible refine mu_ct hK ?_ ?_;(· first|(walk_nrm;done)|(simp [Act.eval];done)))|(refine mu_unwanted hK rfl rfl ?_;walk_nrm)|(refine muv_val hV rfl (by first|exact .inl rfl|exact .inr rfl) rfl (by kernel_rfl) (fun J hJ=>?_);go_simp;with_reducible refine hJ _ ?_;clear hJ J;walk_nrm))
 refine mu_call hK rfl rfl (by decide) rfl Try.func144 (by kernel_rfl) rfl ?_
 rw [← enter_at (P:=Try.prog) _ Try.func144 rfl]
 walk_nrm
 refine yek _ ?_
 clear hK hV key yek K
 refine o144 hM hn (cell_of B.o (by simp)) (by simp [World.frozen?,B.o]) l_o ?_
 have hn1:=norm_set hn ⟨ob,1,none⟩ (.int .i32 1)
 have k1 : ∀ b,b ≠ ob → (V.setCell ⟨ob,1,none⟩ (.int .i32 1)).heap[b]? = V.heap[b]?:=fun b hb=>by rw [setCell_heap,if_neg hb]
 have s1 : (V.setCell ⟨ob,1,none⟩ (.int .i32 1)).heap.size = V.heap.size:=by simp [World.setCell]
 have e1 : (V.setCell ⟨ob,1,none⟩ (.int .i32 1)).heap[ob]? = some (.cells #[.int .u32 0,.int .i32 1,.int .u32 0,.int .u32 0] 86 (0,0)):=by
   rw [setCell_heap,if_pos rfl,B.o]
   simp
 generalize V.setCell ⟨ob,1,none⟩ (.int .i32 1) = V1 at *
 walk_nrm
 obtain ⟨K,hK,hV,key,yek⟩:=kKV (L:=Lone) (J:=fun g=>KK d g V1) hM.mu (hM.muv hn1)
 refine key _ ?_
 repeat (first|(with_reducible first|refine mu_seq hK ?_|refine mu_skip hK ?_|(refine mu_region_end hK ?_;try subst hkk)|refine mu_block hK ?_|refine mu_inBlock hK ?_|refine mu_ret hK ?_|refine mu_end hK ?_)|refine mu_exit hK rfl ?_|(with_reducible refine mu_regionH hK (fun kk hkk=>?_);simp only [List.size_toArray,List.length_cons,List.length_nil,Nat.reduceAdd,Nat.zero_add,List.range,List.range.loop])|(with_reducible refine mu_cf hK ?_ ?_;(· first|(walk_nrm;done)|(simp [Act.eval];done)))|(with_reducible refine mu_ct hK ?_ ?_;(· first|(walk_nrm;done)|(simp [Act.eval];done)))|(refine mu_unwanted hK rfl rfl ?_;walk_nrm)|(refine mu_deferB hK rfl rfl rfl ?_;walk_nrm)|(refine muv_val hV rfl (by first|exact .inl rfl|exact .inr rfl) rfl (by kernel_rfl) (fun J hJ=>?_);go_simp;with_reducible refine hJ _ ?_;clear hJ J;walk_nrm))
 refine mu_call hK rfl rfl (by decide) rfl Try.func87 (by kernel_rfl) rfl ?_
 rw [← enter_at (P:=Try.prog) _ Try.func87 rfl]
 walk_nrm
 refine yek _ ?_
 clear hK hV key yek K
 refine o87f hM hn1 (cell_of e1 (by simp)) ?_
 walk_nrm
 obtain ⟨K,hK,hV,key,yek⟩:=kKV (L:=Lone) (J:=fun g=>KK d g V1) hM.mu (hM.muv hn1)
 refine key _ ?_
 repeat (first|(with_reducible first|refine mu_seq hK ?_|refine mu_skip hK ?_|(refine mu_region_end hK ?_;try subst hkk)|refine mu_block hK ?_|refine mu_inBlock hK ?_|refine mu_ret hK ?_|refine mu_end hK ?_)|refine mu_exit hK rfl ?_|(with_reducible refine mu_regionH hK (fun kk hkk=>?_);simp only [List.size_toArray,List.length_cons,List.length_nil,Nat.reduceAdd,Nat.zero_add,List.range,List.range.loop])|(with_reducible refine mu_cf hK ?_ ?_;(· first|(walk_nrm;done)|(simp [Act.eval];done)))|(with_reducible refine mu_ct hK ?_ ?_;(· first|(walk_nrm;done)|(simp [Act.eval];done)))|(refine mu_unwanted hK rfl rfl ?_;walk_nrm)|(refine mu_deferB hK rfl rfl rfl ?_;walk_nrm)|(refine muv_val hV rfl (by first|exact .inl rfl|exact .inr rfl) rfl (by kernel_rfl) (fun J hJ=>?_);go_simp;with_reducible refine hJ _ ?_;clear hJ J;walk_nrm))
 refine mu_enterV hK (f:=85) (args:=#[.pointer (some ⟨nb,0,none⟩),.pointer (some ⟨pb,0,none⟩),.pointer (some ⟨fb,0,none⟩)]) rfl rfl (by decide) (fun w=>?_) (fun w=>?_) ?_
 · go_simp
 · simp [go_sem,callFunc,Try.func85,Try.f85]
 refine yek _ ?_
 clear hK hV key yek K
 refine o85f hM hn1 ⟨e1,(k1 _ (Ne.symm n1)).trans B.n,(k1 _ (Ne.symm n2)).trans B.p,(k1 _ (Ne.symm n3)).trans B.f,B.ne⟩ ((k1 _ hcn.1).trans hcb) hcn fun V2 hn2 s2 B2 hc2 kk2=>?_
 walk_nrm
 obtain ⟨K,hK,hV,key,yek⟩:=kKV (L:=Lone) (J:=fun g=>KK d g V2) hM.mu (hM.muv hn2)
 refine key _ ?_
 repeat (first|(with_reducible first|refine mu_seq hK ?_|refine mu_skip hK ?_|(refine mu_region_end hK ?_;try subst hkk)|refine mu_block hK ?_|refine mu_inBlock hK ?_|refine mu_ret hK ?_|refine mu_end hK ?_)|refine mu_exit hK rfl ?_|(with_reducible refine mu_regionH hK (fun kk hkk=>?_);simp only [List.size_toArray,List.length_cons,List.length_nil,Nat.reduceAdd,Nat.zero_add,List.range,List.range.loop])|(with_reducible refine mu_cf hK ?_ ?_;(· first|(walk_nrm;done)|(simp [Act.eval];done)))|(with_reducible refine mu_ct hK ?_ ?_;(· first|(walk_nrm;done)|(simp [Act.eval];done)))|(refine mu_unwanted hK rfl rfl ?_;walk_nrm)|(refine muv_val hV rfl (by first|exact .inl rfl|exact .inr rfl) rfl (by kernel_rfl) (fun J hJ=>?_);go_simp;with_reducible refine hJ _ ?_;clear hJ J;walk_nrm))
 refine yek _ ?_
 clear hK hV key yek K
 have hmu : Mu Try.prog (fun _=>True) (fun g=>KK d g V2):=hM.mu
 refine mu_unwind_enter (K:=fun g=>KK d g V2) hmu rfl Try.func86 (by kernel_rfl) b86_eq (by simp [Frame.at]) ?_
 refine o86d (ob:=ob) (o:=0) (u:=.int .u32 0) hM hn2 (cell_of B2.o (by simp)) (by simp [World.frozen?,B2.o]) rfl ?_
 have hn3:=norm_set hn2 ⟨ob,0,none⟩ (.int .u32 1)
 have k3 : ∀ b,b ≠ ob → (V2.setCell ⟨ob,0,none⟩ (.int .u32 1)).heap[b]? = V2.heap[b]?:=fun b hb=>by rw [setCell_heap,if_neg hb]
 have s3 : (V2.setCell ⟨ob,0,none⟩ (.int .u32 1)).heap.size = V2.heap.size:=by simp [World.setCell]
 have e3 : (V2.setCell ⟨ob,0,none⟩ (.int .u32 1)).heap[ob]? = some (.cells #[.int .u32 1,.int .i32 1,.int .u32 0,.int .u32 1] 86 (0,0)):=by
   rw [setCell_heap,if_pos rfl,B2.o]
   simp
 clear hmu
 generalize V2.setCell ⟨ob,0,none⟩ (.int .u32 1) = V3 at *
 have hmu : Mu Try.prog (fun _=>True) (fun g=>KK d g V3):=hM.mu
 refine mu_unwind_enter (K:=fun g=>KK d g V3) hmu rfl Try.func145 (by kernel_rfl) rfl (by simp [Frame.at]) ?_
 refine o145d (ob:=ob) hM hn3 (cell_of e3 (by simp)) (by simp [World.frozen?,e3]) (by omega) rfl ?_
 have hn4:=norm_set hn3 ⟨ob,1,none⟩ (.int .i32 0)
 have k4 : ∀ b,b ≠ ob → (V3.setCell ⟨ob,1,none⟩ (.int .i32 0)).heap[b]? = V3.heap[b]?:=fun b hb=>by rw [setCell_heap,if_neg hb]
 have s4 : (V3.setCell ⟨ob,1,none⟩ (.int .i32 0)).heap.size = V3.heap.size:=by simp [World.setCell]
 have e4 : (V3.setCell ⟨ob,1,none⟩ (.int .i32 0)).heap[ob]? = some (.cells #[.int .u32 1,.int .i32 0,.int .u32 0,.int .u32 1] 86 (0,0)):=by
   rw [setCell_heap,if_pos rfl,e3]
   simp
 clear hmu
 generalize V3.setCell ⟨ob,1,none⟩ (.int .i32 0) = V4 at *
 have ko : ∀ b,b ≠ ob → V4.heap[b]? = V2.heap[b]?:=fun b hb=>(k4 b hb).trans (k3 b hb)
 have hmu : Mu Try.prog (fun _=>True) (fun g=>KK d g V4):=hM.mu
 refine mu_leave0 (b:=base 121) (a:=⟨_,[]⟩) (K:=fun g=>KK d g V4) hmu rfl rfl Try.func121 rfl ?_
 refine h V4 hn4 (by omega) ⟨e4,(ko _ (Ne.symm n1)).trans B2.n,(ko _ (Ne.symm n2)).trans B2.p,(ko _ (Ne.symm n3)).trans B2.f,B.ne⟩ ((ko _ hcn.1).trans hc2) fun b h1 h2 h3=>(ko b h1).trans ((kk2 b h1 h2 h3).trans (k1 b h1))
theorem o84f (hM : MarkK Try.prog main Z KK) (hn : norm V = V) (B : Onb V ob nb pb fb (.bool false) (.func (.func 37) #[] #[.pointer (some ⟨cb,0,none⟩)]) 0 0 0) {m : Int} (hcb : V.heap[cb]? = some (.cells #[.int .i64 m] 3 (0,0))) (hcn : cb ≠ ob ∧ cb ≠ nb ∧ cb ≠ pb ∧ cb ≠ fb)
   (h : ∀ V2,norm V2 = V2 → V2.heap.size = V.heap.size → Onb V2 ob nb pb fb (.bool true) (.func (.func 37) #[] #[.pointer (some ⟨cb,0,none⟩)]) 1 0 1 → V2.heap[cb]? = some (.cells #[.int .i64 (IntKind.i64.wrap (m + 1))] 3 (0,0)) → (∀ b,b ≠ ob → b ≠ nb → b ≠ cb → V2.heap[b]? = V.heap[b]?) → KK d (G (b₀.at (a₀.put ((ops₀[i₀]?).bind (·.dst)) (.tuple #[])) (.inRegion ops₀ rest₀ :: k₀)) cs0) V2) :
   KK d (G (Frame.enter Try.prog 84 #[.pointer (some ⟨ob,0,none⟩),.func (.func 85) #[] #[.pointer (some ⟨nb,0,none⟩),.pointer (some ⟨pb,0,none⟩),.pointer (some ⟨fb,0,none⟩)]] .normal) (b₀.at a₀ (.inRegion ops₀ (i₀ :: rest₀) :: k₀) :: cs0)) V:=by
 rw [enter_at (P:=Try.prog) _ Try.func84 rfl]
 simp only [Try.f84]
 walk_nrm
 obtain ⟨K,hK,hV,key,yek⟩:=kKV (L:=Lone) (J:=fun g=>KK d g V) hM.mu (hM.muv hn)
 refine key _ ?_
 repeat (first|(with_reducible first|refine mu_seq hK ?_|refine mu_skip hK ?_|(refine mu_region_end hK ?_;try subst hkk)|refine mu_block hK ?_|refine mu_inBlock hK ?_|refine mu_ret hK ?_|refine mu_end hK ?_)|refine mu_exit hK rfl ?_|(with_reducible refine mu_regionH hK (fun kk hkk=>?_);simp only [List.size_toArray,List.length_cons,List.length_nil,Nat.reduceAdd,Nat.zero_add,List.range,List.range.loop])|(with_reducible refine mu_cf hK ?_ ?_;(· first|(walk_nrm;done)|(simp [Act.eval];done)))|(with_reducible refine mu_ct hK ?_ ?_;(· first|(walk_nrm;done)|(simp [Act.eval];done)))|(refine mu_unwanted hK rfl rfl ?_;walk_nrm)|(refine muv_val hV rfl (by first|exact .inl rfl|exact .inr rfl) rfl (by kernel_rfl) (fun J hJ=>?_);go_simp;with_reducible refine hJ _ ?_;clear hJ J;walk_nrm))
 refine mu_call hK rfl rfl (by decide) rfl Try.func87 (by kernel_rfl) rfl ?_
 rw [← enter_at (P:=Try.prog) _ Try.func87 rfl]
 walk_nrm
 refine yek _ ?_
 clear hK hV key yek K
 refine o87f hM hn (cell_of B.o (by simp)) ?_
 walk_nrm
 obtain ⟨K,hK,hV,key,yek⟩:=kKV (L:=Lone) (J:=fun g=>KK d g V) hM.mu (hM.muv hn)
 refine key _ ?_
 repeat (first|(with_reducible first|refine mu_seq hK ?_|refine mu_skip hK ?_|(refine mu_region_end hK ?_;try subst hkk)|refine mu_block hK ?_|refine mu_inBlock hK ?_|refine mu_ret hK ?_|refine mu_end hK ?_)|refine mu_exit hK rfl ?_|(with_reducible refine mu_regionH hK (fun kk hkk=>?_);simp only [List.size_toArray,List.length_cons,List.length_nil,Nat.reduceAdd,Nat.zero_add,List.range,List.range.loop])|(with_reducible refine mu_cf hK ?_ ?_;(· first|(walk_nrm;done)|(simp [Act.eval];done)))|(with_reducible refine mu_ct hK ?_ ?_;(· first|(walk_nrm;done)|(simp [Act.eval];done)))|(refine mu_unwanted hK rfl rfl ?_;walk_nrm)|(refine muv_val hV rfl (by first|exact .inl rfl|exact .inr rfl) rfl (by kernel_rfl) (fun J hJ=>?_);go_simp;with_reducible refine hJ _ ?_;clear hJ J;walk_nrm))
 refine mu_call hK rfl rfl (by decide) rfl Try.func121 (by kernel_rfl) rfl ?_
 rw [← enter_at (P:=Try.prog) _ Try.func121 rfl]
 walk_nrm
 refine yek _ ?_
 clear hK hV key yek K
 refine o121f hM hn B hcb hcn fun V2 hn2 s2 B2 hc2 kk2=>?_
 walk_nrm
 obtain ⟨K,hK,hV,key,yek⟩:=kKV (L:=Lone) (J:=fun g=>KK d g V2) hM.mu (hM.muv hn2)
 refine key _ ?_
 repeat (first|(with_reducible first|refine mu_seq hK ?_|refine mu_skip hK ?_|(refine mu_region_end hK ?_;try subst hkk)|refine mu_block hK ?_|refine mu_inBlock hK ?_|refine mu_ret hK ?_|refine mu_end hK ?_)|refine mu_exit hK rfl ?_|(with_reducible refine mu_regionH hK (fun kk hkk=>?_);simp only [List.size_toArray,List.length_cons,List.length_nil,Nat.reduceAdd,Nat.zero_add,List.range,List.range.loop])|(with_reducible refine mu_cf hK ?_ ?_;(· first|(walk_nrm;done)|(simp [Act.eval];done)))|(with_reducible refine mu_ct hK ?_ ?_;(· first|(walk_nrm;done)|(simp [Act.eval];done)))|(refine mu_unwanted hK rfl rfl ?_;walk_nrm)|(refine muv_val hV rfl (by first|exact .inl rfl|exact .inr rfl) rfl (by kernel_rfl) (fun J hJ=>?_);go_simp;with_reducible refine hJ _ ?_;clear hJ J;walk_nrm))
 refine yek _ ?_
 clear hK hV key yek K
 refine mu_leave0 (K:=fun g=>KK d g V2) hM.mu rfl rfl Try.func84 rfl ?_
 exact h V2 hn2 s2 B2 hc2 kk2
theorem o121n (hM : MarkK Try.prog main Z KK) (hn : norm V = V) (B : Onb V ob nb pb fb (.bool false) (.nilFunc) 0 0 0)
   (h : ∀ V2,norm V2 = V2 → V2.heap.size = V.heap.size → Onb V2 ob nb pb fb (.bool true) (.nilFunc) 1 0 1 → (∀ b,b ≠ ob → b ≠ nb → V2.heap[b]? = V.heap[b]?) → KK d (G (b₀.at (a₀.put ((ops₀[i₀]?).bind (·.dst)) (.tuple #[])) (.inRegion ops₀ rest₀ :: k₀)) cs0) V2) :
   KK d (G (Frame.enter Try.prog 121 #[.pointer (some ⟨ob,0,none⟩),.func (.func 85) #[] #[.pointer (some ⟨nb,0,none⟩),.pointer (some ⟨pb,0,none⟩),.pointer (some ⟨fb,0,none⟩)]] .normal) (b₀.at a₀ (.inRegion ops₀ (i₀ :: rest₀) :: k₀) :: cs0)) V:=by
 obtain ⟨n1,n2,n3,n4,n5,n6⟩:=B.ne
 have l_o:=(Array.getElem?_eq_some_iff.1 B.o).1
 rw [enter_at (P:=Try.prog) _ Try.func121 rfl]
 simp only [Try.f121]
 walk_nrm
 obtain ⟨K,hK,hV,key,yek⟩:=kKV (L:=Lone) (J:=fun g=>KK d g V) hM.mu (hM.muv hn)
 refine key _ ?_
 repeat (first|(with_reducible first|refine mu_seq hK ?_|refine mu_skip hK ?_|(refine mu_region_end hK ?_;try subst hkk)|refine mu_block hK ?_|refine mu_inBlock hK ?_|refine mu_ret hK ?_|refine mu_end hK ?_)|refine mu_exit hK rfl ?_|(with_reducible refine mu_regionH hK (fun kk hkk=>?_);simp only [List.size_toArray,List.length_cons,List.length_nil,Nat.reduceAdd,Nat.zero_add,List.range,List.range.loop])|(with_reducible refine mu_cf hK ?_ ?_;(· first|(walk_nrm;done)|(simp [Act.eval];done)))|(with_reducible refine mu_ct hK ?_ ?_;(· first|(walk_nrm;done)|(simp [Act.eval];done)))|(refine mu_unwanted hK rfl rfl ?_;walk_nrm)|(refine muv_val hV rfl (by first|exact .inl rfl|exact .inr rfl) rfl (by kernel_rfl) (fun J hJ=>?_);go_simp;with_reducible refine hJ _ ?_;clear hJ J;walk_nrm))
 refine mu_call hK rfl rfl (by decide) rfl Try.func144 (by kernel_rfl) rfl ?_
 rw [← enter_at (P:=Try.prog) _ Try.func144 rfl]
 walk_nrm
 refine yek _ ?_
 clear hK hV key yek K
 refine o144 hM hn (cell_of B.o (by simp)) (by simp [World.frozen?,B.o]) l_o ?_
 have hn1:=norm_set hn ⟨ob,1,none⟩ (.int .i32 1)
 have k1 : ∀ b,b ≠ ob → (V.setCell ⟨ob,1,none⟩ (.int .i32 1)).heap[b]? = V.heap[b]?:=fun b hb=>by rw [setCell_heap,if_neg hb]
 have s1 : (V.setCell ⟨ob,1,none⟩ (.int .i32 1)).heap.size = V.heap.size:=by simp [World.setCell]
 have e1 : (V.setCell ⟨ob,1,none⟩ (.int .i32 1)).heap[ob]? = some (.cells #[.int .u32 0,.int .i32 1,.int .u32 0,.int .u32 0] 86 (0,0)):=by
   rw [setCell_heap,if_pos rfl,B.o]
   simp
 generalize V.setCell ⟨ob,1,none⟩ (.int .i32 1) = V1 at *
 walk_nrm
 obtain ⟨K,hK,hV,key,yek⟩:=kKV (L:=Lone) (J:=fun g=>KK d g V1) hM.mu (hM.muv hn1)
 refine key _ ?_
 repeat (first|(with_reducible first|refine mu_seq hK ?_|refine mu_skip hK ?_|(refine mu_region_end hK ?_;try subst hkk)|refine mu_block hK ?_|refine mu_inBlock hK ?_|refine mu_ret hK ?_|refine mu_end hK ?_)|refine mu_exit hK rfl ?_|(with_reducible refine mu_regionH hK (fun kk hkk=>?_);simp only [List.size_toArray,List.length_cons,List.length_nil,Nat.reduceAdd,Nat.zero_add,List.range,List.range.loop])|(with_reducible refine mu_cf hK ?_ ?_;(· first|(walk_nrm;done)|(simp [Act.eval];done)))|(with_reducible refine mu_ct hK ?_ ?_;(· first|(walk_nrm;done)|(simp [Act.eval];done)))|(refine mu_unwanted hK rfl rfl ?_;walk_nrm)|(refine mu_deferB hK rfl rfl rfl ?_;walk_nrm)|(refine muv_val hV rfl (by first|exact .inl rfl|exact .inr rfl) rfl (by kernel_rfl) (fun J hJ=>?_);go_simp;with_reducible refine hJ _ ?_;clear hJ J;walk_nrm))
 refine mu_call hK rfl rfl (by decide) rfl Try.func87 (by kernel_rfl) rfl ?_
 rw [← enter_at (P:=Try.prog) _ Try.func87 rfl]
 walk_nrm
 refine yek _ ?_
 clear hK hV key yek K
 refine o87f hM hn1 (cell_of e1 (by simp)) ?_
 walk_nrm
 obtain ⟨K,hK,hV,key,yek⟩:=kKV (L:=Lone) (J:=fun g=>KK d g V1) hM.mu (hM.muv hn1)
 refine key _ ?_
 repeat (first|(with_reducible first|refine mu_seq hK ?_|refine mu_skip hK ?_|(refine mu_region_end hK ?_;try subst hkk)|refine mu_block hK ?_|refine mu_inBlock hK ?_|refine mu_ret hK ?_|refine mu_end hK ?_)|refine mu_exit hK rfl ?_|(with_reducible refine mu_regionH hK (fun kk hkk=>?_);simp only [List.size_toArray,List.length_cons,List.length_nil,Nat.reduceAdd,Nat.zero_add,List.range,List.range.loop])|(with_reducible refine mu_cf hK ?_ ?_;(· first|(walk_nrm;done)|(simp [Act.eval];done)))|(with_reducible refine mu_ct hK ?_ ?_;(· first|(walk_nrm;done)|(simp [Act.eval];done)))|(refine mu_unwanted hK rfl rfl ?_;walk_nrm)|(refine mu_deferB hK rfl rfl rfl ?_;walk_nrm)|(refine muv_val hV rfl (by first|exact .inl rfl|exact .inr rfl) rfl (by kernel_rfl) (fun J hJ=>?_);go_simp;with_reducible refine hJ _ ?_;clear hJ J;walk_nrm))
 refine mu_enterV hK (f:=85) (args:=#[.pointer (some ⟨nb,0,none⟩),.pointer (some ⟨pb,0,none⟩),.pointer (some ⟨fb,0,none⟩)]) rfl rfl (by decide) (fun w=>?_) (fun w=>?_) ?_
 · go_simp
 · simp [go_sem,callFunc,Try.func85,Try.f85]
 refine yek _ ?_
 clear hK hV key yek K
 refine o85n hM hn1 ⟨e1,(k1 _ (Ne.symm n1)).trans B.n,(k1 _ (Ne.symm n2)).trans B.p,(k1 _ (Ne.symm n3)).trans B.f,B.ne⟩ fun V2 hn2 s2 B2 kk2=>?_
 walk_nrm
 obtain ⟨K,hK,hV,key,yek⟩:=kKV (L:=Lone) (J:=fun g=>KK d g V2) hM.mu (hM.muv hn2)
 refine key _ ?_
 repeat (first|(with_reducible first|refine mu_seq hK ?_|refine mu_skip hK ?_|(refine mu_region_end hK ?_;try subst hkk)|refine mu_block hK ?_|refine mu_inBlock hK ?_|refine mu_ret hK ?_|refine mu_end hK ?_)|refine mu_exit hK rfl ?_|(with_reducible refine mu_regionH hK (fun kk hkk=>?_);simp only [List.size_toArray,List.length_cons,List.length_nil,Nat.reduceAdd,Nat.zero_add,List.range,List.range.loop])|(with_reducible refine mu_cf hK ?_ ?_;(· first|(walk_nrm;done)|(simp [Act.eval];done)))|(with_reducible refine mu_ct hK ?_ ?_;(· first|(walk_nrm;done)|(simp [Act.eval];done)))|(refine mu_unwanted hK rfl rfl ?_;walk_nrm)|(refine muv_val hV rfl (by first|exact .inl rfl|exact .inr rfl) rfl (by kernel_rfl) (fun J hJ=>?_);go_simp;with_reducible refine hJ _ ?_;clear hJ J;walk_nrm))
 refine yek _ ?_
 clear hK hV key yek K
 have hmu : Mu Try.prog (fun _=>True) (fun g=>KK d g V2):=hM.mu
 refine mu_unwind_enter (K:=fun g=>KK d g V2) hmu rfl Try.func86 (by kernel_rfl) b86_eq (by simp [Frame.at]) ?_
 refine o86d (ob:=ob) (o:=0) (u:=.int .u32 0) hM hn2 (cell_of B2.o (by simp)) (by simp [World.frozen?,B2.o]) rfl ?_
 have hn3:=norm_set hn2 ⟨ob,0,none⟩ (.int .u32 1)
 have k3 : ∀ b,b ≠ ob → (V2.setCell ⟨ob,0,none⟩ (.int .u32 1)).heap[b]? = V2.heap[b]?:=fun b hb=>by rw [setCell_heap,if_neg hb]
 have s3 : (V2.setCell ⟨ob,0,none⟩ (.int .u32 1)).heap.size = V2.heap.size:=by simp [World.setCell]
 have e3 : (V2.setCell ⟨ob,0,none⟩ (.int .u32 1)).heap[ob]? = some (.cells #[.int .u32 1,.int .i32 1,.int .u32 0,.int .u32 1] 86 (0,0)):=by
   rw [setCell_heap,if_pos rfl,B2.o]
   simp
 clear hmu
 generalize V2.setCell ⟨ob,0,none⟩ (.int .u32 1) = V3 at *
 have hmu : Mu Try.prog (fun _=>True) (fun g=>KK d g V3):=hM.mu
 refine mu_unwind_enter (K:=fun g=>KK d g V3) hmu rfl Try.func145 (by kernel_rfl) rfl (by simp [Frame.at]) ?_
 refine o145d (ob:=ob) hM hn3 (cell_of e3 (by simp)) (by simp [World.frozen?,e3]) (by omega) rfl ?_
 have hn4:=norm_set hn3 ⟨ob,1,none⟩ (.int .i32 0)
 have k4 : ∀ b,b ≠ ob → (V3.setCell ⟨ob,1,none⟩ (.int .i32 0)).heap[b]? = V3.heap[b]?:=fun b hb=>by rw [setCell_heap,if_neg hb]
 have s4 : (V3.setCell ⟨ob,1,none⟩ (.int .i32 0)).heap.size = V3.heap.size:=by simp [World.setCell]
 have e4 : (V3.setCell ⟨ob,1,none⟩ (.int .i32 0)).heap[ob]? = some (.cells #[.int .u32 1,.int .i32 0,.int .u32 0,.int .u32 1] 86 (0,0)):=by
   rw [setCell_heap,if_pos rfl,e3]
   simp
 clear hmu
 generalize V3.setCell ⟨ob,1,none⟩ (.int .i32 0) = V4 at *
 have ko : ∀ b,b ≠ ob → V4.heap[b]? = V2.heap[b]?:=fun b hb=>(k4 b hb).trans (k3 b hb)
 have hmu : Mu Try.prog (fun _=>True) (fun g=>KK d g V4):=hM.mu
 refine mu_leave0 (b:=base 121) (a:=⟨_,[]⟩) (K:=fun g=>KK d g V4) hmu rfl rfl Try.func121 rfl ?_
 refine h V4 hn4 (by omega) ⟨e4,(ko _ (Ne.symm n1)).trans B2.n,(ko _ (Ne.symm n2)).trans B2.p,(ko _ (Ne.symm n3)).trans B2.f,B.ne⟩ fun b h1 h2=>(ko b h1).trans ((kk2 b h1 h2).trans (k1 b h1))
theorem o84n (hM : MarkK Try.prog main Z KK) (hn : norm V = V) (B : Onb V ob nb pb fb (.bool false) (.nilFunc) 0 0 0)
   (h : ∀ V2,norm V2 = V2 → V2.heap.size = V.heap.size → Onb V2 ob nb pb fb (.bool true) (.nilFunc) 1 0 1 → (∀ b,b ≠ ob → b ≠ nb → V2.heap[b]? = V.heap[b]?) → KK d (G (b₀.at (a₀.put ((ops₀[i₀]?).bind (·.dst)) (.tuple #[])) (.inRegion ops₀ rest₀ :: k₀)) cs0) V2) :
   KK d (G (Frame.enter Try.prog 84 #[.pointer (some ⟨ob,0,none⟩),.func (.func 85) #[] #[.pointer (some ⟨nb,0,none⟩),.pointer (some ⟨pb,0,none⟩),.pointer (some ⟨fb,0,none⟩)]] .normal) (b₀.at a₀ (.inRegion ops₀ (i₀ :: rest₀) :: k₀) :: cs0)) V:=by
 rw [enter_at (P:=Try.prog) _ Try.func84 rfl]
 simp only [Try.f84]
 walk_nrm
 obtain ⟨K,hK,hV,key,yek⟩:=kKV (L:=Lone) (J:=fun g=>KK d g V) hM.mu (hM.muv hn)
 refine key _ ?_
 repeat (first|(with_reducible first|refine mu_seq hK ?_|refine mu_skip hK ?_|(refine mu_region_end hK ?_;try subst hkk)|refine mu_block hK ?_|refine mu_inBlock hK ?_|refine mu_ret hK ?_|refine mu_end hK ?_)|refine mu_exit hK rfl ?_|(with_reducible refine mu_regionH hK (fun kk hkk=>?_);simp only [List.size_toArray,List.length_cons,List.length_nil,Nat.reduceAdd,Nat.zero_add,List.range,List.range.loop])|(with_reducible refine mu_cf hK ?_ ?_;(· first|(walk_nrm;done)|(simp [Act.eval];done)))|(with_reducible refine mu_ct hK ?_ ?_;(· first|(walk_nrm;done)|(simp [Act.eval];done)))|(refine mu_unwanted hK rfl rfl ?_;walk_nrm)|(refine muv_val hV rfl (by first|exact .inl rfl|exact .inr rfl) rfl (by kernel_rfl) (fun J hJ=>?_);go_simp;with_reducible refine hJ _ ?_;clear hJ J;walk_nrm))
 refine mu_call hK rfl rfl (by decide) rfl Try.func87 (by kernel_rfl) rfl ?_
 rw [← enter_at (P:=Try.prog) _ Try.func87 rfl]
 walk_nrm
 refine yek _ ?_
 clear hK hV key yek K
 refine o87f hM hn (cell_of B.o (by simp)) ?_
 walk_nrm
 obtain ⟨K,hK,hV,key,yek⟩:=kKV (L:=Lone) (J:=fun g=>KK d g V) hM.mu (hM.muv hn)
 refine key _ ?_
 repeat (first|(with_reducible first|refine mu_seq hK ?_|refine mu_skip hK ?_|(refine mu_region_end hK ?_;try subst hkk)|refine mu_block hK ?_|refine mu_inBlock hK ?_|refine mu_ret hK ?_|refine mu_end hK ?_)|refine mu_exit hK rfl ?_|(with_reducible refine mu_regionH hK (fun kk hkk=>?_);simp only [List.size_toArray,List.length_cons,List.length_nil,Nat.reduceAdd,Nat.zero_add,List.range,List.range.loop])|(with_reducible refine mu_cf hK ?_ ?_;(· first|(walk_nrm;done)|(simp [Act.eval];done)))|(with_reducible refine mu_ct hK ?_ ?_;(· first|(walk_nrm;done)|(simp [Act.eval];done)))|(refine mu_unwanted hK rfl rfl ?_;walk_nrm)|(refine muv_val hV rfl (by first|exact .inl rfl|exact .inr rfl) rfl (by kernel_rfl) (fun J hJ=>?_);go_simp;with_reducible refine hJ _ ?_;clear hJ J;walk_nrm))
 refine mu_call hK rfl rfl (by decide) rfl Try.func121 (by kernel_rfl) rfl ?_
 rw [← enter_at (P:=Try.prog) _ Try.func121 rfl]
 walk_nrm
 refine yek _ ?_
 clear hK hV key yek K
 refine o121n hM hn B fun V2 hn2 s2 B2 kk2=>?_
 walk_nrm
 obtain ⟨K,hK,hV,key,yek⟩:=kKV (L:=Lone) (J:=fun g=>KK d g V2) hM.mu (hM.muv hn2)
 refine key _ ?_
 repeat (first|(with_reducible first|refine mu_seq hK ?_|refine mu_skip hK ?_|(refine mu_region_end hK ?_;try subst hkk)|refine mu_block hK ?_|refine mu_inBlock hK ?_|refine mu_ret hK ?_|refine mu_end hK ?_)|refine mu_exit hK rfl ?_|(with_reducible refine mu_regionH hK (fun kk hkk=>?_);simp only [List.size_toArray,List.length_cons,List.length_nil,Nat.reduceAdd,Nat.zero_add,List.range,List.range.loop])|(with_reducible refine mu_cf hK ?_ ?_;(· first|(walk_nrm;done)|(simp [Act.eval];done)))|(with_reducible refine mu_ct hK ?_ ?_;(· first|(walk_nrm;done)|(simp [Act.eval];done)))|(refine mu_unwanted hK rfl rfl ?_;walk_nrm)|(refine muv_val hV rfl (by first|exact .inl rfl|exact .inr rfl) rfl (by kernel_rfl) (fun J hJ=>?_);go_simp;with_reducible refine hJ _ ?_;clear hJ J;walk_nrm))
 refine yek _ ?_
 clear hK hV key yek K
 refine mu_leave0 (K:=fun g=>KK d g V2) hM.mu rfl rfl Try.func84 rfl ?_
 exact h V2 hn2 s2 B2 kk2
theorem o84t (hM : MarkK Try.prog main Z KK) (hn : norm V = V) (hc : V.cell? ⟨ob,0,none⟩ = some (.int .u32 1)) {fv : Value} (h : KK d (G (b₀.at (a₀.put ((ops₀[i₀]?).bind (·.dst)) (.tuple #[])) (.inRegion ops₀ rest₀ :: k₀)) cs0) V) :
   KK d (G (Frame.enter Try.prog 84 #[.pointer (some ⟨ob,0,none⟩),fv] .normal) (b₀.at a₀ (.inRegion ops₀ (i₀ :: rest₀) :: k₀) :: cs0)) V:=by
 rw [enter_at (P:=Try.prog) _ Try.func84 rfl]
 simp only [Try.f84]
 walk_nrm
 obtain ⟨K,hK,hV,key,yek⟩:=kKV (L:=Lone) (J:=fun g=>KK d g V) hM.mu (hM.muv hn)
 refine key _ ?_
 repeat (first|(with_reducible first|refine mu_seq hK ?_|refine mu_skip hK ?_|(refine mu_region_end hK ?_;try subst hkk)|refine mu_block hK ?_|refine mu_inBlock hK ?_|refine mu_ret hK ?_|refine mu_end hK ?_)|refine mu_exit hK rfl ?_|(with_reducible refine mu_regionH hK (fun kk hkk=>?_);simp only [List.size_toArray,List.length_cons,List.length_nil,Nat.reduceAdd,Nat.zero_add,List.range,List.range.loop])|(with_reducible refine mu_cf hK ?_ ?_;(· first|(walk_nrm;done)|(simp [Act.eval];done)))|(with_reducible refine mu_ct hK ?_ ?_;(· first|(walk_nrm;done)|(simp [Act.eval];done)))|(refine mu_unwanted hK rfl rfl ?_;walk_nrm)|(refine muv_val hV rfl (by first|exact .inl rfl|exact .inr rfl) rfl (by kernel_rfl) (fun J hJ=>?_);go_simp;with_reducible refine hJ _ ?_;clear hJ J;walk_nrm))
 refine mu_call hK rfl rfl (by decide) rfl Try.func87 (by kernel_rfl) rfl ?_
 rw [← enter_at (P:=Try.prog) _ Try.func87 rfl]
 walk_nrm
 refine yek _ ?_
 clear hK hV key yek K
 refine o87t hM hn hc ?_
 walk_nrm
 obtain ⟨K,hK,hV,key,yek⟩:=kKV (L:=Lone) (J:=fun g=>KK d g V) hM.mu (hM.muv hn)
 refine key _ ?_
 repeat (first|(with_reducible first|refine mu_seq hK ?_|refine mu_skip hK ?_|(refine mu_region_end hK ?_;try subst hkk)|refine mu_block hK ?_|refine mu_inBlock hK ?_|refine mu_ret hK ?_|refine mu_end hK ?_)|refine mu_exit hK rfl ?_|(with_reducible refine mu_regionH hK (fun kk hkk=>?_);simp only [List.size_toArray,List.length_cons,List.length_nil,Nat.reduceAdd,Nat.zero_add,List.range,List.range.loop])|(with_reducible refine mu_cf hK ?_ ?_;(· first|(walk_nrm;done)|(simp [Act.eval];done)))|(with_reducible refine mu_ct hK ?_ ?_;(· first|(walk_nrm;done)|(simp [Act.eval];done)))|(refine mu_unwanted hK rfl rfl ?_;walk_nrm)|(refine muv_val hV rfl (by first|exact .inl rfl|exact .inr rfl) rfl (by kernel_rfl) (fun J hJ=>?_);go_simp;with_reducible refine hJ _ ?_;clear hJ J;walk_nrm))
 refine yek _ ?_
 clear hK hV key yek K
 refine mu_leave0 (K:=fun g=>KK d g V) hM.mu rfl rfl Try.func84 rfl ?_
 exact h
end
end Go.Proofs.Ytibcdikfbhmheaa
