import Derived.Test.YtibcdikfbhmheaaQT03
import Derived.Test.YtibcdikfbhmheaaB15
set_option linter.unusedSimpArgs false
set_option linter.unusedVariables false
set_option maxRecDepth 100000
set_option maxHeartbeats 4000000
namespace Go.Proofs.Ytibcdikfbhmheaa
open Go Go.Conc Go.Proofs
open Go.ConcN (sumTo upd sumTo_upd upd_ne upd_same)
set_option linter.unusedVariables false
theorem arrg {n : Nat} (T : Array Value) (h : T.size = n) : ∃ f : Nat → Value,(∀ i v,T[i]? = some v → f i = v) ∧ T = ((List.range n).map f).toArray:=by
 refine ⟨fun i=>T.getD i undef,fun i v hv=>by simp [Array.getD_eq_getD_getElem?,hv],?_⟩
 generalize hf : (fun i=>T.getD i undef) = f
 have e : T.toList = (List.range n).map f:=by
   apply List.ext_getElem?
   intro i
   rw [List.getElem?_map,Array.getElem?_toList]
   by_cases hi : i < n
   · rw [List.getElem?_range hi,Option.map_some,← hf]
     simp [Array.getD_eq_getD_getElem?,Array.getElem?_eq_getElem (show i < T.size by omega)]
   · rw [List.getElem?_eq_none (by simp; omega),Array.getElem?_eq_none (by omega)]
     rfl
 rw [← Array.toArray_toList (xs:=T),e]
theorem array36f (T : Array Value) (h : T.size = 36) : ∃ f : Nat → Value,(∀ i v,T[i]? = some v → f i = v) ∧ T = #[f 0,f 1,f 2,f 3,f 4,f 5,f 6,f 7,f 8,f 9,f 10,f 11,f 12,f 13,f 14,f 15,f 16,f 17,f 18,f 19,f 20,f 21,f 22,f 23,f 24,f 25,f 26,f 27,f 28,f 29,f 30,f 31,f 32,f 33,f 34,f 35]:=arrg T h
theorem array13f (T : Array Value) (h : T.size = 13) : ∃ f : Nat → Value,(∀ i v,T[i]? = some v → f i = v) ∧ T = #[f 0,f 1,f 2,f 3,f 4,f 5,f 6,f 7,f 8,f 9,f 10,f 11,f 12]:=arrg T h
theorem array16f (T : Array Value) (h : T.size = 16) : ∃ f : Nat → Value,(∀ i v,T[i]? = some v → f i = v) ∧ T = #[f 0,f 1,f 2,f 3,f 4,f 5,f 6,f 7,f 8,f 9,f 10,f 11,f 12,f 13,f 14,f 15]:=arrg T h
theorem array19f (T : Array Value) (h : T.size = 19) : ∃ f : Nat → Value,(∀ i v,T[i]? = some v → f i = v) ∧ T = #[f 0,f 1,f 2,f 3,f 4,f 5,f 6,f 7,f 8,f 9,f 10,f 11,f 12,f 13,f 14,f 15,f 16,f 17,f 18]:=arrg T h
section
variable {V : World} {main : Bool} {Z : Cuts} {Stop : Goroutine → World → Prop} {ab b6 : Nat} {tp : Value} {c : Frame} {cs : List Frame} {b₀ : Frame} {a₀ : Act} {ops₀ : Array Oper} {i₀ : Nat} {rest₀ : List Nat} {k₀ : List Item} {n o v : Int} {c0 c1 c2 c3 : Value}
theorem do_out0 {T : Array Value} {T' : Array Value} (hn : norm V = V) (num : V.heap[ab]? = some (.cells #[.int .i64 v] 64 (0,0))) (e6 : V.heap[b6]? = some (.cells #[c0,c1,c2,c3] 67 (0,0))) (hs : T.size = 13) (t0 : T[0]? = some (bq ab)) (hs' : T'.size = 36) (t6 : T'[6]? = some (bq b6))
   (K : ∀ V',norm V' = V' → V'.heap.size = V.heap.size → (∀ b,b ≠ ab → b ≠ b6 → V'.heap[b]? = V.heap[b]?) → V'.heap[ab]? = some (.cells #[.int .i64 v] 64 (0,0)) → V'.heap[b6]? = some (.cells #[.int .i64 0,.int .i64 0,.int .i64 v,.bool false] 67 (0,0)) → Will Try.prog main Z Stop (G (b₀.at (a₀.put ((ops₀[i₀]?).bind (·.dst)) (.agg #[.int .i64 0,.int .i64 0,.int .i64 v,.bool false])) (.inRegion ops₀ rest₀ :: k₀)) cs) V') :
   Will Try.prog main Z Stop (G ((base 41).at (Act.put ⟨T,[]⟩ ((ao41[1]?).bind (·.dst)) (.tuple #[])) [.inRegion ao41 [],.code ar41]) (D3 T' :: b₀.at a₀ (.inRegion ops₀ (i₀ :: rest₀) :: k₀) :: cs)) V:=by
 have hab6 : ab ≠ b6:=fun e=>by rw [e,e6] at num; cases num
 simp only [bq] at t0 t6
 obtain ⟨f,hf,hT⟩:=array13f T hs
 have et0:=hf 0 _ t0
 clear hf hs t0
 subst hT
 simp only [et0]
 clear et0
 have hs:=hs'
 clear hs'
 obtain ⟨f',hf,hT⟩:=array36f T' hs
 have et6:=hf 6 _ t6
 clear hf hs t6
 subst hT
 simp only [et6]
 clear et6
 refine (fun (h : ∀ X0 X1 X2 X3,X0 = ao41 → X1 = ar41 → X2 = do3 → X3 = dq → Will Try.prog main Z Stop (G ((base 41).at (Act.put ⟨_,[]⟩ ((X0[1]?).bind (·.dst)) (.tuple #[])) [.inRegion X0 [],.code X1]) ((base 30).at ⟨_,[]⟩ [.inRegion X2 [2,3,4],.code .ret,.inBlock 0,.code X3] :: b₀.at a₀ (.inRegion ops₀ (i₀ :: rest₀) :: k₀) :: cs)) V)=>h ao41 ar41 do3 dq rfl rfl rfl rfl) ?_
 intro X0 X1 X2 X3 hX0 hX1 hX2 hX3
 simp only [do3,do5,do7,do8,dz8,dq,dw2,de3,de5,ds30,ao41,ar41,ao34,ar34,ao40,ar40,rops,nva,nvb,nvk,nvl,nvd,nve,Try.f30,Try.f41,Try.f34,Try.f40,Option.getD_some] at hX0 hX1 hX2 hX3
 subst hX0 hX1 hX2 hX3
 walk_nrm
 obtain ⟨K,hK,hV,key,yek⟩:=kKV (L:=Lone) (J:=fun g=>Will Try.prog main Z Stop g V) mu_will (muv_will hn)
 refine key _ ?_
 repeat (first|(with_reducible first|refine mu_seq hK ?_|refine mu_skip hK ?_|(refine mu_region_end hK ?_;try subst hkk)|refine mu_block hK ?_|refine mu_inBlock hK ?_|refine mu_ret hK ?_|refine mu_end hK ?_)|refine mu_exit hK rfl ?_|(with_reducible refine mu_regionH hK (fun kk hkk=>?_);simp only [List.size_toArray,List.length_cons,List.length_nil,Nat.reduceAdd,Nat.zero_add,List.range,List.range.loop])|(with_reducible refine mu_cf hK ?_ ?_;(· first|(walk_nrm;done)|(simp [Act.eval];done)))|(with_reducible refine mu_ct hK ?_ ?_;(· first|(walk_nrm;done)|(simp [Act.eval];done)))|(refine mu_unwanted hK rfl rfl ?_;walk_nrm)|(refine muv_val hV rfl (by first|exact .inl rfl|exact .inr rfl) rfl (by kernel_rfl) (fun J hJ=>?_);go_simp;with_reducible refine hJ _ ?_;clear hJ J;walk_nrm))
 refine mu_call hK rfl rfl (by decide) rfl Try.func82 (by kernel_rfl) rfl ?_
 have hnt82 : Try.f82.ntmps = 7:=rfl
 rw [hnt82]
 clear hnt82
 walk_nrm
 repeat (first|(with_reducible first|refine mu_seq hK ?_|refine mu_skip hK ?_|(refine mu_region_end hK ?_;try subst hkk)|refine mu_block hK ?_|refine mu_inBlock hK ?_|refine mu_ret hK ?_|refine mu_end hK ?_)|refine mu_exit hK rfl ?_|(with_reducible refine mu_regionH hK (fun kk hkk=>?_);simp only [List.size_toArray,List.length_cons,List.length_nil,Nat.reduceAdd,Nat.zero_add,List.range,List.range.loop])|(with_reducible refine mu_cf hK ?_ ?_;(· first|(walk_nrm;done)|(simp [Act.eval];done)))|(with_reducible refine mu_ct hK ?_ ?_;(· first|(walk_nrm;done)|(simp [Act.eval];done)))|(refine mu_unwanted hK rfl rfl ?_;walk_nrm)|(refine muv_val hV rfl (by first|exact .inl rfl|exact .inr rfl) rfl (by kernel_rfl) (fun J hJ=>?_);go_simp;with_reducible refine hJ _ ?_;clear hJ J;walk_nrm))
 refine yek _ ?_
 clear hK hV key yek K
 have c1 : V.cell? ⟨ab,0,none⟩ = some (.int .i64 v):=cell_of num (by simp)
 have z1 : V.frozen? ⟨ab,0,none⟩ = false:=by simp [World.frozen?,num]
 refine at_load (ad:=⟨ab,0,none⟩) rfl rfl (base_ne _) rfl rfl c1 ?_
 walk_nrm
 clear c1 z1
 obtain ⟨K,hK,hV,key,yek⟩:=kKV (L:=Lone) (J:=fun g=>Will Try.prog main Z Stop g V) mu_will (muv_will hn)
 refine key _ ?_
 repeat (first|(with_reducible first|refine mu_seq hK ?_|refine mu_skip hK ?_|(refine mu_region_end hK ?_;try subst hkk)|refine mu_block hK ?_|refine mu_inBlock hK ?_|refine mu_ret hK ?_|refine mu_end hK ?_)|refine mu_exit hK rfl ?_|(with_reducible refine mu_regionH hK (fun kk hkk=>?_);simp only [List.size_toArray,List.length_cons,List.length_nil,Nat.reduceAdd,Nat.zero_add,List.range,List.range.loop])|(with_reducible refine mu_cf hK ?_ ?_;(· first|(walk_nrm;done)|(simp [Act.eval];done)))|(with_reducible refine mu_ct hK ?_ ?_;(· first|(walk_nrm;done)|(simp [Act.eval];done)))|(refine mu_unwanted hK rfl rfl ?_;walk_nrm)|(refine muv_val hV rfl (by first|exact .inl rfl|exact .inr rfl) rfl (by kernel_rfl) (fun J hJ=>?_);go_simp;with_reducible refine hJ _ ?_;clear hJ J;walk_nrm))
 refine mu_leave1 hK rfl rfl Try.func82 rfl ?_
 walk_nrm
 repeat (first|(with_reducible first|refine mu_seq hK ?_|refine mu_skip hK ?_|(refine mu_region_end hK ?_;try subst hkk)|refine mu_block hK ?_|refine mu_inBlock hK ?_|refine mu_ret hK ?_|refine mu_end hK ?_)|refine mu_exit hK rfl ?_|(with_reducible refine mu_regionH hK (fun kk hkk=>?_);simp only [List.size_toArray,List.length_cons,List.length_nil,Nat.reduceAdd,Nat.zero_add,List.range,List.range.loop])|(with_reducible refine mu_cf hK ?_ ?_;(· first|(walk_nrm;done)|(simp [Act.eval];done)))|(with_reducible refine mu_ct hK ?_ ?_;(· first|(walk_nrm;done)|(simp [Act.eval];done)))|(refine mu_unwanted hK rfl rfl ?_;walk_nrm)|(refine muv_val hV rfl (by first|exact .inl rfl|exact .inr rfl) rfl (by kernel_rfl) (fun J hJ=>?_);go_simp;with_reducible refine hJ _ ?_;clear hJ J;walk_nrm))
 refine mu_leave1 hK rfl rfl Try.func41 rfl ?_
 walk_nrm
 repeat (first|(with_reducible first|refine mu_seq hK ?_|refine mu_skip hK ?_|(refine mu_region_end hK ?_;try subst hkk)|refine mu_block hK ?_|refine mu_inBlock hK ?_|refine mu_ret hK ?_|refine mu_end hK ?_)|refine mu_exit hK rfl ?_|(with_reducible refine mu_regionH hK (fun kk hkk=>?_);simp only [List.size_toArray,List.length_cons,List.length_nil,Nat.reduceAdd,Nat.zero_add,List.range,List.range.loop])|(with_reducible refine mu_cf hK ?_ ?_;(· first|(walk_nrm;done)|(simp [Act.eval];done)))|(with_reducible refine mu_ct hK ?_ ?_;(· first|(walk_nrm;done)|(simp [Act.eval];done)))|(refine mu_unwanted hK rfl rfl ?_;walk_nrm)|(refine muv_val hV rfl (by first|exact .inl rfl|exact .inr rfl) rfl (by kernel_rfl) (fun J hJ=>?_);go_simp;with_reducible refine hJ _ ?_;clear hJ J;walk_nrm))
 have r_e6_0 : ∀ τ,(re V τ 0).cell? ⟨b6,0,none⟩ = some (c0):=fun τ=>cell_of e6 (by simp)
 have r_e6_1 : ∀ τ,(re V τ 0).cell? ⟨b6,1,none⟩ = some (c1):=fun τ=>cell_of e6 (by simp)
 have r_e6_2 : ∀ τ,(re V τ 0).cell? ⟨b6,2,none⟩ = some (c2):=fun τ=>cell_of e6 (by simp)
 have r_e6_3 : ∀ τ,(re V τ 0).cell? ⟨b6,3,none⟩ = some (c3):=fun τ=>cell_of e6 (by simp)
 have z_e6_0 : ∀ τ,(re V τ 0).frozen? ⟨b6,0,none⟩ = false:=fun τ=>by simp [World.frozen?,re,e6]
 have z_e6_1 : ∀ τ,(re V τ 0).frozen? ⟨b6,1,none⟩ = false:=fun τ=>by simp [World.frozen?,re,e6]
 have z_e6_2 : ∀ τ,(re V τ 0).frozen? ⟨b6,2,none⟩ = false:=fun τ=>by simp [World.frozen?,re,e6]
 have z_e6_3 : ∀ τ,(re V τ 0).frozen? ⟨b6,3,none⟩ = false:=fun τ=>by simp [World.frozen?,re,e6]
 refine yek _ ?_
 clear hK hV key yek K
 have hnY : norm ((((V.setCell ⟨b6,0,none⟩ (.int .i64 0)).setCell ⟨b6,1,none⟩ (.int .i64 0)).setCell ⟨b6,2,none⟩ (.int .i64 v)).setCell ⟨b6,3,none⟩ (.bool false)) = ((((V.setCell ⟨b6,0,none⟩ (.int .i64 0)).setCell ⟨b6,1,none⟩ (.int .i64 0)).setCell ⟨b6,2,none⟩ (.int .i64 v)).setCell ⟨b6,3,none⟩ (.bool false)):=norm_set (norm_set (norm_set (norm_set hn _ _) _ _) _ _) _ _
 refine mus_put (L:=Lone) (mus_will hnY) (K:=fun g=>Will Try.prog main Z Stop g V) (K':=fun g=>Will Try.prog main Z Stop g ((((V.setCell ⟨b6,0,none⟩ (.int .i64 0)).setCell ⟨b6,1,none⟩ (.int .i64 0)).setCell ⟨b6,2,none⟩ (.int .i64 v)).setCell ⟨b6,3,none⟩ (.bool false))) rfl (.inl rfl) rfl (by kernel_rfl) (fun τ=>?_) ?_
 · go_simp
   try rfl
 have kY : ∀ b,b ≠ b6 → ((((V.setCell ⟨b6,0,none⟩ (.int .i64 0)).setCell ⟨b6,1,none⟩ (.int .i64 0)).setCell ⟨b6,2,none⟩ (.int .i64 v)).setCell ⟨b6,3,none⟩ (.bool false)).heap[b]? = V.heap[b]?:=fun b hb=>by rw [setCell_heap,if_neg hb,setCell_heap,if_neg hb,setCell_heap,if_neg hb,setCell_heap,if_neg hb]
 have eY : ((((V.setCell ⟨b6,0,none⟩ (.int .i64 0)).setCell ⟨b6,1,none⟩ (.int .i64 0)).setCell ⟨b6,2,none⟩ (.int .i64 v)).setCell ⟨b6,3,none⟩ (.bool false)).heap[b6]? = some (.cells #[.int .i64 0,.int .i64 0,.int .i64 v,.bool false] 67 (0,0)):=by
   rw [setCell_heap,if_pos rfl,setCell_heap,if_pos rfl,setCell_heap,if_pos rfl,setCell_heap,if_pos rfl,e6]
   simp
 have sY : ((((V.setCell ⟨b6,0,none⟩ (.int .i64 0)).setCell ⟨b6,1,none⟩ (.int .i64 0)).setCell ⟨b6,2,none⟩ (.int .i64 v)).setCell ⟨b6,3,none⟩ (.bool false)).heap.size = V.heap.size:=by simp [World.setCell]
 generalize ((((V.setCell ⟨b6,0,none⟩ (.int .i64 0)).setCell ⟨b6,1,none⟩ (.int .i64 0)).setCell ⟨b6,2,none⟩ (.int .i64 v)).setCell ⟨b6,3,none⟩ (.bool false)) = VY at *
 clear r_e6_0 r_e6_1 r_e6_2 r_e6_3 z_e6_0 z_e6_1 z_e6_2 z_e6_3
 walk_nrm
 have r0 : ∀ τ,(re VY τ 0).cell? ⟨b6,0,none⟩ = some (.int .i64 0):=fun τ=>cell_of eY (by simp)
 have r1 : ∀ τ,(re VY τ 0).cell? ⟨b6,1,none⟩ = some (.int .i64 0):=fun τ=>cell_of eY (by simp)
 have r2 : ∀ τ,(re VY τ 0).cell? ⟨b6,2,none⟩ = some (.int .i64 v):=fun τ=>cell_of eY (by simp)
 have r3 : ∀ τ,(re VY τ 0).cell? ⟨b6,3,none⟩ = some (.bool false):=fun τ=>cell_of eY (by simp)
 obtain ⟨K,hK,hV,key,yek⟩:=kKV (L:=Lone) (J:=fun g=>Will Try.prog main Z Stop g VY) mu_will (muv_will hnY)
 refine key _ ?_
 repeat (first|(with_reducible first|refine mu_seq hK ?_|refine mu_skip hK ?_|(refine mu_region_end hK ?_;try subst hkk)|refine mu_block hK ?_|refine mu_inBlock hK ?_|refine mu_ret hK ?_|refine mu_end hK ?_)|refine mu_exit hK rfl ?_|(with_reducible refine mu_regionH hK (fun kk hkk=>?_);simp only [List.size_toArray,List.length_cons,List.length_nil,Nat.reduceAdd,Nat.zero_add,List.range,List.range.loop])|(with_reducible refine mu_cf hK ?_ ?_;(· first|(walk_nrm;done)|(simp [Act.eval];done)))|(with_reducible refine mu_ct hK ?_ ?_;(· first|(walk_nrm;done)|(simp [Act.eval];done)))|(refine mu_unwanted hK rfl rfl ?_;walk_nrm)|(refine muv_val hV rfl (by first|exact .inl rfl|exact .inr rfl) rfl (by kernel_rfl) (fun J hJ=>?_);go_simp;with_reducible refine hJ _ ?_;clear hJ J;walk_nrm))
 refine yek _ ?_
 clear hK hV key yek K
 refine will_leave (fn:=Try.f30) rfl rfl Try.func30 (v:=(.agg #[.int .i64 0,.int .i64 0,.int .i64 v,.bool false])) (fun τ=>?_) ?_
 · simp only [results,Try.f30,List.mapM_toArray,List.mapM_cons,List.mapM_nil,Sem.run_bind]
   go_simp
 rw [Frame.finish_at]
 exact K VY hnY sY (fun b h1 h2=>kY b h2) ((kY ab hab6).trans num) eY
theorem do_out1 {T : Array Value} {T' : Array Value} (hn : norm V = V) (num : V.heap[ab]? = some (.cells #[.int .i64 v] 64 (0,0))) (e6 : V.heap[b6]? = some (.cells #[c0,c1,c2,c3] 67 (0,0))) (hs : T.size = 16) (t0 : T[0]? = some (bq ab)) (t2 : T[2]? = some (.int .i64 n)) (hs' : T'.size = 36) (t6 : T'[6]? = some (bq b6))
   (K : ∀ V',norm V' = V' → V'.heap.size = V.heap.size → (∀ b,b ≠ ab → b ≠ b6 → V'.heap[b]? = V.heap[b]?) → V'.heap[ab]? = some (.cells #[.int .i64 (IntKind.i64.wrap (v + n))] 64 (0,0)) → V'.heap[b6]? = some (.cells #[.int .i64 0,.int .i64 0,.int .i64 (IntKind.i64.wrap (v + n)),.bool false] 67 (0,0)) → Will Try.prog main Z Stop (G (b₀.at (a₀.put ((ops₀[i₀]?).bind (·.dst)) (.agg #[.int .i64 0,.int .i64 0,.int .i64 (IntKind.i64.wrap (v + n)),.bool false])) (.inRegion ops₀ rest₀ :: k₀)) cs) V') :
   Will Try.prog main Z Stop (G ((base 34).at (Act.put ⟨T,[]⟩ ((ao34[1]?).bind (·.dst)) (.tuple #[])) [.inRegion ao34 [],.code ar34]) (D5 T' :: b₀.at a₀ (.inRegion ops₀ (i₀ :: rest₀) :: k₀) :: cs)) V:=by
 have hab6 : ab ≠ b6:=fun e=>by rw [e,e6] at num; cases num
 simp only [bq] at t0 t6
 obtain ⟨f,hf,hT⟩:=array16f T hs
 have et0:=hf 0 _ t0
 have et2:=hf 2 _ t2
 clear hf hs t0 t2
 subst hT
 simp only [et0,et2]
 clear et0 et2
 have hs:=hs'
 clear hs'
 obtain ⟨f',hf,hT⟩:=array36f T' hs
 have et6:=hf 6 _ t6
 clear hf hs t6
 subst hT
 simp only [et6]
 clear et6
 refine (fun (h : ∀ X0 X1 X2 X3,X0 = ao34 → X1 = ar34 → X2 = do5 → X3 = dq → Will Try.prog main Z Stop (G ((base 34).at (Act.put ⟨_,[]⟩ ((X0[1]?).bind (·.dst)) (.tuple #[])) [.inRegion X0 [],.code X1]) ((base 30).at ⟨_,[]⟩ [.inRegion X2 [4,5,6],.code .ret,.inBlock 0,.code X3] :: b₀.at a₀ (.inRegion ops₀ (i₀ :: rest₀) :: k₀) :: cs)) V)=>h ao34 ar34 do5 dq rfl rfl rfl rfl) ?_
 intro X0 X1 X2 X3 hX0 hX1 hX2 hX3
 simp only [do3,do5,do7,do8,dz8,dq,dw2,de3,de5,ds30,ao41,ar41,ao34,ar34,ao40,ar40,rops,nva,nvb,nvk,nvl,nvd,nve,Try.f30,Try.f41,Try.f34,Try.f40,Option.getD_some] at hX0 hX1 hX2 hX3
 subst hX0 hX1 hX2 hX3
 walk_nrm
 obtain ⟨K,hK,hV,key,yek⟩:=kKV (L:=Lone) (J:=fun g=>Will Try.prog main Z Stop g V) mu_will (muv_will hn)
 refine key _ ?_
 repeat (first|(with_reducible first|refine mu_seq hK ?_|refine mu_skip hK ?_|(refine mu_region_end hK ?_;try subst hkk)|refine mu_block hK ?_|refine mu_inBlock hK ?_|refine mu_ret hK ?_|refine mu_end hK ?_)|refine mu_exit hK rfl ?_|(with_reducible refine mu_regionH hK (fun kk hkk=>?_);simp only [List.size_toArray,List.length_cons,List.length_nil,Nat.reduceAdd,Nat.zero_add,List.range,List.range.loop])|(with_reducible refine mu_cf hK ?_ ?_;(· first|(walk_nrm;done)|(simp [Act.eval];done)))|(with_reducible refine mu_ct hK ?_ ?_;(· first|(walk_nrm;done)|(simp [Act.eval];done)))|(refine mu_unwanted hK rfl rfl ?_;walk_nrm)|(refine muv_val hV rfl (by first|exact .inl rfl|exact .inr rfl) rfl (by kernel_rfl) (fun J hJ=>?_);go_simp;with_reducible refine hJ _ ?_;clear hJ J;walk_nrm))
 refine mu_call hK rfl rfl (by decide) rfl Try.func83 (by kernel_rfl) rfl ?_
 have hnt83 : Try.f83.ntmps = 10:=rfl
 rw [hnt83]
 clear hnt83
 walk_nrm
 repeat (first|(with_reducible first|refine mu_seq hK ?_|refine mu_skip hK ?_|(refine mu_region_end hK ?_;try subst hkk)|refine mu_block hK ?_|refine mu_inBlock hK ?_|refine mu_ret hK ?_|refine mu_end hK ?_)|refine mu_exit hK rfl ?_|(with_reducible refine mu_regionH hK (fun kk hkk=>?_);simp only [List.size_toArray,List.length_cons,List.length_nil,Nat.reduceAdd,Nat.zero_add,List.range,List.range.loop])|(with_reducible refine mu_cf hK ?_ ?_;(· first|(walk_nrm;done)|(simp [Act.eval];done)))|(with_reducible refine mu_ct hK ?_ ?_;(· first|(walk_nrm;done)|(simp [Act.eval];done)))|(refine mu_unwanted hK rfl rfl ?_;walk_nrm)|(refine muv_val hV rfl (by first|exact .inl rfl|exact .inr rfl) rfl (by kernel_rfl) (fun J hJ=>?_);go_simp;with_reducible refine hJ _ ?_;clear hJ J;walk_nrm))
 refine yek _ ?_
 clear hK hV key yek K
 have c1 : V.cell? ⟨ab,0,none⟩ = some (.int .i64 v):=cell_of num (by simp)
 have z1 : V.frozen? ⟨ab,0,none⟩ = false:=by simp [World.frozen?,num]
 refine at_add (ad:=⟨ab,0,none⟩) (v:=v) (d:=n) rfl rfl (base_ne _) rfl rfl rfl c1 z1 ?_
 walk_nrm
 clear c1 z1
 have hnX : norm (V.setCell ⟨ab,0,none⟩ (.int .i64 (IntKind.i64.wrap (v + n)))) = (V.setCell ⟨ab,0,none⟩ (.int .i64 (IntKind.i64.wrap (v + n)))):=norm_set hn _ _
 have kX : ∀ b,b ≠ ab → (V.setCell ⟨ab,0,none⟩ (.int .i64 (IntKind.i64.wrap (v + n)))).heap[b]? = V.heap[b]?:=fun b hb=>by rw [setCell_heap,if_neg hb]
 have numX : (V.setCell ⟨ab,0,none⟩ (.int .i64 (IntKind.i64.wrap (v + n)))).heap[ab]? = some (.cells #[.int .i64 (IntKind.i64.wrap (v + n))] 64 (0,0)):=by
   rw [setCell_heap,if_pos rfl,num]
   simp
 have sX : (V.setCell ⟨ab,0,none⟩ (.int .i64 (IntKind.i64.wrap (v + n)))).heap.size = V.heap.size:=size_setCell _ _ _
 have e6X : (V.setCell ⟨ab,0,none⟩ (.int .i64 (IntKind.i64.wrap (v + n)))).heap[b6]? = some (.cells #[c0,c1,c2,c3] 67 (0,0)):=(kX b6 (fun e=>hab6 e.symm)).trans e6
 generalize (V.setCell ⟨ab,0,none⟩ (.int .i64 (IntKind.i64.wrap (v + n)))) = VX at *
 obtain ⟨K,hK,hV,key,yek⟩:=kKV (L:=Lone) (J:=fun g=>Will Try.prog main Z Stop g VX) mu_will (muv_will hnX)
 refine key _ ?_
 repeat (first|(with_reducible first|refine mu_seq hK ?_|refine mu_skip hK ?_|(refine mu_region_end hK ?_;try subst hkk)|refine mu_block hK ?_|refine mu_inBlock hK ?_|refine mu_ret hK ?_|refine mu_end hK ?_)|refine mu_exit hK rfl ?_|(with_reducible refine mu_regionH hK (fun kk hkk=>?_);simp only [List.size_toArray,List.length_cons,List.length_nil,Nat.reduceAdd,Nat.zero_add,List.range,List.range.loop])|(with_reducible refine mu_cf hK ?_ ?_;(· first|(walk_nrm;done)|(simp [Act.eval];done)))|(with_reducible refine mu_ct hK ?_ ?_;(· first|(walk_nrm;done)|(simp [Act.eval];done)))|(refine mu_unwanted hK rfl rfl ?_;walk_nrm)|(refine muv_val hV rfl (by first|exact .inl rfl|exact .inr rfl) rfl (by kernel_rfl) (fun J hJ=>?_);go_simp;with_reducible refine hJ _ ?_;clear hJ J;walk_nrm))
 refine mu_leave1 hK rfl rfl Try.func83 rfl ?_
 walk_nrm
 repeat (first|(with_reducible first|refine mu_seq hK ?_|refine mu_skip hK ?_|(refine mu_region_end hK ?_;try subst hkk)|refine mu_block hK ?_|refine mu_inBlock hK ?_|refine mu_ret hK ?_|refine mu_end hK ?_)|refine mu_exit hK rfl ?_|(with_reducible refine mu_regionH hK (fun kk hkk=>?_);simp only [List.size_toArray,List.length_cons,List.length_nil,Nat.reduceAdd,Nat.zero_add,List.range,List.range.loop])|(with_reducible refine mu_cf hK ?_ ?_;(· first|(walk_nrm;done)|(simp [Act.eval];done)))|(with_reducible refine mu_ct hK ?_ ?_;(· first|(walk_nrm;done)|(simp [Act.eval];done)))|(refine mu_unwanted hK rfl rfl ?_;walk_nrm)|(refine muv_val hV rfl (by first|exact .inl rfl|exact .inr rfl) rfl (by kernel_rfl) (fun J hJ=>?_);go_simp;with_reducible refine hJ _ ?_;clear hJ J;walk_nrm))
 refine mu_leave1 hK rfl rfl Try.func34 rfl ?_
 walk_nrm
 repeat (first|(with_reducible first|refine mu_seq hK ?_|refine mu_skip hK ?_|(refine mu_region_end hK ?_;try subst hkk)|refine mu_block hK ?_|refine mu_inBlock hK ?_|refine mu_ret hK ?_|refine mu_end hK ?_)|refine mu_exit hK rfl ?_|(with_reducible refine mu_regionH hK (fun kk hkk=>?_);simp only [List.size_toArray,List.length_cons,List.length_nil,Nat.reduceAdd,Nat.zero_add,List.range,List.range.loop])|(with_reducible refine mu_cf hK ?_ ?_;(· first|(walk_nrm;done)|(simp [Act.eval];done)))|(with_reducible refine mu_ct hK ?_ ?_;(· first|(walk_nrm;done)|(simp [Act.eval];done)))|(refine mu_unwanted hK rfl rfl ?_;walk_nrm)|(refine muv_val hV rfl (by first|exact .inl rfl|exact .inr rfl) rfl (by kernel_rfl) (fun J hJ=>?_);go_simp;with_reducible refine hJ _ ?_;clear hJ J;walk_nrm))
 have r_e6X_0 : ∀ τ,(re VX τ 0).cell? ⟨b6,0,none⟩ = some (c0):=fun τ=>cell_of e6X (by simp)
 have r_e6X_1 : ∀ τ,(re VX τ 0).cell? ⟨b6,1,none⟩ = some (c1):=fun τ=>cell_of e6X (by simp)
 have r_e6X_2 : ∀ τ,(re VX τ 0).cell? ⟨b6,2,none⟩ = some (c2):=fun τ=>cell_of e6X (by simp)
 have r_e6X_3 : ∀ τ,(re VX τ 0).cell? ⟨b6,3,none⟩ = some (c3):=fun τ=>cell_of e6X (by simp)
 have z_e6X_0 : ∀ τ,(re VX τ 0).frozen? ⟨b6,0,none⟩ = false:=fun τ=>by simp [World.frozen?,re,e6X]
 have z_e6X_1 : ∀ τ,(re VX τ 0).frozen? ⟨b6,1,none⟩ = false:=fun τ=>by simp [World.frozen?,re,e6X]
 have z_e6X_2 : ∀ τ,(re VX τ 0).frozen? ⟨b6,2,none⟩ = false:=fun τ=>by simp [World.frozen?,re,e6X]
 have z_e6X_3 : ∀ τ,(re VX τ 0).frozen? ⟨b6,3,none⟩ = false:=fun τ=>by simp [World.frozen?,re,e6X]
 refine yek _ ?_
 clear hK hV key yek K
 have hnY : norm ((((VX.setCell ⟨b6,0,none⟩ (.int .i64 0)).setCell ⟨b6,1,none⟩ (.int .i64 0)).setCell ⟨b6,2,none⟩ (.int .i64 (IntKind.i64.wrap (v + n)))).setCell ⟨b6,3,none⟩ (.bool false)) = ((((VX.setCell ⟨b6,0,none⟩ (.int .i64 0)).setCell ⟨b6,1,none⟩ (.int .i64 0)).setCell ⟨b6,2,none⟩ (.int .i64 (IntKind.i64.wrap (v + n)))).setCell ⟨b6,3,none⟩ (.bool false)):=norm_set (norm_set (norm_set (norm_set hnX _ _) _ _) _ _) _ _
 refine mus_put (L:=Lone) (mus_will hnY) (K:=fun g=>Will Try.prog main Z Stop g VX) (K':=fun g=>Will Try.prog main Z Stop g ((((VX.setCell ⟨b6,0,none⟩ (.int .i64 0)).setCell ⟨b6,1,none⟩ (.int .i64 0)).setCell ⟨b6,2,none⟩ (.int .i64 (IntKind.i64.wrap (v + n)))).setCell ⟨b6,3,none⟩ (.bool false))) rfl (.inl rfl) rfl (by kernel_rfl) (fun τ=>?_) ?_
 · go_simp
   try rfl
 have kY : ∀ b,b ≠ b6 → ((((VX.setCell ⟨b6,0,none⟩ (.int .i64 0)).setCell ⟨b6,1,none⟩ (.int .i64 0)).setCell ⟨b6,2,none⟩ (.int .i64 (IntKind.i64.wrap (v + n)))).setCell ⟨b6,3,none⟩ (.bool false)).heap[b]? = VX.heap[b]?:=fun b hb=>by rw [setCell_heap,if_neg hb,setCell_heap,if_neg hb,setCell_heap,if_neg hb,setCell_heap,if_neg hb]
 have eY : ((((VX.setCell ⟨b6,0,none⟩ (.int .i64 0)).setCell ⟨b6,1,none⟩ (.int .i64 0)).setCell ⟨b6,2,none⟩ (.int .i64 (IntKind.i64.wrap (v + n)))).setCell ⟨b6,3,none⟩ (.bool false)).heap[b6]? = some (.cells #[.int .i64 0,.int .i64 0,.int .i64 (IntKind.i64.wrap (v + n)),.bool false] 67 (0,0)):=by
   rw [setCell_heap,if_pos rfl,setCell_heap,if_pos rfl,setCell_heap,if_pos rfl,setCell_heap,if_pos rfl,e6X]
   simp
 have sY : ((((VX.setCell ⟨b6,0,none⟩ (.int .i64 0)).setCell ⟨b6,1,none⟩ (.int .i64 0)).setCell ⟨b6,2,none⟩ (.int .i64 (IntKind.i64.wrap (v + n)))).setCell ⟨b6,3,none⟩ (.bool false)).heap.size = VX.heap.size:=by simp [World.setCell]
 generalize ((((VX.setCell ⟨b6,0,none⟩ (.int .i64 0)).setCell ⟨b6,1,none⟩ (.int .i64 0)).setCell ⟨b6,2,none⟩ (.int .i64 (IntKind.i64.wrap (v + n)))).setCell ⟨b6,3,none⟩ (.bool false)) = VY at *
 clear r_e6X_0 r_e6X_1 r_e6X_2 r_e6X_3 z_e6X_0 z_e6X_1 z_e6X_2 z_e6X_3
 walk_nrm
 have r0 : ∀ τ,(re VY τ 0).cell? ⟨b6,0,none⟩ = some (.int .i64 0):=fun τ=>cell_of eY (by simp)
 have r1 : ∀ τ,(re VY τ 0).cell? ⟨b6,1,none⟩ = some (.int .i64 0):=fun τ=>cell_of eY (by simp)
 have r2 : ∀ τ,(re VY τ 0).cell? ⟨b6,2,none⟩ = some (.int .i64 (IntKind.i64.wrap (v + n))):=fun τ=>cell_of eY (by simp)
 have r3 : ∀ τ,(re VY τ 0).cell? ⟨b6,3,none⟩ = some (.bool false):=fun τ=>cell_of eY (by simp)
 obtain ⟨K,hK,hV,key,yek⟩:=kKV (L:=Lone) (J:=fun g=>Will Try.prog main Z Stop g VY) mu_will (muv_will hnY)
 refine key _ ?_
 repeat (first|(with_reducible first|refine mu_seq hK ?_|refine mu_skip hK ?_|(refine mu_region_end hK ?_;try subst hkk)|refine mu_block hK ?_|refine mu_inBlock hK ?_|refine mu_ret hK ?_|refine mu_end hK ?_)|refine mu_exit hK rfl ?_|(with_reducible refine mu_regionH hK (fun kk hkk=>?_);simp only [List.size_toArray,List.length_cons,List.length_nil,Nat.reduceAdd,Nat.zero_add,List.range,List.range.loop])|(with_reducible refine mu_cf hK ?_ ?_;(· first|(walk_nrm;done)|(simp [Act.eval];done)))|(with_reducible refine mu_ct hK ?_ ?_;(· first|(walk_nrm;done)|(simp [Act.eval];done)))|(refine mu_unwanted hK rfl rfl ?_;walk_nrm)|(refine muv_val hV rfl (by first|exact .inl rfl|exact .inr rfl) rfl (by kernel_rfl) (fun J hJ=>?_);go_simp;with_reducible refine hJ _ ?_;clear hJ J;walk_nrm))
 refine yek _ ?_
 clear hK hV key yek K
 refine will_leave (fn:=Try.f30) rfl rfl Try.func30 (v:=(.agg #[.int .i64 0,.int .i64 0,.int .i64 (IntKind.i64.wrap (v + n)),.bool false])) (fun τ=>?_) ?_
 · simp only [results,Try.f30,List.mapM_toArray,List.mapM_cons,List.mapM_nil,Sem.run_bind]
   go_simp
 rw [Frame.finish_at]
 exact K VY hnY (sY.trans sX) (fun b h1 h2=>(kY b h2).trans (kX b h1)) ((kY ab hab6).trans numX) eY
theorem do_out2 {T : Array Value} {T' : Array Value} (hn : norm V = V) (num : V.heap[ab]? = some (.cells #[.int .i64 v] 64 (0,0))) (e6 : V.heap[b6]? = some (.cells #[c0,c1,c2,c3] 67 (0,0))) (hs : T.size = 19) (t0 : T[0]? = some (bq ab)) (hv : v = o) (t2 : T[2]? = some (.int .i64 o)) (t3 : T[3]? = some (.int .i64 n)) (hs' : T'.size = 36) (t6 : T'[6]? = some (bq b6))
   (K : ∀ V',norm V' = V' → V'.heap.size = V.heap.size → (∀ b,b ≠ ab → b ≠ b6 → V'.heap[b]? = V.heap[b]?) → V'.heap[ab]? = some (.cells #[.int .i64 n] 64 (0,0)) → V'.heap[b6]? = some (.cells #[.int .i64 0,.int .i64 0,.int .i64 0,.bool true] 67 (0,0)) → Will Try.prog main Z Stop (G (b₀.at (a₀.put ((ops₀[i₀]?).bind (·.dst)) (.agg #[.int .i64 0,.int .i64 0,.int .i64 0,.bool true])) (.inRegion ops₀ rest₀ :: k₀)) cs) V') :
   Will Try.prog main Z Stop (G ((base 40).at (Act.put ⟨T,[]⟩ ((ao40[1]?).bind (·.dst)) (.tuple #[])) [.inRegion ao40 [],.code ar40]) (D7 T' :: b₀.at a₀ (.inRegion ops₀ (i₀ :: rest₀) :: k₀) :: cs)) V:=by
 have hab6 : ab ≠ b6:=fun e=>by rw [e,e6] at num; cases num
 have hvo : (v == o) = true:=by simp [hv]
 simp only [bq] at t0 t6
 obtain ⟨f,hf,hT⟩:=array19f T hs
 have et0:=hf 0 _ t0
 have et2:=hf 2 _ t2
 have et3:=hf 3 _ t3
 clear hf hs t0 t2 t3
 subst hT
 simp only [et0,et2,et3]
 clear et0 et2 et3
 have hs:=hs'
 clear hs'
 obtain ⟨f',hf,hT⟩:=array36f T' hs
 have et6:=hf 6 _ t6
 clear hf hs t6
 subst hT
 simp only [et6]
 clear et6
 refine (fun (h : ∀ X0 X1 X2 X3,X0 = ao40 → X1 = ar40 → X2 = do7 → X3 = dq → Will Try.prog main Z Stop (G ((base 40).at (Act.put ⟨_,[]⟩ ((X0[1]?).bind (·.dst)) (.tuple #[])) [.inRegion X0 [],.code X1]) ((base 30).at ⟨_,[]⟩ [.inRegion X2 [6,7,8],.code .ret,.inBlock 0,.code X3] :: b₀.at a₀ (.inRegion ops₀ (i₀ :: rest₀) :: k₀) :: cs)) V)=>h ao40 ar40 do7 dq rfl rfl rfl rfl) ?_
 intro X0 X1 X2 X3 hX0 hX1 hX2 hX3
 simp only [do3,do5,do7,do8,dz8,dq,dw2,de3,de5,ds30,ao41,ar41,ao34,ar34,ao40,ar40,rops,nva,nvb,nvk,nvl,nvd,nve,Try.f30,Try.f41,Try.f34,Try.f40,Option.getD_some] at hX0 hX1 hX2 hX3
 subst hX0 hX1 hX2 hX3
 walk_nrm
 obtain ⟨K,hK,hV,key,yek⟩:=kKV (L:=Lone) (J:=fun g=>Will Try.prog main Z Stop g V) mu_will (muv_will hn)
 refine key _ ?_
 repeat (first|(with_reducible first|refine mu_seq hK ?_|refine mu_skip hK ?_|(refine mu_region_end hK ?_;try subst hkk)|refine mu_block hK ?_|refine mu_inBlock hK ?_|refine mu_ret hK ?_|refine mu_end hK ?_)|refine mu_exit hK rfl ?_|(with_reducible refine mu_regionH hK (fun kk hkk=>?_);simp only [List.size_toArray,List.length_cons,List.length_nil,Nat.reduceAdd,Nat.zero_add,List.range,List.range.loop])|(with_reducible refine mu_cf hK ?_ ?_;(· first|(walk_nrm;done)|(simp [Act.eval];done)))|(with_reducible refine mu_ct hK ?_ ?_;(· first|(walk_nrm;done)|(simp [Act.eval];done)))|(refine mu_unwanted hK rfl rfl ?_;walk_nrm)|(refine muv_val hV rfl (by first|exact .inl rfl|exact .inr rfl) rfl (by kernel_rfl) (fun J hJ=>?_);go_simp;with_reducible refine hJ _ ?_;clear hJ J;walk_nrm))
 refine mu_call hK rfl rfl (by decide) rfl Try.func88 (by kernel_rfl) rfl ?_
 have hnt88 : Try.f88.ntmps = 13:=rfl
 rw [hnt88]
 clear hnt88
 walk_nrm
 repeat (first|(with_reducible first|refine mu_seq hK ?_|refine mu_skip hK ?_|(refine mu_region_end hK ?_;try subst hkk)|refine mu_block hK ?_|refine mu_inBlock hK ?_|refine mu_ret hK ?_|refine mu_end hK ?_)|refine mu_exit hK rfl ?_|(with_reducible refine mu_regionH hK (fun kk hkk=>?_);simp only [List.size_toArray,List.length_cons,List.length_nil,Nat.reduceAdd,Nat.zero_add,List.range,List.range.loop])|(with_reducible refine mu_cf hK ?_ ?_;(· first|(walk_nrm;done)|(simp [Act.eval];done)))|(with_reducible refine mu_ct hK ?_ ?_;(· first|(walk_nrm;done)|(simp [Act.eval];done)))|(refine mu_unwanted hK rfl rfl ?_;walk_nrm)|(refine muv_val hV rfl (by first|exact .inl rfl|exact .inr rfl) rfl (by kernel_rfl) (fun J hJ=>?_);go_simp;with_reducible refine hJ _ ?_;clear hJ J;walk_nrm))
 refine yek _ ?_
 clear hK hV key yek K
 have c1 : V.cell? ⟨ab,0,none⟩ = some (.int .i64 v):=cell_of num (by simp)
 have z1 : V.frozen? ⟨ab,0,none⟩ = false:=by simp [World.frozen?,num]
 subst hv
 refine at_cas (ad:=⟨ab,0,none⟩) (v:=v) (n:=n) rfl rfl (base_ne _) rfl rfl rfl rfl c1 z1 ?_
 walk_nrm
 clear c1 z1
 have hnX : norm (V.setCell ⟨ab,0,none⟩ (.int .i64 n)) = (V.setCell ⟨ab,0,none⟩ (.int .i64 n)):=norm_set hn _ _
 have kX : ∀ b,b ≠ ab → (V.setCell ⟨ab,0,none⟩ (.int .i64 n)).heap[b]? = V.heap[b]?:=fun b hb=>by rw [setCell_heap,if_neg hb]
 have numX : (V.setCell ⟨ab,0,none⟩ (.int .i64 n)).heap[ab]? = some (.cells #[.int .i64 n] 64 (0,0)):=by
   rw [setCell_heap,if_pos rfl,num]
   simp
 have sX : (V.setCell ⟨ab,0,none⟩ (.int .i64 n)).heap.size = V.heap.size:=size_setCell _ _ _
 have e6X : (V.setCell ⟨ab,0,none⟩ (.int .i64 n)).heap[b6]? = some (.cells #[c0,c1,c2,c3] 67 (0,0)):=(kX b6 (fun e=>hab6 e.symm)).trans e6
 generalize (V.setCell ⟨ab,0,none⟩ (.int .i64 n)) = VX at *
 obtain ⟨K,hK,hV,key,yek⟩:=kKV (L:=Lone) (J:=fun g=>Will Try.prog main Z Stop g VX) mu_will (muv_will hnX)
 refine key _ ?_
 repeat (first|(with_reducible first|refine mu_seq hK ?_|refine mu_skip hK ?_|(refine mu_region_end hK ?_;try subst hkk)|refine mu_block hK ?_|refine mu_inBlock hK ?_|refine mu_ret hK ?_|refine mu_end hK ?_)|refine mu_exit hK rfl ?_|(with_reducible refine mu_regionH hK (fun kk hkk=>?_);simp only [List.size_toArray,List.length_cons,List.length_nil,Nat.reduceAdd,Nat.zero_add,List.range,List.range.loop])|(with_reducible refine mu_cf hK ?_ ?_;(· first|(walk_nrm;done)|(simp [Act.eval];done)))|(with_reducible refine mu_ct hK ?_ ?_;(· first|(walk_nrm;done)|(simp [Act.eval];done)))|(refine mu_unwanted hK rfl rfl ?_;walk_nrm)|(refine muv_val hV rfl (by first|exact .inl rfl|exact .inr rfl) rfl (by kernel_rfl) (fun J hJ=>?_);go_simp;with_reducible refine hJ _ ?_;clear hJ J;walk_nrm))
 refine mu_leave1 hK rfl rfl Try.func88 rfl ?_
 walk_nrm
 repeat (first|(with_reducible first|refine mu_seq hK ?_|refine mu_skip hK ?_|(refine mu_region_end hK ?_;try subst hkk)|refine mu_block hK ?_|refine mu_inBlock hK ?_|refine mu_ret hK ?_|refine mu_end hK ?_)|refine mu_exit hK rfl ?_|(with_reducible refine mu_regionH hK (fun kk hkk=>?_);simp only [List.size_toArray,List.length_cons,List.length_nil,Nat.reduceAdd,Nat.zero_add,List.range,List.range.loop])|(with_reducible refine mu_cf hK ?_ ?_;(· first|(walk_nrm;done)|(simp [Act.eval];done)))|(with_reducible refine mu_ct hK ?_ ?_;(· first|(walk_nrm;done)|(simp [Act.eval];done)))|(refine mu_unwanted hK rfl rfl ?_;walk_nrm)|(refine muv_val hV rfl (by first|exact .inl rfl|exact .inr rfl) rfl (by kernel_rfl) (fun J hJ=>?_);go_simp;with_reducible refine hJ _ ?_;clear hJ J;walk_nrm))
 refine mu_leave1 hK rfl rfl Try.func40 rfl ?_
 walk_nrm
 repeat (first|(with_reducible first|refine mu_seq hK ?_|refine mu_skip hK ?_|(refine mu_region_end hK ?_;try subst hkk)|refine mu_block hK ?_|refine mu_inBlock hK ?_|refine mu_ret hK ?_|refine mu_end hK ?_)|refine mu_exit hK rfl ?_|(with_reducible refine mu_regionH hK (fun kk hkk=>?_);simp only [List.size_toArray,List.length_cons,List.length_nil,Nat.reduceAdd,Nat.zero_add,List.range,List.range.loop])|(with_reducible refine mu_cf hK ?_ ?_;(· first|(walk_nrm;done)|(simp [Act.eval];done)))|(with_reducible refine mu_ct hK ?_ ?_;(· first|(walk_nrm;done)|(simp [Act.eval];done)))|(refine mu_unwanted hK rfl rfl ?_;walk_nrm)|(refine muv_val hV rfl (by first|exact .inl rfl|exact .inr rfl) rfl (by kernel_rfl) (fun J hJ=>?_);go_simp;with_reducible refine hJ _ ?_;clear hJ J;walk_nrm))
 have r_e6X_0 : ∀ τ,(re VX τ 0).cell? ⟨b6,0,none⟩ = some (c0):=fun τ=>cell_of e6X (by simp)
 have r_e6X_1 : ∀ τ,(re VX τ 0).cell? ⟨b6,1,none⟩ = some (c1):=fun τ=>cell_of e6X (by simp)
 have r_e6X_2 : ∀ τ,(re VX τ 0).cell? ⟨b6,2,none⟩ = some (c2):=fun τ=>cell_of e6X (by simp)
 have r_e6X_3 : ∀ τ,(re VX τ 0).cell? ⟨b6,3,none⟩ = some (c3):=fun τ=>cell_of e6X (by simp)
 have z_e6X_0 : ∀ τ,(re VX τ 0).frozen? ⟨b6,0,none⟩ = false:=fun τ=>by simp [World.frozen?,re,e6X]
 have z_e6X_1 : ∀ τ,(re VX τ 0).frozen? ⟨b6,1,none⟩ = false:=fun τ=>by simp [World.frozen?,re,e6X]
 have z_e6X_2 : ∀ τ,(re VX τ 0).frozen? ⟨b6,2,none⟩ = false:=fun τ=>by simp [World.frozen?,re,e6X]
 have z_e6X_3 : ∀ τ,(re VX τ 0).frozen? ⟨b6,3,none⟩ = false:=fun τ=>by simp [World.frozen?,re,e6X]
 refine yek _ ?_
 clear hK hV key yek K
 have hnY : norm ((((VX.setCell ⟨b6,0,none⟩ (.int .i64 0)).setCell ⟨b6,1,none⟩ (.int .i64 0)).setCell ⟨b6,2,none⟩ (.int .i64 0)).setCell ⟨b6,3,none⟩ (.bool true)) = ((((VX.setCell ⟨b6,0,none⟩ (.int .i64 0)).setCell ⟨b6,1,none⟩ (.int .i64 0)).setCell ⟨b6,2,none⟩ (.int .i64 0)).setCell ⟨b6,3,none⟩ (.bool true)):=norm_set (norm_set (norm_set (norm_set hnX _ _) _ _) _ _) _ _
 refine mus_put (L:=Lone) (mus_will hnY) (K:=fun g=>Will Try.prog main Z Stop g VX) (K':=fun g=>Will Try.prog main Z Stop g ((((VX.setCell ⟨b6,0,none⟩ (.int .i64 0)).setCell ⟨b6,1,none⟩ (.int .i64 0)).setCell ⟨b6,2,none⟩ (.int .i64 0)).setCell ⟨b6,3,none⟩ (.bool true))) rfl (.inl rfl) rfl (by kernel_rfl) (fun τ=>?_) ?_
 · go_simp
   try rfl
 have kY : ∀ b,b ≠ b6 → ((((VX.setCell ⟨b6,0,none⟩ (.int .i64 0)).setCell ⟨b6,1,none⟩ (.int .i64 0)).setCell ⟨b6,2,none⟩ (.int .i64 0)).setCell ⟨b6,3,none⟩ (.bool true)).heap[b]? = VX.heap[b]?:=fun b hb=>by rw [setCell_heap,if_neg hb,setCell_heap,if_neg hb,setCell_heap,if_neg hb,setCell_heap,if_neg hb]
 have eY : ((((VX.setCell ⟨b6,0,none⟩ (.int .i64 0)).setCell ⟨b6,1,none⟩ (.int .i64 0)).setCell ⟨b6,2,none⟩ (.int .i64 0)).setCell ⟨b6,3,none⟩ (.bool true)).heap[b6]? = some (.cells #[.int .i64 0,.int .i64 0,.int .i64 0,.bool true] 67 (0,0)):=by
   rw [setCell_heap,if_pos rfl,setCell_heap,if_pos rfl,setCell_heap,if_pos rfl,setCell_heap,if_pos rfl,e6X]
   simp
 have sY : ((((VX.setCell ⟨b6,0,none⟩ (.int .i64 0)).setCell ⟨b6,1,none⟩ (.int .i64 0)).setCell ⟨b6,2,none⟩ (.int .i64 0)).setCell ⟨b6,3,none⟩ (.bool true)).heap.size = VX.heap.size:=by simp [World.setCell]
 generalize ((((VX.setCell ⟨b6,0,none⟩ (.int .i64 0)).setCell ⟨b6,1,none⟩ (.int .i64 0)).setCell ⟨b6,2,none⟩ (.int .i64 0)).setCell ⟨b6,3,none⟩ (.bool true)) = VY at *
 clear r_e6X_0 r_e6X_1 r_e6X_2 r_e6X_3 z_e6X_0 z_e6X_1 z_e6X_2 z_e6X_3
 walk_nrm
 have r0 : ∀ τ,(re VY τ 0).cell? ⟨b6,0,none⟩ = some (.int .i64 0):=fun τ=>cell_of eY (by simp)
 have r1 : ∀ τ,(re VY τ 0).cell? ⟨b6,1,none⟩ = some (.int .i64 0):=fun τ=>cell_of eY (by simp)
 have r2 : ∀ τ,(re VY τ 0).cell? ⟨b6,2,none⟩ = some (.int .i64 0):=fun τ=>cell_of eY (by simp)
 have r3 : ∀ τ,(re VY τ 0).cell? ⟨b6,3,none⟩ = some (.bool true):=fun τ=>cell_of eY (by simp)
 obtain ⟨K,hK,hV,key,yek⟩:=kKV (L:=Lone) (J:=fun g=>Will Try.prog main Z Stop g VY) mu_will (muv_will hnY)
 refine key _ ?_
 repeat (first|(with_reducible first|refine mu_seq hK ?_|refine mu_skip hK ?_|(refine mu_region_end hK ?_;try subst hkk)|refine mu_block hK ?_|refine mu_inBlock hK ?_|refine mu_ret hK ?_|refine mu_end hK ?_)|refine mu_exit hK rfl ?_|(with_reducible refine mu_regionH hK (fun kk hkk=>?_);simp only [List.size_toArray,List.length_cons,List.length_nil,Nat.reduceAdd,Nat.zero_add,List.range,List.range.loop])|(with_reducible refine mu_cf hK ?_ ?_;(· first|(walk_nrm;done)|(simp [Act.eval];done)))|(with_reducible refine mu_ct hK ?_ ?_;(· first|(walk_nrm;done)|(simp [Act.eval];done)))|(refine mu_unwanted hK rfl rfl ?_;walk_nrm)|(refine muv_val hV rfl (by first|exact .inl rfl|exact .inr rfl) rfl (by kernel_rfl) (fun J hJ=>?_);go_simp;with_reducible refine hJ _ ?_;clear hJ J;walk_nrm))
 refine yek _ ?_
 clear hK hV key yek K
 refine will_leave (fn:=Try.f30) rfl rfl Try.func30 (v:=(.agg #[.int .i64 0,.int .i64 0,.int .i64 0,.bool true])) (fun τ=>?_) ?_
 · simp only [results,Try.f30,List.mapM_toArray,List.mapM_cons,List.mapM_nil,Sem.run_bind]
   go_simp
 rw [Frame.finish_at]
 exact K VY hnY (sY.trans sX) (fun b h1 h2=>(kY b h2).trans (kX b h1)) ((kY ab hab6).trans numX) eY
theorem do_out4 {T : Array Value} {T' : Array Value} (hn : norm V = V) (num : V.heap[ab]? = some (.cells #[.int .i64 v] 64 (0,0))) (e6 : V.heap[b6]? = some (.cells #[c0,c1,c2,c3] 67 (0,0))) (hs : T.size = 19) (t0 : T[0]? = some (bq ab)) (hv : ¬ v = o) (t2 : T[2]? = some (.int .i64 o)) (t3 : T[3]? = some (.int .i64 n)) (hs' : T'.size = 36) (t6 : T'[6]? = some (bq b6))
   (K : ∀ V',norm V' = V' → V'.heap.size = V.heap.size → (∀ b,b ≠ ab → b ≠ b6 → V'.heap[b]? = V.heap[b]?) → V'.heap[ab]? = some (.cells #[.int .i64 v] 64 (0,0)) → V'.heap[b6]? = some (.cells #[.int .i64 0,.int .i64 0,.int .i64 0,.bool false] 67 (0,0)) → Will Try.prog main Z Stop (G (b₀.at (a₀.put ((ops₀[i₀]?).bind (·.dst)) (.agg #[.int .i64 0,.int .i64 0,.int .i64 0,.bool false])) (.inRegion ops₀ rest₀ :: k₀)) cs) V') :
   Will Try.prog main Z Stop (G ((base 40).at (Act.put ⟨T,[]⟩ ((ao40[1]?).bind (·.dst)) (.tuple #[])) [.inRegion ao40 [],.code ar40]) (D7 T' :: b₀.at a₀ (.inRegion ops₀ (i₀ :: rest₀) :: k₀) :: cs)) V:=by
 have hab6 : ab ≠ b6:=fun e=>by rw [e,e6] at num; cases num
 have hvo : (v == o) = false:=by simp [hv]
 simp only [bq] at t0 t6
 obtain ⟨f,hf,hT⟩:=array19f T hs
 have et0:=hf 0 _ t0
 have et2:=hf 2 _ t2
 have et3:=hf 3 _ t3
 clear hf hs t0 t2 t3
 subst hT
 simp only [et0,et2,et3]
 clear et0 et2 et3
 have hs:=hs'
 clear hs'
 obtain ⟨f',hf,hT⟩:=array36f T' hs
 have et6:=hf 6 _ t6
 clear hf hs t6
 subst hT
 simp only [et6]
 clear et6
 refine (fun (h : ∀ X0 X1 X2 X3,X0 = ao40 → X1 = ar40 → X2 = do7 → X3 = dq → Will Try.prog main Z Stop (G ((base 40).at (Act.put ⟨_,[]⟩ ((X0[1]?).bind (·.dst)) (.tuple #[])) [.inRegion X0 [],.code X1]) ((base 30).at ⟨_,[]⟩ [.inRegion X2 [6,7,8],.code .ret,.inBlock 0,.code X3] :: b₀.at a₀ (.inRegion ops₀ (i₀ :: rest₀) :: k₀) :: cs)) V)=>h ao40 ar40 do7 dq rfl rfl rfl rfl) ?_
 intro X0 X1 X2 X3 hX0 hX1 hX2 hX3
 simp only [do3,do5,do7,do8,dz8,dq,dw2,de3,de5,ds30,ao41,ar41,ao34,ar34,ao40,ar40,rops,nva,nvb,nvk,nvl,nvd,nve,Try.f30,Try.f41,Try.f34,Try.f40,Option.getD_some] at hX0 hX1 hX2 hX3
 subst hX0 hX1 hX2 hX3
 walk_nrm
 obtain ⟨K,hK,hV,key,yek⟩:=kKV (L:=Lone) (J:=fun g=>Will Try.prog main Z Stop g V) mu_will (muv_will hn)
 refine key _ ?_
 repeat (first|(with_reducible first|refine mu_seq hK ?_|refine mu_skip hK ?_|(refine mu_region_end hK ?_;try subst hkk)|refine mu_block hK ?_|refine mu_inBlock hK ?_|refine mu_ret hK ?_|refine mu_end hK ?_)|refine mu_exit hK rfl ?_|(with_reducible refine mu_regionH hK (fun kk hkk=>?_);simp only [List.size_toArray,List.length_cons,List.length_nil,Nat.reduceAdd,Nat.zero_add,List.range,List.range.loop])|(with_reducible refine mu_cf hK ?_ ?_;(· first|(walk_nrm;done)|(simp [Act.eval];done)))|(with_reducible refine mu_ct hK ?_ ?_;(· first|(walk_nrm;done)|(simp [Act.eval];done)))|(refine mu_unwanted hK rfl rfl ?_;walk_nrm)|(refine muv_val hV rfl (by first|exact .inl rfl|exact .inr rfl) rfl (by kernel_rfl) (fun J hJ=>?_);go_simp;with_reducible refine hJ _ ?_;clear hJ J;walk_nrm))
 refine mu_call hK rfl rfl (by decide) rfl Try.func88 (by kernel_rfl) rfl ?_
 have hnt88 : Try.f88.ntmps = 13:=rfl
 rw [hnt88]
 clear hnt88
 walk_nrm
 repeat (first|(with_reducible first|refine mu_seq hK ?_|refine mu_skip hK ?_|(refine mu_region_end hK ?_;try subst hkk)|refine mu_block hK ?_|refine mu_inBlock hK ?_|refine mu_ret hK ?_|refine mu_end hK ?_)|refine mu_exit hK rfl ?_|(with_reducible refine mu_regionH hK (fun kk hkk=>?_);simp only [List.size_toArray,List.length_cons,List.length_nil,Nat.reduceAdd,Nat.zero_add,List.range,List.range.loop])|(with_reducible refine mu_cf hK ?_ ?_;(· first|(walk_nrm;done)|(simp [Act.eval];done)))|(with_reducible refine mu_ct hK ?_ ?_;(· first|(walk_nrm;done)|(simp [Act.eval];done)))|(refine mu_unwanted hK rfl rfl ?_;walk_nrm)|(refine muv_val hV rfl (by first|exact .inl rfl|exact .inr rfl) rfl (by kernel_rfl) (fun J hJ=>?_);go_simp;with_reducible refine hJ _ ?_;clear hJ J;walk_nrm))
 refine yek _ ?_
 clear hK hV key yek K
 have c1 : V.cell? ⟨ab,0,none⟩ = some (.int .i64 v):=cell_of num (by simp)
 have z1 : V.frozen? ⟨ab,0,none⟩ = false:=by simp [World.frozen?,num]
 refine at_miss (ad:=⟨ab,0,none⟩) (v:=v) (u:=o) (n:=n) rfl rfl (base_ne _) rfl rfl rfl rfl c1 z1 hv ?_
 walk_nrm
 clear c1 z1
 obtain ⟨K,hK,hV,key,yek⟩:=kKV (L:=Lone) (J:=fun g=>Will Try.prog main Z Stop g V) mu_will (muv_will hn)
 refine key _ ?_
 repeat (first|(with_reducible first|refine mu_seq hK ?_|refine mu_skip hK ?_|(refine mu_region_end hK ?_;try subst hkk)|refine mu_block hK ?_|refine mu_inBlock hK ?_|refine mu_ret hK ?_|refine mu_end hK ?_)|refine mu_exit hK rfl ?_|(with_reducible refine mu_regionH hK (fun kk hkk=>?_);simp only [List.size_toArray,List.length_cons,List.length_nil,Nat.reduceAdd,Nat.zero_add,List.range,List.range.loop])|(with_reducible refine mu_cf hK ?_ ?_;(· first|(walk_nrm;done)|(simp [Act.eval];done)))|(with_reducible refine mu_ct hK ?_ ?_;(· first|(walk_nrm;done)|(simp [Act.eval];done)))|(refine mu_unwanted hK rfl rfl ?_;walk_nrm)|(refine muv_val hV rfl (by first|exact .inl rfl|exact .inr rfl) rfl (by kernel_rfl) (fun J hJ=>?_);go_simp;with_reducible refine hJ _ ?_;clear hJ J;walk_nrm))
 refine mu_leave1 hK rfl rfl Try.func88 rfl ?_
 walk_nrm
 repeat (first|(with_reducible first|refine mu_seq hK ?_|refine mu_skip hK ?_|(refine mu_region_end hK ?_;try subst hkk)|refine mu_block hK ?_|refine mu_inBlock hK ?_|refine mu_ret hK ?_|refine mu_end hK ?_)|refine mu_exit hK rfl ?_|(with_reducible refine mu_regionH hK (fun kk hkk=>?_);simp only [List.size_toArray,List.length_cons,List.length_nil,Nat.reduceAdd,Nat.zero_add,List.range,List.range.loop])|(with_reducible refine mu_cf hK ?_ ?_;(· first|(walk_nrm;done)|(simp [Act.eval];done)))|(with_reducible refine mu_ct hK ?_ ?_;(· first|(walk_nrm;done)|(simp [Act.eval];done)))|(refine mu_unwanted hK rfl rfl ?_;walk_nrm)|(refine muv_val hV rfl (by first|exact .inl rfl|exact .inr rfl) rfl (by kernel_rfl) (fun J hJ=>?_);go_simp;with_reducible refine hJ _ ?_;clear hJ J;walk_nrm))
 refine mu_leave1 hK rfl rfl Try.func40 rfl ?_
 walk_nrm
 repeat (first|(with_reducible first|refine mu_seq hK ?_|refine mu_skip hK ?_|(refine mu_region_end hK ?_;try subst hkk)|refine mu_block hK ?_|refine mu_inBlock hK ?_|refine mu_ret hK ?_|refine mu_end hK ?_)|refine mu_exit hK rfl ?_|(with_reducible refine mu_regionH hK (fun kk hkk=>?_);simp only [List.size_toArray,List.length_cons,List.length_nil,Nat.reduceAdd,Nat.zero_add,List.range,List.range.loop])|(with_reducible refine mu_cf hK ?_ ?_;(· first|(walk_nrm;done)|(simp [Act.eval];done)))|(with_reducible refine mu_ct hK ?_ ?_;(· first|(walk_nrm;done)|(simp [Act.eval];done)))|(refine mu_unwanted hK rfl rfl ?_;walk_nrm)|(refine muv_val hV rfl (by first|exact .inl rfl|exact .inr rfl) rfl (by kernel_rfl) (fun J hJ=>?_);go_simp;with_reducible refine hJ _ ?_;clear hJ J;walk_nrm))
 have r_e6_0 : ∀ τ,(re V τ 0).cell? ⟨b6,0,none⟩ = some (c0):=fun τ=>cell_of e6 (by simp)
 have r_e6_1 : ∀ τ,(re V τ 0).cell? ⟨b6,1,none⟩ = some (c1):=fun τ=>cell_of e6 (by simp)
 have r_e6_2 : ∀ τ,(re V τ 0).cell? ⟨b6,2,none⟩ = some (c2):=fun τ=>cell_of e6 (by simp)
 have r_e6_3 : ∀ τ,(re V τ 0).cell? ⟨b6,3,none⟩ = some (c3):=fun τ=>cell_of e6 (by simp)
 have z_e6_0 : ∀ τ,(re V τ 0).frozen? ⟨b6,0,none⟩ = false:=fun τ=>by simp [World.frozen?,re,e6]
 have z_e6_1 : ∀ τ,(re V τ 0).frozen? ⟨b6,1,none⟩ = false:=fun τ=>by simp [World.frozen?,re,e6]
 have z_e6_2 : ∀ τ,(re V τ 0).frozen? ⟨b6,2,none⟩ = false:=fun τ=>by simp [World.frozen?,re,e6]
 have z_e6_3 : ∀ τ,(re V τ 0).frozen? ⟨b6,3,none⟩ = false:=fun τ=>by simp [World.frozen?,re,e6]
 refine yek _ ?_
 clear hK hV key yek K
 have hnY : norm ((((V.setCell ⟨b6,0,none⟩ (.int .i64 0)).setCell ⟨b6,1,none⟩ (.int .i64 0)).setCell ⟨b6,2,none⟩ (.int .i64 0)).setCell ⟨b6,3,none⟩ (.bool false)) = ((((V.setCell ⟨b6,0,none⟩ (.int .i64 0)).setCell ⟨b6,1,none⟩ (.int .i64 0)).setCell ⟨b6,2,none⟩ (.int .i64 0)).setCell ⟨b6,3,none⟩ (.bool false)):=norm_set (norm_set (norm_set (norm_set hn _ _) _ _) _ _) _ _
 refine mus_put (L:=Lone) (mus_will hnY) (K:=fun g=>Will Try.prog main Z Stop g V) (K':=fun g=>Will Try.prog main Z Stop g ((((V.setCell ⟨b6,0,none⟩ (.int .i64 0)).setCell ⟨b6,1,none⟩ (.int .i64 0)).setCell ⟨b6,2,none⟩ (.int .i64 0)).setCell ⟨b6,3,none⟩ (.bool false))) rfl (.inl rfl) rfl (by kernel_rfl) (fun τ=>?_) ?_
 · go_simp
   try rfl
 have kY : ∀ b,b ≠ b6 → ((((V.setCell ⟨b6,0,none⟩ (.int .i64 0)).setCell ⟨b6,1,none⟩ (.int .i64 0)).setCell ⟨b6,2,none⟩ (.int .i64 0)).setCell ⟨b6,3,none⟩ (.bool false)).heap[b]? = V.heap[b]?:=fun b hb=>by rw [setCell_heap,if_neg hb,setCell_heap,if_neg hb,setCell_heap,if_neg hb,setCell_heap,if_neg hb]
 have eY : ((((V.setCell ⟨b6,0,none⟩ (.int .i64 0)).setCell ⟨b6,1,none⟩ (.int .i64 0)).setCell ⟨b6,2,none⟩ (.int .i64 0)).setCell ⟨b6,3,none⟩ (.bool false)).heap[b6]? = some (.cells #[.int .i64 0,.int .i64 0,.int .i64 0,.bool false] 67 (0,0)):=by
   rw [setCell_heap,if_pos rfl,setCell_heap,if_pos rfl,setCell_heap,if_pos rfl,setCell_heap,if_pos rfl,e6]
   simp
 have sY : ((((V.setCell ⟨b6,0,none⟩ (.int .i64 0)).setCell ⟨b6,1,none⟩ (.int .i64 0)).setCell ⟨b6,2,none⟩ (.int .i64 0)).setCell ⟨b6,3,none⟩ (.bool false)).heap.size = V.heap.size:=by simp [World.setCell]
 generalize ((((V.setCell ⟨b6,0,none⟩ (.int .i64 0)).setCell ⟨b6,1,none⟩ (.int .i64 0)).setCell ⟨b6,2,none⟩ (.int .i64 0)).setCell ⟨b6,3,none⟩ (.bool false)) = VY at *
 clear r_e6_0 r_e6_1 r_e6_2 r_e6_3 z_e6_0 z_e6_1 z_e6_2 z_e6_3
 walk_nrm
 have r0 : ∀ τ,(re VY τ 0).cell? ⟨b6,0,none⟩ = some (.int .i64 0):=fun τ=>cell_of eY (by simp)
 have r1 : ∀ τ,(re VY τ 0).cell? ⟨b6,1,none⟩ = some (.int .i64 0):=fun τ=>cell_of eY (by simp)
 have r2 : ∀ τ,(re VY τ 0).cell? ⟨b6,2,none⟩ = some (.int .i64 0):=fun τ=>cell_of eY (by simp)
 have r3 : ∀ τ,(re VY τ 0).cell? ⟨b6,3,none⟩ = some (.bool false):=fun τ=>cell_of eY (by simp)
 obtain ⟨K,hK,hV,key,yek⟩:=kKV (L:=Lone) (J:=fun g=>Will Try.prog main Z Stop g VY) mu_will (muv_will hnY)
 refine key _ ?_
 repeat (first|(with_reducible first|refine mu_seq hK ?_|refine mu_skip hK ?_|(refine mu_region_end hK ?_;try subst hkk)|refine mu_block hK ?_|refine mu_inBlock hK ?_|refine mu_ret hK ?_|refine mu_end hK ?_)|refine mu_exit hK rfl ?_|(with_reducible refine mu_regionH hK (fun kk hkk=>?_);simp only [List.size_toArray,List.length_cons,List.length_nil,Nat.reduceAdd,Nat.zero_add,List.range,List.range.loop])|(with_reducible refine mu_cf hK ?_ ?_;(· first|(walk_nrm;done)|(simp [Act.eval];done)))|(with_reducible refine mu_ct hK ?_ ?_;(· first|(walk_nrm;done)|(simp [Act.eval];done)))|(refine mu_unwanted hK rfl rfl ?_;walk_nrm)|(refine muv_val hV rfl (by first|exact .inl rfl|exact .inr rfl) rfl (by kernel_rfl) (fun J hJ=>?_);go_simp;with_reducible refine hJ _ ?_;clear hJ J;walk_nrm))
 refine yek _ ?_
 clear hK hV key yek K
 refine will_leave (fn:=Try.f30) rfl rfl Try.func30 (v:=(.agg #[.int .i64 0,.int .i64 0,.int .i64 0,.bool false])) (fun τ=>?_) ?_
 · simp only [results,Try.f30,List.mapM_toArray,List.mapM_cons,List.mapM_nil,Sem.run_bind]
   go_simp
 rw [Frame.finish_at]
 exact K VY hnY sY (fun b h1 h2=>kY b h2) ((kY ab hab6).trans num) eY
theorem do_out3 {T' : Array Value} (hn : norm V = V) (num : V.heap[ab]? = some (.cells #[.int .i64 v] 64 (0,0))) (e6 : V.heap[b6]? = some (.cells #[c0,c1,c2,c3] 67 (0,0))) (hs' : T'.size = 36) (t6 : T'[6]? = some (bq b6))
   (K : ∀ V',norm V' = V' → V'.heap.size = V.heap.size → (∀ b,b ≠ ab → b ≠ b6 → V'.heap[b]? = V.heap[b]?) → V'.heap[ab]? = some (.cells #[.int .i64 v] 64 (0,0)) → V'.heap[b6]? = some (.cells #[.int .i64 0,.int .i64 0,.int .i64 0,.bool false] 67 (0,0)) → Will Try.prog main Z Stop (G (b₀.at (a₀.put ((ops₀[i₀]?).bind (·.dst)) (.agg #[.int .i64 0,.int .i64 0,.int .i64 0,.bool false])) (.inRegion ops₀ rest₀ :: k₀)) cs) V') :
   Will Try.prog main Z Stop (G ((base 30).at (Act.put ⟨T',[]⟩ ((do8[1]?).bind (·.dst)) (.tuple #[])) [.inRegion do8 [],.code dz8]) (b₀.at a₀ (.inRegion ops₀ (i₀ :: rest₀) :: k₀) :: cs)) V:=by
 have hab6 : ab ≠ b6:=fun e=>by rw [e,e6] at num; cases num
 simp only [bq] at t6
 have hs:=hs'
 clear hs'
 obtain ⟨f',hf,hT⟩:=array36f T' hs
 have et6:=hf 6 _ t6
 clear hf hs t6
 subst hT
 simp only [et6]
 clear et6
 refine (fun (h : ∀ X0 X1,X0 = do8 → X1 = dz8 → Will Try.prog main Z Stop (G ((base 30).at (Act.put ⟨_,[]⟩ ((X0[1]?).bind (·.dst)) (.tuple #[])) [.inRegion X0 [],.code X1]) (b₀.at a₀ (.inRegion ops₀ (i₀ :: rest₀) :: k₀) :: cs)) V)=>h do8 dz8 rfl rfl) ?_
 intro X0 X1 hX0 hX1
 simp only [do3,do5,do7,do8,dz8,dq,dw2,de3,de5,ds30,ao41,ar41,ao34,ar34,ao40,ar40,rops,nva,nvb,nvk,nvl,nvd,nve,Try.f30,Try.f41,Try.f34,Try.f40,Option.getD_some] at hX0 hX1
 subst hX0 hX1
 walk_nrm
 obtain ⟨K,hK,hV,key,yek⟩:=kKV (L:=Lone) (J:=fun g=>Will Try.prog main Z Stop g V) mu_will (muv_will hn)
 refine key _ ?_
 repeat (first|(with_reducible first|refine mu_seq hK ?_|refine mu_skip hK ?_|(refine mu_region_end hK ?_;try subst hkk)|refine mu_block hK ?_|refine mu_inBlock hK ?_|refine mu_ret hK ?_|refine mu_end hK ?_)|refine mu_exit hK rfl ?_|(with_reducible refine mu_regionH hK (fun kk hkk=>?_);simp only [List.size_toArray,List.length_cons,List.length_nil,Nat.reduceAdd,Nat.zero_add,List.range,List.range.loop])|(with_reducible refine mu_cf hK ?_ ?_;(· first|(walk_nrm;done)|(simp [Act.eval];done)))|(with_reducible refine mu_ct hK ?_ ?_;(· first|(walk_nrm;done)|(simp [Act.eval];done)))|(refine mu_unwanted hK rfl rfl ?_;walk_nrm)|(refine muv_val hV rfl (by first|exact .inl rfl|exact .inr rfl) rfl (by kernel_rfl) (fun J hJ=>?_);go_simp;with_reducible refine hJ _ ?_;clear hJ J;walk_nrm))
 have r_e6_0 : ∀ τ,(re V τ 0).cell? ⟨b6,0,none⟩ = some (c0):=fun τ=>cell_of e6 (by simp)
 have r_e6_1 : ∀ τ,(re V τ 0).cell? ⟨b6,1,none⟩ = some (c1):=fun τ=>cell_of e6 (by simp)
 have r_e6_2 : ∀ τ,(re V τ 0).cell? ⟨b6,2,none⟩ = some (c2):=fun τ=>cell_of e6 (by simp)
 have r_e6_3 : ∀ τ,(re V τ 0).cell? ⟨b6,3,none⟩ = some (c3):=fun τ=>cell_of e6 (by simp)
 have z_e6_0 : ∀ τ,(re V τ 0).frozen? ⟨b6,0,none⟩ = false:=fun τ=>by simp [World.frozen?,re,e6]
 have z_e6_1 : ∀ τ,(re V τ 0).frozen? ⟨b6,1,none⟩ = false:=fun τ=>by simp [World.frozen?,re,e6]
 have z_e6_2 : ∀ τ,(re V τ 0).frozen? ⟨b6,2,none⟩ = false:=fun τ=>by simp [World.frozen?,re,e6]
 have z_e6_3 : ∀ τ,(re V τ 0).frozen? ⟨b6,3,none⟩ = false:=fun τ=>by simp [World.frozen?,re,e6]
 refine yek _ ?_
 clear hK hV key yek K
 have hnY : norm ((((V.setCell ⟨b6,0,none⟩ (.int .i64 0)).setCell ⟨b6,1,none⟩ (.int .i64 0)).setCell ⟨b6,2,none⟩ (.int .i64 0)).setCell ⟨b6,3,none⟩ (.bool false)) = ((((V.setCell ⟨b6,0,none⟩ (.int .i64 0)).setCell ⟨b6,1,none⟩ (.int .i64 0)).setCell ⟨b6,2,none⟩ (.int .i64 0)).setCell ⟨b6,3,none⟩ (.bool false)):=norm_set (norm_set (norm_set (norm_set hn _ _) _ _) _ _) _ _
 refine mus_put (L:=Lone) (mus_will hnY) (K:=fun g=>Will Try.prog main Z Stop g V) (K':=fun g=>Will Try.prog main Z Stop g ((((V.setCell ⟨b6,0,none⟩ (.int .i64 0)).setCell ⟨b6,1,none⟩ (.int .i64 0)).setCell ⟨b6,2,none⟩ (.int .i64 0)).setCell ⟨b6,3,none⟩ (.bool false))) rfl (.inl rfl) rfl (by kernel_rfl) (fun τ=>?_) ?_
 · go_simp
   try rfl
 have kY : ∀ b,b ≠ b6 → ((((V.setCell ⟨b6,0,none⟩ (.int .i64 0)).setCell ⟨b6,1,none⟩ (.int .i64 0)).setCell ⟨b6,2,none⟩ (.int .i64 0)).setCell ⟨b6,3,none⟩ (.bool false)).heap[b]? = V.heap[b]?:=fun b hb=>by rw [setCell_heap,if_neg hb,setCell_heap,if_neg hb,setCell_heap,if_neg hb,setCell_heap,if_neg hb]
 have eY : ((((V.setCell ⟨b6,0,none⟩ (.int .i64 0)).setCell ⟨b6,1,none⟩ (.int .i64 0)).setCell ⟨b6,2,none⟩ (.int .i64 0)).setCell ⟨b6,3,none⟩ (.bool false)).heap[b6]? = some (.cells #[.int .i64 0,.int .i64 0,.int .i64 0,.bool false] 67 (0,0)):=by
   rw [setCell_heap,if_pos rfl,setCell_heap,if_pos rfl,setCell_heap,if_pos rfl,setCell_heap,if_pos rfl,e6]
   simp
 have sY : ((((V.setCell ⟨b6,0,none⟩ (.int .i64 0)).setCell ⟨b6,1,none⟩ (.int .i64 0)).setCell ⟨b6,2,none⟩ (.int .i64 0)).setCell ⟨b6,3,none⟩ (.bool false)).heap.size = V.heap.size:=by simp [World.setCell]
 generalize ((((V.setCell ⟨b6,0,none⟩ (.int .i64 0)).setCell ⟨b6,1,none⟩ (.int .i64 0)).setCell ⟨b6,2,none⟩ (.int .i64 0)).setCell ⟨b6,3,none⟩ (.bool false)) = VY at *
 clear r_e6_0 r_e6_1 r_e6_2 r_e6_3 z_e6_0 z_e6_1 z_e6_2 z_e6_3
 walk_nrm
 have r0 : ∀ τ,(re VY τ 0).cell? ⟨b6,0,none⟩ = some (.int .i64 0):=fun τ=>cell_of eY (by simp)
 have r1 : ∀ τ,(re VY τ 0).cell? ⟨b6,1,none⟩ = some (.int .i64 0):=fun τ=>cell_of eY (by simp)
 have r2 : ∀ τ,(re VY τ 0).cell? ⟨b6,2,none⟩ = some (.int .i64 0):=fun τ=>cell_of eY (by simp)
 have r3 : ∀ τ,(re VY τ 0).cell? ⟨b6,3,none⟩ = some (.bool false):=fun τ=>cell_of eY (by simp)
 obtain ⟨K,hK,hV,key,yek⟩:=kKV (L:=Lone) (J:=fun g=>Will Try.prog main Z Stop g VY) mu_will (muv_will hnY)
 refine key _ ?_
 repeat (first|(with_reducible first|refine mu_seq hK ?_|refine mu_skip hK ?_|(refine mu_region_end hK ?_;try subst hkk)|refine mu_block hK ?_|refine mu_inBlock hK ?_|refine mu_ret hK ?_|refine mu_end hK ?_)|refine mu_exit hK rfl ?_|(with_reducible refine mu_regionH hK (fun kk hkk=>?_);simp only [List.size_toArray,List.length_cons,List.length_nil,Nat.reduceAdd,Nat.zero_add,List.range,List.range.loop])|(with_reducible refine mu_cf hK ?_ ?_;(· first|(walk_nrm;done)|(simp [Act.eval];done)))|(with_reducible refine mu_ct hK ?_ ?_;(· first|(walk_nrm;done)|(simp [Act.eval];done)))|(refine mu_unwanted hK rfl rfl ?_;walk_nrm)|(refine muv_val hV rfl (by first|exact .inl rfl|exact .inr rfl) rfl (by kernel_rfl) (fun J hJ=>?_);go_simp;with_reducible refine hJ _ ?_;clear hJ J;walk_nrm))
 refine yek _ ?_
 clear hK hV key yek K
 refine will_leave (fn:=Try.f30) rfl rfl Try.func30 (v:=(.agg #[.int .i64 0,.int .i64 0,.int .i64 0,.bool false])) (fun τ=>?_) ?_
 · simp only [results,Try.f30,List.mapM_toArray,List.mapM_cons,List.mapM_nil,Sem.run_bind]
   go_simp
 rw [Frame.finish_at]
 exact K VY hnY sY (fun b h1 h2=>kY b h2) ((kY ab hab6).trans num) eY
end
end Go.Proofs.Ytibcdikfbhmheaa
