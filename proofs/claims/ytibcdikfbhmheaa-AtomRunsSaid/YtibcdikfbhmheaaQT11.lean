import Derived.Test.YtibcdikfbhmheaaQT10
set_option linter.unusedSimpArgs false
set_option linter.unusedVariables false
set_option maxRecDepth 100000
set_option maxHeartbeats 4000000
namespace Go.Proofs.Ytibcdikfbhmheaa
open Go Go.Conc Go.Proofs
open Go.ConcN (sumTo upd sumTo_upd upd_ne upd_same)
set_option linter.unusedVariables false
def afn (tb ab gb : Nat) (ix : Nat → Nat) (j : Nat) : Value:=.func (.func 29) #[] #[bq tb,bq (ix j),bq ab,bq gb]
def afns (tb ab gb : Nat) (ix : Nat → Nat) (k : Nat) : List Value:=(List.range k).map (afn tb ab gb ix)
structure AF (V0 : World) (tb ab gb k : Nat) (ix : Nat → Nat) (cb : Nat) (fa : Option Addr) (fc : Nat) (V : World) : Prop where
 nrm : norm V = V
 kp : Kp V0 V
 row : V.ownsRow 0 70 1 (.slice fa k fc) k (afns tb ab gb ix k)
 own : ∀ b,(Value.slice fa k fc).ownBlock = some b → V0.heap.size ≤ b
 ib : ∀ j,j < k → V0.heap.size ≤ ix j ∧ V.heap[ix j]? = some (.cells #[.int .i64 (j : Int)] 3 (0,0))
 cb : V0.heap.size ≤ cb ∧ V.heap[cb]? = some (.cells #[.int .i64 (k : Int)] 3 (0,0))
section
variable {W V0 V V2 V3 V4 : World} {Z : Cuts} {tb ab gb cb k fc n nb : Nat} {ix : Nat → Nat} {fa : Option Addr} {T : Array Value} {kt : List Item} {cs0 : List Frame} {pl pc u Rn : Nat} {pa : Option Addr}
theorem AF.next (M : AF V0 tb ab gb k ix cb fa fc V) {wa : Option Addr} {wc : Nat} (h2 : V2.ownsRow 0 70 1 (.slice wa (k + 1) wc) (k + 1) (afns tb ab gb ix k ++ [.func (.func 29) #[] #[bq tb,bq cb,bq ab,bq gb]])) (s2 : V.heap.size ≤ V2.heap.size) (k2 : ∀ b,b < V.heap.size → (Value.slice fa k fc).ownBlock ≠ some b → V2.heap[b]? = V.heap[b]?) (o2 : ∀ b,(Value.slice wa (k + 1) wc).ownBlock = some b → (Value.slice fa k fc).ownBlock = some b ∨ V.heap.size ≤ b)
   (n4 : norm V4 = V4) (k4 : Kp V2 V4) (hnb : V2.heap.size ≤ nb) (e4 : V4.heap[nb]? = some (.cells #[.int .i64 ((k + 1 : Nat) : Int)] 3 (0,0))) : AF V0 tb ab gb (k + 1) (upd ix k cb) nb wa wc V4:=by
 have hkp:=M.kp.size
 have keep : ∀ (b : Nat) (c : Array Value),V.heap[b]? = some (.cells c 3 (0,0)) → V4.heap[b]? = some (.cells c 3 (0,0)):=fun b c hb=>by
   have hlt:=(Array.getElem?_eq_some_iff.1 hb).1
   rw [k4.keep b (by omega),k2 b hlt (own_tyK M.row hb (by decide))]
   exact hb
 refine ⟨n4,⟨by have:=k4.size; omega,fun b hb=>by rw [k4.keep b (by omega),k2 b (by omega) (fun e=>by have:=M.own b e; omega)]; exact M.kp.keep b hb⟩,?_,fun b hb=>?_,fun j hj=>?_,by omega,e4⟩
 · have e : afns tb ab gb (upd ix k cb) (k + 1) = afns tb ab gb ix k ++ [.func (.func 29) #[] #[bq tb,bq cb,bq ab,bq gb]]:=by
     unfold afns
     rw [List.range_succ,List.map_append]
     congr 1
     · apply List.map_congr_left
       intro j hj
       have : j < k:=List.mem_range.1 hj
       unfold afn
       rw [upd_ne _ _ (by omega)]
     · simp [afn,upd_same]
   rw [e]
   exact row_keep h2 fun b hb=>k4.keep b (row_at h2 hb)
 · rcases o2 b hb with h | h
   · exact M.own b h
   · omega
 · by_cases e : j = k
   · subst e; rw [upd_same]; exact ⟨M.cb.1,keep _ _ M.cb.2⟩
   · rw [upd_ne _ _ e]
     obtain ⟨h1,h2⟩:=M.ib j (by omega)
     exact ⟨h1,keep _ _ h2⟩
theorem u_lf {ta : Option Addr} {tc : Nat} (htb : V0.heap[tb]? = some (.cells #[.slice ta n tc] 54 (0,0))) (hn10 : n ≤ 10) : ∀ (q k : Nat) (ix : Nat → Nat) (cb : Nat) (fa : Option Addr) (fc : Nat) (V : World) (T : Array Value),q + k = n → AF V0 tb ab gb k ix cb fa fc V → Fg 139 [(1,.slice pa pl pc),(2,.int .u8 (u : Int)),(7,.pointer (some ⟨tb,0,none⟩)),(12,.pointer (some ⟨ab,0,none⟩)),(13,.pointer (some ⟨gb,0,none⟩)),(14,.slice fa k fc),(15,.pointer (some ⟨cb,0,none⟩))] T →
   (∀ ix cb fa fc V' T',AF V0 tb ab gb n ix cb fa fc V' → Fg 139 [(1,.slice pa pl pc),(2,.int .u8 (u : Int)),(7,.pointer (some ⟨tb,0,none⟩)),(12,.pointer (some ⟨ab,0,none⟩)),(13,.pointer (some ⟨gb,0,none⟩)),(14,.slice fa n fc)] T' → To0 Try.prog (LPost W) Z V' (G ((base 7).at ⟨T',[]⟩ kt) cs0)) →
   To0 Try.prog (LPost W) Z V (G ((base 7).at ⟨T,[]⟩ (.code yLF :: .inLoop yLF :: .inBlock 4 :: kt)) cs0):=by
 intro q
 induction q with
 | zero =>
   intro k ix cb fa fc V T hq M hT K
   refine (fun (h : ∀ Y,Y = yLF → To0 Try.prog (LPost W) Z V (G ((base 7).at ⟨T,[]⟩ (.code Y :: .inLoop yLF :: .inBlock 4 :: kt)) cs0))=>h yLF rfl) ?_
   intro Y hY
   rw [yLF_eq] at hY
   subst hY
   refine mu_seq mu_to0 (mu_seq mu_to0 ?_)
   refine u_r21 (x:=false) M.nrm M.cb.2 ((M.kp.keep tb (Array.getElem?_eq_some_iff.1 htb).1).trans htb) (decide_eq_false (by omega)) hT fun T1 hT1 h76=>?_
   refine mu_cond mu_to0 false (cond_atZ h76) ?_
   refine mu_exit mu_to0 rfl ?_
   obtain rfl : k = n:=by omega
   obtain ⟨hs,h1,h2,h7,h12,h13,h14,h15,-⟩:=hT1
   exact K ix cb fa fc V T1 M ⟨hs,h1,h2,h7,h12,h13,h14,trivial⟩
 | succ q ih =>
   intro k ix cb fa fc V T hq M hT K
   refine (fun (h : ∀ Y,Y = yLF → To0 Try.prog (LPost W) Z V (G ((base 7).at ⟨T,[]⟩ (.code Y :: .inLoop yLF :: .inBlock 4 :: kt)) cs0))=>h yLF rfl) ?_
   intro Y hY
   rw [yLF_eq] at hY
   subst hY
   refine mu_seq mu_to0 (mu_seq mu_to0 ?_)
   refine u_r21 (x:=true) M.nrm M.cb.2 ((M.kp.keep tb (Array.getElem?_eq_some_iff.1 htb).1).trans htb) (decide_eq_true (by omega)) hT fun T1 hT1 h76=>?_
   refine mu_cond mu_to0 true (cond_atZ h76) ?_
   refine mu_skip mu_to0 (mu_seq mu_to0 (mu_block mu_to0 ?_))
   refine u_r23 M.nrm M.row (by omega) hT1 fun T2 V2 wa wc hT2 n2 r2 s2 k2 o2=>?_
   have e2 : V2.heap[cb]? = some (.cells #[.int .i64 (k : Int)] 3 (0,0)):=(k2 cb (Array.getElem?_eq_some_iff.1 M.cb.2).1 (own_tyK M.row M.cb.2 (by decide))).trans M.cb.2
   refine mu_inBlock mu_to0 (mu_seq mu_to0 (mu_seq mu_to0 ?_))
   refine u_r24 n2 e2 hT2 fun T3 hT3=>?_
   refine u_r25 n2 hT3 fun T4 V4 hT4 n4 k4 s4 e4=>?_
   refine u_r22 n4 e4 (by omega) hT4 fun T5 hT5=>?_
   have e5 : (V4.setCell ⟨V2.heap.size,0,none⟩ (.int .i64 ((k + 1 : Nat) : Int))).heap[V2.heap.size]? = some (.cells #[.int .i64 ((k + 1 : Nat) : Int)] 3 (0,0)):=by
     rw [setCell_heap,if_pos rfl,e4]
     simp
   have k5 : Kp V2 (V4.setCell ⟨V2.heap.size,0,none⟩ (.int .i64 ((k + 1 : Nat) : Int))):=⟨by rw [size_setCell]; omega,fun b hb=>(set_offA _ (by omega)).trans (k4.keep b hb)⟩
   have M5:=M.next r2 s2 k2 o2 (norm_set n4 _ _) k5 (Nat.le_refl _) e5
   refine mu_inLoop mu_to0 ?_
   exact ih (k + 1) _ _ wa wc _ T5 (by omega) M5 hT5 K
noncomputable def yo27 : Array Oper:=rops yr27
noncomputable def yo28 : Array Oper:=rops yr28
theorem u_r27 (hn : norm V = V) {m : Nat} (hT : Fg 139 [(1,.slice pa pl pc),(7,.pointer (some ⟨tb,0,none⟩)),(12,.pointer (some ⟨ab,0,none⟩)),(13,.pointer (some ⟨gb,0,none⟩)),(14,.slice fa m fc),(16,.int .i64 (Rn : Int))] T)
   (K : ∀ T',Fg 139 [(1,.slice pa pl pc),(7,.pointer (some ⟨tb,0,none⟩)),(12,.pointer (some ⟨ab,0,none⟩)),(13,.pointer (some ⟨gb,0,none⟩)),(14,.slice fa m fc),(16,.int .i64 (Rn : Int))] T' → To0 Try.prog (LPost W) Z V (G (Frame.enter Try.prog 23 #[.slice fa m fc,.slice pa pl pc,.int .i64 (Rn : Int)] .normal) (((base 7).at ⟨T',[]⟩ (.inRegion yo27 (3 :: [4,5,6,7,8,9]) :: kt)) :: cs0))) :
   To0 Try.prog (LPost W) Z V (G ((base 7).at ⟨T,[]⟩ (.code yr27 :: kt)) cs0):=by
 have hK0:=K
 clear K
 obtain ⟨hs,h1,h7,h12,h13,h14,h16,-⟩:=hT
 obtain ⟨f,hf,hT⟩:=array139f T hs
 rw [hT]
 simp only [hf _ _ h1,hf _ _ h7,hf _ _ h12,hf _ _ h13,hf _ _ h14,hf _ _ h16]
 clear hf hs h1 h7 h12 h13 h14 h16
 subst hT
 generalize hX0 : yr27 = X0
 simp only [yr27,yX26,yX20,yX17,yX4,yX3,yB7,nva,nvb,Try.f7,Option.getD_some] at hX0
 subst hX0
 obtain ⟨K,hK,hV,key,yek⟩:=kKV (L:=Lone) (J:=fun g=>To0 Try.prog (LPost W) Z V g) mu_to0 (muv_to0 hn)
 refine key _ ?_
 repeat (first|(with_reducible first|refine mu_seq hK ?_|refine mu_skip hK ?_|(refine mu_region_end hK ?_;try subst hkk)|refine mu_block hK ?_|refine mu_inBlock hK ?_|refine mu_ret hK ?_|refine mu_end hK ?_)|refine mu_exit hK rfl ?_|(with_reducible refine mu_regionH hK (fun kk hkk=>?_);simp only [List.size_toArray,List.length_cons,List.length_nil,Nat.reduceAdd,Nat.zero_add,List.range,List.range.loop])|(with_reducible refine mu_cf hK ?_ ?_;(· first|(walk_nrm;done)|(simp [Act.eval];done)))|(with_reducible refine mu_ct hK ?_ ?_;(· first|(walk_nrm;done)|(simp [Act.eval];done)))|(refine mu_unwanted hK rfl rfl ?_;walk_nrm)|(refine muv_val hV rfl (by first|exact .inl rfl|exact .inr rfl) rfl (by kernel_rfl) (fun J hJ=>?_);go_simp;with_reducible refine hJ _ ?_;clear hJ J;walk_nrm))
 refine mu_call hK rfl rfl (by decide) rfl Try.func23 (by kernel_rfl) rfl ?_
 rw [← enter_at (P:=Try.prog) _ Try.func23 rfl]
 walk_nrm
 refine yek _ ?_
 clear hK hV key yek K
 try subst hkk
 refine hK0 _ ⟨by simp,rfl,rfl,rfl,rfl,rfl,rfl,trivial⟩
theorem u_o27 (hn : norm V = V) {A1 A2 A3 : Option Addr} {l1 l2 l3 d1 d2 d3 : Nat} (hT : Fg 139 [(1,.slice pa pl pc),(7,.pointer (some ⟨tb,0,none⟩)),(12,.pointer (some ⟨ab,0,none⟩)),(13,.pointer (some ⟨gb,0,none⟩)),(16,.int .i64 (Rn : Int))] T)
   (K : ∀ T' V',Fg 139 [(1,.slice pa pl pc),(7,.pointer (some ⟨tb,0,none⟩)),(12,.pointer (some ⟨ab,0,none⟩)),(13,.pointer (some ⟨gb,0,none⟩)),(16,.int .i64 (Rn : Int)),(17,.pointer (some ⟨V.heap.size,0,none⟩)),(18,.int .i64 0)] T' → norm V' = V' → Kp V V' → V'.heap.size = V.heap.size + 1 → V'.heap[V.heap.size]? = some (.cells #[.slice A1 l1 d1,.slice A2 l2 d2,.slice A3 l3 d3] 28 (0,0)) → To0 Try.prog (LPost W) Z V' (G ((base 7).at ⟨T',[]⟩ kt) cs0)) :
   To0 Try.prog (LPost W) Z V (G ((base 7).at (Act.put ⟨T,[]⟩ ((yo27[3]?).bind (·.dst)) (.tuple #[.agg #[.slice A1 l1 d1,.slice A2 l2 d2,.slice A3 l3 d3],.int .i64 0])) (.inRegion yo27 [4,5,6,7,8,9] :: kt)) cs0):=by
 have hK0:=K
 clear K
 obtain ⟨hs,h1,h7,h12,h13,h16,-⟩:=hT
 obtain ⟨f,hf,hT⟩:=array139f T hs
 rw [hT]
 simp only [hf _ _ h1,hf _ _ h7,hf _ _ h12,hf _ _ h13,hf _ _ h16]
 clear hf hs h1 h7 h12 h13 h16
 subst hT
 generalize hX0 : yo27 = X0
 simp only [yo27,yr27,yX26,yX20,yX17,yX4,yX3,yB7,nva,nvb,Try.f7,Option.getD_some,rops] at hX0
 subst hX0
 walk_nrm
 obtain ⟨K,hK,hV,key,yek⟩:=kKV (L:=Lone) (J:=fun g=>To0 Try.prog (LPost W) Z V g) mu_to0 (muv_to0 hn)
 refine key _ ?_
 repeat (first|(with_reducible first|refine mu_seq hK ?_|refine mu_skip hK ?_|(refine mu_region_end hK ?_;try subst hkk)|refine mu_block hK ?_|refine mu_inBlock hK ?_|refine mu_ret hK ?_|refine mu_end hK ?_)|refine mu_exit hK rfl ?_|(with_reducible refine mu_regionH hK (fun kk hkk=>?_);simp only [List.size_toArray,List.length_cons,List.length_nil,Nat.reduceAdd,Nat.zero_add,List.range,List.range.loop])|(with_reducible refine mu_cf hK ?_ ?_;(· first|(walk_nrm;done)|(simp [Act.eval];done)))|(with_reducible refine mu_ct hK ?_ ?_;(· first|(walk_nrm;done)|(simp [Act.eval];done)))|(refine mu_unwanted hK rfl rfl ?_;walk_nrm)|(refine muv_val hV rfl (by first|exact .inl rfl|exact .inr rfl) rfl (by kernel_rfl) (fun J hJ=>?_);go_simp;with_reducible refine hJ _ ?_;clear hJ J;walk_nrm))
 refine yek _ ?_
 clear hK hV key yek K
 have hnA : norm (V.alloc (.cells #[.slice none 0 0,.slice none 0 0,.slice none 0 0] 28)) = (V.alloc (.cells #[.slice none 0 0,.slice none 0 0,.slice none 0 0] 28)):=norm_al hn _
 refine mua_put (L:=Lone) (v:=.pointer (some ⟨V.heap.size,0,none⟩)) (mua_to0 hnA) (K:=fun g=>To0 Try.prog (LPost W) Z V g) (K':=fun g=>To0 Try.prog (LPost W) Z (V.alloc (.cells #[.slice none 0 0,.slice none 0 0,.slice none 0 0] 28)) g) rfl (.inl rfl) rfl (by kernel_rfl) (fun τ=>?_) ?_
 · go_simp
   first | exact ⟨by first | rfl | assumption | (simp only [re]; omega),rfl⟩ | rfl | (simp; done)
 have eVA : (V.alloc (.cells #[.slice none 0 0,.slice none 0 0,.slice none 0 0] 28)).heap[V.heap.size]? = some (.cells #[.slice none 0 0,.slice none 0 0,.slice none 0 0] 28 (0,0)):=by rw [al_get,if_pos rfl]
 have sVA : (V.alloc (.cells #[.slice none 0 0,.slice none 0 0,.slice none 0 0] 28)).heap.size = V.heap.size + 1:=by rw [al_size]
 have kVA : Kp V (V.alloc (.cells #[.slice none 0 0,.slice none 0 0,.slice none 0 0] 28)):=⟨by rw [sVA]; omega,fun b hb=>by rw [al_get,if_neg (by omega)]⟩
 generalize (V.alloc (.cells #[.slice none 0 0,.slice none 0 0,.slice none 0 0] 28)) = VA at *
 walk_nrm
 generalize hb9 : V.heap.size = b9 at eVA sVA kVA hK0 ⊢
 try walk_nrm
 have r0VS : ∀ τ,(re VA τ 0).cell? ⟨b9,0,none⟩ = some (.slice none 0 0):=fun τ=>cell_of eVA (by simp)
 have z0VS : ∀ τ,(re VA τ 0).frozen? ⟨b9,0,none⟩ = false:=fun τ=>by simp [World.frozen?,re,eVA]
 have r1VS : ∀ τ,(re VA τ 0).cell? ⟨b9,1,none⟩ = some (.slice none 0 0):=fun τ=>cell_of eVA (by simp)
 have z1VS : ∀ τ,(re VA τ 0).frozen? ⟨b9,1,none⟩ = false:=fun τ=>by simp [World.frozen?,re,eVA]
 have r2VS : ∀ τ,(re VA τ 0).cell? ⟨b9,2,none⟩ = some (.slice none 0 0):=fun τ=>cell_of eVA (by simp)
 have z2VS : ∀ τ,(re VA τ 0).frozen? ⟨b9,2,none⟩ = false:=fun τ=>by simp [World.frozen?,re,eVA]
 have hnVS : norm (((VA.setCell ⟨b9,0,none⟩ (.slice A1 l1 d1)).setCell ⟨b9,1,none⟩ (.slice A2 l2 d2)).setCell ⟨b9,2,none⟩ (.slice A3 l3 d3)) = (((VA.setCell ⟨b9,0,none⟩ (.slice A1 l1 d1)).setCell ⟨b9,1,none⟩ (.slice A2 l2 d2)).setCell ⟨b9,2,none⟩ (.slice A3 l3 d3)):=(norm_set (norm_set (norm_set hnA _ _) _ _) _ _)
 refine mus_put (L:=Lone) (mus_to0 hnVS) (K:=fun g=>To0 Try.prog (LPost W) Z VA g) (K':=fun g=>To0 Try.prog (LPost W) Z (((VA.setCell ⟨b9,0,none⟩ (.slice A1 l1 d1)).setCell ⟨b9,1,none⟩ (.slice A2 l2 d2)).setCell ⟨b9,2,none⟩ (.slice A3 l3 d3)) g) rfl (.inl rfl) rfl (by kernel_rfl) (fun τ=>?_) ?_
 · go_simp
   try rfl
 have kVS : ∀ b,b ≠ b9 → (((VA.setCell ⟨b9,0,none⟩ (.slice A1 l1 d1)).setCell ⟨b9,1,none⟩ (.slice A2 l2 d2)).setCell ⟨b9,2,none⟩ (.slice A3 l3 d3)).heap[b]? = VA.heap[b]?:=fun b hb=>by rw [setCell_heap,if_neg hb,setCell_heap,if_neg hb,setCell_heap,if_neg hb]
 have eVS : (((VA.setCell ⟨b9,0,none⟩ (.slice A1 l1 d1)).setCell ⟨b9,1,none⟩ (.slice A2 l2 d2)).setCell ⟨b9,2,none⟩ (.slice A3 l3 d3)).heap[b9]? = some (.cells #[.slice A1 l1 d1,.slice A2 l2 d2,.slice A3 l3 d3] 28 (0,0)):=by
   rw [setCell_heap,if_pos rfl,setCell_heap,if_pos rfl,setCell_heap,if_pos rfl,eVA]
   simp
 have sVS : (((VA.setCell ⟨b9,0,none⟩ (.slice A1 l1 d1)).setCell ⟨b9,1,none⟩ (.slice A2 l2 d2)).setCell ⟨b9,2,none⟩ (.slice A3 l3 d3)).heap.size = VA.heap.size:=by simp [World.setCell]
 generalize (((VA.setCell ⟨b9,0,none⟩ (.slice A1 l1 d1)).setCell ⟨b9,1,none⟩ (.slice A2 l2 d2)).setCell ⟨b9,2,none⟩ (.slice A3 l3 d3)) = VS at *
 clear r0VS z0VS r1VS z1VS r2VS z2VS
 walk_nrm
 obtain ⟨K,hK,hV,key,yek⟩:=kKV (L:=Lone) (J:=fun g=>To0 Try.prog (LPost W) Z VS g) mu_to0 (muv_to0 hnVS)
 refine key _ ?_
 repeat (first|(with_reducible first|refine mu_seq hK ?_|refine mu_skip hK ?_|(refine mu_region_end hK ?_;try subst hkk)|refine mu_block hK ?_|refine mu_inBlock hK ?_|refine mu_ret hK ?_|refine mu_end hK ?_)|refine mu_exit hK rfl ?_|(with_reducible refine mu_regionH hK (fun kk hkk=>?_);simp only [List.size_toArray,List.length_cons,List.length_nil,Nat.reduceAdd,Nat.zero_add,List.range,List.range.loop])|(with_reducible refine mu_cf hK ?_ ?_;(· first|(walk_nrm;done)|(simp [Act.eval];done)))|(with_reducible refine mu_ct hK ?_ ?_;(· first|(walk_nrm;done)|(simp [Act.eval];done)))|(refine mu_unwanted hK rfl rfl ?_;walk_nrm)|(refine muv_val hV rfl (by first|exact .inl rfl|exact .inr rfl) rfl (by kernel_rfl) (fun J hJ=>?_);go_simp;with_reducible refine hJ _ ?_;clear hJ J;walk_nrm))
 refine yek _ ?_
 clear hK hV key yek K
 try subst hkk
 exact hK0 _ VS ⟨by simp,rfl,rfl,rfl,rfl,rfl,rfl,rfl,trivial⟩ hnVS ⟨by omega,fun b hb=>(kVS b (by omega)).trans (kVA.keep b hb)⟩ (by omega) eVS
theorem u_r28 (hn : norm V = V) {ta : Option Addr} {tc rb : Nat} (et : V.heap[tb]? = some (.cells #[.slice ta n tc] 54 (0,0))) (hT : Fg 139 [(1,.slice pa pl pc),(7,.pointer (some ⟨tb,0,none⟩)),(12,.pointer (some ⟨ab,0,none⟩)),(13,.pointer (some ⟨gb,0,none⟩)),(16,.int .i64 (Rn : Int)),(17,.pointer (some ⟨rb,0,none⟩)),(18,.int .i64 0)] T)
   (K : ∀ T',Fg 139 [(12,.pointer (some ⟨ab,0,none⟩)),(13,.pointer (some ⟨gb,0,none⟩)),(17,.pointer (some ⟨rb,0,none⟩)),(18,.int .i64 0)] T' → To0 Try.prog (LPost W) Z V (G (Frame.enter Try.prog 31 #[.slice ta n tc,.slice pa pl pc,.int .i64 (Rn : Int)] .normal) (((base 7).at ⟨T',[]⟩ (.inRegion yo28 (3 :: [4,5,6,7,8,9,10]) :: kt)) :: cs0))) :
   To0 Try.prog (LPost W) Z V (G ((base 7).at ⟨T,[]⟩ (.code yr28 :: kt)) cs0):=by
 have hK0:=K
 clear K
 have rt : ∀ τ,(re V τ 0).cell? ⟨tb,0,none⟩ = some (.slice ta n tc):=fun τ=>cell_of et (by simp)
 obtain ⟨hs,h1,h7,h12,h13,h16,h17,h18,-⟩:=hT
 obtain ⟨f,hf,hT⟩:=array139f T hs
 rw [hT]
 simp only [hf _ _ h1,hf _ _ h7,hf _ _ h12,hf _ _ h13,hf _ _ h16,hf _ _ h17,hf _ _ h18]
 clear hf hs h1 h7 h12 h13 h16 h17 h18
 subst hT
 generalize hX0 : yr28 = X0
 simp only [yr28,yX26,yX20,yX17,yX4,yX3,yB7,nva,nvb,Try.f7,Option.getD_some] at hX0
 subst hX0
 obtain ⟨K,hK,hV,key,yek⟩:=kKV (L:=Lone) (J:=fun g=>To0 Try.prog (LPost W) Z V g) mu_to0 (muv_to0 hn)
 refine key _ ?_
 repeat (first|(with_reducible first|refine mu_seq hK ?_|refine mu_skip hK ?_|(refine mu_region_end hK ?_;try subst hkk)|refine mu_block hK ?_|refine mu_inBlock hK ?_|refine mu_ret hK ?_|refine mu_end hK ?_)|refine mu_exit hK rfl ?_|(with_reducible refine mu_regionH hK (fun kk hkk=>?_);simp only [List.size_toArray,List.length_cons,List.length_nil,Nat.reduceAdd,Nat.zero_add,List.range,List.range.loop])|(with_reducible refine mu_cf hK ?_ ?_;(· first|(walk_nrm;done)|(simp [Act.eval];done)))|(with_reducible refine mu_ct hK ?_ ?_;(· first|(walk_nrm;done)|(simp [Act.eval];done)))|(refine mu_unwanted hK rfl rfl ?_;walk_nrm)|(refine muv_val hV rfl (by first|exact .inl rfl|exact .inr rfl) rfl (by kernel_rfl) (fun J hJ=>?_);go_simp;with_reducible refine hJ _ ?_;clear hJ J;walk_nrm))
 refine mu_call hK rfl rfl (by decide) rfl Try.func31 (by kernel_rfl) rfl ?_
 rw [← enter_at (P:=Try.prog) _ Try.func31 rfl]
 walk_nrm
 refine yek _ ?_
 clear hK hV key yek K
 try subst hkk
 refine hK0 _ ⟨by simp,rfl,rfl,rfl,rfl,trivial⟩
theorem u_o28 (hn : norm V = V) {rb : Nat} {ov lv : Value} {v : Int} (hT : Fg 139 [(12,.pointer (some ⟨ab,0,none⟩)),(13,.pointer (some ⟨gb,0,none⟩)),(17,.pointer (some ⟨rb,0,none⟩)),(18,.int .i64 0)] T)
   (K : ∀ T',Fg 139 [(12,.pointer (some ⟨ab,0,none⟩)),(13,.pointer (some ⟨gb,0,none⟩)),(17,.pointer (some ⟨rb,0,none⟩)),(18,.int .i64 0),(19,ov),(20,lv),(21,.int .i64 v)] T' → To0 Try.prog (LPost W) Z V (G ((base 7).at ⟨T',[]⟩ kt) cs0)) :
   To0 Try.prog (LPost W) Z V (G ((base 7).at (Act.put ⟨T,[]⟩ ((yo28[3]?).bind (·.dst)) (.tuple #[ov,lv,.int .i64 v])) (.inRegion yo28 [4,5,6,7,8,9,10] :: kt)) cs0):=by
 have hK0:=K
 clear K
 obtain ⟨hs,h12,h13,h17,h18,-⟩:=hT
 obtain ⟨f,hf,hT⟩:=array139f T hs
 rw [hT]
 simp only [hf _ _ h12,hf _ _ h13,hf _ _ h17,hf _ _ h18]
 clear hf hs h12 h13 h17 h18
 subst hT
 generalize hX0 : yo28 = X0
 simp only [yo28,yr28,yX26,yX20,yX17,yX4,yX3,yB7,nva,nvb,Try.f7,Option.getD_some,rops] at hX0
 subst hX0
 walk_nrm
 obtain ⟨K,hK,hV,key,yek⟩:=kKV (L:=Lone) (J:=fun g=>To0 Try.prog (LPost W) Z V g) mu_to0 (muv_to0 hn)
 refine key _ ?_
 repeat (first|(with_reducible first|refine mu_seq hK ?_|refine mu_skip hK ?_|(refine mu_region_end hK ?_;try subst hkk)|refine mu_block hK ?_|refine mu_inBlock hK ?_|refine mu_ret hK ?_|refine mu_end hK ?_)|refine mu_exit hK rfl ?_|(with_reducible refine mu_regionH hK (fun kk hkk=>?_);simp only [List.size_toArray,List.length_cons,List.length_nil,Nat.reduceAdd,Nat.zero_add,List.range,List.range.loop])|(with_reducible refine mu_cf hK ?_ ?_;(· first|(walk_nrm;done)|(simp [Act.eval];done)))|(with_reducible refine mu_ct hK ?_ ?_;(· first|(walk_nrm;done)|(simp [Act.eval];done)))|(refine mu_unwanted hK rfl rfl ?_;walk_nrm)|(refine muv_val hV rfl (by first|exact .inl rfl|exact .inr rfl) rfl (by kernel_rfl) (fun J hJ=>?_);go_simp;with_reducible refine hJ _ ?_;clear hJ J;walk_nrm))
 refine yek _ ?_
 clear hK hV key yek K
 try subst hkk
 exact hK0 _ ⟨by simp,rfl,rfl,rfl,rfl,rfl,rfl,rfl,trivial⟩
theorem u_r29 (hn : norm V = V) {rb l1 c1 c2 lm lk l2k : Nat} {A1 A2 lg l2 : Option Addr} {x1 x2 : Value} {fz : Nat → Int} {v : Int} (er : V.heap[rb]? = some (.cells #[.slice A1 l1 c1,x1,x2] 28 (0,0))) (ra1 : ∀ τ,Rds (re V τ 0) A1 l1 fun j=>.int .i64 (fz j)) (ra2 : ∀ τ,Rds (re V τ 0) A2 l1 fun j=>.int .i64 (fz j)) (eg : V.heap[gb]? = some (.cells #[.slice lg lm lk] 65 (0,0))) (ea : V.heap[ab]? = some (.cells #[.int .i64 v] 64 (0,0))) (hT : Fg 139 [(12,.pointer (some ⟨ab,0,none⟩)),(13,.pointer (some ⟨gb,0,none⟩)),(17,.pointer (some ⟨rb,0,none⟩)),(18,.int .i64 0),(19,.slice A2 l1 c2),(20,.slice l2 lm l2k),(21,.int .i64 v)] T)
   (K : ∀ T' V',Fg 139 [(13,.pointer (some ⟨gb,0,none⟩)),(20,.slice l2 lm l2k)] T' → T'[122]? = some (.bool false) → norm V' = V' → Kp V V' → To0 Try.prog (LPost W) Z V' (G ((base 7).at ⟨T',[]⟩ kt) cs0)) :
   To0 Try.prog (LPost W) Z V (G ((base 7).at ⟨T,[]⟩ (.code yr29 :: kt)) cs0):=by
 have hK0:=K
 clear K
 have rr : ∀ τ,(re V τ 0).cell? ⟨rb,0,none⟩ = some (.slice A1 l1 c1):=fun τ=>cell_of er (by simp)
 obtain ⟨hs,h12,h13,h17,h18,h19,h20,h21,-⟩:=hT
 obtain ⟨f,hf,hT⟩:=array139f T hs
 rw [hT]
 simp only [hf _ _ h12,hf _ _ h13,hf _ _ h17,hf _ _ h18,hf _ _ h19,hf _ _ h20,hf _ _ h21]
 clear hf hs h12 h13 h17 h18 h19 h20 h21
 subst hT
 generalize hX0 : yr29 = X0
 simp only [yr29,yX29,yX26,yX20,yX17,yX4,yX3,yB7,nva,nvb,Try.f7,Option.getD_some] at hX0
 subst hX0
 obtain ⟨K,hK,hV,key,yek⟩:=kKV (L:=Lone) (J:=fun g=>To0 Try.prog (LPost W) Z V g) mu_to0 (muv_to0 hn)
 refine key _ ?_
 repeat (first|(with_reducible first|refine mu_seq hK ?_|refine mu_skip hK ?_|(refine mu_region_end hK ?_;try subst hkk)|refine mu_block hK ?_|refine mu_inBlock hK ?_|refine mu_ret hK ?_|refine mu_end hK ?_)|refine mu_exit hK rfl ?_|(with_reducible refine mu_regionH hK (fun kk hkk=>?_);simp only [List.size_toArray,List.length_cons,List.length_nil,Nat.reduceAdd,Nat.zero_add,List.range,List.range.loop])|(with_reducible refine mu_cf hK ?_ ?_;(· first|(walk_nrm;done)|(simp [Act.eval];done)))|(with_reducible refine mu_ct hK ?_ ?_;(· first|(walk_nrm;done)|(simp [Act.eval];done)))|(refine mu_unwanted hK rfl rfl ?_;walk_nrm)|(refine muv_val hV rfl (by first|exact .inl rfl|exact .inr rfl) rfl (by kernel_rfl) (fun J hJ=>?_);go_simp;with_reducible refine hJ _ ?_;clear hJ J;walk_nrm))
 refine mu_call hK rfl rfl (by decide) rfl Try.func21 (by kernel_rfl) rfl ?_
 rw [← enter_at (P:=Try.prog) _ Try.func21 rfl]
 walk_nrm
 refine yek _ ?_
 clear hK hV key yek K
 clear rr
 refine to0_new (by decide) (fun τ=>same21 A1 A2 l1 c1 c2 fz _ (ra1 τ) (ra2 τ)) fun V1 hn1 k1=>?_
 rw [Frame.finish_at]
 walk_nrm
 have rg : ∀ τ,(re V1 τ 0).cell? ⟨gb,0,none⟩ = some (.slice lg lm lk):=fun τ=>k1.cell (cell_of eg (by simp))
 have cn : V1.cell? ⟨ab,0,none⟩ = some (.int .i64 v):=k1.cell (cell_of ea (by simp))
 obtain ⟨K,hK,hV,key,yek⟩:=kKV (L:=Lone) (J:=fun g=>To0 Try.prog (LPost W) Z V1 g) mu_to0 (muv_to0 hn1)
 refine key _ ?_
 repeat (first|(with_reducible first|refine mu_seq hK ?_|refine mu_skip hK ?_|(refine mu_region_end hK ?_;try subst hkk)|refine mu_block hK ?_|refine mu_inBlock hK ?_|refine mu_ret hK ?_|refine mu_end hK ?_)|refine mu_exit hK rfl ?_|(with_reducible refine mu_regionH hK (fun kk hkk=>?_);simp only [List.size_toArray,List.length_cons,List.length_nil,Nat.reduceAdd,Nat.zero_add,List.range,List.range.loop])|(with_reducible refine mu_cf hK ?_ ?_;(· first|(walk_nrm;done)|(simp [Act.eval];done)))|(with_reducible refine mu_ct hK ?_ ?_;(· first|(walk_nrm;done)|(simp [Act.eval];done)))|(refine mu_unwanted hK rfl rfl ?_;walk_nrm)|(refine muv_val hV rfl (by first|exact .inl rfl|exact .inr rfl) rfl (by kernel_rfl) (fun J hJ=>?_);go_simp;with_reducible refine hJ _ ?_;clear hJ J;walk_nrm))
 refine mu_call hK rfl rfl (by decide) rfl Try.func32 (by kernel_rfl) rfl ?_
 have hnt32 : Try.f32.ntmps = 9:=rfl
 rw [hnt32]
 clear hnt32
 walk_nrm
 repeat (first|(with_reducible first|refine mu_seq hK ?_|refine mu_skip hK ?_|(refine mu_region_end hK ?_;try subst hkk)|refine mu_block hK ?_|refine mu_inBlock hK ?_|refine mu_ret hK ?_|refine mu_end hK ?_)|refine mu_exit hK rfl ?_|(with_reducible refine mu_regionH hK (fun kk hkk=>?_);simp only [List.size_toArray,List.length_cons,List.length_nil,Nat.reduceAdd,Nat.zero_add,List.range,List.range.loop])|(with_reducible refine mu_cf hK ?_ ?_;(· first|(walk_nrm;done)|(simp [Act.eval];done)))|(with_reducible refine mu_ct hK ?_ ?_;(· first|(walk_nrm;done)|(simp [Act.eval];done)))|(refine mu_unwanted hK rfl rfl ?_;walk_nrm)|(refine muv_val hV rfl (by first|exact .inl rfl|exact .inr rfl) rfl (by kernel_rfl) (fun J hJ=>?_);go_simp;with_reducible refine hJ _ ?_;clear hJ J;walk_nrm))
 refine mu_call hK rfl rfl (by decide) rfl Try.func82 (by kernel_rfl) rfl ?_
 have hnt82 : Try.f82.ntmps = 7:=rfl
 rw [hnt82]
 clear hnt82
 walk_nrm
 repeat (first|(with_reducible first|refine mu_seq hK ?_|refine mu_skip hK ?_|(refine mu_region_end hK ?_;try subst hkk)|refine mu_block hK ?_|refine mu_inBlock hK ?_|refine mu_ret hK ?_|refine mu_end hK ?_)|refine mu_exit hK rfl ?_|(with_reducible refine mu_regionH hK (fun kk hkk=>?_);simp only [List.size_toArray,List.length_cons,List.length_nil,Nat.reduceAdd,Nat.zero_add,List.range,List.range.loop])|(with_reducible refine mu_cf hK ?_ ?_;(· first|(walk_nrm;done)|(simp [Act.eval];done)))|(with_reducible refine mu_ct hK ?_ ?_;(· first|(walk_nrm;done)|(simp [Act.eval];done)))|(refine mu_unwanted hK rfl rfl ?_;walk_nrm)|(refine muv_val hV rfl (by first|exact .inl rfl|exact .inr rfl) rfl (by kernel_rfl) (fun J hJ=>?_);go_simp;with_reducible refine hJ _ ?_;clear hJ J;walk_nrm))
 refine yek _ ?_
 clear hK hV key yek K
 refine To0.walk (at_load (main:=true) (ad:=⟨ab,0,none⟩) (v:=v) rfl rfl (base_ne _) rfl rfl cn (Will.stop ?_))
 walk_nrm
 obtain ⟨K,hK,hV,key,yek⟩:=kKV (L:=Lone) (J:=fun g=>To0 Try.prog (LPost W) Z V1 g) mu_to0 (muv_to0 hn1)
 refine key _ ?_
 repeat (first|(with_reducible first|refine mu_seq hK ?_|refine mu_skip hK ?_|(refine mu_region_end hK ?_;try subst hkk)|refine mu_block hK ?_|refine mu_inBlock hK ?_|refine mu_ret hK ?_|refine mu_end hK ?_)|refine mu_exit hK rfl ?_|(with_reducible refine mu_regionH hK (fun kk hkk=>?_);simp only [List.size_toArray,List.length_cons,List.length_nil,Nat.reduceAdd,Nat.zero_add,List.range,List.range.loop])|(with_reducible refine mu_cf hK ?_ ?_;(· first|(walk_nrm;done)|(simp [Act.eval];done)))|(with_reducible refine mu_ct hK ?_ ?_;(· first|(walk_nrm;done)|(simp [Act.eval];done)))|(refine mu_unwanted hK rfl rfl ?_;walk_nrm)|(refine muv_val hV rfl (by first|exact .inl rfl|exact .inr rfl) rfl (by kernel_rfl) (fun J hJ=>?_);go_simp;with_reducible refine hJ _ ?_;clear hJ J;walk_nrm))
 refine mu_leave1 hK rfl rfl Try.func82 rfl ?_
 walk_nrm
 repeat (first|(with_reducible first|refine mu_seq hK ?_|refine mu_skip hK ?_|(refine mu_region_end hK ?_;try subst hkk)|refine mu_block hK ?_|refine mu_inBlock hK ?_|refine mu_ret hK ?_|refine mu_end hK ?_)|refine mu_exit hK rfl ?_|(with_reducible refine mu_regionH hK (fun kk hkk=>?_);simp only [List.size_toArray,List.length_cons,List.length_nil,Nat.reduceAdd,Nat.zero_add,List.range,List.range.loop])|(with_reducible refine mu_cf hK ?_ ?_;(· first|(walk_nrm;done)|(simp [Act.eval];done)))|(with_reducible refine mu_ct hK ?_ ?_;(· first|(walk_nrm;done)|(simp [Act.eval];done)))|(refine mu_unwanted hK rfl rfl ?_;walk_nrm)|(refine muv_val hV rfl (by first|exact .inl rfl|exact .inr rfl) rfl (by kernel_rfl) (fun J hJ=>?_);go_simp;with_reducible refine hJ _ ?_;clear hJ J;walk_nrm))
 refine mu_leave1 hK rfl rfl Try.func32 rfl ?_
 walk_nrm
 repeat (first|(with_reducible first|refine mu_seq hK ?_|refine mu_skip hK ?_|(refine mu_region_end hK ?_;try subst hkk)|refine mu_block hK ?_|refine mu_inBlock hK ?_|refine mu_ret hK ?_|refine mu_end hK ?_)|refine mu_exit hK rfl ?_|(with_reducible refine mu_regionH hK (fun kk hkk=>?_);simp only [List.size_toArray,List.length_cons,List.length_nil,Nat.reduceAdd,Nat.zero_add,List.range,List.range.loop])|(with_reducible refine mu_cf hK ?_ ?_;(· first|(walk_nrm;done)|(simp [Act.eval];done)))|(with_reducible refine mu_ct hK ?_ ?_;(· first|(walk_nrm;done)|(simp [Act.eval];done)))|(refine mu_unwanted hK rfl rfl ?_;walk_nrm)|(refine muv_val hV rfl (by first|exact .inl rfl|exact .inr rfl) rfl (by kernel_rfl) (fun J hJ=>?_);go_simp;with_reducible refine hJ _ ?_;clear hJ J;walk_nrm))
 refine yek _ ?_
 clear hK hV key yek K
 subst_vars
 exact hK0 _ V1 ⟨by simp,rfl,rfl,trivial⟩ rfl hn1 k1
end
end Go.Proofs.Ytibcdikfbhmheaa

namespace Go.Proofs.Ytibcdikfbhmheaa
open Go Go.Conc Go.Proofs
open Go.ConcN (sumTo upd sumTo_upd upd_ne upd_same)
set_option linter.unusedVariables false
theorem row_cells {V : World} {e : TypeId} {sz : Nat} {v : Value} {n : Nat} {xs : List Value} (h : V.ownsRow 0 e sz v n xs) (hn : 0 < n) : ∃ g c,v = .slice (some ⟨g,0,none⟩) n c ∧ g < V.heap.size ∧ ∀ j x,xs[j]? = some x → V.cell? ⟨g,j,none⟩ = some x:=by
 obtain ⟨h1,h2⟩:=h
 rcases h2 with ⟨rfl,rfl⟩ | ⟨g,cap,cur,rfl,_,h4,h5,h6,h7,h8⟩
 · omega
 · refine ⟨g,cap,rfl,(Array.getElem?_eq_some_iff.1 h4).1,fun j x hx=>cell_of h4 ?_⟩
   rw [← h8] at hx
   have hj : j < n * sz:=by
     apply Nat.lt_of_not_le
     intro hge
     rw [List.getElem?_eq_none (by rw [List.length_take]; omega)] at hx
     cases hx
   rw [List.getElem?_take,if_pos hj] at hx
   simpa using hx
theorem flat_at {α : Type} (f : α → List Value) (c : Nat) (hf : ∀ x,(f x).length = c) : ∀ (l : List α) (k d : Nat) (x : α),l[k]? = some x → d < c → (l.flatMap f)[k * c + d]? = (f x)[d]?
 | [],k,d,x,h,_=>by simp at h
 | y :: l,0,d,x,h,hd=>by
   obtain rfl : y = x:=by simpa using h
   rw [List.flatMap_cons,Nat.zero_mul,Nat.zero_add,List.getElem?_append_left (by rw [hf]; exact hd)]
 | y :: l,k + 1,d,x,h,hd=>by
   rw [List.flatMap_cons,List.getElem?_append_right (by rw [hf,Nat.add_mul]; omega),hf,show (k + 1) * c + d - c = k * c + d by rw [Nat.add_mul]; omega]
   exact flat_at f c hf l k d x (by simpa using h) hd
theorem ents_at {l : Log} {k : Nat} {x : (Nat × Nat) × (Int × Bool)} (h : l[k]? = some x) : (ents l)[k * 4]? = some (.int .i64 (x.1.1 : Int)) ∧ (ents l)[k * 4 + 1]? = some (.int .i64 (x.1.2 : Int)) ∧ (ents l)[k * 4 + 2]? = some (.int .i64 x.2.1) ∧ (ents l)[k * 4 + 3]? = some (.bool x.2.2):=by
 have key:=fun d hd=>flat_at (fun x : (Nat × Nat) × (Int × Bool)=>[Value.int .i64 (x.1.1 : Int),.int .i64 (x.1.2 : Int),.int .i64 x.2.1,.bool x.2.2]) 4 (fun _=>rfl) l k d x h hd
 exact ⟨key 0 (by decide),key 1 (by decide),key 2 (by decide),key 3 (by decide)⟩
theorem acells_at {l : List (Int × Int × Int)} {k : Nat} {x : Int × Int × Int} (h : l[k]? = some x) : (acells l)[k * 3]? = some (.int .i64 x.1) ∧ (acells l)[k * 3 + 1]? = some (.int .i64 x.2.1) ∧ (acells l)[k * 3 + 2]? = some (.int .i64 x.2.2):=by
 have key:=fun d hd=>flat_at (fun x : Int × Int × Int=>[Value.int .i64 x.1,.int .i64 x.2.1,.int .i64 x.2.2]) 3 (fun _=>rfl) l k d x h hd
 exact ⟨key 0 (by decide),key 1 (by decide),key 2 (by decide)⟩
theorem ustp_eq (D : Ae) (C : Cw) (x : AM × List Nat) (i : Nat) : stp (Uam D C) x i = amstp D.acts x i:=by
 unfold stp amstp
 have h:=amst_run D.acts x.1 i
 by_cases ht : x.1.t i ≤ (D.acts i).length
 · rw [if_pos ht]
   exact if_pos (h.2 ht)
 · rw [if_neg ht]
   exact if_neg fun e=>ht (h.1 e)
theorem ufold_eq (D : Ae) (C : Cw) : ∀ (l : List Nat) (x : AM × List Nat),l.foldl (stp (Uam D C)) x = l.foldl (amstp D.acts) x
 | [],x=>rfl
 | i :: l,x=>(congrArg (fun y : AM × List Nat=>l.foldl (stp (Uam D C)) y) (ustp_eq D C x i)).trans (ufold_eq D C l _)
theorem upk_eq (D : Ae) (C : Cw) (n : Nat) : ∀ (l : List Int) (x : AM × List Nat),l.foldl (pk (Uam D C) n) x = l.foldl (apk n D.acts) x
 | [],x=>rfl
 | p :: l,x=>by
   have e : pk (Uam D C) n x p = apk n D.acts x p:=by
     unfold pk apk
     by_cases h : n = 0
     · exact (if_pos h).trans (if_pos h).symm
     · exact (if_neg h).trans ((ustp_eq D C x _).trans (if_neg h).symm)
   exact (congrArg (fun y : AM × List Nat=>l.foldl (pk (Uam D C) n) y) e).trans (upk_eq D C n l _)
theorem urnds_eq (D : Ae) (C : Cw) (n : Nat) : ∀ (R : Nat) (x : AM × List Nat),rnds (Uam D C) n R x = arnds n D.acts R x
 | 0,x=>rfl
 | m + 1,x=>by
   have e : rnd (Uam D C) n x = arnd n D.acts x:=ufold_eq D C _ x
   show (if (rnd (Uam D C) n x).2.length = x.2.length then rnd (Uam D C) n x else rnds (Uam D C) n m (rnd (Uam D C) n x)) = (if (arnd n D.acts x).2.length = x.2.length then arnd n D.acts x else arnds n D.acts m (arnd n D.acts x))
   rw [e]
   by_cases h : (arnd n D.acts x).2.length = x.2.length
   · exact (if_pos h).trans (if_pos h).symm
   · exact (if_neg h).trans ((urnds_eq D C n m _).trans (if_neg h).symm)
section
variable {W V : World} {Z : Cuts} {n lc pl pc u k rb gb : Nat} {la pa : Option Addr} {given : Nat → List (Int × Int × Int)} {ra0 : Nat → Option Addr} {rc0 : Nat → Nat} {ps : List Int} {T : Array Value}
theorem u_lc (L : LS W Z V) {log : Log} {l1 l2 : Option Addr} {m lk l2k : Nat} (hm : log.length = m) (hm6 : m < 1000000) (eg : V.heap[gb]? = some (.cells #[.slice l1 m lk] 65 (0,0))) (r1 : V.ownsRow 0 67 4 (.slice l1 m lk) m (ents log)) (r2 : V.ownsRow 0 67 4 (.slice l2 m l2k) m (ents log)) : ∀ (q k : Nat) (T : Array Value),q + k = m → Fg 139 [(13,.pointer (some ⟨gb,0,none⟩)),(20,.slice l2 m l2k),(22,.int .i64 (k : Int))] T →
   To0 Try.prog (LPost W) Z V (G ((base 7).at ⟨T,[]⟩ [.code yLC,.inLoop yLC,.inBlock 6,.code yX36]) []):=by
 intro q
 induction q with
 | zero =>
   intro k T hq hT
   refine (fun (h : ∀ Y,Y = yLC → To0 Try.prog (LPost W) Z V (G ((base 7).at ⟨T,[]⟩ (.code Y :: [.inLoop yLC,.inBlock 6,.code yX36])) []))=>h yLC rfl) ?_
   intro Y hY
   rw [yLC_eq] at hY
   subst hY
   refine mu_seq mu_to0 (mu_seq mu_to0 ?_)
   refine u_r32 (lm:=m) (x:=false) L.n eg (decide_eq_false (by omega)) hT fun T1 hT1 h126=>?_
   refine mu_cond mu_to0 false (cond_atZ h126) ?_
   refine mu_exit mu_to0 rfl ?_
   exact u_live36 L hT1.1
 | succ q ih =>
   intro k T hq hT
   have hk : k < m:=by omega
   obtain ⟨x,hx⟩ : ∃ x,log[k]? = some x:=⟨_,List.getElem?_eq_getElem (by omega)⟩
   obtain ⟨x1,x2,x3,x4⟩:=ents_at hx
   obtain ⟨g1,d1,e1,_,c1⟩:=row_cells r1 (by omega)
   obtain ⟨g2,d2,e2,_,c2⟩:=row_cells r2 (by omega)
   injection e1 with e1 _ _
   injection e2 with e2 _ _
   refine (fun (h : ∀ Y,Y = yLC → To0 Try.prog (LPost W) Z V (G ((base 7).at ⟨T,[]⟩ (.code Y :: [.inLoop yLC,.inBlock 6,.code yX36])) []))=>h yLC rfl) ?_
   intro Y hY
   rw [yLC_eq] at hY
   subst hY
   refine mu_seq mu_to0 (mu_seq mu_to0 ?_)
   refine u_r32 (lm:=m) (x:=true) L.n eg (decide_eq_true (by omega)) hT fun T1 hT1 h126=>?_
   refine mu_cond mu_to0 true (cond_atZ h126) ?_
   refine mu_skip mu_to0 (mu_seq mu_to0 (mu_block mu_to0 (mu_seq mu_to0 ?_)))
   refine u_r34 L.n eg hk e1 e2 (c1 _ _ x1) (c1 _ _ x2) (c1 _ _ x3) (c1 _ _ x4) (c2 _ _ x1) (c2 _ _ x2) (c2 _ _ x3) (c2 _ _ x4) hT1 fun T2 hT2 h137=>?_
   refine mu_cond mu_to0 false (cond_atZ h137) (mu_skip mu_to0 (mu_inBlock mu_to0 ?_))
   refine u_r33 L.n (by omega) hT2 fun T3 hT3=>?_
   refine mu_inLoop mu_to0 ?_
   exact ih (k + 1) T3 (by omega) hT3
theorem afns_at {tb ab gb : Nat} {ix : Nat → Nat} {n i : Nat} (h : i < n) : (afns tb ab gb ix n).getD i .nilFunc = afn tb ab gb ix i:=by
 rw [List.getD_eq_getElem?_getD]
 simp [afns,h]
set_option maxHeartbeats 1000000 in
theorem atom_runs (L : LS W Z V) (hR : Rw3 V la n given ra0 rc0) (hpl : ps.length = pl) (hp : Pks V (fun _=>False) (.slice pa pl pc) ps) (hu : u < 256) :
   To0 Try.prog (LPost W) Z V (G (Frame.enter Try.prog 7 #[.slice la n lc,.slice pa pl pc,.int .u8 (u : Int)] .normal) []):=by
 obtain ⟨⟨pb,pcc,epv,hpr⟩,hpr2⟩:=hp
 injection epv with ep1 ep2 ep3
 have hp0 : 0 < pl → ∃ g o,pa = some ⟨g,o,none⟩ ∧ g < V.heap.size ∧ ∀ j (hj : j < ps.length),V.cell? ⟨g,o + j,none⟩ = some (.int .i64 (ps[j]'hj)):=fun h0=>by
   obtain ⟨g,o,e,h1,_,h3⟩:=hpr (by omega)
   exact ⟨g,o,ep1.trans e,h1,h3⟩
 clear hpr ep1 ep2 ep3
 rw [enter_at (P:=Try.prog) _ Try.func7 rfl]
 refine (fun (h : ∀ T : Array Value,Fg 139 [(0,.slice la n lc),(1,.slice pa pl pc),(2,.int .u8 (u : Int))] T → To0 Try.prog (LPost W) Z V (G ((base 7).at ⟨T,[]⟩ [.code yB7]) []))=>h _ ⟨by simp [Try.f7],by simp,by simp,by simp,trivial⟩) ?_
 intro T hT
 rw [yB7_eq]
 refine mu_seq mu_to0 ?_
 refine u_r0 L.n hT fun T1 hT1=>?_
 refine mu_seq mu_to0 (mu_seq mu_to0 ?_)
 refine u_r1 (x:=decide ((10 : Int) < (n : Int))) (y:=decide ((100 : Int) < (pl : Int))) L.n rfl rfl hT1 fun T2 hT2 h30=>?_
 by_cases hbig : 10 < n ∨ 100 < pl
 · have e : (decide ((10 : Int) < (n : Int)) || decide ((100 : Int) < (pl : Int))) = true:=by simp; omega
   rw [e] at h30
   refine mu_cond mu_to0 true (cond_atZ h30) ?_
   exact u_live2 L hT2.1
 have e : (decide ((10 : Int) < (n : Int)) || decide ((100 : Int) < (pl : Int))) = false:=by simp; omega
 rw [e] at h30
 refine mu_cond mu_to0 false (cond_atZ h30) (mu_skip mu_to0 ?_)
 clear e h30 hT hT1
 refine mu_seq mu_to0 ?_
 refine u_r3 L.n hT2 fun T3 V1 hT3 n1 k1 s1 e1=>?_
 refine mu_seq mu_to0 (mu_seq mu_to0 ?_)
 refine u_r4 n1 hT3 fun T4 hT4=>?_
 refine mu_block mu_to0 (mu_loop mu_to0 ?_)
 have C1 : CP V given V.heap.size 0 (fun _=>none) (fun _=>0) none 0 V1:=⟨n1,k1,Nat.le_refl _,e1,⟨rfl,.inl ⟨rfl,rfl⟩⟩,fun b hb=>(by cases hb),fun j hj=>by omega⟩
 refine u_la L hR (by omega) n 0 _ _ none 0 V1 T4 (by omega) (fun j hj=>by omega) C1 hT4 fun ra rc ta tc V2 T5 hlen C2 hT5=>?_
 clear C1 e1 hT2 hT3 hT4 s1
 generalize htb : V.heap.size = tb at *
 refine mu_seq mu_to0 ?_
 refine u_r17 C2.nrm hT5 fun T6 V3 hT6 n3 k3 s3 e3=>?_
 refine mu_seq mu_to0 ?_
 refine u_r18 n3 hT6 fun T7 V4 hT7 n4 k4 s4 e4=>?_
 refine mu_seq mu_to0 ?_
 refine u_r19 n4 hT7 fun T8 hT8=>?_
 refine mu_seq mu_to0 (mu_seq mu_to0 ?_)
 refine u_r20 n4 hT8 fun T9 V5 hT9 n5 k5 s5 e5=>?_
 refine mu_block mu_to0 (mu_loop mu_to0 ?_)
 have k24:=k3.trans k4
 have C4:=C2.kpp k24 n4
 have hab : V2.heap.size < V3.heap.size:=by omega
 have e34:=(k4.keep _ hab).trans e3
 have htb2 : tb < V2.heap.size:=(Array.getElem?_eq_some_iff.1 C2.box).1
 obtain ⟨ab,eab⟩ : ∃ b,b = V2.heap.size:=⟨_,rfl⟩
 obtain ⟨gb,egb⟩ : ∃ b,b = V3.heap.size:=⟨_,rfl⟩
 rw [← eab] at e34 hT9
 rw [← egb] at e4 hT9
 have hin : ∀ j,j < n → ∀ b,(Value.slice (ra j) (given j).length (rc j)).ownBlock = some b → b < ab:=fun j hj b hb=>by
   have:=row_at (C2.inn j hj).1 hb; omega
 have hon : ∀ b,(Value.slice ta n tc).ownBlock = some b → b < ab:=fun b hb=>by
   have:=row_at C2.row hb; omega
 refine u_lf (V0:=V4) C4.box (by omega) n 0 (fun _=>0) V4.heap.size none 0 V5 T9 (by omega) ⟨n5,k5,⟨rfl,.inl ⟨rfl,rfl⟩⟩,fun b hb=>(by cases hb),fun j hj=>by omega,Nat.le_refl _,e5⟩ hT9 fun ix cb fa fc V6 T10 M hT10=>?_
 have C6:=C4.kpp M.kp M.nrm
 have k46:=M.kp.size
 have e36:=(M.kp.keep ab (by omega)).trans e34
 have e46:=(M.kp.keep gb (by omega)).trans e4
 clear k3 k4 e3 e34 e4 e5 k5 hT5 hT6 hT7 hT8 hT9 C2 C4 n3 n4 n5
 obtain ⟨Rn,hRn⟩ : ∃ r,u % 25 = r:=⟨_,rfl⟩
 refine mu_seq mu_to0 ?_
 refine u_r26 M.nrm hu hRn hT10 fun T11 hT11=>?_
 refine mu_seq mu_to0 ?_
 refine u_r27 M.nrm hT11 fun T12 hT12=>?_
 -- the call of Run
 obtain ⟨D,hD⟩ : ∃ D : Ae,D = ⟨n,fun j=>dml (given j),ab,gb,tb,ix,ta,tc,ra,rc,V6⟩:=⟨_,rfl⟩
 have hDn : D.n = n:=by rw [hD]
 have hDa : D.acts = fun j=>dml (given j):=by rw [hD]
 have hll : ∀ j,(dml (given j)).length = (given j).length:=fun j=>by simp [dml]
 have O : AeOk D:=by
   subst hD
   refine ⟨⟨by show ab < V6.heap.size; omega,by show ab ≠ gb; omega⟩,by show gb < V6.heap.size; omega,⟨by show tb < V6.heap.size; omega,by show tb ≠ ab; omega,by show tb ≠ gb; omega,C6.box⟩,fun i hi=>?_,fun h0=>?_,fun i hi h0=>?_,fun i hi=>?_,by show n ≤ 10; omega⟩
   · obtain ⟨h1,h2⟩:=M.ib i hi
     have h3:=(Array.getElem?_eq_some_iff.1 h2).1
     exact ⟨h3,by show ix i ≠ ab; omega,by show ix i ≠ gb; omega,h2⟩
   · obtain ⟨g,c,e,hg,hc⟩:=row_cells C6.row h0
     injection e with e _ _
     have hgb : g < ab:=hon g (by rw [e]; rfl)
     exact ⟨g,0,e,hg,by show g ≠ ab; omega,by show g ≠ gb; omega,fun i hi=>by
       show V6.cell? ⟨g,0 + i,none⟩ = some (.slice (ra i) (dml (given i)).length (rc i))
       rw [Nat.zero_add,hll]
       exact hc i _ (by simp [show i < n from hi])⟩
   · have h0' : 0 < (given i).length:=by rw [← hll]; exact h0
     obtain ⟨g,c,e,hg,hc⟩:=row_cells (C6.inn i hi).1 h0'
     injection e with e _ _
     have hgb : g < ab:=hin i hi g (by rw [e]; rfl)
     refine ⟨g,0,e,hg,by show g ≠ ab; omega,by show g ≠ gb; omega,fun j hj=>?_⟩
     obtain ⟨a1,a2,a3⟩:=acells_at (List.getElem?_eq_getElem hj)
     rw [Nat.zero_add]
     exact ⟨hc _ _ a1,hc _ _ a2,hc _ _ a3⟩
   · show (dml (given i)).length ≤ 20
     rw [hll]; exact hlen i hi
 have hA : ActsOk D:=by
   subst hD
   intro j hj x hx
   obtain ⟨y,_,rfl⟩:=List.mem_map.1 (show x ∈ dml (given j) from hx)
   exact dm_cases y.1
 have hVr : D.Vr = V6:=by rw [hD]
 have hI0 : EInv D azero (fun b=>b < V6.heap.size) V6:=by
   subst hD
   exact ⟨Nat.le_refl _,e36,⟨_,e46,⟨rfl,.inl ⟨rfl,rfl⟩⟩,fun b hb=>(by cases hb)⟩,fun b hb=>⟨hb,fun _ _=>rfl⟩,fun i _=>Nat.zero_le _,Nat.zero_le _⟩
 have hfl : (afns tb ab gb ix n).length = n:=by simp [afns]
 have hF : FnRow V6 (.slice fa n fc) (afns tb ab gb ix n):=by
   refine ⟨⟨fa,fc,by rw [hfl],fun h0=>?_⟩,fun k hk=>.inr ?_⟩
   · obtain ⟨g,c,e,hg,hc⟩:=row_cells M.row (by omega)
     injection e with e _ _
     refine ⟨g,0,e,hg,fun k hk=>?_⟩
     rw [Nat.zero_add,afns_at (by omega)]
     exact hc k _ (by rw [hfl] at hk; simp [afns,hk])
   · rw [afns_at (by omega)]
     exact ⟨_,_,_,rfl⟩
 have k6 : Kp V V6:=C6.kp
 have L6:=L.same M.nrm k6
 have hDab : D.ab = ab:=by rw [hD]
 have hDgb : D.gb = gb:=by rw [hD]
 have hP : PksU (fun C=>Uam D C) (afns tb ab gb ix n).length V6 (fun b=>b < V6.heap.size) (.slice pa pl pc) ps:=⟨⟨pa,pc,by rw [hpl],fun h0=>by
   obtain ⟨g,o,e1,h2,h3⟩:=hp0 (by omega)
   refine ⟨g,o,e1,.inr fun C _ σ own V' A k hk=>?_⟩
   have hI : EInv D σ own V':=A
   have h5:=(hI.old g (by rw [hVr]; have:=k6.size; omega)).2 (by rw [hDab]; omega) (by rw [hDgb]; omega)
   rw [hVr] at h5
   exact cell_same (k6.cell (h3 k hk)) h5⟩,hpr2⟩
 have hRn25 : Rn < 25:=by rw [← hRn]; exact Nat.mod_lt _ (by decide)
 refine run_go (U:=fun C=>Uam D C) (σ0:=fun _=>azero) (own0:=fun b=>b < V6.heap.size) (Rn:=Rn) M.nrm hF (by rw [hfl]; omega) L6.z (fun b h=>h) hP (by omega) (by rw [if_neg (by omega),if_neg (by omega)]) (fun C E hOk hCn hf=>uam_ok O hA (by rw [hCn,hfl,hDn]) fun i hi=>?_) (fun C hCn i hi=>?_) (fun C _=>hI0) fun C σ' xs' Z' V7 ov ovr pkr own' hCn he A=>?_
 · rw [hf i]
   rw [hCn,hfl] at hi
   rw [afns_at hi,hD]
   rfl
 · rw [hfl] at hi
   show amst D.acts azero i = st0 (afns tb ab gb ix n) i
   unfold st0
   rw [afns_at hi]
   rfl
 rw [hfl] at he
 replace he : ((σ',xs') : AM × List Nat) = arun n D.acts Rn ps:=he.trans ((urnds_eq D C n Rn _).trans (congrArg (arnds n D.acts Rn) (upk_eq D C n ps (azero,[]))))
 have hI : EInv D σ' own' V7:=A.inv
 have k7 : Kp V V7:=⟨by have:=A.big; have:=k6.size; omega,fun b hb=>by
   have:=k6.size
   have h:=(hI.old b (by rw [hVr]; omega)).2 (by rw [hDab]; omega) (by rw [hDgb]; omega)
   rw [hVr] at h
   rw [h]
   exact k6.keep b hb⟩
 have L7:=L.next A.nrm A.shut (fun b hb=>A.zold b (by have:=k6.size; omega)) k7
 obtain ⟨lv,g1,g2,g3⟩:=hI.log
 have hnum:=hI.num
 rw [hDab] at hnum
 rw [hDgb] at g1
 have o1:=A.o1
 obtain ⟨A1,l1,d1,rfl⟩:=slice_ofA o1
 obtain rfl : l1 = xs'.length:=row_len o1
 obtain ⟨A2,l2,d2,rfl⟩:=slice_ofA A.o2
 obtain ⟨A3,l3,d3,rfl⟩:=slice_ofA A.o3
 obtain ⟨B1,lm,lk,rfl⟩:=slice_ofA g2
 obtain rfl : lm = σ'.log.length:=row_len g2
 have hold7 : ∀ b,b < V6.heap.size → b ≠ ab → b ≠ gb → V7.heap[b]? = V6.heap[b]?:=fun b hb h1 h2=>by
   have h:=(hI.old b (by rw [hVr]; exact hb)).2 (by rw [hDab]; exact h1) (by rw [hDgb]; exact h2)
   rw [hVr] at h; exact h
 have htb7 : V7.heap[tb]? = some (.cells #[.slice ta n tc] 54 (0,0)):=(hold7 tb (by omega) (by omega) (by omega)).trans C6.box
 have hcnt:=hI.cnt
 have hle:=hI.le
 have n7:=A.nrm
 have hx1 : xs' = (arun n D.acts Rn ps).2:=congrArg Prod.snd he
 have hx2 : σ' = (arun n D.acts Rn ps).1:=congrArg Prod.fst he
 clear A hP hF hI0 hI he hCn
 -- what is left
 have hT12' : Fg 139 [(1,.slice pa pl pc),(7,.pointer (some ⟨tb,0,none⟩)),(12,.pointer (some ⟨ab,0,none⟩)),(13,.pointer (some ⟨gb,0,none⟩)),(16,.int .i64 (Rn : Int))] T12:=by
   obtain ⟨hs,h1,h7,h12,h13,h14,h16,-⟩:=hT12
   exact ⟨hs,h1,h7,h12,h13,h16,trivial⟩
 refine u_o27 n7 hT12' fun T13 V8 hT13 n8 k8 s8 e8=>?_
 have htb8:=(k8.keep tb (Array.getElem?_eq_some_iff.1 htb7).1).trans htb7
 refine mu_seq mu_to0 ?_
 refine u_r28 n8 htb8 hT13 fun T14 hT14=>?_
 have hR8 : Rw3 V8 ta n D.acts ra rc:=by
   have hD1 : ∀ b,b < V6.heap.size → b ≠ ab → b ≠ gb → V8.heap[b]? = V6.heap[b]?:=fun b hb h1 h2=>by
     have h7:=hold7 b hb h1 h2
     have : b < V7.heap.size:=by
       have e:=h7
       cases hv : V6.heap[b]? with
       | none=>rw [Array.getElem?_eq_none_iff] at hv; omega
       | some y=>rw [hv] at e; exact (Array.getElem?_eq_some_iff.1 e).1
     exact (k8.keep b this).trans h7
   refine ⟨fun h0=>?_,fun i hi h0=>?_⟩
   · obtain ⟨g,o,e,a1,a2,a3,a4⟩:=O.out (by rw [hDn]; exact h0)
     rw [hVr] at a1 a4
     rw [hDab] at a2
     rw [hDgb] at a3
     have e1:=hD1 g a1 a2 a3
     have hla : D.la = ta:=by rw [hD]
     have hra : D.ra = ra:=by rw [hD]
     have hrc : D.rc = rc:=by rw [hD]
     refine ⟨g,o,hla ▸ e,?_,fun j hj=>?_⟩
     · have h:=a4 0 (by rw [hDn]; exact h0)
       exact cell_lt (cell_keep h e1)
     · have h:=a4 j (by rw [hDn]; exact hj)
       rw [hra,hrc] at h
       exact cell_keep h e1
   · obtain ⟨g,o,e,a1,a2,a3,a4⟩:=O.inn i (by rw [hDn]; exact hi) h0
     rw [hVr] at a1 a4
     rw [hDab] at a2
     rw [hDgb] at a3
     have e1:=hD1 g a1 a2 a3
     have hra : D.ra = ra:=by rw [hD]
     refine ⟨g,o,hra ▸ e,cell_lt (cell_keep (a4 0 h0).1 e1),fun j hj=>?_⟩
     obtain ⟨b1,b2,b3⟩:=a4 j hj
     exact ⟨cell_keep b1 e1,cell_keep b2 e1,cell_keep b3 e1⟩
 have hlen20 : ∀ j,j < n → (D.acts j).length ≤ 20:=fun j hj=>O.len j (by rw [hDn]; exact hj)
 refine run31_go n8 hR8 (fun j hj y hy=>hA j (by rw [hDn]; exact hj) y hy) hlen20 (by omega) hpl (fun h0=>by
   obtain ⟨g,o,e1,h2,h3⟩:=hp0 h0
   exact ⟨g,o,e1,fun j hj=>k8.cell (k7.cell (h3 j hj))⟩) (by omega) (by omega) fun V9 ov2 lv2 n9 k9 r9 q9 _ _=>?_
 rw [← hx1] at r9
 rw [← hx2] at q9 ⊢
 refine u_o28 n9 hT14 fun T15 hT15=>?_
 have k79:=k8.trans k9
 have L9:=L7.same n9 (k8.trans k9)
 have e9:=(k9.keep V7.heap.size (by omega)).trans e8
 have eg9:=(k79.keep gb (Array.getElem?_eq_some_iff.1 g1).1).trans g1
 have ea9:=(k79.keep ab (Array.getElem?_eq_some_iff.1 hnum).1).trans hnum
 have o19:=row_keep o1 fun b hb=>k79.keep b (row_at o1 hb)
 have g29:=row_keep g2 fun b hb=>k79.keep b (row_at g2 hb)
 obtain ⟨A4,l4,d4,rfl⟩:=slice_ofA r9
 obtain rfl : l4 = xs'.length:=row_len r9
 obtain ⟨B2,lm2,lk2,rfl⟩:=slice_ofA q9
 obtain rfl : lm2 = σ'.log.length:=row_len q9
 have rd : ∀ {A : Option Addr} {c : Nat},V9.ownsRow 0 3 1 (.slice A xs'.length c) xs'.length (ints xs') → ∀ τ,Rds (re V9 τ 0) A xs'.length fun j=>.int .i64 ((xs'.getD j 0 : Nat) : Int):=fun {A c} h τ=>by
   obtain ⟨A',c',e,hf⟩:=rds_own (owns_re (τ:=τ) (d:=0) h)
   injection e with e _ _
   subst e
   refine hf _ fun j hj=>?_
   simp [ints,hj]
 refine mu_seq mu_to0 (mu_seq mu_to0 ?_)
 refine u_r29 n9 e9 (rd o19) (rd r9) eg9 ea9 hT15 fun T16 V10 hT16 h122 n10 k10=>?_
 refine mu_cond mu_to0 false (cond_atZ h122) (mu_skip mu_to0 ?_)
 have L10:=L9.same n10 k10
 have eg10:=(k10.keep gb (Array.getElem?_eq_some_iff.1 eg9).1).trans eg9
 have p1:=row_keep g29 fun b hb=>k10.keep b (row_at g29 hb)
 have p2:=row_keep q9 fun b hb=>k10.keep b (row_at q9 hb)
 have hcnt' : σ'.log.length < 1000000:=by
   have h2 : sumTo D.n σ'.t ≤ D.n * 21:=sum_bound fun j hj=>by have:=hle j hj; have:=O.len j hj; omega
   have h4 : D.n * 21 ≤ 10 * 21:=Nat.mul_le_mul_right _ O.small
   omega
 refine mu_seq mu_to0 (mu_seq mu_to0 ?_)
 refine u_r31 n10 hT16 fun T17 hT17=>?_
 refine mu_block mu_to0 (mu_loop mu_to0 ?_)
 exact u_lc L10 rfl hcnt' eg10 p1 p2 σ'.log.length 0 T17 (by omega) hT17
end
end Go.Proofs.Ytibcdikfbhmheaa
