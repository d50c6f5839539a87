import Derived.Test.YtibcdikfbhmheaaB24
import Derived.Test.YtibcdikfbhmheaaB16
set_option linter.unusedSimpArgs false
set_option linter.unusedVariables false
set_option maxRecDepth 100000
set_option maxHeartbeats 4000000
namespace Go.Proofs.Ytibcdikfbhmheaa
open Go Go.Conc Go.Proofs
open Go.ConcN (sumTo upd sumTo_upd upd_ne upd_same)
set_option linter.unusedVariables false
section
variable {n lc : Nat} {V V0 : World} {Z : Cuts} {Post : Value → World → Prop} {b₀ : Frame} {a₀ : Act} {ops₀ : Array Oper} {i₀ : Nat} {rest₀ : List Nat} {k₀ : List Item} {cs0 : List Frame}
theorem live28_go (hn : norm V = V) (hz : ∀ b,Z b ≠ some (3,0,0))
   (K0 : ∀ Z' V',norm V' = V' → (∀ b,Z' b ≠ some (3,0,0)) → (∀ b,b < V.heap.size → Z' b = Z b) → Kp V V' → To0 Try.prog Post Z' V' (G (b₀.at (a₀.put ((ops₀[i₀]?).bind (·.dst)) (.bool true)) (.inRegion ops₀ rest₀ :: k₀)) cs0)) :
   To0 Try.prog Post Z V (G (Frame.enter Try.prog 43 #[] .normal) (b₀.at a₀ (.inRegion ops₀ (i₀ :: rest₀) :: k₀) :: cs0)):=by
 rw [enter_at (P:=Try.prog) _ Try.func43 rfl]
 simp only [Try.f43]
 walk_nrm
 obtain ⟨K,hK,hV,key,yek⟩:=kKV (L:=Lone) (J:=fun g=>To0 Try.prog Post Z V g) mu_to0 (muv_to0 hn)
 refine key _ ?_
 repeat (first|(with_reducible first|refine mu_seq hK ?_|refine mu_skip hK ?_|(refine mu_region_end hK ?_;try subst hkk)|refine mu_block hK ?_|refine mu_inBlock hK ?_|refine mu_ret hK ?_|refine mu_end hK ?_)|refine mu_exit hK rfl ?_|(with_reducible refine mu_regionH hK (fun kk hkk=>?_);simp only [List.size_toArray,List.length_cons,List.length_nil,Nat.reduceAdd,Nat.zero_add,List.range,List.range.loop])|(with_reducible refine mu_cf hK ?_ ?_;(· first|(walk_nrm;done)|(simp [Act.eval];done)))|(with_reducible refine mu_ct hK ?_ ?_;(· first|(walk_nrm;done)|(simp [Act.eval];done)))|(refine mu_unwanted hK rfl rfl ?_;walk_nrm)|(refine muv_val hV rfl (by first|exact .inl rfl|exact .inr rfl) rfl (by kernel_rfl) (fun J hJ=>?_);go_simp;with_reducible refine hJ _ ?_;clear hJ J;walk_nrm))
 refine mu_call hK rfl rfl (by decide) rfl Try.func89 (by kernel_rfl) rfl ?_
 have hnt89 : Try.f89.ntmps = 11:=rfl
 rw [hnt89]
 clear hnt89
 walk_nrm
 repeat (first|(with_reducible first|refine mu_seq hK ?_|refine mu_skip hK ?_|(refine mu_region_end hK ?_;try subst hkk)|refine mu_block hK ?_|refine mu_inBlock hK ?_|refine mu_ret hK ?_|refine mu_end hK ?_)|refine mu_exit hK rfl ?_|(with_reducible refine mu_regionH hK (fun kk hkk=>?_);simp only [List.size_toArray,List.length_cons,List.length_nil,Nat.reduceAdd,Nat.zero_add,List.range,List.range.loop])|(with_reducible refine mu_cf hK ?_ ?_;(· first|(walk_nrm;done)|(simp [Act.eval];done)))|(with_reducible refine mu_ct hK ?_ ?_;(· first|(walk_nrm;done)|(simp [Act.eval];done)))|(refine mu_unwanted hK rfl rfl ?_;walk_nrm)|(refine muv_val hV rfl (by first|exact .inl rfl|exact .inr rfl) rfl (by kernel_rfl) (fun J hJ=>?_);go_simp;with_reducible refine hJ _ ?_;clear hJ J;walk_nrm))
 refine yek _ ?_
 clear hK hV key yek K
 try subst hkk
 have hn1 : norm (V.alloc (.cells #[.slice none 0 0,.int .i64 0] 95)) = (V.alloc (.cells #[.slice none 0 0,.int .i64 0] 95)):=norm_al hn _
 refine mua_put (L:=Lone) (v:=.pointer (some ⟨V.heap.size,0,none⟩)) (mua_to0 hn1) (K:=fun g=>To0 Try.prog Post Z V g) (K':=fun g=>To0 Try.prog Post Z (V.alloc (.cells #[.slice none 0 0,.int .i64 0] 95)) g) rfl (.inl rfl) rfl (by kernel_rfl) (fun τ=>?_) ?_
 · go_simp
   first | exact ⟨by first | rfl | assumption | (simp only [re]; omega),rfl⟩ | rfl | (simp; done)
 have sV1 : (V.alloc (.cells #[.slice none 0 0,.int .i64 0] 95)).heap.size = V.heap.size + 1:=al_size _ _
 have kV1 : Kp V (V.alloc (.cells #[.slice none 0 0,.int .i64 0] 95)):=kp_alloc _ _
 have rV1 : (V.alloc (.cells #[.slice none 0 0,.int .i64 0] 95)).heap[V.heap.size]? = some (.cells #[.slice none 0 0,.int .i64 0] 95):=by rw [al_get,if_pos rfl]
 generalize (V.alloc (.cells #[.slice none 0 0,.int .i64 0] 95)) = V1 at *
 walk_nrm
 obtain ⟨K,hK,hV,key,yek⟩:=kKV (L:=Lone) (J:=fun g=>To0 Try.prog Post Z V1 g) mu_to0 (muv_to0 hn1)
 refine key _ ?_
 repeat (first|(with_reducible first|refine mu_seq hK ?_|refine mu_skip hK ?_|(refine mu_region_end hK ?_;try subst hkk)|refine mu_block hK ?_|refine mu_inBlock hK ?_|refine mu_ret hK ?_|refine mu_end hK ?_)|refine mu_exit hK rfl ?_|(with_reducible refine mu_regionH hK (fun kk hkk=>?_);simp only [List.size_toArray,List.length_cons,List.length_nil,Nat.reduceAdd,Nat.zero_add,List.range,List.range.loop])|(with_reducible refine mu_cf hK ?_ ?_;(· first|(walk_nrm;done)|(simp [Act.eval];done)))|(with_reducible refine mu_ct hK ?_ ?_;(· first|(walk_nrm;done)|(simp [Act.eval];done)))|(refine mu_unwanted hK rfl rfl ?_;walk_nrm)|(refine muv_val hV rfl (by first|exact .inl rfl|exact .inr rfl) rfl (by kernel_rfl) (fun J hJ=>?_);go_simp;with_reducible refine hJ _ ?_;clear hJ J;walk_nrm))
 refine yek _ ?_
 clear hK hV key yek K
 have hn2 : norm (V1.alloc (.cells #[.slice none 0 0] 23)) = (V1.alloc (.cells #[.slice none 0 0] 23)):=norm_al hn1 _
 refine mua_put (L:=Lone) (v:=.pointer (some ⟨V1.heap.size,0,none⟩)) (mua_to0 hn2) (K:=fun g=>To0 Try.prog Post Z V1 g) (K':=fun g=>To0 Try.prog Post Z (V1.alloc (.cells #[.slice none 0 0] 23)) g) rfl (.inl rfl) rfl (by kernel_rfl) (fun τ=>?_) ?_
 · go_simp
   first | exact ⟨by first | rfl | assumption | (simp only [re]; omega),rfl⟩ | rfl | (simp; done)
 have sV2 : (V1.alloc (.cells #[.slice none 0 0] 23)).heap.size = V1.heap.size + 1:=al_size _ _
 have kV2 : Kp V1 (V1.alloc (.cells #[.slice none 0 0] 23)):=kp_alloc _ _
 have rV2 : (V1.alloc (.cells #[.slice none 0 0] 23)).heap[V1.heap.size]? = some (.cells #[.slice none 0 0] 23):=by rw [al_get,if_pos rfl]
 generalize (V1.alloc (.cells #[.slice none 0 0] 23)) = V2 at *
 walk_nrm
 obtain ⟨K,hK,hV,key,yek⟩:=kKV (L:=Lone) (J:=fun g=>To0 Try.prog Post Z V2 g) mu_to0 (muv_to0 hn2)
 refine key _ ?_
 repeat (first|(with_reducible first|refine mu_seq hK ?_|refine mu_skip hK ?_|(refine mu_region_end hK ?_;try subst hkk)|refine mu_block hK ?_|refine mu_inBlock hK ?_|refine mu_ret hK ?_|refine mu_end hK ?_)|refine mu_exit hK rfl ?_|(with_reducible refine mu_regionH hK (fun kk hkk=>?_);simp only [List.size_toArray,List.length_cons,List.length_nil,Nat.reduceAdd,Nat.zero_add,List.range,List.range.loop])|(with_reducible refine mu_cf hK ?_ ?_;(· first|(walk_nrm;done)|(simp [Act.eval];done)))|(with_reducible refine mu_ct hK ?_ ?_;(· first|(walk_nrm;done)|(simp [Act.eval];done)))|(refine mu_unwanted hK rfl rfl ?_;walk_nrm)|(refine muv_val hV rfl (by first|exact .inl rfl|exact .inr rfl) rfl (by kernel_rfl) (fun J hJ=>?_);go_simp;with_reducible refine hJ _ ?_;clear hJ J;walk_nrm))
 refine yek _ ?_
 clear hK hV key yek K
 have hn3 : norm (V2.alloc (.cells #[.func (.func 126) #[] #[.pointer (some ⟨V.heap.size,0,none⟩),.pointer (some ⟨V1.heap.size,0,none⟩)],.func (.func 126) #[] #[.pointer (some ⟨V.heap.size,0,none⟩),.pointer (some ⟨V1.heap.size,0,none⟩)]] 70)) = (V2.alloc (.cells #[.func (.func 126) #[] #[.pointer (some ⟨V.heap.size,0,none⟩),.pointer (some ⟨V1.heap.size,0,none⟩)],.func (.func 126) #[] #[.pointer (some ⟨V.heap.size,0,none⟩),.pointer (some ⟨V1.heap.size,0,none⟩)]] 70)):=norm_al hn2 _
 refine mua_put (L:=Lone) (v:=.slice (some ⟨V2.heap.size,0,none⟩) 2 2) (mua_to0 hn3) (K:=fun g=>To0 Try.prog Post Z V2 g) (K':=fun g=>To0 Try.prog Post Z (V2.alloc (.cells #[.func (.func 126) #[] #[.pointer (some ⟨V.heap.size,0,none⟩),.pointer (some ⟨V1.heap.size,0,none⟩)],.func (.func 126) #[] #[.pointer (some ⟨V.heap.size,0,none⟩),.pointer (some ⟨V1.heap.size,0,none⟩)]] 70)) g) rfl (.inl rfl) rfl (by kernel_rfl) (fun τ=>?_) ?_
 · go_simp
   first | exact ⟨by first | rfl | assumption | (simp only [re]; omega),rfl⟩ | rfl | (simp; done)
 have sV3 : (V2.alloc (.cells #[.func (.func 126) #[] #[.pointer (some ⟨V.heap.size,0,none⟩),.pointer (some ⟨V1.heap.size,0,none⟩)],.func (.func 126) #[] #[.pointer (some ⟨V.heap.size,0,none⟩),.pointer (some ⟨V1.heap.size,0,none⟩)]] 70)).heap.size = V2.heap.size + 1:=al_size _ _
 have kV3 : Kp V2 (V2.alloc (.cells #[.func (.func 126) #[] #[.pointer (some ⟨V.heap.size,0,none⟩),.pointer (some ⟨V1.heap.size,0,none⟩)],.func (.func 126) #[] #[.pointer (some ⟨V.heap.size,0,none⟩),.pointer (some ⟨V1.heap.size,0,none⟩)]] 70)):=kp_alloc _ _
 have rV3 : (V2.alloc (.cells #[.func (.func 126) #[] #[.pointer (some ⟨V.heap.size,0,none⟩),.pointer (some ⟨V1.heap.size,0,none⟩)],.func (.func 126) #[] #[.pointer (some ⟨V.heap.size,0,none⟩),.pointer (some ⟨V1.heap.size,0,none⟩)]] 70)).heap[V2.heap.size]? = some (.cells #[.func (.func 126) #[] #[.pointer (some ⟨V.heap.size,0,none⟩),.pointer (some ⟨V1.heap.size,0,none⟩)],.func (.func 126) #[] #[.pointer (some ⟨V.heap.size,0,none⟩),.pointer (some ⟨V1.heap.size,0,none⟩)]] 70):=by rw [al_get,if_pos rfl]
 generalize (V2.alloc (.cells #[.func (.func 126) #[] #[.pointer (some ⟨V.heap.size,0,none⟩),.pointer (some ⟨V1.heap.size,0,none⟩)],.func (.func 126) #[] #[.pointer (some ⟨V.heap.size,0,none⟩),.pointer (some ⟨V1.heap.size,0,none⟩)]] 70)) = V3 at *
 walk_nrm
 obtain ⟨K,hK,hV,key,yek⟩:=kKV (L:=Lone) (J:=fun g=>To0 Try.prog Post Z V3 g) mu_to0 (muv_to0 hn3)
 refine key _ ?_
 repeat (first|(with_reducible first|refine mu_seq hK ?_|refine mu_skip hK ?_|(refine mu_region_end hK ?_;try subst hkk)|refine mu_block hK ?_|refine mu_inBlock hK ?_|refine mu_ret hK ?_|refine mu_end hK ?_)|refine mu_exit hK rfl ?_|(with_reducible refine mu_regionH hK (fun kk hkk=>?_);simp only [List.size_toArray,List.length_cons,List.length_nil,Nat.reduceAdd,Nat.zero_add,List.range,List.range.loop])|(with_reducible refine mu_cf hK ?_ ?_;(· first|(walk_nrm;done)|(simp [Act.eval];done)))|(with_reducible refine mu_ct hK ?_ ?_;(· first|(walk_nrm;done)|(simp [Act.eval];done)))|(refine mu_unwanted hK rfl rfl ?_;walk_nrm)|(refine muv_val hV rfl (by first|exact .inl rfl|exact .inr rfl) rfl (by kernel_rfl) (fun J hJ=>?_);go_simp;with_reducible refine hJ _ ?_;clear hJ J;walk_nrm))
 refine yek _ ?_
 clear hK hV key yek K
 have hn4 : norm (V3.alloc (.cells #[.int .i64 1,.int .i64 1,.int .i64 0,.int .i64 0] 3)) = (V3.alloc (.cells #[.int .i64 1,.int .i64 1,.int .i64 0,.int .i64 0] 3)):=norm_al hn3 _
 refine mua_put (L:=Lone) (v:=.slice (some ⟨V3.heap.size,0,none⟩) 4 4) (mua_to0 hn4) (K:=fun g=>To0 Try.prog Post Z V3 g) (K':=fun g=>To0 Try.prog Post Z (V3.alloc (.cells #[.int .i64 1,.int .i64 1,.int .i64 0,.int .i64 0] 3)) g) rfl (.inl rfl) rfl (by kernel_rfl) (fun τ=>?_) ?_
 · go_simp
   first | exact ⟨by first | rfl | assumption | (simp only [re]; omega),rfl⟩ | rfl | (simp; done)
 have sV4 : (V3.alloc (.cells #[.int .i64 1,.int .i64 1,.int .i64 0,.int .i64 0] 3)).heap.size = V3.heap.size + 1:=al_size _ _
 have kV4 : Kp V3 (V3.alloc (.cells #[.int .i64 1,.int .i64 1,.int .i64 0,.int .i64 0] 3)):=kp_alloc _ _
 have rV4 : (V3.alloc (.cells #[.int .i64 1,.int .i64 1,.int .i64 0,.int .i64 0] 3)).heap[V3.heap.size]? = some (.cells #[.int .i64 1,.int .i64 1,.int .i64 0,.int .i64 0] 3):=by rw [al_get,if_pos rfl]
 generalize (V3.alloc (.cells #[.int .i64 1,.int .i64 1,.int .i64 0,.int .i64 0] 3)) = V4 at *
 walk_nrm
 obtain ⟨K,hK,hV,key,yek⟩:=kKV (L:=Lone) (J:=fun g=>To0 Try.prog Post Z V4 g) mu_to0 (muv_to0 hn4)
 refine key _ ?_
 repeat (first|(with_reducible first|refine mu_seq hK ?_|refine mu_skip hK ?_|(refine mu_region_end hK ?_;try subst hkk)|refine mu_block hK ?_|refine mu_inBlock hK ?_|refine mu_ret hK ?_|refine mu_end hK ?_)|refine mu_exit hK rfl ?_|(with_reducible refine mu_regionH hK (fun kk hkk=>?_);simp only [List.size_toArray,List.length_cons,List.length_nil,Nat.reduceAdd,Nat.zero_add,List.range,List.range.loop])|(with_reducible refine mu_cf hK ?_ ?_;(· first|(walk_nrm;done)|(simp [Act.eval];done)))|(with_reducible refine mu_ct hK ?_ ?_;(· first|(walk_nrm;done)|(simp [Act.eval];done)))|(refine mu_unwanted hK rfl rfl ?_;walk_nrm)|(refine muv_val hV rfl (by first|exact .inl rfl|exact .inr rfl) rfl (by kernel_rfl) (fun J hJ=>?_);go_simp;with_reducible refine hJ _ ?_;clear hJ J;walk_nrm))
 refine mu_call hK rfl rfl (by decide) rfl Try.func23 (by kernel_rfl) rfl ?_
 rw [← enter_at (P:=Try.prog) _ Try.func23 rfl]
 walk_nrm
 refine yek _ ?_
 clear hK hV key yek K
 have m4 : V4.heap[V.heap.size]? = some (.cells #[.slice none 0 0,.int .i64 0] 95 (0,0)):=by rw [kV4.keep _ (by omega),kV3.keep _ (by omega),kV2.keep _ (by omega)]; exact rV1
 have l4 : V4.heap[V1.heap.size]? = some (.cells #[.slice none 0 0] 23 (0,0)):=by rw [kV4.keep _ (by omega),kV3.keep _ (by omega)]; exact rV2
 have z40 : V4.frozen? ⟨V.heap.size,0,none⟩ = false:=by simp [World.frozen?,m4]
 have z41 : V4.frozen? ⟨V.heap.size,0 + 1,none⟩ = false:=by simp [World.frozen?,m4]
 have hF : FnRow V4 (.slice (some ⟨V2.heap.size,0,none⟩) 2 2) [.func (.func 126) #[] #[.pointer (some ⟨V.heap.size,0,none⟩),.pointer (some ⟨V1.heap.size,0,none⟩)],.func (.func 126) #[] #[.pointer (some ⟨V.heap.size,0,none⟩),.pointer (some ⟨V1.heap.size,0,none⟩)]]:=by
   refine ⟨⟨_,2,rfl,fun _=>⟨V2.heap.size,0,rfl,by omega,fun k hk=>kV4.cell (cell_of rV3 ?_)⟩⟩,fun k hk=>.inr ⟨126,#[],#[.pointer (some ⟨V.heap.size,0,none⟩),.pointer (some ⟨V1.heap.size,0,none⟩)],?_⟩⟩
   · match k,hk with
     | 0,_=>rfl
     | 1,_=>rfl
   · match k,hk with
     | 0,_=>rfl
     | 1,_=>rfl
 have hP : Pks V4 (fun b=>b = V.heap.size ∨ b = V1.heap.size) (.slice (some ⟨V3.heap.size,0,none⟩) 4 4) [1,1,0,0]:=by
   refine ⟨⟨_,4,rfl,fun _=>⟨V3.heap.size,0,rfl,by omega,by omega,fun k hk=>cell_of rV4 ?_⟩⟩,by decide⟩
   match k,hk with
   | 0,_=>rfl
   | 1,_=>rfl
   | 2,_=>rfl
   | 3,_=>rfl
 refine run_go (U:=fun C=>Utw 2 V.heap.size V1.heap.size C) (σ0:=fun _=>(Ls.zero : Ls)) (own0:=fun b=>b = V.heap.size ∨ b = V1.heap.size) (Rn:=9) hn4 hF (by simp) hz (fun b h=>by omega) hP.u (by decide) rfl (fun C E hO hCn hf=>?_) (fun C hCn i hi=>?_) (fun C hCn=>?_) fun C σ' xs' Z' V5 ov ovr pkr own' hCn he A=>?_
 · have hCn' : C.n = 2:=hCn
   have:=utw_ok (mb:=V.heap.size) (lg:=V1.heap.size) hO (by omega) fun i hi=>by
     rw [hf i]
     rw [hCn'] at hi
     match i,hi with
     | 0,_=>rfl
     | 1,_=>rfl
   rw [hCn'] at this
   exact this
 · match i,hi with
   | 0,_=>rfl
   | 1,_=>rfl
 · refine ⟨Ls.ok_zero _ _,.slice none 0 0,.slice none 0 0,⟨cell_of m4 (by simp),z40,cell_of m4 (by simp [Ls.zero]),z41,⟨rfl,.inl ⟨rfl,rfl⟩⟩,fun b h=>(by cases h),fun h=>(by cases h),.inl rfl⟩,l4,⟨rfl,.inl ⟨rfl,rfl⟩⟩,fun b h=>(by cases h),fun b h=>(by cases h),fun h=>(by cases h),fun h=>(by cases h),.inr rfl,by omega⟩
 obtain ⟨hok,hrun⟩:=Ls.run_ok (n:=2) (y:=y1) (inv:=TwInv 2 V.heap.size V1.heap.size) (loc:=TwLoc C V.heap.size V1.heap.size) (fid:=fun _=>126) (caps:=fun _=>#[bq V.heap.size,bq V1.heap.size]) 9 [1,1,0,0]
 have he2 : (σ',xs') = Ls.run 2 y1 9 [1,1,0,0]:=he.trans hrun
 have hfin : (σ' : Ls).fin = [1,0]:=by
   have:=two_calc
   rw [← he2] at this
   exact this
 have hinv : TwInv 2 V.heap.size V1.heap.size σ' own' V5:=A.inv
 obtain ⟨_,qv,lv,hL⟩:=hinv
 have hrow:=hL.row
 rw [hfin] at hrow
 have hlc:=hL.lgc
 have hn5:=A.nrm
 have k5 : Kp V V5:=⟨by have:=A.big; have:=kV1.size; have:=kV2.size; have:=kV3.size; have:=kV4.size; omega,fun b hb=>by rw [A.keep b (by omega) (by omega),kV4.keep b (by omega),kV3.keep b (by omega),kV2.keep b (by omega),kV1.keep b hb]⟩
 have hz5:=A.shut
 have hzo : ∀ b,b < V.heap.size → Z' b = Z b:=fun b hb=>A.zold b (by omega)
 obtain ⟨A1,c1,rfl,R1⟩:=rds_own hrow
 have R1:=R1 (fun j=>.int .i64 (([1,0] : List Int).getD j 0)) (fun j hj=>by
   match j,hj with
   | 0,_=>rfl
   | 1,_=>rfl)
 obtain ⟨ob,on,oc,rfl⟩:=slice_of A.o1
 obtain ⟨vb,vn,vc,rfl⟩:=slice_of A.o2
 obtain ⟨pb,pn,pc,rfl⟩:=slice_of A.o3
 have d1 : ∀ τ,(re V5 τ 0).cell? ⟨V1.heap.size,0,none⟩ = some (.slice A1 2 c1):=fun τ=>cell_of hlc (by simp)
 clear A he he2 hrun hok hL hrow hF hP hfin m4 l4 z40 z41 sV1 sV2 sV3 sV4
 walk_nrm
 obtain ⟨K,hK,hV,key,yek⟩:=kKV (L:=Lone) (J:=fun g=>To0 Try.prog Post Z' V5 g) mu_to0 (muv_to0 hn5)
 refine key _ ?_
 repeat (first|(with_reducible first|refine mu_seq hK ?_|refine mu_skip hK ?_|(refine mu_region_end hK ?_;try subst hkk)|refine mu_block hK ?_|refine mu_inBlock hK ?_|refine mu_ret hK ?_|refine mu_end hK ?_)|refine mu_exit hK rfl ?_|(with_reducible refine mu_regionH hK (fun kk hkk=>?_);simp only [List.size_toArray,List.length_cons,List.length_nil,Nat.reduceAdd,Nat.zero_add,List.range,List.range.loop])|(with_reducible refine mu_cf hK ?_ ?_;(· first|(walk_nrm;done)|(simp [Act.eval];done)))|(with_reducible refine mu_ct hK ?_ ?_;(· first|(walk_nrm;done)|(simp [Act.eval];done)))|(refine mu_unwanted hK rfl rfl ?_;walk_nrm)|(refine muv_val hV rfl (by first|exact .inl rfl|exact .inr rfl) rfl (by kernel_rfl) (fun J hJ=>?_);go_simp;with_reducible refine hJ _ ?_;clear hJ J;walk_nrm))
 refine mu_leave1 hK rfl rfl Try.func89 rfl ?_
 walk_nrm
 repeat (first|(with_reducible first|refine mu_seq hK ?_|refine mu_skip hK ?_|(refine mu_region_end hK ?_;try subst hkk)|refine mu_block hK ?_|refine mu_inBlock hK ?_|refine mu_ret hK ?_|refine mu_end hK ?_)|refine mu_exit hK rfl ?_|(with_reducible refine mu_regionH hK (fun kk hkk=>?_);simp only [List.size_toArray,List.length_cons,List.length_nil,Nat.reduceAdd,Nat.zero_add,List.range,List.range.loop])|(with_reducible refine mu_cf hK ?_ ?_;(· first|(walk_nrm;done)|(simp [Act.eval];done)))|(with_reducible refine mu_ct hK ?_ ?_;(· first|(walk_nrm;done)|(simp [Act.eval];done)))|(refine mu_unwanted hK rfl rfl ?_;walk_nrm)|(refine muv_val hV rfl (by first|exact .inl rfl|exact .inr rfl) rfl (by kernel_rfl) (fun J hJ=>?_);go_simp;with_reducible refine hJ _ ?_;clear hJ J;walk_nrm))
 refine yek _ ?_
 clear hK hV key yek K
 have hn6 : norm (V5.alloc (.cells #[.int .i64 1,.int .i64 0] 3)) = (V5.alloc (.cells #[.int .i64 1,.int .i64 0] 3)):=norm_al hn5 _
 refine mua_put (L:=Lone) (v:=.slice (some ⟨V5.heap.size,0,none⟩) 2 2) (mua_to0 hn6) (K:=fun g=>To0 Try.prog Post Z' V5 g) (K':=fun g=>To0 Try.prog Post Z' (V5.alloc (.cells #[.int .i64 1,.int .i64 0] 3)) g) rfl (.inl rfl) rfl (by kernel_rfl) (fun τ=>?_) ?_
 · go_simp
   first | exact ⟨by first | rfl | assumption | (simp only [re]; omega),rfl⟩ | rfl | (simp; done)
 have sV6 : (V5.alloc (.cells #[.int .i64 1,.int .i64 0] 3)).heap.size = V5.heap.size + 1:=al_size _ _
 have kV6 : Kp V5 (V5.alloc (.cells #[.int .i64 1,.int .i64 0] 3)):=kp_alloc _ _
 have rV6 : (V5.alloc (.cells #[.int .i64 1,.int .i64 0] 3)).heap[V5.heap.size]? = some (.cells #[.int .i64 1,.int .i64 0] 3):=by rw [al_get,if_pos rfl]
 generalize (V5.alloc (.cells #[.int .i64 1,.int .i64 0] 3)) = V6 at *
 walk_nrm
 obtain ⟨K,hK,hV,key,yek⟩:=kKV (L:=Lone) (J:=fun g=>To0 Try.prog Post Z' V6 g) mu_to0 (muv_to0 hn6)
 refine key _ ?_
 repeat (first|(with_reducible first|refine mu_seq hK ?_|refine mu_skip hK ?_|(refine mu_region_end hK ?_;try subst hkk)|refine mu_block hK ?_|refine mu_inBlock hK ?_|refine mu_ret hK ?_|refine mu_end hK ?_)|refine mu_exit hK rfl ?_|(with_reducible refine mu_regionH hK (fun kk hkk=>?_);simp only [List.size_toArray,List.length_cons,List.length_nil,Nat.reduceAdd,Nat.zero_add,List.range,List.range.loop])|(with_reducible refine mu_cf hK ?_ ?_;(· first|(walk_nrm;done)|(simp [Act.eval];done)))|(with_reducible refine mu_ct hK ?_ ?_;(· first|(walk_nrm;done)|(simp [Act.eval];done)))|(refine mu_unwanted hK rfl rfl ?_;walk_nrm)|(refine muv_val hV rfl (by first|exact .inl rfl|exact .inr rfl) rfl (by kernel_rfl) (fun J hJ=>?_);go_simp;with_reducible refine hJ _ ?_;clear hJ J;walk_nrm))
 refine mu_call hK rfl rfl (by decide) rfl Try.func21 (by kernel_rfl) rfl ?_
 rw [← enter_at (P:=Try.prog) _ Try.func21 rfl]
 walk_nrm
 refine yek _ ?_
 clear hK hV key yek K
 refine to0_new (by decide) (fun τ=>same21 A1 _ 2 c1 2 (fun j=>([1,0] : List Int).getD j 0) _ (kV6.rds R1) (rds_block (cs:=#[.int .i64 1,.int .i64 0]) rV6 (by decide) fun j hj=>?_)) fun V7 hn7 k7=>?_
 · match j,hj with
   | 0,_=>rfl
   | 1,_=>rfl
 rw [Frame.finish_at]
 walk_nrm
 obtain ⟨K,hK,hV,key,yek⟩:=kKV (L:=Lone) (J:=fun g=>To0 Try.prog Post Z' V7 g) mu_to0 (muv_to0 hn7)
 refine key _ ?_
 repeat (first|(with_reducible first|refine mu_seq hK ?_|refine mu_skip hK ?_|(refine mu_region_end hK ?_;try subst hkk)|refine mu_block hK ?_|refine mu_inBlock hK ?_|refine mu_ret hK ?_|refine mu_end hK ?_)|refine mu_exit hK rfl ?_|(with_reducible refine mu_regionH hK (fun kk hkk=>?_);simp only [List.size_toArray,List.length_cons,List.length_nil,Nat.reduceAdd,Nat.zero_add,List.range,List.range.loop])|(with_reducible refine mu_cf hK ?_ ?_;(· first|(walk_nrm;done)|(simp [Act.eval];done)))|(with_reducible refine mu_ct hK ?_ ?_;(· first|(walk_nrm;done)|(simp [Act.eval];done)))|(refine mu_unwanted hK rfl rfl ?_;walk_nrm)|(refine muv_val hV rfl (by first|exact .inl rfl|exact .inr rfl) rfl (by kernel_rfl) (fun J hJ=>?_);go_simp;with_reducible refine hJ _ ?_;clear hJ J;walk_nrm))
 refine mu_leave1 hK rfl rfl Try.func43 rfl ?_
 walk_nrm
 refine yek _ ?_
 clear hK hV key yek K
 exact K0 Z' V7 hn7 hz5 hzo (k5.trans (kV6.trans k7))
end
end Go.Proofs.Ytibcdikfbhmheaa
