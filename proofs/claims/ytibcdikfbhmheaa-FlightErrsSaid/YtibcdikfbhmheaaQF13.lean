import Derived.Test.YtibcdikfbhmheaaQF12
set_option linter.unusedSimpArgs false
set_option linter.unusedVariables false
set_option maxRecDepth 100000
set_option maxHeartbeats 4000000
namespace Go.Proofs.Ytibcdikfbhmheaa
open Go Go.Conc Go.Proofs
open Go.ConcN (sumTo upd sumTo_upd upd_ne upd_same)
set_option linter.unusedVariables false
section
variable {W V : World} {Z : Cuts} {k : Int × Int}
theorem flight_errs (L : LS W Z V) : To0 Try.prog (LPost W) Z V (G (Frame.enter Try.prog 16 #[.agg #[.int .i64 k.1,.int .i64 k.2]] .normal) []):=by
 have hn:=L.n
 obtain ⟨r,hr⟩ : ∃ r,V.heap.size = r:=⟨_,rfl⟩
 have kp : Kp V V:=⟨Nat.le_refl _,fun _ _=>rfl⟩
 have sV : V.heap.size = r + 0:=hr
 have hM : MarkK Try.prog true Z (fun d g V=>To0d Try.prog (LPost W) Z d V g):=markTo0
 obtain ⟨KK,eKK⟩ : ∃ KK : Nat → Goroutine → World → Prop,KK = fun d g V=>To0d Try.prog (LPost W) Z d V g:=⟨_,rfl⟩
 have hKK : ∀ g V,KK 0 g V → To0 Try.prog (LPost W) Z V g:=fun g V h=>by rw [eKK] at h; exact h
 have hKK' : ∀ g V,To0 Try.prog (LPost W) Z V g → KK 0 g V:=fun g V h=>by rw [eKK]; exact h
 rw [← eKK] at hM
 clear eKK
 refine hKK _ _ ?_
 rw [enter_at (P:=Try.prog) _ Try.func16 rfl]
 simp only [Try.f16]
 walk_nrm
 obtain ⟨K,hK,hV,key,yek⟩:=kKV (L:=Lone) (J:=fun g=>KK 0 g V) hM.mu (hM.muv hn)
 refine key _ ?_
 repeat (first|(with_reducible first|apply hK.sq|apply hK.sk|(apply hK.re;try subst hkk)|apply hK.bl|apply hK.ib|apply hK.rt|apply hK.nd)|refine hK.ex rfl ?_|(with_reducible refine hK.rg fun kk hkk=>?_;simp only [ix,Nat.reduceAdd])|(with_reducible first|refine hK.cf ?_|refine hK.ct ?_)|(refine hK.uw rfl rfl ?_;walk_nrm)|(refine hV.vl rfl rfl fun J hJ=>?_;go_simp;with_reducible refine hJ _ ?_;clear hJ J;walk_nrm))
 refine yek _ ?_
 clear hK hV key yek K
 have hnT1:=norm_al hn (.cells #[.int .i64 k.1,.int .i64 k.2] 139)
 refine mua_put (L:=Lone) (v:=.pointer (some ⟨V.heap.size,0,none⟩)) (hM.mua hnT1) (K:=fun g=>KK 0 g V) (K':=fun g=>KK 0 g (V.alloc (.cells #[.int .i64 k.1,.int .i64 k.2] 139))) rfl (.inl rfl) rfl (by kernel_rfl) (fun τ=>?_) ?_
 · go_simp
   first | exact ⟨by first | rfl | assumption | (simp only [re]; omega),rfl⟩ | rfl | (simp; done)
 have kT1:=al_kp V (.cells #[.int .i64 k.1,.int .i64 k.2] 139)
 have sT1 : (V.alloc (.cells #[.int .i64 k.1,.int .i64 k.2] 139)).heap.size = r + 1:=by rw [al_size,sV]
 have B:=al_at V (.cells #[.int .i64 k.1,.int .i64 k.2] 139)
 generalize (V.alloc (.cells #[.int .i64 k.1,.int .i64 k.2] 139)) = T1 at *
 rw [sV] at B ⊢
 have lT1 : V.heap.size ≤ T1.heap.size:=by omega
 replace kp : Kp V T1:=⟨Nat.le_trans kp.size lT1,fun b hb=>(kT1 b (Nat.lt_of_lt_of_le hb kp.size) (by omega)).trans (kp.keep b hb)⟩
 clear kT1 lT1
 walk_nrm
 obtain ⟨K,hK,hV,key,yek⟩:=kKV (L:=Lone) (J:=fun g=>KK 0 g T1) hM.mu (hM.muv hnT1)
 refine key _ ?_
 repeat (first|(with_reducible first|apply hK.sq|apply hK.sk|(apply hK.re;try subst hkk)|apply hK.bl|apply hK.ib|apply hK.rt|apply hK.nd)|refine hK.ex rfl ?_|(with_reducible refine hK.rg fun kk hkk=>?_;simp only [ix,Nat.reduceAdd])|(with_reducible first|refine hK.cf ?_|refine hK.ct ?_)|(refine hK.uw rfl rfl ?_;walk_nrm)|(refine hV.vl rfl rfl fun J hJ=>?_;go_simp;with_reducible refine hJ _ ?_;clear hJ J;walk_nrm))
 refine hK.cl rfl rfl rfl Try.func60 rfl ?_
 walk_nrm
 refine yek _ ?_
 clear hK hV key yek K
 refine new_go hM hnT1 fun V1 n1 k1 s1 e_m e_g=>?_
 rw [sT1] at s1 e_m e_g ⊢
 have kp1:=kp.trans k1
 have B1:=(k1.keep _ (glt B)).trans B
 have sV1 : V1.heap.size = r + 3:=by omega
 clear k1 s1 B kp
 walk_nrm
 obtain ⟨K,hK,hV,key,yek⟩:=kKV (L:=Lone) (J:=fun g=>KK 0 g V1) hM.mu (hM.muv n1)
 refine key _ ?_
 repeat (first|(with_reducible first|apply hK.sq|apply hK.sk|(apply hK.re;try subst hkk)|apply hK.bl|apply hK.ib|apply hK.rt|apply hK.nd)|refine hK.ex rfl ?_|(with_reducible refine hK.rg fun kk hkk=>?_;simp only [ix,Nat.reduceAdd])|(with_reducible first|refine hK.cf ?_|refine hK.ct ?_)|(refine hK.uw rfl rfl ?_;walk_nrm)|(refine hV.vl rfl rfl fun J hJ=>?_;go_simp;with_reducible refine hJ _ ?_;clear hJ J;walk_nrm))
 refine yek _ ?_
 clear hK hV key yek K
 have hnU1:=norm_al n1 (.cells #[.pointer none] 130)
 refine mua_put (L:=Lone) (v:=.pointer (some ⟨V1.heap.size,0,none⟩)) (hM.mua hnU1) (K:=fun g=>KK 0 g V1) (K':=fun g=>KK 0 g (V1.alloc (.cells #[.pointer none] 130))) rfl (.inl rfl) rfl (by kernel_rfl) (fun τ=>?_) ?_
 · go_simp
   first | exact ⟨by first | rfl | assumption | (simp only [re]; omega),rfl⟩ | rfl | (simp; done)
 have kU1:=al_kp V1 (.cells #[.pointer none] 130)
 have sU1 : (V1.alloc (.cells #[.pointer none] 130)).heap.size = r + 4:=by rw [al_size,sV1]
 have X:=al_at V1 (.cells #[.pointer none] 130)
 generalize (V1.alloc (.cells #[.pointer none] 130)) = U1 at *
 rw [sV1] at X ⊢
 have lU1 : V1.heap.size ≤ U1.heap.size:=by omega
 replace kp1 : Kp V U1:=⟨Nat.le_trans kp1.size lU1,fun b hb=>(kU1 b (Nat.lt_of_lt_of_le hb kp1.size) (by omega)).trans (kp1.keep b hb)⟩
 replace e_g : U1.heap[r + 1 + 1]? = some (.cells #[.map (some (r + 1))] 190 (0,0)):=(kU1 _ (glt e_g) (by omega)).trans e_g
 replace B1 : U1.heap[r + 0]? = some (.cells #[.int .i64 k.1,.int .i64 k.2] 139 (0,0)):=(kU1 _ (glt B1) (by omega)).trans B1
 replace e_m : U1.heap[r + 1]? = some (.map #[] 0):=(kU1 (r + 1) (glt e_m) (by omega)).trans e_m
 clear kU1 lU1
 walk_nrm
 have r_X_0 : ∀ τ,(re U1 τ 0).cell? ⟨r + 3,0,none⟩ = some (.pointer none):=fun τ=>cell_of X (by simp)
 have z_X_0 : ∀ τ,(re U1 τ 0).frozen? ⟨r + 3,0,none⟩ = false:=fun τ=>by simp [World.frozen?,re,X]
 have hnU2:=norm_set hnU1 ⟨r + 3,0,none⟩ (.pointer (some ⟨r + 1 + 1,0,none⟩))
 refine mus_put (L:=Lone) (hM.mus hnU2) (K:=fun g=>KK 0 g U1) (K':=fun g=>KK 0 g (U1.setCell ⟨r + 3,0,none⟩ (.pointer (some ⟨r + 1 + 1,0,none⟩)))) rfl (.inl rfl) rfl (by kernel_rfl) (fun τ=>?_) ?_
 · go_simp
   try rfl
 have kU2:=sc_kp U1 (r + 3) 0 (.pointer (some ⟨r + 1 + 1,0,none⟩))
 have lU2:=sc_le U1 (r + 3) 0 (.pointer (some ⟨r + 1 + 1,0,none⟩))
 have eU2 : (U1.setCell ⟨r + 3,0,none⟩ (.pointer (some ⟨r + 1 + 1,0,none⟩))).heap[r + 3]? = some (.cells #[.pointer (some ⟨r + 1 + 1,0,none⟩)] 130 (0,0)):=by
   rw [setCell_heap,if_pos rfl,X]
   simp
 have sU2 : (U1.setCell ⟨r + 3,0,none⟩ (.pointer (some ⟨r + 1 + 1,0,none⟩))).heap.size = r + 4:=by
   rw [show (U1.setCell ⟨r + 3,0,none⟩ (.pointer (some ⟨r + 1 + 1,0,none⟩))).heap.size = U1.heap.size by simp [World.setCell]]
   exact sU1
 generalize (U1.setCell ⟨r + 3,0,none⟩ (.pointer (some ⟨r + 1 + 1,0,none⟩))) = U2 at *
 replace X:=eU2
 clear eU2
 clear r_X_0 z_X_0
 replace kp1 : Kp V U2:=⟨Nat.le_trans kp1.size lU2,fun b hb=>(kU2 b (Nat.lt_of_lt_of_le hb kp1.size) (by omega)).trans (kp1.keep b hb)⟩
 replace e_g : U2.heap[r + 1 + 1]? = some (.cells #[.map (some (r + 1))] 190 (0,0)):=(kU2 _ (glt e_g) (by omega)).trans e_g
 replace B1 : U2.heap[r + 0]? = some (.cells #[.int .i64 k.1,.int .i64 k.2] 139 (0,0)):=(kU2 _ (glt B1) (by omega)).trans B1
 replace e_m : U2.heap[r + 1]? = some (.map #[] 0):=(kU2 (r + 1) (glt e_m) (by omega)).trans e_m
 clear kU2
 walk_nrm
 obtain ⟨K,hK,hV,key,yek⟩:=kKV (L:=Lone) (J:=fun g=>KK 0 g U2) hM.mu (hM.muv hnU2)
 refine key _ ?_
 repeat (first|(with_reducible first|apply hK.sq|apply hK.sk|(apply hK.re;try subst hkk)|apply hK.bl|apply hK.ib|apply hK.rt|apply hK.nd)|refine hK.ex rfl ?_|(with_reducible refine hK.rg fun kk hkk=>?_;simp only [ix,Nat.reduceAdd])|(with_reducible first|refine hK.cf ?_|refine hK.ct ?_)|(refine hK.uw rfl rfl ?_;walk_nrm)|(refine hV.vl rfl rfl fun J hJ=>?_;go_simp;with_reducible refine hJ _ ?_;clear hJ J;walk_nrm))
 refine yek _ ?_
 clear hK hV key yek K
 have hnU3:=norm_al hnU2 (.cells #[.pointer none] 130)
 refine mua_put (L:=Lone) (v:=.pointer (some ⟨U2.heap.size,0,none⟩)) (hM.mua hnU3) (K:=fun g=>KK 0 g U2) (K':=fun g=>KK 0 g (U2.alloc (.cells #[.pointer none] 130))) rfl (.inl rfl) rfl (by kernel_rfl) (fun τ=>?_) ?_
 · go_simp
   first | exact ⟨by first | rfl | assumption | (simp only [re]; omega),rfl⟩ | rfl | (simp; done)
 have kU3:=al_kp U2 (.cells #[.pointer none] 130)
 have sU3 : (U2.alloc (.cells #[.pointer none] 130)).heap.size = r + 5:=by rw [al_size,sU2]
 have Nn:=al_at U2 (.cells #[.pointer none] 130)
 generalize (U2.alloc (.cells #[.pointer none] 130)) = U3 at *
 rw [sU2] at Nn ⊢
 have lU3 : U2.heap.size ≤ U3.heap.size:=by omega
 replace kp1 : Kp V U3:=⟨Nat.le_trans kp1.size lU3,fun b hb=>(kU3 b (Nat.lt_of_lt_of_le hb kp1.size) (by omega)).trans (kp1.keep b hb)⟩
 replace e_g : U3.heap[r + 1 + 1]? = some (.cells #[.map (some (r + 1))] 190 (0,0)):=(kU3 _ (glt e_g) (by omega)).trans e_g
 replace B1 : U3.heap[r + 0]? = some (.cells #[.int .i64 k.1,.int .i64 k.2] 139 (0,0)):=(kU3 _ (glt B1) (by omega)).trans B1
 replace e_m : U3.heap[r + 1]? = some (.map #[] 0):=(kU3 (r + 1) (glt e_m) (by omega)).trans e_m
 replace X : U3.heap[r + 3]? = some (.cells #[.pointer (some ⟨r + 1 + 1,0,none⟩)] 130 (0,0)):=(kU3 _ (glt X) (by omega)).trans X
 clear kU3 lU3
 walk_nrm
 obtain ⟨K,hK,hV,key,yek⟩:=kKV (L:=Lone) (J:=fun g=>KK 0 g U3) hM.mu (hM.muv hnU3)
 refine key _ ?_
 repeat (first|(with_reducible first|apply hK.sq|apply hK.sk|(apply hK.re;try subst hkk)|apply hK.bl|apply hK.ib|apply hK.rt|apply hK.nd)|refine hK.ex rfl ?_|(with_reducible refine hK.rg fun kk hkk=>?_;simp only [ix,Nat.reduceAdd])|(with_reducible first|refine hK.cf ?_|refine hK.ct ?_)|(refine hK.uw rfl rfl ?_;walk_nrm)|(refine hV.vl rfl rfl fun J hJ=>?_;go_simp;with_reducible refine hJ _ ?_;clear hJ J;walk_nrm))
 refine yek _ ?_
 clear hK hV key yek K
 have hnU4:=norm_al hnU3 (.cells #[.slice none 0 0,.int .i64 0] 95)
 refine mua_put (L:=Lone) (v:=.pointer (some ⟨U3.heap.size,0,none⟩)) (hM.mua hnU4) (K:=fun g=>KK 0 g U3) (K':=fun g=>KK 0 g (U3.alloc (.cells #[.slice none 0 0,.int .i64 0] 95))) rfl (.inl rfl) rfl (by kernel_rfl) (fun τ=>?_) ?_
 · go_simp
   first | exact ⟨by first | rfl | assumption | (simp only [re]; omega),rfl⟩ | rfl | (simp; done)
 have kU4:=al_kp U3 (.cells #[.slice none 0 0,.int .i64 0] 95)
 have sU4 : (U3.alloc (.cells #[.slice none 0 0,.int .i64 0] 95)).heap.size = r + 6:=by rw [al_size,sU3]
 have M:=al_at U3 (.cells #[.slice none 0 0,.int .i64 0] 95)
 generalize (U3.alloc (.cells #[.slice none 0 0,.int .i64 0] 95)) = U4 at *
 rw [sU3] at M ⊢
 have lU4 : U3.heap.size ≤ U4.heap.size:=by omega
 replace kp1 : Kp V U4:=⟨Nat.le_trans kp1.size lU4,fun b hb=>(kU4 b (Nat.lt_of_lt_of_le hb kp1.size) (by omega)).trans (kp1.keep b hb)⟩
 replace e_g : U4.heap[r + 1 + 1]? = some (.cells #[.map (some (r + 1))] 190 (0,0)):=(kU4 _ (glt e_g) (by omega)).trans e_g
 replace B1 : U4.heap[r + 0]? = some (.cells #[.int .i64 k.1,.int .i64 k.2] 139 (0,0)):=(kU4 _ (glt B1) (by omega)).trans B1
 replace e_m : U4.heap[r + 1]? = some (.map #[] 0):=(kU4 (r + 1) (glt e_m) (by omega)).trans e_m
 replace X : U4.heap[r + 3]? = some (.cells #[.pointer (some ⟨r + 1 + 1,0,none⟩)] 130 (0,0)):=(kU4 _ (glt X) (by omega)).trans X
 replace Nn : U4.heap[r + 4]? = some (.cells #[.pointer none] 130 (0,0)):=(kU4 _ (glt Nn) (by omega)).trans Nn
 clear kU4 lU4
 walk_nrm
 have r_X_0 : ∀ τ,(re U4 τ 0).cell? ⟨r + 3,0,none⟩ = some (.pointer (some ⟨r + 1 + 1,0,none⟩)):=fun τ=>cell_of X (by simp)
 obtain ⟨K,hK,hV,key,yek⟩:=kKV (L:=Lone) (J:=fun g=>KK 0 g U4) hM.mu (hM.muv hnU4)
 refine key _ ?_
 repeat (first|(with_reducible first|apply hK.sq|apply hK.sk|(apply hK.re;try subst hkk)|apply hK.bl|apply hK.ib|apply hK.rt|apply hK.nd)|refine hK.ex rfl ?_|(with_reducible refine hK.rg fun kk hkk=>?_;simp only [ix,Nat.reduceAdd])|(with_reducible first|refine hK.cf ?_|refine hK.ct ?_)|(refine hK.uw rfl rfl ?_;walk_nrm)|(refine hV.vl rfl rfl fun J hJ=>?_;go_simp;with_reducible refine hJ _ ?_;clear hJ J;walk_nrm))
 refine yek _ ?_
 clear hK hV key yek K
 have hnU5:=norm_al hnU4 (.cells #[.bool false] 4)
 refine mua_put (L:=Lone) (v:=.pointer (some ⟨U4.heap.size,0,none⟩)) (hM.mua hnU5) (K:=fun g=>KK 0 g U4) (K':=fun g=>KK 0 g (U4.alloc (.cells #[.bool false] 4))) rfl (.inl rfl) rfl (by kernel_rfl) (fun τ=>?_) ?_
 · go_simp
   first | exact ⟨by first | rfl | assumption | (simp only [re]; omega),rfl⟩ | rfl | (simp; done)
 have kU5:=al_kp U4 (.cells #[.bool false] 4)
 have sU5 : (U4.alloc (.cells #[.bool false] 4)).heap.size = r + 7:=by rw [al_size,sU4]
 have O:=al_at U4 (.cells #[.bool false] 4)
 generalize (U4.alloc (.cells #[.bool false] 4)) = U5 at *
 rw [sU4] at O ⊢
 have lU5 : U4.heap.size ≤ U5.heap.size:=by omega
 clear r_X_0
 replace kp1 : Kp V U5:=⟨Nat.le_trans kp1.size lU5,fun b hb=>(kU5 b (Nat.lt_of_lt_of_le hb kp1.size) (by omega)).trans (kp1.keep b hb)⟩
 replace e_g : U5.heap[r + 1 + 1]? = some (.cells #[.map (some (r + 1))] 190 (0,0)):=(kU5 _ (glt e_g) (by omega)).trans e_g
 replace B1 : U5.heap[r + 0]? = some (.cells #[.int .i64 k.1,.int .i64 k.2] 139 (0,0)):=(kU5 _ (glt B1) (by omega)).trans B1
 replace e_m : U5.heap[r + 1]? = some (.map #[] 0):=(kU5 (r + 1) (glt e_m) (by omega)).trans e_m
 replace X : U5.heap[r + 3]? = some (.cells #[.pointer (some ⟨r + 1 + 1,0,none⟩)] 130 (0,0)):=(kU5 _ (glt X) (by omega)).trans X
 replace Nn : U5.heap[r + 4]? = some (.cells #[.pointer none] 130 (0,0)):=(kU5 _ (glt Nn) (by omega)).trans Nn
 replace M : U5.heap[r + 5]? = some (.cells #[.slice none 0 0,.int .i64 0] 95 (0,0)):=(kU5 _ (glt M) (by omega)).trans M
 clear kU5 lU5
 walk_nrm
 have r_O_0 : ∀ τ,(re U5 τ 0).cell? ⟨r + 6,0,none⟩ = some (.bool false):=fun τ=>cell_of O (by simp)
 have z_O_0 : ∀ τ,(re U5 τ 0).frozen? ⟨r + 6,0,none⟩ = false:=fun τ=>by simp [World.frozen?,re,O]
 have hnU6:=norm_set hnU5 ⟨r + 6,0,none⟩ (.bool true)
 refine mus_put (L:=Lone) (hM.mus hnU6) (K:=fun g=>KK 0 g U5) (K':=fun g=>KK 0 g (U5.setCell ⟨r + 6,0,none⟩ (.bool true))) rfl (.inl rfl) rfl (by kernel_rfl) (fun τ=>?_) ?_
 · go_simp
   try rfl
 have kU6:=sc_kp U5 (r + 6) 0 (.bool true)
 have lU6:=sc_le U5 (r + 6) 0 (.bool true)
 have eU6 : (U5.setCell ⟨r + 6,0,none⟩ (.bool true)).heap[r + 6]? = some (.cells #[.bool true] 4 (0,0)):=by
   rw [setCell_heap,if_pos rfl,O]
   simp
 have sU6 : (U5.setCell ⟨r + 6,0,none⟩ (.bool true)).heap.size = r + 7:=by
   rw [show (U5.setCell ⟨r + 6,0,none⟩ (.bool true)).heap.size = U5.heap.size by simp [World.setCell]]
   exact sU5
 generalize (U5.setCell ⟨r + 6,0,none⟩ (.bool true)) = U6 at *
 replace O:=eU6
 clear eU6
 clear r_O_0 z_O_0
 replace kp1 : Kp V U6:=⟨Nat.le_trans kp1.size lU6,fun b hb=>(kU6 b (Nat.lt_of_lt_of_le hb kp1.size) (by omega)).trans (kp1.keep b hb)⟩
 replace e_g : U6.heap[r + 1 + 1]? = some (.cells #[.map (some (r + 1))] 190 (0,0)):=(kU6 _ (glt e_g) (by omega)).trans e_g
 replace B1 : U6.heap[r + 0]? = some (.cells #[.int .i64 k.1,.int .i64 k.2] 139 (0,0)):=(kU6 _ (glt B1) (by omega)).trans B1
 replace e_m : U6.heap[r + 1]? = some (.map #[] 0):=(kU6 (r + 1) (glt e_m) (by omega)).trans e_m
 replace X : U6.heap[r + 3]? = some (.cells #[.pointer (some ⟨r + 1 + 1,0,none⟩)] 130 (0,0)):=(kU6 _ (glt X) (by omega)).trans X
 replace Nn : U6.heap[r + 4]? = some (.cells #[.pointer none] 130 (0,0)):=(kU6 _ (glt Nn) (by omega)).trans Nn
 replace M : U6.heap[r + 5]? = some (.cells #[.slice none 0 0,.int .i64 0] 95 (0,0)):=(kU6 _ (glt M) (by omega)).trans M
 clear kU6
 walk_nrm
 obtain ⟨K,hK,hV,key,yek⟩:=kKV (L:=Lone) (J:=fun g=>KK 0 g U6) hM.mu (hM.muv hnU6)
 refine key _ ?_
 repeat (first|(with_reducible first|apply hK.sq|apply hK.sk|(apply hK.re;try subst hkk)|apply hK.bl|apply hK.ib|apply hK.rt|apply hK.nd)|refine hK.ex rfl ?_|(with_reducible refine hK.rg fun kk hkk=>?_;simp only [ix,Nat.reduceAdd])|(with_reducible first|refine hK.cf ?_|refine hK.ct ?_)|(refine hK.uw rfl rfl ?_;walk_nrm)|(refine hV.vl rfl rfl fun J hJ=>?_;go_simp;with_reducible refine hJ _ ?_;clear hJ J;walk_nrm))
 refine yek _ ?_
 clear hK hV key yek K
 have hnU7:=norm_al hnU6 (.cells #[.func (.func 72) #[] #[.pointer (some ⟨r + 4,0,none⟩),.pointer (some ⟨r + 5,0,none⟩),.pointer (some ⟨r + 0,0,none⟩),.pointer (some ⟨r + 3,0,none⟩),.pointer (some ⟨r + 6,0,none⟩)]] 70)
 refine mua_put (L:=Lone) (v:=.slice (some ⟨U6.heap.size,0,none⟩) 1 1) (hM.mua hnU7) (K:=fun g=>KK 0 g U6) (K':=fun g=>KK 0 g (U6.alloc (.cells #[.func (.func 72) #[] #[.pointer (some ⟨r + 4,0,none⟩),.pointer (some ⟨r + 5,0,none⟩),.pointer (some ⟨r + 0,0,none⟩),.pointer (some ⟨r + 3,0,none⟩),.pointer (some ⟨r + 6,0,none⟩)]] 70))) rfl (.inl rfl) rfl (by kernel_rfl) (fun τ=>?_) ?_
 · go_simp
   first | exact ⟨by first | rfl | assumption | (simp only [re]; omega),rfl⟩ | rfl | (simp; done)
 have kU7:=al_kp U6 (.cells #[.func (.func 72) #[] #[.pointer (some ⟨r + 4,0,none⟩),.pointer (some ⟨r + 5,0,none⟩),.pointer (some ⟨r + 0,0,none⟩),.pointer (some ⟨r + 3,0,none⟩),.pointer (some ⟨r + 6,0,none⟩)]] 70)
 have sU7 : (U6.alloc (.cells #[.func (.func 72) #[] #[.pointer (some ⟨r + 4,0,none⟩),.pointer (some ⟨r + 5,0,none⟩),.pointer (some ⟨r + 0,0,none⟩),.pointer (some ⟨r + 3,0,none⟩),.pointer (some ⟨r + 6,0,none⟩)]] 70)).heap.size = r + 8:=by rw [al_size,sU6]
 have Ro:=al_at U6 (.cells #[.func (.func 72) #[] #[.pointer (some ⟨r + 4,0,none⟩),.pointer (some ⟨r + 5,0,none⟩),.pointer (some ⟨r + 0,0,none⟩),.pointer (some ⟨r + 3,0,none⟩),.pointer (some ⟨r + 6,0,none⟩)]] 70)
 generalize (U6.alloc (.cells #[.func (.func 72) #[] #[.pointer (some ⟨r + 4,0,none⟩),.pointer (some ⟨r + 5,0,none⟩),.pointer (some ⟨r + 0,0,none⟩),.pointer (some ⟨r + 3,0,none⟩),.pointer (some ⟨r + 6,0,none⟩)]] 70)) = U7 at *
 rw [sU6] at Ro ⊢
 have lU7 : U6.heap.size ≤ U7.heap.size:=by omega
 replace kp1 : Kp V U7:=⟨Nat.le_trans kp1.size lU7,fun b hb=>(kU7 b (Nat.lt_of_lt_of_le hb kp1.size) (by omega)).trans (kp1.keep b hb)⟩
 replace e_g : U7.heap[r + 1 + 1]? = some (.cells #[.map (some (r + 1))] 190 (0,0)):=(kU7 _ (glt e_g) (by omega)).trans e_g
 replace B1 : U7.heap[r + 0]? = some (.cells #[.int .i64 k.1,.int .i64 k.2] 139 (0,0)):=(kU7 _ (glt B1) (by omega)).trans B1
 replace e_m : U7.heap[r + 1]? = some (.map #[] 0):=(kU7 (r + 1) (glt e_m) (by omega)).trans e_m
 replace X : U7.heap[r + 3]? = some (.cells #[.pointer (some ⟨r + 1 + 1,0,none⟩)] 130 (0,0)):=(kU7 _ (glt X) (by omega)).trans X
 replace Nn : U7.heap[r + 4]? = some (.cells #[.pointer none] 130 (0,0)):=(kU7 _ (glt Nn) (by omega)).trans Nn
 replace M : U7.heap[r + 5]? = some (.cells #[.slice none 0 0,.int .i64 0] 95 (0,0)):=(kU7 _ (glt M) (by omega)).trans M
 replace O : U7.heap[r + 6]? = some (.cells #[.bool true] 4 (0,0)):=(kU7 _ (glt O) (by omega)).trans O
 clear kU7 lU7
 walk_nrm
 obtain ⟨K,hK,hV,key,yek⟩:=kKV (L:=Lone) (J:=fun g=>KK 0 g U7) hM.mu (hM.muv hnU7)
 refine key _ ?_
 repeat (first|(with_reducible first|apply hK.sq|apply hK.sk|(apply hK.re;try subst hkk)|apply hK.bl|apply hK.ib|apply hK.rt|apply hK.nd)|refine hK.ex rfl ?_|(with_reducible refine hK.rg fun kk hkk=>?_;simp only [ix,Nat.reduceAdd])|(with_reducible first|refine hK.cf ?_|refine hK.ct ?_)|(refine hK.uw rfl rfl ?_;walk_nrm)|(refine hV.vl rfl rfl fun J hJ=>?_;go_simp;with_reducible refine hJ _ ?_;clear hJ J;walk_nrm))
 refine hK.cl rfl rfl rfl Try.func23 rfl ?_
 walk_nrm
 refine yek _ ?_
 clear hK hV key yek K
 refine hKK' _ _ ?_
 obtain ⟨D,hD⟩ : ∃ D : Fd,D = ⟨k,r,r + 1,r + 1 + 1,r + 3,r + 4,r + 5,r + 6⟩:=⟨_,rfl⟩
 have hF : FnRow U7 (.slice (some ⟨r + 7,0,none⟩) 1 1) [.func (.func 72) #[] #[.pointer (some ⟨r + 4,0,none⟩),.pointer (some ⟨r + 5,0,none⟩),.pointer (some ⟨r + 0,0,none⟩),.pointer (some ⟨r + 3,0,none⟩),.pointer (some ⟨r + 6,0,none⟩)]]:=by
   refine ⟨⟨_,1,rfl,fun _=>⟨r + 7,0,rfl,by omega,fun k hk=>cell_of Ro ?_⟩⟩,fun k hk=>.inr ?_⟩
   · match k,hk with
     | 0,_=>rfl
   · match k,hk with
     | 0,_=>exact ⟨72,_,_,rfl⟩
 have hP : Pks U7 (fun b=>r ≤ b ∧ b ≤ r + 6) (.slice none 0 0) []:=⟨⟨_,_,rfl,fun h=>absurd h (by decide)⟩,by decide⟩
 have hI : FdI D (fun b=>r ≤ b ∧ b ≤ r + 6) U7:=by
   subst hD
   exact ⟨⟨Nn,B1,O,by show r ≤ r + 4 ∧ r + 4 ≤ r + 6; omega,by show r ≤ r ∧ r ≤ r + 6; omega,by show r ≤ r + 6 ∧ r + 6 ≤ r + 6; omega⟩,X,e_g,e_m,M,by show r ≤ r + 3 ∧ r + 3 ≤ r + 6; omega,by show r ≤ r + 1 + 1 ∧ r + 1 + 1 ≤ r + 6; omega,by show r ≤ r + 1 ∧ r + 1 ≤ r + 6; omega,by show r ≤ r + 5 ∧ r + 5 ≤ r + 6; omega,by show r < r + 1 ∧ r + 1 < r + 1 + 1 ∧ r + 1 + 1 < r + 3 ∧ r + 3 < r + 4 ∧ r + 4 < r + 5 ∧ r + 5 < r + 6; omega⟩
 refine run_go (U:=fun C=>Ufd D C) (σ0:=fun _=>(false : Bool)) (own0:=fun b=>r ≤ b ∧ b ≤ r + 6) (Rn:=30) hnU7 hF (by simp) L.z (fun b h=>by omega) hP.u (by decide) rfl (fun C E hO hCn hf=>?_) (fun C hCn i hi=>?_) (fun C hCn=>hI) fun C σ' xs' Z' V9 ov ovr pkr own' hCn he A=>?_
 · exact ufd_ok hCn ((hf 0).trans (by subst hD; rfl))
 · match i,hi with
   | 0,_=>rfl
 have hσ:=ufd_run D C σ' xs' he
 subst hσ
 have I : FdE D own' V9:=A.inv
 have hn9:=A.nrm
 have k9 : Kp V V9:=⟨by have:=A.big; omega,fun b hb=>(A.keep b (by omega) (by omega)).trans (kp1.keep b hb)⟩
 have L9:=L.next hn9 A.shut (fun b hb=>A.zold b (by omega)) k9
 have e_n9 : V9.heap[r + 4]? = some (.cells #[.pointer none] 130 (0,0)):=by have h:=I.n; subst hD; exact h
 have e_k9 : V9.heap[r]? = some (.cells #[.int .i64 k.1,.int .i64 k.2] 139 (0,0)):=by have h:=I.k; subst hD; exact h
 have e_o9 : V9.heap[r + 6]? = some (.cells #[.bool true] 4 (0,0)):=by have h:=I.ok; subst hD; exact h
 obtain ⟨ob,on,oc,rfl⟩:=slice_of A.o1
 obtain ⟨vb,vn,vc,rfl⟩:=slice_of A.o2
 obtain ⟨pb,pn,pc,rfl⟩:=slice_of A.o3
 clear A I he hF hP hM hKK hKK' hI
 have hM : MarkK Try.prog true Z' (fun d g V=>To0d Try.prog (LPost W) Z' d V g):=markTo0
 obtain ⟨KK,eKK⟩ : ∃ KK : Nat → Goroutine → World → Prop,KK = fun d g V=>To0d Try.prog (LPost W) Z' d V g:=⟨_,rfl⟩
 have hKK : ∀ g V,KK 0 g V → To0 Try.prog (LPost W) Z' V g:=fun g V h=>by rw [eKK] at h; exact h
 have hKK' : ∀ g V,To0 Try.prog (LPost W) Z' V g → KK 0 g V:=fun g V h=>by rw [eKK]; exact h
 rw [← eKK] at hM
 clear eKK
 refine hKK _ _ ?_
 walk_nrm
 have r_e_n9_0 : ∀ τ,(re V9 τ 0).cell? ⟨r + 4,0,none⟩ = some (.pointer none):=fun τ=>cell_of e_n9 (by simp)
 have r_e_k9_0 : ∀ τ,(re V9 τ 0).cell? ⟨r,0,none⟩ = some (.int .i64 k.1):=fun τ=>cell_of e_k9 (by simp)
 have r_e_k9_1 : ∀ τ,(re V9 τ 0).cell? ⟨r,1,none⟩ = some (.int .i64 k.2):=fun τ=>cell_of e_k9 (by simp)
 have r_e_o9_0 : ∀ τ,(re V9 τ 0).cell? ⟨r + 6,0,none⟩ = some (.bool true):=fun τ=>cell_of e_o9 (by simp)
 obtain ⟨K,hK,hV,key,yek⟩:=kKV (L:=Lone) (J:=fun g=>KK 0 g V9) hM.mu (hM.muv hn9)
 refine key _ ?_
 repeat (first|(with_reducible first|apply hK.sq|apply hK.sk|(apply hK.re;try subst hkk)|apply hK.bl|apply hK.ib|apply hK.rt|apply hK.nd)|refine hK.ex rfl ?_|(with_reducible refine hK.rg fun kk hkk=>?_;simp only [ix,Nat.reduceAdd])|(with_reducible first|refine hK.cf ?_|refine hK.ct ?_)|(refine hK.uw rfl rfl ?_;walk_nrm)|(refine hV.vl rfl rfl fun J hJ=>?_;go_simp;with_reducible refine hJ _ ?_;clear hJ J;walk_nrm))
 refine hK.cl rfl rfl rfl Try.func68 rfl ?_
 walk_nrm
 refine yek _ ?_
 clear hK hV key yek K
 clear r_e_k9_0 r_e_k9_1 r_e_n9_0 r_e_o9_0
 refine joined_nil (k:=k) hM hn9 fun VA hnA kA=>?_
 have e_n9:=(kA.keep _ (glt e_n9)).trans e_n9
 walk_nrm
 have r_e_n9_0 : ∀ τ,(re VA τ 0).cell? ⟨r + 4,0,none⟩ = some (.pointer none):=fun τ=>cell_of e_n9 (by simp)
 obtain ⟨K,hK,hV,key,yek⟩:=kKV (L:=Lone) (J:=fun g=>KK 0 g VA) hM.mu (hM.muv hnA)
 refine key _ ?_
 repeat (first|(with_reducible first|apply hK.sq|apply hK.sk|(apply hK.re;try subst hkk)|apply hK.bl|apply hK.ib|apply hK.rt|apply hK.nd)|refine hK.ex rfl ?_|(with_reducible refine hK.rg fun kk hkk=>?_;simp only [ix,Nat.reduceAdd])|(with_reducible first|refine hK.cf ?_|refine hK.ct ?_)|(refine hK.uw rfl rfl ?_;walk_nrm)|(refine hV.vl rfl rfl fun J hJ=>?_;go_simp;with_reducible refine hJ _ ?_;clear hJ J;walk_nrm))
 refine hK.cl rfl rfl rfl Try.func64 rfl ?_
 walk_nrm
 refine yek _ ?_
 clear hK hV key yek K
 clear r_e_n9_0
 refine keys_nil hM hnA ?_
 walk_nrm
 obtain ⟨K,hK,hV,key,yek⟩:=kKV (L:=Lone) (J:=fun g=>KK 0 g VA) hM.mu (hM.muv hnA)
 refine key _ ?_
 repeat (first|(with_reducible first|apply hK.sq|apply hK.sk|(apply hK.re;try subst hkk)|apply hK.bl|apply hK.ib|apply hK.rt|apply hK.nd)|refine hK.ex rfl ?_|(with_reducible refine hK.rg fun kk hkk=>?_;simp only [ix,Nat.reduceAdd])|(with_reducible first|refine hK.cf ?_|refine hK.ct ?_)|(refine hK.uw rfl rfl ?_;walk_nrm)|(refine hV.vl rfl rfl fun J hJ=>?_;go_simp;with_reducible refine hJ _ ?_;clear hJ J;walk_nrm))
 refine hK.cl rfl rfl rfl Try.func59 rfl ?_
 walk_nrm
 refine yek _ ?_
 clear hK hV key yek K
 refine hKK' _ _ ?_
 have LA:=L9.same hnA kA
 clear hM hKK hKK'
 refine live33_go hnA LA.z fun Z2 VB hnB hzB hzo kB=>?_
 have LB:=LA.next hnB hzB hzo kB
 have hM : MarkK Try.prog true Z2 (fun d g V=>To0d Try.prog (LPost W) Z2 d V g):=markTo0
 obtain ⟨KK,eKK⟩ : ∃ KK : Nat → Goroutine → World → Prop,KK = fun d g V=>To0d Try.prog (LPost W) Z2 d V g:=⟨_,rfl⟩
 have hKK : ∀ g V,KK 0 g V → To0 Try.prog (LPost W) Z2 V g:=fun g V h=>by rw [eKK] at h; exact h
 have hKK' : ∀ g V,To0 Try.prog (LPost W) Z2 V g → KK 0 g V:=fun g V h=>by rw [eKK]; exact h
 rw [← eKK] at hM
 clear eKK
 refine hKK _ _ ?_
 walk_nrm
 obtain ⟨K,hK,hV,key,yek⟩:=kKV (L:=Lone) (J:=fun g=>KK 0 g VB) hM.mu (hM.muv hnB)
 refine key _ ?_
 repeat (first|(with_reducible first|apply hK.sq|apply hK.sk|(apply hK.re;try subst hkk)|apply hK.bl|apply hK.ib|apply hK.rt|apply hK.nd)|refine hK.ex rfl ?_|(with_reducible refine hK.rg fun kk hkk=>?_;simp only [ix,Nat.reduceAdd])|(with_reducible first|refine hK.cf ?_|refine hK.ct ?_)|(refine hK.uw rfl rfl ?_;walk_nrm)|(refine hV.vl rfl rfl fun J hJ=>?_;go_simp;with_reducible refine hJ _ ?_;clear hJ J;walk_nrm))
 refine yek _ ?_
 clear hK hV key yek K
 exact hKK' _ _ (law_last (by kernel_rfl) rfl rfl Try.func16 rfl rfl LB.o LB.k)
end
end Go.Proofs.Ytibcdikfbhmheaa
