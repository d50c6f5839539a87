import Derived.Test.YtibcdikfbhmheaaQJ17
import Derived.Test.YtibcdikfbhmheaaQJ09
import Derived.Test.YtibcdikfbhmheaaB16
set_option linter.unusedSimpArgs false
set_option linter.unusedVariables false
set_option maxRecDepth 100000
set_option maxHeartbeats 4000000
namespace Go.Proofs.Ytibcdikfbhmheaa
open Go Go.Conc Go.Proofs
section
variable {V : World} {Z : Cuts} {Post : Value -> World -> Prop} {bQ : Frame} {aQ : Act} {opsQ : Array Oper} {iQ : Nat} {restQ : List Nat} {kQ : List Item} {cs0 : List Frame}
theorem live33_go (hn : norm V = V) (hz : ∀ b,Z b ≠ some (3,0,0))
   (K0 : ∀ Z' V',norm V' = V' -> (∀ b,Z' b ≠ some (3,0,0)) -> (∀ b,b < V.heap.size -> Z' b = Z b) -> Kp V V' -> To0 Try.prog Post Z' V' (G (bQ.at (aQ.put ((opsQ[iQ]?).bind (·.dst)) (.bool true)) (.inRegion opsQ restQ :: kQ)) cs0)) :
   To0 Try.prog Post Z V (G (Frame.enter Try.prog 59 #[] .normal) (bQ.at aQ (.inRegion opsQ (iQ :: restQ) :: kQ) :: cs0)):=by
 have hM : MarkK Try.prog true Z (fun d g V=>To0d Try.prog Post Z d V g):=markTo0
 obtain ⟨KK,eKK⟩ : ∃ KK : Nat -> Goroutine -> World -> Prop,KK = fun d g V=>To0d Try.prog Post Z d V g:=⟨_,rfl⟩
 have hKK : ∀ g V,KK 0 g V -> To0 Try.prog Post Z V g:=fun g V h=>by rw [eKK] at h; exact h
 have hKK' : ∀ g V,To0 Try.prog Post Z V g -> KK 0 g V:=fun g V h=>by rw [eKK]; exact h
 rw [← eKK] at hM
 clear eKK
 refine hKK _ _ ?_
 have k00 : ∀ b,b < V.heap.size -> V.heap[b]? = V.heap[b]?:=fun b _=>rfl
 obtain ⟨r,hr⟩ : ∃ r,V.heap.size = r:=⟨_,rfl⟩
 rw [enter_at (P:=Try.prog) _ Try.func59 rfl]
 simp only [Try.f59]
 walk_nrm
 refine wM hM hn fun kk hkk=>?_
 refine hM.cl rfl rfl rfl Try.func60 rfl ?_
 walk_nrm
 refine new_go hM hn fun V1 n1 k1 s1 e_m e_g=>?_
 rw [hr] at s1 e_m e_g ⊢
 have kp:=k1
 have sV1 : V1.heap.size = r + 2:=s1
 clear k1 s1
 walk_nrm
 refine wM hM n1 fun kk hkk=>?_
 refine hM.al n1 #[.pointer none] 130 (.pointer (some ⟨V1.heap.size,0,none⟩)) rfl rfl fun U1 hnU1 kU1 sU1 X=>?_
 rw [sV1] at sU1 X ⊢
 have lU1 : V1.heap.size <= U1.heap.size:=by omega
 replace kp:=kp.upA lU1 kU1
 replace e_g:=(kU1 _ (glt e_g) (by omega)).trans e_g
 replace e_m : U1.heap[r]? = some (.map #[] 0):=(kU1 r (glt e_m) (by omega)).trans e_m
 clear kU1 lU1
 walk_nrm
 have r_X_0:=qc 0 X rfl
 have z_X_0:=qz 0 X
 have hnU2:=norm_set hnU1 ⟨r + 2,0,none⟩ (.pointer (some ⟨r + 1,0,none⟩))
 refine mus_put (L:=Lone) (hM.mus hnU2) (K:=fun g=>KK 0 g U1) (K':=fun g=>KK 0 g (U1.setCell ⟨r + 2,0,none⟩ (.pointer (some ⟨r + 1,0,none⟩)))) rfl (.inl rfl) rfl (by kernel_rfl) (fun τ=>?_) ?_
 . go_simp
   try rfl
 have kU2:=sc_kp U1 (r + 2) 0 (.pointer (some ⟨r + 1,0,none⟩))
 have lU2:=sc_le U1 (r + 2) 0 (.pointer (some ⟨r + 1,0,none⟩))
 have eU2 : (U1.setCell ⟨r + 2,0,none⟩ (.pointer (some ⟨r + 1,0,none⟩))).heap[r + 2]? = some (.cells #[.pointer (some ⟨r + 1,0,none⟩)] 130 (0,0)):=by
   rw [setCell_heap,if_pos rfl,X]
   simp
 have sU2 : (U1.setCell ⟨r + 2,0,none⟩ (.pointer (some ⟨r + 1,0,none⟩))).heap.size = r + 3:=by
   rw [show (U1.setCell ⟨r + 2,0,none⟩ (.pointer (some ⟨r + 1,0,none⟩))).heap.size = U1.heap.size by simp [World.setCell]]
   exact sU1
 generalize (U1.setCell ⟨r + 2,0,none⟩ (.pointer (some ⟨r + 1,0,none⟩))) = U2 at *
 replace X:=eU2
 clear eU2
 clear r_X_0 z_X_0
 replace kp:=kp.upB lU2 kU2
 replace e_g:=(kU2 _ (glt e_g) (by omega)).trans e_g
 replace e_m : U2.heap[r]? = some (.map #[] 0):=(kU2 r (glt e_m) (by omega)).trans e_m
 clear kU2
 walk_nrm
 refine wM hM hnU2 fun kk hkk=>?_
 refine hM.al hnU2 #[.slice none 0 0,.int .i64 0] 95 (.pointer (some ⟨U2.heap.size,0,none⟩)) rfl rfl fun U3 hnU3 kU3 sU3 M=>?_
 rw [sU2] at sU3 M ⊢
 have lU3 : U2.heap.size <= U3.heap.size:=by omega
 replace kp:=kp.upA lU3 kU3
 replace e_g:=(kU3 _ (glt e_g) (by omega)).trans e_g
 replace e_m : U3.heap[r]? = some (.map #[] 0):=(kU3 r (glt e_m) (by omega)).trans e_m
 replace X:=(kU3 _ (glt X) (by omega)).trans X
 clear kU3 lU3
 walk_nrm
 refine wM hM hnU3 fun kk hkk=>?_
 refine hM.al hnU3 #[.int .i64 0,.int .i64 0] 139 (.pointer (some ⟨U3.heap.size,0,none⟩)) rfl rfl fun U4 hnU4 kU4 sU4 B=>?_
 rw [sU3] at sU4 B ⊢
 have lU4 : U3.heap.size <= U4.heap.size:=by omega
 replace kp:=kp.upA lU4 kU4
 replace e_g:=(kU4 _ (glt e_g) (by omega)).trans e_g
 replace e_m : U4.heap[r]? = some (.map #[] 0):=(kU4 r (glt e_m) (by omega)).trans e_m
 replace X:=(kU4 _ (glt X) (by omega)).trans X
 replace M:=(kU4 _ (glt M) (by omega)).trans M
 clear kU4 lU4
 walk_nrm
 have r_B_0:=qc 0 B rfl
 have r_B_1:=qc 1 B rfl
 have z_B_0:=qz 0 B
 have z_B_1:=qz 1 B
 have hnU5 : norm ((U4.setCell ⟨r + 4,0,none⟩ (.int .i64 8)).setCell ⟨r + 4,1,none⟩ (.int .i64 0)) = ((U4.setCell ⟨r + 4,0,none⟩ (.int .i64 8)).setCell ⟨r + 4,1,none⟩ (.int .i64 0)):=(norm_set (norm_set hnU4 _ _) _ _)
 refine mus_put (L:=Lone) (hM.mus hnU5) (K:=fun g=>KK 0 g U4) (K':=fun g=>KK 0 g ((U4.setCell ⟨r + 4,0,none⟩ (.int .i64 8)).setCell ⟨r + 4,1,none⟩ (.int .i64 0))) rfl (.inl rfl) rfl (by kernel_rfl) (fun τ=>?_) ?_
 . go_simp
   try rfl
 have kU5 : ∀ b,b < U4.heap.size -> b ≠ r + 4 -> ((U4.setCell ⟨r + 4,0,none⟩ (.int .i64 8)).setCell ⟨r + 4,1,none⟩ (.int .i64 0)).heap[b]? = U4.heap[b]?:=fun b _ hb=>by rw [setCell_heap,if_neg hb]; rw [setCell_heap,if_neg hb]
 have lU5 : U4.heap.size <= ((U4.setCell ⟨r + 4,0,none⟩ (.int .i64 8)).setCell ⟨r + 4,1,none⟩ (.int .i64 0)).heap.size:=by simp [World.setCell]
 have eU5 : ((U4.setCell ⟨r + 4,0,none⟩ (.int .i64 8)).setCell ⟨r + 4,1,none⟩ (.int .i64 0)).heap[r + 4]? = some (.cells #[.int .i64 8,.int .i64 0] 139 (0,0)):=by
   rw [setCell_heap,if_pos rfl,setCell_heap,if_pos rfl,B]
   simp
 have sU5 : ((U4.setCell ⟨r + 4,0,none⟩ (.int .i64 8)).setCell ⟨r + 4,1,none⟩ (.int .i64 0)).heap.size = r + 5:=by
   rw [show ((U4.setCell ⟨r + 4,0,none⟩ (.int .i64 8)).setCell ⟨r + 4,1,none⟩ (.int .i64 0)).heap.size = U4.heap.size by simp [World.setCell]]
   exact sU4
 generalize ((U4.setCell ⟨r + 4,0,none⟩ (.int .i64 8)).setCell ⟨r + 4,1,none⟩ (.int .i64 0)) = U5 at *
 replace B:=eU5
 clear eU5
 clear r_B_0 r_B_1 z_B_0 z_B_1
 replace kp:=kp.upB lU5 kU5
 replace e_g:=(kU5 _ (glt e_g) (by omega)).trans e_g
 replace e_m : U5.heap[r]? = some (.map #[] 0):=(kU5 r (glt e_m) (by omega)).trans e_m
 replace X:=(kU5 _ (glt X) (by omega)).trans X
 replace M:=(kU5 _ (glt M) (by omega)).trans M
 clear kU5
 walk_nrm
 refine wM hM hnU5 fun kk hkk=>?_
 refine hM.al hnU5 #[.int .i64 0] 3 (.pointer (some ⟨U5.heap.size,0,none⟩)) rfl rfl fun U6 hnU6 kU6 sU6 Gt=>?_
 rw [sU5] at sU6 Gt ⊢
 have lU6 : U5.heap.size <= U6.heap.size:=by omega
 replace kp:=kp.upA lU6 kU6
 replace e_g:=(kU6 _ (glt e_g) (by omega)).trans e_g
 replace e_m : U6.heap[r]? = some (.map #[] 0):=(kU6 r (glt e_m) (by omega)).trans e_m
 replace X:=(kU6 _ (glt X) (by omega)).trans X
 replace M:=(kU6 _ (glt M) (by omega)).trans M
 replace B:=(kU6 _ (glt B) (by omega)).trans B
 clear kU6 lU6
 walk_nrm
 refine wM hM hnU6 fun kk hkk=>?_
 refine hM.al hnU6 #[.bool false] 4 (.pointer (some ⟨U6.heap.size,0,none⟩)) rfl rfl fun U7 hnU7 kU7 sU7 Fi=>?_
 rw [sU6] at sU7 Fi ⊢
 have lU7 : U6.heap.size <= U7.heap.size:=by omega
 replace kp:=kp.upA lU7 kU7
 replace e_g:=(kU7 _ (glt e_g) (by omega)).trans e_g
 replace e_m : U7.heap[r]? = some (.map #[] 0):=(kU7 r (glt e_m) (by omega)).trans e_m
 replace X:=(kU7 _ (glt X) (by omega)).trans X
 replace M:=(kU7 _ (glt M) (by omega)).trans M
 replace B:=(kU7 _ (glt B) (by omega)).trans B
 replace Gt:=(kU7 _ (glt Gt) (by omega)).trans Gt
 clear kU7 lU7
 walk_nrm
 refine wM hM hnU7 fun kk hkk=>?_
 refine hM.al hnU7 #[.bool false] 4 (.pointer (some ⟨U7.heap.size,0,none⟩)) rfl rfl fun U8 hnU8 kU8 sU8 Se=>?_
 rw [sU7] at sU8 Se ⊢
 have lU8 : U7.heap.size <= U8.heap.size:=by omega
 replace kp:=kp.upA lU8 kU8
 replace e_g:=(kU8 _ (glt e_g) (by omega)).trans e_g
 replace e_m : U8.heap[r]? = some (.map #[] 0):=(kU8 r (glt e_m) (by omega)).trans e_m
 replace X:=(kU8 _ (glt X) (by omega)).trans X
 replace M:=(kU8 _ (glt M) (by omega)).trans M
 replace B:=(kU8 _ (glt B) (by omega)).trans B
 replace Gt:=(kU8 _ (glt Gt) (by omega)).trans Gt
 replace Fi:=(kU8 _ (glt Fi) (by omega)).trans Fi
 clear kU8 lU8
 walk_nrm
 obtain ⟨K,hK,hV,key,yek⟩:=kKV (L:=Lone) (J:=fun g=>KK 0 g U8) hM.mu (hM.muv hnU8)
 refine key _ ?_
 refine wA fun kk hkk=>?_
 have r_Gt_0:=qc 0 Gt rfl
 have z_Gt_0:=qz 0 Gt
 refine yek _ ?_
 clear hK hV key yek K
 have hnU9:=norm_set hnU8 ⟨r + 5,0,none⟩ (.int .i64 0)
 refine mus_put (L:=Lone) (hM.mus hnU9) (K:=fun g=>KK 0 g U8) (K':=fun g=>KK 0 g (U8.setCell ⟨r + 5,0,none⟩ (.int .i64 0))) rfl (.inl rfl) rfl (by kernel_rfl) (fun τ=>?_) ?_
 . go_simp
   try rfl
 have kU9:=sc_kp U8 (r + 5) 0 (.int .i64 0)
 have lU9:=sc_le U8 (r + 5) 0 (.int .i64 0)
 have eU9 : (U8.setCell ⟨r + 5,0,none⟩ (.int .i64 0)).heap[r + 5]? = some (.cells #[.int .i64 0] 3 (0,0)):=by
   rw [setCell_heap,if_pos rfl,Gt]
   simp
 have sU9 : (U8.setCell ⟨r + 5,0,none⟩ (.int .i64 0)).heap.size = r + 8:=by
   rw [show (U8.setCell ⟨r + 5,0,none⟩ (.int .i64 0)).heap.size = U8.heap.size by simp [World.setCell]]
   exact sU8
 generalize (U8.setCell ⟨r + 5,0,none⟩ (.int .i64 0)) = U9 at *
 replace Gt:=eU9
 clear eU9
 clear r_Gt_0 z_Gt_0
 replace kp:=kp.upB lU9 kU9
 replace e_g:=(kU9 _ (glt e_g) (by omega)).trans e_g
 replace e_m : U9.heap[r]? = some (.map #[] 0):=(kU9 r (glt e_m) (by omega)).trans e_m
 replace X:=(kU9 _ (glt X) (by omega)).trans X
 replace M:=(kU9 _ (glt M) (by omega)).trans M
 replace B:=(kU9 _ (glt B) (by omega)).trans B
 replace Fi:=(kU9 _ (glt Fi) (by omega)).trans Fi
 replace Se:=(kU9 _ (glt Se) (by omega)).trans Se
 clear kU9
 walk_nrm
 obtain ⟨K,hK,hV,key,yek⟩:=kKV (L:=Lone) (J:=fun g=>KK 0 g U9) hM.mu (hM.muv hnU9)
 refine key _ ?_
 refine wA fun kk hkk=>?_
 have r_Fi_0:=qc 0 Fi rfl
 have z_Fi_0:=qz 0 Fi
 refine yek _ ?_
 clear hK hV key yek K
 have hnU10:=norm_set hnU9 ⟨r + 6,0,none⟩ (.bool false)
 refine mus_put (L:=Lone) (hM.mus hnU10) (K:=fun g=>KK 0 g U9) (K':=fun g=>KK 0 g (U9.setCell ⟨r + 6,0,none⟩ (.bool false))) rfl (.inl rfl) rfl (by kernel_rfl) (fun τ=>?_) ?_
 . go_simp
   try rfl
 have kU10:=sc_kp U9 (r + 6) 0 (.bool false)
 have lU10:=sc_le U9 (r + 6) 0 (.bool false)
 have eU10 : (U9.setCell ⟨r + 6,0,none⟩ (.bool false)).heap[r + 6]? = some (.cells #[.bool false] 4 (0,0)):=by
   rw [setCell_heap,if_pos rfl,Fi]
   simp
 have sU10 : (U9.setCell ⟨r + 6,0,none⟩ (.bool false)).heap.size = r + 8:=by
   rw [show (U9.setCell ⟨r + 6,0,none⟩ (.bool false)).heap.size = U9.heap.size by simp [World.setCell]]
   exact sU9
 generalize (U9.setCell ⟨r + 6,0,none⟩ (.bool false)) = U10 at *
 replace Fi:=eU10
 clear eU10
 clear r_Fi_0 z_Fi_0
 replace kp:=kp.upB lU10 kU10
 replace e_g:=(kU10 _ (glt e_g) (by omega)).trans e_g
 replace e_m : U10.heap[r]? = some (.map #[] 0):=(kU10 r (glt e_m) (by omega)).trans e_m
 replace X:=(kU10 _ (glt X) (by omega)).trans X
 replace M:=(kU10 _ (glt M) (by omega)).trans M
 replace B:=(kU10 _ (glt B) (by omega)).trans B
 replace Gt:=(kU10 _ (glt Gt) (by omega)).trans Gt
 replace Se:=(kU10 _ (glt Se) (by omega)).trans Se
 clear kU10
 walk_nrm
 obtain ⟨K,hK,hV,key,yek⟩:=kKV (L:=Lone) (J:=fun g=>KK 0 g U10) hM.mu (hM.muv hnU10)
 refine key _ ?_
 refine wA fun kk hkk=>?_
 have r_Se_0:=qc 0 Se rfl
 have z_Se_0:=qz 0 Se
 refine yek _ ?_
 clear hK hV key yek K
 have hnU11:=norm_set hnU10 ⟨r + 7,0,none⟩ (.bool true)
 refine mus_put (L:=Lone) (hM.mus hnU11) (K:=fun g=>KK 0 g U10) (K':=fun g=>KK 0 g (U10.setCell ⟨r + 7,0,none⟩ (.bool true))) rfl (.inl rfl) rfl (by kernel_rfl) (fun τ=>?_) ?_
 . go_simp
   try rfl
 have kU11:=sc_kp U10 (r + 7) 0 (.bool true)
 have lU11:=sc_le U10 (r + 7) 0 (.bool true)
 have eU11 : (U10.setCell ⟨r + 7,0,none⟩ (.bool true)).heap[r + 7]? = some (.cells #[.bool true] 4 (0,0)):=by
   rw [setCell_heap,if_pos rfl,Se]
   simp
 have sU11 : (U10.setCell ⟨r + 7,0,none⟩ (.bool true)).heap.size = r + 8:=by
   rw [show (U10.setCell ⟨r + 7,0,none⟩ (.bool true)).heap.size = U10.heap.size by simp [World.setCell]]
   exact sU10
 generalize (U10.setCell ⟨r + 7,0,none⟩ (.bool true)) = U11 at *
 replace Se:=eU11
 clear eU11
 clear r_Se_0 z_Se_0
 replace kp:=kp.upB lU11 kU11
 replace e_g:=(kU11 _ (glt e_g) (by omega)).trans e_g
 replace e_m : U11.heap[r]? = some (.map #[] 0):=(kU11 r (glt e_m) (by omega)).trans e_m
 replace X:=(kU11 _ (glt X) (by omega)).trans X
 replace M:=(kU11 _ (glt M) (by omega)).trans M
 replace B:=(kU11 _ (glt B) (by omega)).trans B
 replace Gt:=(kU11 _ (glt Gt) (by omega)).trans Gt
 replace Fi:=(kU11 _ (glt Fi) (by omega)).trans Fi
 clear kU11
 walk_nrm
 refine wM hM hnU11 fun kk hkk=>?_
 refine hM.al hnU11 #[.func (.func 100) #[] #[.pointer (some ⟨r + 3,0,none⟩),.pointer (some ⟨r + 2,0,none⟩),.pointer (some ⟨r + 4,0,none⟩),.pointer (some ⟨r + 6,0,none⟩),.pointer (some ⟨r + 7,0,none⟩)],.func (.func 101) #[] #[.pointer (some ⟨r + 3,0,none⟩),.pointer (some ⟨r + 2,0,none⟩),.pointer (some ⟨r + 4,0,none⟩),.pointer (some ⟨r + 5,0,none⟩)]] 70 (.slice (some ⟨U11.heap.size,0,none⟩) 2 2) rfl rfl fun U12 hnU12 kU12 sU12 Ro=>?_
 rw [sU11] at sU12 Ro ⊢
 have lU12 : U11.heap.size <= U12.heap.size:=by omega
 replace kp:=kp.upA lU12 kU12
 replace e_g:=(kU12 _ (glt e_g) (by omega)).trans e_g
 replace e_m : U12.heap[r]? = some (.map #[] 0):=(kU12 r (glt e_m) (by omega)).trans e_m
 replace X:=(kU12 _ (glt X) (by omega)).trans X
 replace M:=(kU12 _ (glt M) (by omega)).trans M
 replace B:=(kU12 _ (glt B) (by omega)).trans B
 replace Gt:=(kU12 _ (glt Gt) (by omega)).trans Gt
 replace Fi:=(kU12 _ (glt Fi) (by omega)).trans Fi
 replace Se:=(kU12 _ (glt Se) (by omega)).trans Se
 clear kU12 lU12
 walk_nrm
 refine wM hM hnU12 fun kk hkk=>?_
 refine hM.cl rfl rfl rfl Try.func23 rfl ?_
 walk_nrm
 refine hKK' _ _ ?_
 have z0 : U12.frozen? ⟨r + 3,0,none⟩ = false:=by simp [World.frozen?,M]
 have z1 : U12.frozen? ⟨r + 3,0 + 1,none⟩ = false:=by simp [World.frozen?,M]
 have hF : FnRow U12 (.slice (some ⟨r + 8,0,none⟩) 2 2) [.func (.func 100) #[] #[.pointer (some ⟨r + 3,0,none⟩),.pointer (some ⟨r + 2,0,none⟩),.pointer (some ⟨r + 4,0,none⟩),.pointer (some ⟨r + 6,0,none⟩),.pointer (some ⟨r + 7,0,none⟩)],.func (.func 101) #[] #[.pointer (some ⟨r + 3,0,none⟩),.pointer (some ⟨r + 2,0,none⟩),.pointer (some ⟨r + 4,0,none⟩),.pointer (some ⟨r + 5,0,none⟩)]]:=by
   refine ⟨⟨_,2,rfl,fun _=>⟨r + 8,0,rfl,by omega,fun k hk=>cell_of Ro ?_⟩⟩,fun k hk=>.inr ?_⟩
   . match k,hk with
     | 0,_=>rfl
     | 1,_=>rfl
   . match k,hk with
     | 0,_=>exact ⟨100,_,_,rfl⟩
     | 1,_=>exact ⟨101,_,_,rfl⟩
 have hP : Pks U12 (fun b=>r <= b /\ b <= r + 7) (.slice none 0 0) []:=⟨⟨_,_,rfl,fun h=>absurd h (by decide)⟩,by decide⟩
 refine run_go (U:=fun C=>Ufl r C) (σ0:=fun _=>(⟨0,0,false⟩ : Gs)) (own0:=fun b=>r <= b /\ b <= r + 7) (Rn:=30) hnU12 hF (by simp) hz (fun b h=>by omega) hP.u (by decide) rfl (fun C E hO hCn hf=>?_) (fun C hCn i hi=>?_) (fun C hCn=>?_) fun C σ' xs' Z' V9 ov ovr pkr own' hCn he A=>?_
 . exact ufl_ok hO hCn (hf 0) (hf 1)
 . match i,hi with
   | 0,_=>rfl
   | 1,_=>rfl
 . exact ⟨⟨by decide,by decide,fun h=>absurd h (by decide),fun h=>absurd h (by decide),fun _=>rfl⟩,fun b h1 h2=>⟨h1,h2⟩,X,e_g,B,Gt,Fi,Se,
     ⟨.slice none 0 0,⟨cell_of M (by simp),z0,cell_of M (by simp),z1,⟨rfl,.inl ⟨rfl,rfl⟩⟩,fun b h=>(by cases h),fun h=>(by cases h),by omega⟩,fun _=>rfl,fun b h=>(by cases h)⟩,fun _=>⟨_,_,e_m,rfl⟩,fun h=>absurd h.1 (by decide)⟩
 have hσ:=ufl_run r C σ' xs' he
 subst hσ
 have I : GInv r ⟨6,4,true⟩ own' V9:=A.inv
 have hn9:=A.nrm
 have hz9:=A.shut
 have hzo : ∀ b,b < V.heap.size -> Z' b = Z b:=fun b hb=>A.zold b (by omega)
 have k9 : Kp V V9:=⟨by have:=A.big; omega,fun b hb=>(A.keep b (by omega) (by omega)).trans (kp.keep b hb)⟩
 obtain ⟨es,clk,e_m9,hm9⟩:=I.mp0 (by decide)
 have e_x9:=I.x
 have e_g9:=I.gg
 have e_v9 : V9.heap[r + 5]? = some (.cells #[.int .i64 5] 3 (0,0)):=I.v
 have e_f9 : V9.heap[r + 6]? = some (.cells #[.bool true] 4 (0,0)):=I.f
 have e_s9 : V9.heap[r + 7]? = some (.cells #[.bool false] 4 (0,0)):=I.se
 obtain ⟨ob,on,oc,rfl⟩:=slice_of A.o1
 obtain ⟨vb,vn,vc,rfl⟩:=slice_of A.o2
 obtain ⟨pb,pn,pc,rfl⟩:=slice_of A.o3
 clear A I he hF hP hM hKK hKK'
 have hM : MarkK Try.prog true Z' (fun d g V=>To0d Try.prog Post Z' d V g):=markTo0
 obtain ⟨KK,eKK⟩ : ∃ KK : Nat -> Goroutine -> World -> Prop,KK = fun d g V=>To0d Try.prog Post Z' d V g:=⟨_,rfl⟩
 have hKK : ∀ g V,KK 0 g V -> To0 Try.prog Post Z' V g:=fun g V h=>by rw [eKK] at h; exact h
 have hKK' : ∀ g V,To0 Try.prog Post Z' V g -> KK 0 g V:=fun g V h=>by rw [eKK]; exact h
 rw [← eKK] at hM
 clear eKK
 refine hKK _ _ ?_
 walk_nrm
 have r_e_x9_0:=qc 0 e_x9 rfl
 have r_e_v9_0:=qc 0 e_v9 rfl
 have r_e_f9_0:=qc 0 e_f9 rfl
 have r_e_s9_0:=qc 0 e_s9 rfl
 refine wM hM hn9 fun kk hkk=>?_
 refine hM.cl rfl rfl rfl Try.func64 rfl ?_
 walk_nrm
 clear r_e_f9_0 r_e_s9_0 r_e_v9_0 r_e_x9_0
 refine keys_none hM hn9 e_g9 e_m9 hm9 fun VA hnA kA=>?_
 walk_nrm
 refine wM hM hnA fun kk hkk=>?_
 refine mu_leave1 (K:=fun g=>KK 0 g VA) hM.mu rfl rfl Try.func59 rfl ?_
 exact hKK' _ _ (K0 Z' VA hnA hz9 hzo (k9.trans kA))
end
end Go.Proofs.Ytibcdikfbhmheaa
