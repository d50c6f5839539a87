import Derived.Test.YtibcdikfbhmheaaQJ09
import Derived.Test.YtibcdikfbhmheaaB22
import Derived.Handy
import Derived.Test.YtibcdikfbhmheaaB17
import Derived.Test.YtibcdikfbhmheaaB14
set_option linter.unusedSimpArgs false
set_option linter.unusedVariables false
set_option maxRecDepth 100000
set_option maxHeartbeats 4000000
namespace Go.Proofs.Ytibcdikfbhmheaa
open Go Go.Conc Go.Proofs
noncomputable def tB : Code:=Try.f137.body.getD .skip
noncomputable def tX : Code:=nvl (nvk (nvb tB))
theorem nodup_le : ∀ (l1 l2 : List Nat),l1.Nodup -> (∀ x ∈ l1,x ∈ l2) -> l1.length <= l2.length
 | [],_,_,_=>Nat.zero_le _
 | x :: l1,l2,hn,hs=>by
   rw [List.nodup_cons] at hn
   have hx : x ∈ l2:=hs x (List.mem_cons_self ..)
   have h1:=nodup_le l1 (l2.erase x) hn.2 fun y hy=>(List.mem_erase_of_ne (fun e=>hn.1 (by rw [← e]; exact hy))).2 (hs y (List.mem_cons_of_mem _ hy))
   rw [List.length_erase_of_mem hx] at h1
   have h2:=List.length_pos_of_mem hx
   rw [List.length_cons]
   omega
structure ItV (rb bm sb dd lp ib clk lo : Nat) (es : Array MapEntry) (fv : Value) (V0 V : World) (ps : List MapEntry) (ks : List (Int × Int)) (sv : Value) : Prop where
 n : norm V = V
 sz : lo <= V.heap.size
 b : V.heap[bm]? = some (.cells #[.map (some rb)] 188 (0,0))
 m : V.heap[rb]? = some (.map es clk)
 i : V.heap[ib]? = some (.mapIter (some rb) clk (ps.map (·.born)).toArray clk)
 s : V.heap[sb]? = some (.cells #[sv] 143 (0,0))
 l : V.heap[lp]? = some (loopOf 148 (aT fv sb) #[7] aA aB dd .ready)
 row : V.ownsRow 0 139 2 sv ks.length (flat ks)
 own : ∀ b,sv.ownBlock = some b -> lo <= b
 key : ps.map (·.key) = ks.map kv
 nd : (ps.map (·.born)).Nodup
 sub : ∀ e ∈ ps,e ∈ es
 keep : ∀ b,b < lo -> b ≠ sb -> b ≠ lp -> b ≠ ib -> V.heap[b]? = V0.heap[b]?
structure MBn (es : Array MapEntry) (clk : Nat) : Prop where
 lt : ∀ e ∈ es,e.born < clk
 nd : (es.toList.map (·.born)).Nodup
section
variable {main : Bool} {Z : Cuts} {KK : Nat -> Goroutine -> World -> Prop} {d : Nat} {V : World} {bQ : Frame} {aQ : Act} {kQ : List Item} {cs0 : List Frame} {rb bm sb dd l ib clk lo : Nat} {es : Array MapEntry} {fv : Value} {V0 : World}
theorem it_loop (hM : MarkK Try.prog main Z KK) (hb : MBn es clk) (hkv : ∀ e ∈ es,∃ k,e.key = kv k) (hes : es.size < 1000) (hlt : bm < sb /\ rb < sb /\ sb < dd /\ dd < l /\ l < ib /\ ib < lo)
   (h : ∀ V2 ps2 ks2 sv2,ItV rb bm sb dd l ib clk lo es fv V0 V2 ps2 ks2 sv2 -> ps2.length = es.size -> KK d (G (bQ.at aQ (.endRangeFunc l :: kQ)) cs0) V2) :
   ∀ (m : Nat) (ps : List MapEntry) (ks : List (Int × Int)) (V : World) (sv : Value) (T : Array Value),ps.length + m = es.size -> ItV rb bm sb dd l ib clk lo es fv V0 V ps ks sv -> T.size = 14 -> T[0]? = some (.func (.yield l) #[] #[]) -> T[5]? = some (.pointer (some ⟨ib,0,none⟩)) ->
     KK d (G ((base 137).at ⟨T,[]⟩ [.code tX,.inLoop tX,.inBlock 0]) ((bQ.at aQ (.inRangeFunc l :: kQ)) :: cs0)) V:=by
 obtain ⟨t1,t2,t3,t4,t5,t6⟩:=hlt
 intro m
 induction m using Nat.strongRecOn with
 | _ m ih =>
 intro ps ks V sv T hm I hs h0 h5
 have hn:=I.n
 obtain ⟨f,hf,hT⟩:=array14f T hs
 rw [hT]
 simp only [hf _ _ h0,hf _ _ h5]
 clear hf hs h0 h5
 subst hT
 refine (fun (h : ∀ X,X = tX -> KK d (G ((base 137).at ⟨_,[]⟩ [.code X,.inLoop tX,.inBlock 0]) ((bQ.at aQ (.inRangeFunc l :: kQ)) :: cs0)) V)=>h tX rfl) ?_
 intro X hX
 simp only [tX,tB,nva,nvb,nvl,nvk,Try.f137,Option.getD_some] at hX
 subst hX
 refine wM hM hn fun kk hkk=>?_
 refine mk_ex (L:=Lone) hM (.inl rfl) rfl rfl (by kernel_rfl) (fun v W=>(v = .tuple #[.bool false] /\ W = V /\ ∀ e ∈ es,(ps.map (·.born)).toArray.contains e.born = true) ∨ ∃ e ∈ es,(ps.map (·.born)).toArray.contains e.born = false /\ v = .tuple #[.bool true,e.key,e.val] /\ W = setM V ib (.mapIter (some rb) clk ((ps.map (·.born)).toArray.push e.born) clk)) (fun τ=>?_) fun v V1 hv hn1=>?_
 . rcases next_go (P:=Try.prog) (w:=re V τ 0) (t:=0) I.i I.m hb.lt with ⟨h1,h2⟩ | ⟨e,he,hc,W,h1,h2⟩
   . refine ⟨.tuple #[.bool false],re V τ 0,?_,.inl ⟨rfl,hn,h1⟩⟩
     simp only [execOp]
     go_simp
   . refine ⟨.tuple #[.bool true,e.key,e.val],W,?_,.inr ⟨e,he,hc,rfl,?_⟩⟩
     . simp only [execOp]
       go_simp
     . rw [h2]
       exact setM_norm hn _ _
 rcases hv with ⟨rfl,rfl,hall⟩ | ⟨e,he,hc,rfl,hV1⟩
 . walk_nrm
   refine wM hM hn1 fun kk hkk=>?_
   refine mu_leaveR (K:=fun g=>KK d g V1) hM.mu rfl rfl Try.func137 rfl ?_
   refine h V1 ps ks sv I ?_
   refine Nat.le_antisymm ?_ ?_
   . have h1:=nodup_le (ps.map (·.born)) (es.toList.map (·.born)) I.nd fun b hb'=>by
       obtain ⟨e,he,rfl⟩:=List.mem_map.1 hb'
       exact List.mem_map_of_mem (Array.mem_toList_iff.2 (I.sub e he))
     simpa using h1
   . have h1:=nodup_le (es.toList.map (·.born)) (ps.map (·.born)) hb.nd fun b hb'=>by
       obtain ⟨e,he,rfl⟩:=List.mem_map.1 hb'
       simpa using hall e (Array.mem_toList_iff.1 he)
     simpa using h1
 have k1 : ∀ b,b ≠ ib -> V1.heap[b]? = V.heap[b]?:=fun b hb=>by rw [hV1]; exact setM_get _ _ _ _ hb
 have z1 : V1.heap.size = V.heap.size:=by rw [hV1]; exact setM_size _ _ _
 have e_i : V1.heap[ib]? = some (.mapIter (some rb) clk ((ps.map (·.born)).toArray.push e.born) clk):=by rw [hV1]; exact setM_self _ I.i
 clear hV1
 have hszV:=I.sz
 have e_b:=(k1 bm (by omega)).trans I.b
 have e_m:=(k1 rb (by omega)).trans I.m
 have e_s:=(k1 sb (by omega)).trans I.s
 have e_l:=(k1 l (by omega)).trans I.l
 have row:=row_keep I.row fun b hb=>k1 b (by have:=I.own b hb; omega)
 have row_b : ∀ b,sv.ownBlock = some b -> lo <= b /\ b < V.heap.size:=fun b hb=>⟨I.own b hb,row_at I.row hb⟩
 have kq : ∀ b,b < V.heap.size -> b ≠ ib -> V1.heap[b]? = V.heap[b]?:=fun b _ hb=>k1 b hb
 have hsz1 : V.heap.size <= V1.heap.size:=by omega
 obtain ⟨k,hk⟩:=hkv e he
 have hkey : (Value.tuple #[.bool true,e.key,e.val]) = .tuple #[.bool true,kv k,e.val]:=by rw [hk]
 rw [hkey]
 walk_nrm
 refine wM hM hn1 fun kk hkk=>?_
 have hMV : MuV Try.prog Lone V1 (fun g=>KK d g V1):=hM.muv hn1
 refine hMV _ _ _ _ _ _ _ _ (.tuple #[kv k,e.val]) (.inl rfl) rfl rfl (by kernel_rfl) (fun τ=>?_) ?_
 . have h:=entry_go (P:=Try.prog) (w:=re V1 τ 0) e_i e_m he hb.nd
   rw [hk] at h
   simp only [execOp]
   go_simp
 simp only [kv]
 walk_nrm
 refine wM hM hn1 fun kk hkk=>?_
 refine hM.al hn1 #[.int .i64 0,.int .i64 0] 139 (.pointer (some ⟨V1.heap.size,0,none⟩)) rfl rfl fun U1 hnU1 kU1 l0 Bk=>?_
 have lU1 : V1.heap.size < U1.heap.size:=by omega
 clear l0
 have tU1 : V1.heap.size < U1.heap.size /\ V1.heap.size <= V1.heap.size:=⟨lU1,Nat.le_refl _⟩
 generalize hbU1 : V1.heap.size = b_Bk at Bk ⊢
 have l_b_Bk : V1.heap.size <= b_Bk /\ b_Bk < U1.heap.size:=by omega
 clear hbU1 tU1
 replace e_b:=(kU1 _ (glt e_b) (by omega)).trans e_b
 replace e_s:=(kU1 _ (glt e_s) (by omega)).trans e_s
 replace e_m : U1.heap[rb]? = some (.map es clk):=(kU1 rb (Array.getElem?_eq_some_iff.1 e_m).1 (by omega)).trans e_m
 replace e_i : U1.heap[ib]? = some (.mapIter (some rb) clk ((ps.map (·.born)).toArray.push e.born) clk):=(kU1 ib (Array.getElem?_eq_some_iff.1 e_i).1 (by omega)).trans e_i
 replace e_l : U1.heap[l]? = some (loopOf 148 (aT fv sb) #[7] aA aB dd .ready):=(kU1 l (Array.getElem?_eq_some_iff.1 e_l).1 (by omega)).trans e_l
 replace row : U1.ownsRow 0 139 2 sv ks.length (flat ks):=row_keep row fun b hb=>kU1 b (row_at row hb) (by have:=row_b b hb; omega)
 replace kq : ∀ b,b < V.heap.size -> b ≠ ib -> U1.heap[b]? = V.heap[b]?:=fun b hb hne=>(kU1 b (Nat.lt_of_lt_of_le hb hsz1) (by omega)).trans (kq b hb hne)
 replace hsz1 : V.heap.size <= U1.heap.size:=Nat.le_trans hsz1 (Nat.le_of_lt lU1)
 clear kU1
 walk_nrm
 have r_Bk_0:=qc 0 Bk rfl
 have r_Bk_1:=qc 1 Bk rfl
 have z_Bk_0:=qz 0 Bk
 have z_Bk_1:=qz 1 Bk
 have hnU2 : norm ((U1.setCell ⟨b_Bk,0,none⟩ (.int .i64 k.1)).setCell ⟨b_Bk,1,none⟩ (.int .i64 k.2)) = ((U1.setCell ⟨b_Bk,0,none⟩ (.int .i64 k.1)).setCell ⟨b_Bk,1,none⟩ (.int .i64 k.2)):=(norm_set (norm_set hnU1 _ _) _ _)
 refine mus_put (L:=Lone) (hM.mus hnU2) (K:=fun g=>KK d g U1) (K':=fun g=>KK d g ((U1.setCell ⟨b_Bk,0,none⟩ (.int .i64 k.1)).setCell ⟨b_Bk,1,none⟩ (.int .i64 k.2))) rfl (.inl rfl) rfl (by kernel_rfl) (fun τ=>?_) ?_
 . go_simp
   try rfl
 have kU2 : ∀ b,b < U1.heap.size -> b ≠ b_Bk -> ((U1.setCell ⟨b_Bk,0,none⟩ (.int .i64 k.1)).setCell ⟨b_Bk,1,none⟩ (.int .i64 k.2)).heap[b]? = U1.heap[b]?:=fun b _ hb=>by rw [setCell_heap,if_neg hb]; rw [setCell_heap,if_neg hb]
 have lU2 : U1.heap.size <= ((U1.setCell ⟨b_Bk,0,none⟩ (.int .i64 k.1)).setCell ⟨b_Bk,1,none⟩ (.int .i64 k.2)).heap.size:=by simp [World.setCell]
 have eU2 : ((U1.setCell ⟨b_Bk,0,none⟩ (.int .i64 k.1)).setCell ⟨b_Bk,1,none⟩ (.int .i64 k.2)).heap[b_Bk]? = some (.cells #[.int .i64 k.1,.int .i64 k.2] 139 (0,0)):=by
   rw [setCell_heap,if_pos rfl,setCell_heap,if_pos rfl,Bk]
   simp
 generalize ((U1.setCell ⟨b_Bk,0,none⟩ (.int .i64 k.1)).setCell ⟨b_Bk,1,none⟩ (.int .i64 k.2)) = U2 at *
 replace Bk:=eU2
 clear eU2
 clear r_Bk_0 r_Bk_1 z_Bk_0 z_Bk_1
 replace e_b:=(kU2 _ (glt e_b) (by omega)).trans e_b
 replace e_s:=(kU2 _ (glt e_s) (by omega)).trans e_s
 replace e_m : U2.heap[rb]? = some (.map es clk):=(kU2 rb (Array.getElem?_eq_some_iff.1 e_m).1 (by omega)).trans e_m
 replace e_i : U2.heap[ib]? = some (.mapIter (some rb) clk ((ps.map (·.born)).toArray.push e.born) clk):=(kU2 ib (Array.getElem?_eq_some_iff.1 e_i).1 (by omega)).trans e_i
 replace e_l : U2.heap[l]? = some (loopOf 148 (aT fv sb) #[7] aA aB dd .ready):=(kU2 l (Array.getElem?_eq_some_iff.1 e_l).1 (by omega)).trans e_l
 replace row : U2.ownsRow 0 139 2 sv ks.length (flat ks):=row_keep row fun b hb=>kU2 b (row_at row hb) (by have:=row_b b hb; omega)
 replace kq : ∀ b,b < V.heap.size -> b ≠ ib -> U2.heap[b]? = V.heap[b]?:=fun b hb hne=>(kU2 b (Nat.lt_of_lt_of_le hb hsz1) (by omega)).trans (kq b hb hne)
 replace hsz1 : V.heap.size <= U2.heap.size:=Nat.le_trans hsz1 lU2
 clear kU2
 walk_nrm
 have r_Bk_0:=qc 0 Bk rfl
 have r_Bk_1:=qc 1 Bk rfl
 refine wM hM hnU2 fun kk hkk=>?_
 clear r_Bk_0 r_Bk_1
 refine mk_yield (u:=kv k) hM hnU2 rfl rfl rfl rfl rfl (by simp [Act.eval,kv]) e_l ?_
 refine round148 (k:=k) (ks:=ks) hM hnU2 e_s e_l row (fun b hb=>by have:=row_b b hb; constructor <;> omega) (by
   have h1:=nodup_le (ps.map (·.born)) (es.toList.map (·.born)) I.nd fun b hb'=>by
     obtain ⟨e,he,rfl⟩:=List.mem_map.1 hb'
     exact List.mem_map_of_mem (Array.mem_toList_iff.2 (I.sub e he))
   have h2:=congrArg List.length I.key
   simp at h1 h2
   omega) fun V2 sv2 hn2 hsz2 hs2 hl2 hrow2 hown2 hkeep2=>?_
 walk_nrm
 refine wM hM hn2 fun kk hkk=>?_
 refine mu_inLoop (K:=fun g=>KK d g V2) hM.mu ?_
 have k2 : ∀ b,b < lo -> b ≠ sb -> b ≠ l -> b ≠ ib -> V2.heap[b]? = V.heap[b]?:=fun b h1 h2 h3 h4=>(hkeep2 b (by omega) h2 h3 (fun e=>by have:=row_b b e; omega)).trans (kq b (by omega) h4)
 have hne : e.born ∉ ps.map (·.born):=by
   intro h1
   have : (ps.map (·.born)).toArray.contains e.born = true:=by simpa using h1
   rw [hc] at this
   cases this
 have hnd : ((ps ++ [e]).map (·.born)).Nodup:=by
   rw [List.map_append]
   refine List.nodup_append.2 ⟨I.nd,by simp,fun a ha b hb' e1=>hne ?_⟩
   obtain rfl : b = e.born:=by simpa using hb'
   exact e1 ▸ ha
 have hsub : ∀ x ∈ ps ++ [e],x ∈ es:=fun x hx=>by
   rcases List.mem_append.1 hx with hx | hx
   . exact I.sub x hx
   . obtain rfl : x = e:=by simpa using hx
     exact he
 have hle:=nodup_le ((ps ++ [e]).map (·.born)) (es.toList.map (·.born)) hnd fun b hb'=>by
   obtain ⟨x,hx,rfl⟩:=List.mem_map.1 hb'
   exact List.mem_map_of_mem (Array.mem_toList_iff.2 (hsub x hx))
 simp at hle
 refine ih (m - 1) (by omega) (ps ++ [e]) (ks ++ [k]) V2 sv2 _ (by simp; omega) ⟨hn2,by omega,(hkeep2 bm (by omega) (by omega) (by omega) fun e=>by have:=row_b _ e; omega).trans e_b,(hkeep2 rb (by omega) (by omega) (by omega) fun e=>by have:=row_b _ e; omega).trans e_m,?_,hs2,hl2,hrow2,fun b hb'=>?_,?_,hnd,hsub,fun b h1 h2 h3 h4=>(k2 b h1 h2 h3 h4).trans (I.keep b h1 h2 h3 h4)⟩ rfl rfl rfl
 . refine ((hkeep2 ib (by omega) (by omega) (by omega) fun e=>by have:=row_b _ e; omega).trans e_i).trans ?_
   simp
 . rcases hown2 with h1 | ⟨b',h1,h2⟩
   . rw [h1] at hb'
     exact (row_b b hb').1
   . rw [h1] at hb'
     obtain rfl:=Option.some.inj hb'
     omega
 . rw [List.map_append,List.map_append,I.key]
   simp [hk]
end
section
variable {main : Bool} {Z : Cuts} {KK : Nat -> Goroutine -> World -> Prop} {d : Nat} {V : World} {bQ : Frame} {aQ : Act} {opsQ : Array Oper} {iQ : Nat} {restQ : List Nat} {kQ : List Item} {cs0 : List Frame} {rb bm sb dd l clk : Nat} {es : Array MapEntry} {fv : Value}
theorem keysit_go (hM : MarkK Try.prog main Z KK) (hn : norm V = V) (hb : MBn es clk) (hkv : ∀ e ∈ es,∃ k,e.key = kv k) (hes : es.size < 1000) (hlt : bm < sb /\ rb < sb /\ sb < dd /\ dd < l /\ l < V.heap.size)
   (e_b : V.heap[bm]? = some (.cells #[.map (some rb)] 188 (0,0))) (e_m : V.heap[rb]? = some (.map es clk)) (e_s : V.heap[sb]? = some (.cells #[.slice none 0 0] 143 (0,0))) (e_l : V.heap[l]? = some (loopOf 148 (aT fv sb) #[7] aA aB dd .ready))
   (h : ∀ V2 ps2 ks2 sv2,ItV rb bm sb dd l V.heap.size clk (V.heap.size + 1) es fv V V2 ps2 ks2 sv2 -> ps2.length = es.size -> KK d (G (bQ.at aQ (.endRangeFunc l :: kQ)) cs0) V2) :
   KK d (G (Frame.enter Try.prog 137 #[.func (.yield l) #[] #[],.pointer (some ⟨bm,0,none⟩)] .normal) (bQ.at aQ (.inRangeFunc l :: kQ) :: cs0)) V:=by
 obtain ⟨t1,t2,t3,t4,t5⟩:=hlt
 rw [enter_at (P:=Try.prog) _ Try.func137 rfl]
 simp only [Try.f137]
 walk_nrm
 have r_e_b_0:=qc 0 e_b rfl
 refine wM hM hn fun kk hkk=>?_
 clear r_e_b_0
 have hn1:=norm_al hn (.mapIter (some rb) clk #[] clk)
 refine mua_put (L:=Lone) (v:=.pointer (some ⟨V.heap.size,0,none⟩)) (hM.mua hn1) (K:=fun g=>KK d g V) (K':=fun g=>KK d g (V.alloc (.mapIter (some rb) clk #[] clk))) rfl (.inl rfl) rfl (by kernel_rfl) (fun τ=>?_) ?_
 . have h:=run_range188 (w:=re V τ 0) e_m
   simp only [execOp]
   go_simp
   exact ⟨rfl,rfl⟩
 have f1:=al_get V (.mapIter (some rb) clk #[] clk)
 have g1:=al_size V (.mapIter (some rb) clk #[] clk)
 generalize (V.alloc (.mapIter (some rb) clk #[] clk)) = V1 at *
 generalize hib : V.heap.size = ib at *
 have k1 : ∀ b,b < ib -> V1.heap[b]? = V.heap[b]?:=fun b hb'=>by rw [f1,if_neg (by omega)]
 have I : ItV rb bm sb dd l ib clk (ib + 1) es fv V V1 [] [] (.slice none 0 0):=⟨hn1,by omega,(k1 bm (by omega)).trans e_b,(k1 rb (by omega)).trans e_m,by rw [f1,if_pos rfl]; rfl,(k1 sb (by omega)).trans e_s,(k1 l (by omega)).trans e_l,⟨rfl,.inl ⟨rfl,rfl⟩⟩,fun b hb'=>(by cases hb'),rfl,List.nodup_nil,fun e he=>(by cases he),fun b h1 _ _ h4=>k1 b (by omega)⟩
 walk_nrm
 refine wM hM hn1 fun kk hkk=>?_
 refine mu_loop (K:=fun g=>KK d g V1) hM.mu ?_
 exact it_loop hM hb hkv hes ⟨t1,t2,t3,t4,t5,by omega⟩ h es.size [] [] V1 _ _ (by simp) I rfl rfl rfl
theorem appseq_go (hM : MarkK Try.prog main Z KK) (hn : norm V = V) (hb : MBn es clk) (hkv : ∀ e ∈ es,∃ k,e.key = kv k) (hes : es.size < 1000) (e_b : V.heap[bm]? = some (.cells #[.map (some rb)] 188 (0,0))) (e_m : V.heap[rb]? = some (.map es clk)) (h : ∀ V2 (ps : List MapEntry) (ks : List (Int × Int)) sv,norm V2 = V2 -> Kp V V2 -> V2.ownsRow 0 139 2 sv ks.length (flat ks) -> (∀ b,sv.ownBlock = some b -> V.heap.size <= b) -> ps.map (·.key) = ks.map kv -> (ps.map (·.born)).Nodup -> (∀ e ∈ ps,e ∈ es) -> ps.length = es.size -> KK d (G (bQ.at (aQ.put ((opsQ[iQ]?).bind (·.dst)) (sv)) (.inRegion opsQ restQ :: kQ)) cs0) V2) : KK d (G (Frame.enter Try.prog 148 #[.slice none 0 0,.func (.func 137) #[] #[.pointer (some ⟨bm,0,none⟩)]] .normal) (bQ.at aQ (.inRegion opsQ (iQ :: restQ) :: kQ) :: cs0)) V:=by
 have l_m:=(Array.getElem?_eq_some_iff.1 e_m).1
 have l_b:=(Array.getElem?_eq_some_iff.1 e_b).1
 have kp : Kp V V:=⟨Nat.le_refl _,fun _ _=>rfl⟩
 rw [enter_at (P:=Try.prog) _ Try.func148 rfl]
 simp only [Try.f148]
 walk_nrm
 refine wM hM hn fun kk hkk=>?_
 refine hM.al hn #[.slice none 0 0] 143 (.pointer (some ⟨V.heap.size,0,none⟩)) rfl rfl fun W1 hnW1 kW1 l0 Bs=>?_
 have lW1 : V.heap.size < W1.heap.size:=by omega
 clear l0
 have tW1 : V.heap.size < W1.heap.size /\ V.heap.size <= V.heap.size:=⟨lW1,Nat.le_refl _⟩
 generalize hbW1 : V.heap.size = b_Bs at Bs ⊢
 have l_b_Bs : V.heap.size <= b_Bs /\ b_Bs < W1.heap.size:=by omega
 clear hbW1 tW1
 replace kp:=kp.upA (Nat.le_of_lt lW1) kW1
 clear kW1
 walk_nrm
 refine wM hM hnW1 fun kk hkk=>?_
 have l_s:=(Array.getElem?_eq_some_iff.1 Bs).1
 have sk:=kp.size
 refine mk_range (F:=137) (fn:=Try.f137) (caps:=#[.pointer (some ⟨bm,0,none⟩)]) hM hnW1 rfl rfl Try.func137 (by kernel_rfl) rfl ?_
 generalize hlo : loopOf _ _ _ _ _ _ _ = LO
 have f1:=al_get W1 (.deferred (some []))
 have g1:=al_size W1 (.deferred (some []))
 have n1 : norm (W1.alloc (.deferred (some []))) = W1.alloc (.deferred (some [])):=norm_al hnW1 _
 generalize (W1.alloc (.deferred (some []))) = U1 at *
 have f2:=al_get U1 LO
 have g2:=al_size U1 LO
 have n2 : norm (U1.alloc LO) = U1.alloc LO:=norm_al n1 _
 generalize U1.alloc LO = U2 at *
 rw [g1] at f2 g2
 have k2 : Kp W1 U2:=⟨by omega,fun b hb=>by rw [f2,if_neg (by omega),f1,if_neg (by omega)]⟩
 have e_d : U2.heap[W1.heap.size]? = some (.deferred (some [])):=by rw [f2,if_neg (by omega),f1,if_pos rfl]
 have e_l : U2.heap[W1.heap.size + 1]? = some (loopOf 148 (aT (.func (.func 137) #[] #[.pointer (some ⟨bm,0,none⟩)]) b_Bs) #[7] aA aB W1.heap.size .ready):=by
   rw [f2,if_pos rfl,← hlo]
   rfl
 have kp2:=kp.trans k2
 clear f1 f2 hlo
 have lb:=l_b_Bs
 generalize hdd : W1.heap.size = dd at *
 show KK d (G (Frame.enter Try.prog 137 #[.func (.yield (dd + 1)) #[] #[],.pointer (some ⟨bm,0,none⟩)] .normal) _) U2
 have e_s2:=(k2.keep _ (by omega)).trans Bs
 refine keysit_go hM n2 hb hkv hes ⟨by omega,by omega,by omega,by omega,by omega⟩ ((kp2.keep _ l_b).trans e_b) ((kp2.keep _ l_m).trans e_m) e_s2 e_l fun U3 ps ks sv I hfull=>?_
 refine mk_endrange hM I.n I.l (by decide) ?_
 have e_d3:=(I.keep dd (by omega) (by omega) (by omega) (by omega)).trans e_d
 have hne:=I.own
 have n4:=setM_norm I.n (dd + 1) (loopOf 148 (aT (.func (.func 137) #[] #[.pointer (some ⟨bm,0,none⟩)]) b_Bs) #[7] aA aB dd .exhausted)
 have h4 : ∀ b,b ≠ dd + 1 -> (setM U3 (dd + 1) (loopOf 148 (aT (.func (.func 137) #[] #[.pointer (some ⟨bm,0,none⟩)]) b_Bs) #[7] aA aB dd .exhausted)).heap[b]? = U3.heap[b]?:=fun b hb=>setM_get _ _ _ _ hb
 have z4:=setM_size U3 (dd + 1) (loopOf 148 (aT (.func (.func 137) #[] #[.pointer (some ⟨bm,0,none⟩)]) b_Bs) #[7] aA aB dd .exhausted)
 generalize setM U3 (dd + 1) (loopOf 148 (aT (.func (.func 137) #[] #[.pointer (some ⟨bm,0,none⟩)]) b_Bs) #[7] aA aB dd .exhausted) = U4 at *
 have e_d4:=(h4 _ (by omega)).trans e_d3
 have Bs4:=(h4 _ (by omega)).trans I.s
 have hI:=I.sz
 have row4:=row_keep I.row fun b hb=>h4 b (by have:=hne b hb; omega)
 have kp4 : Kp V U4:=⟨by omega,fun b hb=>(h4 b (by omega)).trans ((I.keep b (by omega) (by omega) (by omega) (by omega)).trans (kp2.keep b hb))⟩
 obtain ⟨xb,xc,rfl⟩:=row_slice I.row
 clear h4 Bs e_s2
 walk_nrm
 have r_Bs4_0:=qc 0 Bs4 rfl
 refine wM hM n4 fun kk hkk=>?_
 clear r_Bs4_0
 refine mk_collect hM n4 e_d4 ?_
 have n5:=setM_norm n4 dd (.deferred none)
 have kp5 : Kp V (setM U4 dd (.deferred none)):=⟨by rw [setM_size]; exact kp4.size,fun b hb=>(setM_get _ _ _ _ (by omega)).trans (kp4.keep b hb)⟩
 have row5 : (setM U4 dd (.deferred none)).ownsRow 0 139 2 (.slice xb ks.length xc) ks.length (flat ks):=row_keep row4 fun b hb=>setM_get _ _ _ _ (by have:=hne b hb; omega)
 generalize setM U4 dd (.deferred none) = U5 at *
 refine mu_leave1 (K:=fun g=>KK d g U5) hM.mu rfl rfl Try.func148 rfl ?_
 exact h U5 ps ks _ n5 kp5 row5 (fun b hb=>by have:=hne b hb; omega) I.key I.nd I.sub hfull
theorem collect_go (hM : MarkK Try.prog main Z KK) (hn : norm V = V) (hb : MBn es clk) (hkv : ∀ e ∈ es,∃ k,e.key = kv k) (hes : es.size < 1000) (e_b : V.heap[bm]? = some (.cells #[.map (some rb)] 188 (0,0))) (e_m : V.heap[rb]? = some (.map es clk)) (h : ∀ V2 (ps : List MapEntry) (ks : List (Int × Int)) sv,norm V2 = V2 -> Kp V V2 -> V2.ownsRow 0 139 2 sv ks.length (flat ks) -> (∀ b,sv.ownBlock = some b -> V.heap.size <= b) -> ps.map (·.key) = ks.map kv -> (ps.map (·.born)).Nodup -> (∀ e ∈ ps,e ∈ es) -> ps.length = es.size -> KK d (G (bQ.at (aQ.put ((opsQ[iQ]?).bind (·.dst)) (sv)) (.inRegion opsQ restQ :: kQ)) cs0) V2) : KK d (G (Frame.enter Try.prog 135 #[.func (.func 137) #[] #[.pointer (some ⟨bm,0,none⟩)]] .normal) (bQ.at aQ (.inRegion opsQ (iQ :: restQ) :: kQ) :: cs0)) V:=by
 rw [enter_at (P:=Try.prog) _ Try.func135 rfl]
 simp only [Try.f135]
 walk_nrm
 refine wM hM hn fun kk hkk=>?_
 refine hM.cl rfl rfl rfl Try.func148 rfl ?_
 walk_nrm
 refine appseq_go hM hn hb hkv hes e_b e_m fun V1 ps ks sv n1 k1 row own h1 h2 h3 h4=>?_
 walk_nrm
 refine wM hM n1 fun kk hkk=>?_
 refine mu_leave1 (K:=fun g=>KK d g V1) hM.mu rfl rfl Try.func135 rfl ?_
 exact h V1 ps ks sv n1 k1 row own h1 h2 h3 h4
end
open Go.RowKit
def cmpi (a b : Int) : Int:=if a < b then -1 else if b < a then 1 else 0
def kcmp (a b : Int × Int) : Int:=if cmpi a.1 b.1 ≠ 0 then cmpi a.1 b.1 else cmpi a.2 b.2
set_option maxRecDepth 100000
set_option maxHeartbeats 1000000 in
theorem nan151 (x : Int) (w : World) : Calls Try.prog 151 #[.int .i64 x] w fun e w'=>e = .returned (.bool false) /\ w' = w:=by
 go_enter Try.func151,Try.ntmps151
 go_wp2
 go_ret
 exact ⟨rfl,rfl⟩
set_option maxHeartbeats 1000000 in
theorem cmp139 (x y : Int) (w : World) : Calls Try.prog 139 #[.int .i64 x,.int .i64 y] w fun e w'=>e = .returned (.int .i64 (cmpi x y)) /\ w' = w:=by
 go_enter Try.func139,Try.ntmps139
 go_wp2_with (first | (go_at_call 151; refine (nan151 _ _).mono ?_; rintro e w1 ⟨rfl,rfl⟩))
 all_goals (go_ret; refine ⟨?_,rfl⟩; unfold cmpi; simp_all)
 omega
set_option maxHeartbeats 1000000 in
theorem or138 (g : Nat) (x y : Int) (w : World) (h0 : w.cell? ⟨g,0,none⟩ = some (.int .i64 x)) (h1 : w.cell? ⟨g,1,none⟩ = some (.int .i64 y)) : Calls Try.prog 138 #[.slice (some ⟨g,0,none⟩) 2 2] w fun e w'=>e = .returned (.int .i64 (if x ≠ 0 then x else y)) /\ w' = w:=by
 go_enter Try.func138,Try.ntmps138
 go_wp2
 go_rounds 3
 all_goals (go_ret; refine ⟨?_,rfl⟩; simp_all)
theorem wpOp_cR {P : Program} {ops : Array Oper} {Q : Exit -> Act -> World -> Prop} {i : Nat} {o : Oper} {K : Act -> World -> Prop} {a : Act} {w : World} {f : FuncId} {args : Array Value} (ho : ops[i]? = some o) (hw : Region.wanted o (yielded ops a.tmps) = true) (hr : (execOp a.eval o).run P w = .ok (.enter f args) w) (hc : Calls P f args w fun e w'=>∃ v,e = .returned v /\ K (a.put o.dst v) w') : wpOp P ops Q i K a w:=by
 unfold wpOp
 simp only [ho,hw,if_true]
 left
 unfold Oper.wp
 rw [hr,Oper.upon_enter]
 refine hc.mono fun e w' h=>?_
 obtain ⟨v,rfl,h⟩:=h
 exact h
set_option maxHeartbeats 1000000 in
theorem cmp105 (a b : Int × Int) (w : World) : Calls Try.prog 105 #[kv a,kv b] w fun e w'=>e = .returned (.int .i64 (kcmp a b)) /\ New w w':=by
 simp only [kv]
 go_enter Try.func105,Try.ntmps105
 go_wp2
 have f1:=al_get w (.cells #[.int .i64 a.1,.int .i64 a.2] 139)
 have g1:=al_size w (.cells #[.int .i64 a.1,.int .i64 a.2] 139)
 generalize hw1 : w.alloc (.cells #[.int .i64 a.1,.int .i64 a.2] 139) = w1 at *
 have f2:=al_get w1 (.cells #[.int .i64 b.1,.int .i64 b.2] 139)
 have g2:=al_size w1 (.cells #[.int .i64 b.1,.int .i64 b.2] 139)
 generalize hw2 : w1.alloc (.cells #[.int .i64 b.1,.int .i64 b.2] 139) = w2 at *
 have hN2 : New w w2:=by
   rw [← hw2,← hw1]
   exact ((New.refl w).alloc _).alloc _
 obtain ⟨n,hn⟩ : ∃ n,w.heap.size = n:=⟨_,rfl⟩
 rw [hn] at f1 g1 ⊢
 rw [g1] at f2 g2
 have ea : w2.heap[n]? = some (.cells #[.int .i64 a.1,.int .i64 a.2] 139 (0,0)):=by rw [f2,if_neg (by omega),f1,if_pos rfl]
 have eb : w2.heap[n + 1]? = some (.cells #[.int .i64 b.1,.int .i64 b.2] 139 (0,0)):=by rw [f2,if_pos rfl]
 clear f1 f2 hw1 hw2
 refine wp_region_g (fun _ w=>w.cell? ⟨n,0,none⟩ = some (.int .i64 a.1) /\ w.cell? ⟨n,1,none⟩ = some (.int .i64 a.2) /\ w.cell? ⟨n + 1,0,none⟩ = some (.int .i64 b.1) /\ w.cell? ⟨n + 1,1,none⟩ = some (.int .i64 b.2)) (by kernel_rfl) ?_
 refine wS ?_
 generalize hw0 : ({ w2 with drawn:=w2.drawn + 1 } : World) = w0
 have hN0 : New w w0:=by rw [← hw0]; exact hN2.drew
 have ea0 : w0.heap[n]? = some (.cells #[.int .i64 a.1,.int .i64 a.2] 139 (0,0)):=by rw [← hw0]; exact ea
 have eb0 : w0.heap[n + 1]? = some (.cells #[.int .i64 b.1,.int .i64 b.2] 139 (0,0)):=by rw [← hw0]; exact eb
 clear hw0
 have SK0 : w0.cell? ⟨n,0,none⟩ = some (.int .i64 a.1) /\ w0.cell? ⟨n,1,none⟩ = some (.int .i64 a.2) /\ w0.cell? ⟨n + 1,0,none⟩ = some (.int .i64 b.1) /\ w0.cell? ⟨n + 1,1,none⟩ = some (.int .i64 b.2):=⟨cell_of ea0 (by simp),cell_of ea0 (by simp),cell_of eb0 (by simp),cell_of eb0 (by simp)⟩
 refine wpAnyG_take (i:=0) (v:=.pointer (some ⟨n,0,none⟩)) rfl (by kernel_rfl) (by kernel_rfl) (by kernel_rfl) (by kernel_rfl) (fun _ _ _ h=>h) (fun l w=>Iff.rfl) (Or.inl ⟨by rfl,fun w5 hS5=>by obtain ⟨l5,⟨x0,x1,x2,x3⟩,-⟩:=hS5; go_simp⟩) SK0 ?_
 walk_nrm
 refine wpAnyG_take (i:=1) (v:=.int .i64 a.1) rfl (by kernel_rfl) (by kernel_rfl) (by kernel_rfl) (by kernel_rfl) (fun _ _ _ h=>h) (fun l w=>Iff.rfl) (Or.inl ⟨by rfl,fun w5 hS5=>by obtain ⟨l5,⟨x0,x1,x2,x3⟩,-⟩:=hS5; go_simp⟩) SK0 ?_
 walk_nrm
 refine wpAnyG_take (i:=2) (v:=.pointer (some ⟨n + 1,0,none⟩)) rfl (by kernel_rfl) (by kernel_rfl) (by kernel_rfl) (by kernel_rfl) (fun _ _ _ h=>h) (fun l w=>Iff.rfl) (Or.inl ⟨by rfl,fun w5 hS5=>by obtain ⟨l5,⟨x0,x1,x2,x3⟩,-⟩:=hS5; go_simp⟩) SK0 ?_
 walk_nrm
 refine wpAnyG_take (i:=3) (v:=.int .i64 b.1) rfl (by kernel_rfl) (by kernel_rfl) (by kernel_rfl) (by kernel_rfl) (fun _ _ _ h=>h) (fun l w=>Iff.rfl) (Or.inl ⟨by rfl,fun w5 hS5=>by obtain ⟨l5,⟨x0,x1,x2,x3⟩,-⟩:=hS5; go_simp⟩) SK0 ?_
 walk_nrm
 refine wpAnyG_take (i:=5) (v:=.pointer (some ⟨n,1,none⟩)) rfl (by kernel_rfl) (by kernel_rfl) (by kernel_rfl) (by kernel_rfl) (fun _ _ _ h=>h) (fun l w=>Iff.rfl) (Or.inl ⟨by rfl,fun w5 hS5=>by obtain ⟨l5,⟨x0,x1,x2,x3⟩,-⟩:=hS5; go_simp⟩) SK0 ?_
 walk_nrm
 refine wpAnyG_take (i:=6) (v:=.int .i64 a.2) rfl (by kernel_rfl) (by kernel_rfl) (by kernel_rfl) (by kernel_rfl) (fun _ _ _ h=>h) (fun l w=>Iff.rfl) (Or.inl ⟨by rfl,fun w5 hS5=>by obtain ⟨l5,⟨x0,x1,x2,x3⟩,-⟩:=hS5; go_simp⟩) SK0 ?_
 walk_nrm
 refine wpAnyG_take (i:=7) (v:=.pointer (some ⟨n + 1,1,none⟩)) rfl (by kernel_rfl) (by kernel_rfl) (by kernel_rfl) (by kernel_rfl) (fun _ _ _ h=>h) (fun l w=>Iff.rfl) (Or.inl ⟨by rfl,fun w5 hS5=>by obtain ⟨l5,⟨x0,x1,x2,x3⟩,-⟩:=hS5; go_simp⟩) SK0 ?_
 walk_nrm
 refine wpAnyG_take (i:=8) (v:=.int .i64 b.2) rfl (by kernel_rfl) (by kernel_rfl) (by kernel_rfl) (by kernel_rfl) (fun _ _ _ h=>h) (fun l w=>Iff.rfl) (Or.inl ⟨by rfl,fun w5 hS5=>by obtain ⟨l5,⟨x0,x1,x2,x3⟩,-⟩:=hS5; go_simp⟩) SK0 ?_
 walk_nrm
 refine wpAnyG_all (rs:=[4]) (by kernel_rfl) (by simp) (fun j hj=>?_)
 obtain rfl : j = 4:=by simpa using hj
 refine wpOp_cR (f:=139) rfl rfl (by go_simp) ((cmp139 a.1 b.1 w0).mono fun e w' h=>?_)
 obtain ⟨rfl,rfl⟩:=h
 refine ⟨_,rfl,SK0,?_⟩
 walk_nrm
 refine wpAnyG_all (rs:=[9]) (by kernel_rfl) (by simp) (fun j hj=>?_)
 obtain rfl : j = 9:=by simpa using hj
 refine wpOp_cR (f:=139) rfl rfl (by go_simp) ((cmp139 a.2 b.2 _).mono fun e w'' h=>?_)
 obtain ⟨rfl,rfl⟩:=h
 refine ⟨_,rfl,SK0,?_⟩
 walk_nrm
 refine wpAnyG_all (rs:=[10]) (by kernel_rfl) (by simp) (fun j hj=>?_)
 obtain rfl : j = 10:=by simpa using hj
 obtain ⟨w3,hw3⟩ : ∃ x,x = w''.alloc (.cells #[.int .i64 (cmpi a.1 b.1),.int .i64 (cmpi a.2 b.2)] 3):=⟨_,rfl⟩
 have f3 : ∀ k,w3.heap[k]? = if k = w''.heap.size then some (.cells #[.int .i64 (cmpi a.1 b.1),.int .i64 (cmpi a.2 b.2)] 3 (0,0)) else w''.heap[k]?:=fun k=>by rw [hw3]; exact al_get _ _ _
 have hN3 : New w w3:=by rw [hw3]; exact hN0.alloc _
 have la:=cell_lt SK0.1
 have lb:=cell_lt SK0.2.2.1
 have kc : ∀ (b o : Nat) (v : Value),b < w''.heap.size -> w''.cell? ⟨b,o,none⟩ = some v -> w3.cell? ⟨b,o,none⟩ = some v:=fun b o v hb hc=>cell_keep hc (by rw [f3,if_neg (by show b ≠ _; omega)])
 have SK3 : w3.cell? ⟨n,0,none⟩ = some (.int .i64 a.1) /\ w3.cell? ⟨n,1,none⟩ = some (.int .i64 a.2) /\ w3.cell? ⟨n + 1,0,none⟩ = some (.int .i64 b.1) /\ w3.cell? ⟨n + 1,1,none⟩ = some (.int .i64 b.2):=⟨kc _ _ _ la SK0.1,kc _ _ _ la SK0.2.1,kc _ _ _ lb SK0.2.2.1,kc _ _ _ lb SK0.2.2.2⟩
 refine wpOp_val (v:=.slice (some ⟨w''.heap.size,0,none⟩) 2 2) (w':=w3) rfl rfl (by go_simp; first | done | exact ⟨by first | rfl | assumption | (simp only [re]; omega),hw3.symm⟩ | exact hw3.symm) ⟨SK3,?_⟩
 walk_nrm
 refine wpAnyG_all (rs:=[11]) (by kernel_rfl) (by simp) (fun j hj=>?_)
 obtain rfl : j = 11:=by simpa using hj
 refine wpOp_cR (f:=138) rfl rfl (by go_simp) ((or138 w''.heap.size (cmpi a.1 b.1) (cmpi a.2 b.2) w3 (cell_of (by rw [f3,if_pos rfl]) (by simp)) (cell_of (by rw [f3,if_pos rfl]) (by simp))).mono fun e w4 h=>?_)
 obtain ⟨rfl,rfl⟩:=h
 refine ⟨_,rfl,SK3,?_⟩
 walk_nrm
 refine wpAnyG_all (rs:=[12]) (by kernel_rfl) (by simp) (fun j hj=>?_)
 obtain rfl : j = 12:=by simpa using hj
 refine wpOp_val (v:=.int .i64 (if cmpi a.1 b.1 ≠ 0 then cmpi a.1 b.1 else cmpi a.2 b.2)) (w':=w4) rfl rfl (by go_simp) ⟨SK3,?_⟩
 walk_nrm
 refine wpAnyG_done (by kernel_rfl) ?_ _
 clear f3 SK3 kc la lb SK0 ea0 eb0 ea eb hw3
 have hr : kcmp a b = if cmpi a.1 b.1 ≠ 0 then cmpi a.1 b.1 else cmpi a.2 b.2:=rfl
 rw [← hr]
 clear hr
 obtain ⟨r,hkr⟩ : ∃ r,kcmp a b = r:=⟨_,rfl⟩
 rw [hkr]
 simp only [Exit.then]
 go_wp2
 go_ret
 exact ⟨by rw [hkr]; rfl,hN3⟩
theorem flat_cons (k : Int × Int) (ks : List (Int × Int)) : flat (k :: ks) = .int .i64 k.1 :: .int .i64 k.2 :: flat ks:=rfl
theorem flat_get : ∀ (ks : List (Int × Int)) (j : Nat) (hj : j < ks.length),(flat ks)[j * 2]? = some (.int .i64 (ks[j]'hj).1) /\ (flat ks)[j * 2 + 1]? = some (.int .i64 (ks[j]'hj).2)
 | [],j,hj=>absurd hj (Nat.not_lt_zero _)
 | k :: ks,0,hj=>⟨rfl,rfl⟩
 | k :: ks,j + 1,hj=>by
   have h:=flat_get ks j (by simpa using hj)
   rw [flat_cons,show (j + 1) * 2 = j * 2 + 1 + 1 by omega]
   simpa using h
theorem flat_set : ∀ (ks : List (Int × Int)) (j : Nat) (k : Int × Int),flat (ks.set j k) = ((flat ks).set (j * 2) (.int .i64 k.1)).set (j * 2 + 1) (.int .i64 k.2)
 | [],j,k=>by simp [flat]
 | x :: ks,0,k=>rfl
 | x :: ks,j + 1,k=>by
   rw [List.set_cons_succ,flat_cons,flat_cons,flat_set ks j k,show (j + 1) * 2 = j * 2 + 1 + 1 by omega]
   rfl
def RowK (V : World) (g c : Nat) (ks : List (Int × Int)) : Prop:=V.ownsRow 0 139 2 (.slice (some ⟨g,0,none⟩) ks.length c) ks.length (flat ks)
section
variable {V V' : World} {g c : Nat} {ks : List (Int × Int)}
theorem RowK.block (h : RowK V g c ks) : ∃ cur,V.heap[g]? = some (.cells cur 139 (0,0)) /\ cur.size = c * 2 /\ ks.length <= c /\ cur.toList.take (ks.length * 2) = flat ks:=by
 obtain ⟨_,h2⟩:=h
 rcases h2 with ⟨e,_⟩ | ⟨g',cap,cur,e,_,h4,h5,h6,h7,h8⟩
 . cases e
 . cases e
   exact ⟨cur,h4,h7,h5,h8⟩
theorem RowK.lt (h : RowK V g c ks) : g < V.heap.size:=by
 obtain ⟨cur,h1,_⟩:=h.block
 exact (Array.getElem?_eq_some_iff.1 h1).1
theorem RowK.keep (h : RowK V g c ks) (e : V'.heap[g]? = V.heap[g]?) : RowK V' g c ks:=row_keep h fun b hb=>by
 obtain rfl : g = b:=by simpa [Value.ownBlock] using hb
 exact e
theorem RowK.cell (h : RowK V g c ks) {j : Nat} (hj : j < ks.length) : V.cell? ⟨g,j * 2,none⟩ = some (.int .i64 (ks[j]'hj).1) /\ V.cell? ⟨g,j * 2 + 1,none⟩ = some (.int .i64 (ks[j]'hj).2):=by
 obtain ⟨cur,h1,h2,h3,h4⟩:=h.block
 obtain ⟨f1,f2⟩:=flat_get ks j hj
 rw [← h4,List.getElem?_take,if_pos (by omega)] at f1 f2
 exact ⟨cell_of h1 (by simpa using f1),cell_of h1 (by simpa using f2)⟩
theorem RowK.thaw (h : RowK V g c ks) (o : Nat) : V.frozen? ⟨g,o,none⟩ = false:=by
 obtain ⟨cur,h1,_⟩:=h.block
 simp [World.frozen?,h1]
theorem RowK.set (h : RowK V g c ks) (j : Nat) (k : Int × Int) : RowK ((V.setCell ⟨g,j * 2,none⟩ (.int .i64 k.1)).setCell ⟨g,j * 2 + 1,none⟩ (.int .i64 k.2)) g c (ks.set j k):=by
 obtain ⟨hb,h2⟩:=h
 rcases h2 with ⟨e,_⟩ | ⟨g',cap,cur,e,h3,h4,h5,h6,h7,h8⟩
 . cases e
 . cases e
   refine ⟨by rw [flat_len,List.length_set],.inr ⟨g,c,(cur.setIfInBounds (j * 2) (.int .i64 k.1)).setIfInBounds (j * 2 + 1) (.int .i64 k.2),by rw [List.length_set],h3,?_,by rw [List.length_set]; exact h5,h6,by simpa using h7,?_⟩⟩
   . rw [setCell_heap,if_pos rfl,setCell_heap,if_pos rfl,h4]
     simp
   . rw [List.length_set,flat_set,← h8]
     simp [List.take_set,Array.toList_setIfInBounds]
end
def Fxg : List (Nat × Value) -> Array Value -> Prop
 | [],_=>True
 | (j,v) :: l,T=>T[j]? = some v /\ Fxg l T
def Fg (z : Nat) (l : List (Nat × Value)) (T : Array Value) : Prop:=T.size = z /\ Fxg l T
theorem fgm {n : Nat} {l : List (Nat × Value)} {T : Array Value} (h : Fg n l T:=by exact ⟨by simp,by repeat (first | exact trivial | refine ⟨rfl,?_⟩)⟩) : Fg n l T:=h
end Go.Proofs.Ytibcdikfbhmheaa
