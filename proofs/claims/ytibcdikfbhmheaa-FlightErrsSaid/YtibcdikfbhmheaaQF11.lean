import Derived.Test.YtibcdikfbhmheaaQF10
set_option linter.unusedSimpArgs false
set_option linter.unusedVariables false
set_option maxRecDepth 100000
set_option maxHeartbeats 4000000
namespace Go.Proofs.Ytibcdikfbhmheaa
open Go Go.Conc Go.Proofs
open Go.ConcN (sumTo upd sumTo_upd upd_ne upd_same)
set_option linter.unusedVariables false
theorem mu_leaveR {P : Program} {R : World → Prop} {K : Goroutine → Prop} {b : Frame} {a : Act} {k : List Item} {cs : List Frame} (hK : Mu P R K) {b₀ : Frame} {a₀ : Act} {l : Nat} {fn : Func} {todo : List Item} (hn : b.kind = .normal) (hd : a.defers = []) (hf : P.funcs[b.fn]? = some fn) (hr : fn.results = #[])
   (h : K (G (b₀.at a₀ (.endRangeFunc l :: k)) cs)) : K (G { b.at a todo with mode:=.returning } (b₀.at a₀ (.inRangeFunc l :: k) :: cs)) :=
 mu_step hK rfl (fun main w=>by rw [stepG_leave hn hd hf (results_none hr _ P w) (events_results_none hr _ _)]; rfl) h
theorem run_range188 {w : World} {rb clk : Nat} {es : Array MapEntry} (h : w.heap[rb]? = some (.map es clk)) : (Instr.range 188 (.map (some rb))).run Try.prog w = .ok (.pointer (some ⟨w.heap.size,0,none⟩)) (w.alloc (.mapIter (some rb) clk #[] clk)):=by
 simp [Instr.range,run_underlying Try.underlying188,getObj,newObj,Sem.run,h]
theorem run_next_none {w : World} {it rb clk s l : Nat} {t : TypeId} (hi : w.heap[it]? = some (.mapIter (some rb) s #[] l)) (h : w.heap[rb]? = some (.map #[] clk)) : (Instr.next (.pointer (some ⟨it,0,none⟩)) false t).run Try.prog w = .ok (.tuple #[.bool false]) w:=by
 simp [Instr.next,getObj,choose,Sem.run,hi,h,Question.forced]
section
variable {main : Bool} {Z : Cuts} {KK : Nat → Goroutine → World → Prop} {d : Nat} {V : World} {b₀ fr : Frame} {a₀ : Act} {ops₀ : Array Oper} {i₀ : Nat} {rest₀ : List Nat} {k₀ kt : List Item} {cs0 cs : List Frame} {gb rb clk : Nat} {es : Array MapEntry} {m : List ((Int × Int) × Nat)} {bm l : Nat} {yv : Value} {k : Int × Int}
theorem keysit_nil (hM : MarkK Try.prog main Z KK) (hn : norm V = V) (e_b : V.heap[bm]? = some (.cells #[.map (some rb)] 188 (0,0))) (e_m : V.heap[rb]? = some (.map #[] clk)) (h : ∀ V2,norm V2 = V2 → Kp V V2 → KK d (G (b₀.at a₀ (.endRangeFunc l :: k₀)) cs0) V2) :
   KK d (G (Frame.enter Try.prog 137 #[yv,.pointer (some ⟨bm,0,none⟩)] .normal) (b₀.at a₀ (.inRangeFunc l :: k₀) :: cs0)) V:=by
 have l_m:=(glt e_m)
 rw [enter_at (P:=Try.prog) _ Try.func137 rfl]
 simp only [Try.f137]
 walk_nrm
 have r_e_b_0 : ∀ τ,(re V τ 0).cell? ⟨bm,0,none⟩ = some (.map (some rb)):=fun τ=>cell_of e_b (by simp)
 obtain ⟨K,hK,hV,key,yek⟩:=kKV (L:=Lone) (J:=fun g=>KK d g V) hM.mu (hM.muv hn)
 refine key _ ?_
 repeat (first|(with_reducible first|apply hK.sq|apply hK.sk|(apply hK.re;try subst hkk)|apply hK.bl|apply hK.ib|apply hK.rt|apply hK.nd)|refine hK.ex rfl ?_|(with_reducible refine hK.rg fun kk hkk=>?_;simp only [ix,Nat.reduceAdd])|(with_reducible first|refine hK.cf ?_|refine hK.ct ?_)|(refine hK.uw rfl rfl ?_;walk_nrm)|(refine hV.vl rfl rfl fun J hJ=>?_;go_simp;with_reducible refine hJ _ ?_;clear hJ J;walk_nrm))
 refine yek _ ?_
 clear hK hV key yek K
 clear r_e_b_0
 have hn1:=norm_al hn (.mapIter (some rb) clk #[] clk)
 refine mua_put (L:=Lone) (v:=.pointer (some ⟨V.heap.size,0,none⟩)) (hM.mua hn1) (K:=fun g=>KK d g V) (K':=fun g=>KK d g (V.alloc (.mapIter (some rb) clk #[] clk))) rfl (.inl rfl) rfl (by kernel_rfl) (fun τ=>?_) ?_
 · have h:=run_range188 (w:=re V τ 0) e_m
   simp only [execOp]
   go_simp
   exact ⟨rfl,rfl⟩
 have e_i:=al_at V (.mapIter (some rb) clk #[] clk)
 have e_m1 : (V.alloc (.mapIter (some rb) clk #[] clk)).heap[rb]? = some (.map #[] clk):=by rw [al_get,if_neg (by omega)]; exact e_m
 have k1 : Kp V (V.alloc (.mapIter (some rb) clk #[] clk)):=⟨by rw [al_size]; omega,fun b hb=>by rw [al_get,if_neg (by omega)]⟩
 generalize (V.alloc (.mapIter (some rb) clk #[] clk)) = V1 at *
 generalize V.heap.size = ib at e_i ⊢
 walk_nrm
 obtain ⟨K,hK,hV,key,yek⟩:=kKV (L:=Lone) (J:=fun g=>KK d g V1) hM.mu (hM.muv hn1)
 refine key _ ?_
 repeat (first|(with_reducible first|apply hK.sq|apply hK.sk|(apply hK.re;try subst hkk)|apply hK.bl|apply hK.ib|apply hK.rt|apply hK.nd)|refine hK.ex rfl ?_|(with_reducible refine hK.rg fun kk hkk=>?_;simp only [ix,Nat.reduceAdd])|(with_reducible first|refine hK.cf ?_|refine hK.ct ?_)|(refine hK.uw rfl rfl ?_;walk_nrm)|(refine hV.vl rfl rfl fun J hJ=>?_;go_simp;with_reducible refine hJ _ ?_;clear hJ J;walk_nrm))
 refine yek _ ?_
 clear hK hV key yek K
 refine mu_loop (K:=fun g=>KK d g V1) hM.mu ?_
 obtain ⟨K,hK,hV,key,yek⟩:=kKV (L:=Lone) (J:=fun g=>KK d g V1) hM.mu (hM.muv hn1)
 refine key _ ?_
 repeat (first|(with_reducible first|apply hK.sq|apply hK.sk|(apply hK.re;try subst hkk)|apply hK.bl|apply hK.ib|apply hK.rt|apply hK.nd)|refine hK.ex rfl ?_|(with_reducible refine hK.rg fun kk hkk=>?_;simp only [ix,Nat.reduceAdd])|(with_reducible first|refine hK.cf ?_|refine hK.ct ?_)|(refine hK.uw rfl rfl ?_;walk_nrm)|(refine hV.vl rfl rfl fun J hJ=>?_;go_simp;with_reducible refine hJ _ ?_;clear hJ J;walk_nrm))
 refine yek _ ?_
 clear hK hV key yek K
 have hMV : MuV Try.prog Lone V1 (fun g=>KK d g V1):=hM.muv hn1
 refine hMV _ _ _ _ _ _ _ _ (.tuple #[.bool false]) (.inl rfl) rfl rfl (by kernel_rfl) (fun τ=>?_) ?_
 · have h:=fun t=>run_next_none (w:=re V1 τ 0) (t:=t) e_i e_m1
   simp only [execOp]
   go_simp
 walk_nrm
 obtain ⟨K,hK,hV,key,yek⟩:=kKV (L:=Lone) (J:=fun g=>KK d g V1) hM.mu (hM.muv hn1)
 refine key _ ?_
 repeat (first|(with_reducible first|apply hK.sq|apply hK.sk|(apply hK.re;try subst hkk)|apply hK.bl|apply hK.ib|apply hK.rt|apply hK.nd)|refine hK.ex rfl ?_|(with_reducible refine hK.rg fun kk hkk=>?_;simp only [ix,Nat.reduceAdd])|(with_reducible first|refine hK.cf ?_|refine hK.ct ?_)|(refine hK.uw rfl rfl ?_;walk_nrm)|(refine hV.vl rfl rfl fun J hJ=>?_;go_simp;with_reducible refine hJ _ ?_;clear hJ J;walk_nrm))
 refine yek _ ?_
 clear hK hV key yek K
 refine mu_leaveR (K:=fun g=>KK d g V1) hM.mu rfl rfl Try.func137 rfl ?_
 exact h V1 hn1 k1
theorem appseq_nil (hM : MarkK Try.prog main Z KK) (hn : norm V = V) (e_b : V.heap[bm]? = some (.cells #[.map (some rb)] 188 (0,0))) (e_m : V.heap[rb]? = some (.map #[] clk)) (h : ∀ V2,norm V2 = V2 → Kp V V2 → KK d (G (b₀.at (a₀.put ((ops₀[i₀]?).bind (·.dst)) (.slice none 0 0)) (.inRegion ops₀ rest₀ :: k₀)) cs0) V2) : KK d (G (Frame.enter Try.prog 148 #[.slice none 0 0,.func (.func 137) #[] #[.pointer (some ⟨bm,0,none⟩)]] .normal) (b₀.at a₀ (.inRegion ops₀ (i₀ :: rest₀) :: k₀) :: cs0)) V:=by
 have l_m:=(glt e_m)
 have l_b:=(glt e_b)
 have kp : Kp V V:=⟨Nat.le_refl _,fun _ _=>rfl⟩
 rw [enter_at (P:=Try.prog) _ Try.func148 rfl]
 simp only [Try.f148]
 walk_nrm
 obtain ⟨K,hK,hV,key,yek⟩:=kKV (L:=Lone) (J:=fun g=>KK d g V) hM.mu (hM.muv hn)
 refine key _ ?_
 repeat (first|(with_reducible first|apply hK.sq|apply hK.sk|(apply hK.re;try subst hkk)|apply hK.bl|apply hK.ib|apply hK.rt|apply hK.nd)|refine hK.ex rfl ?_|(with_reducible refine hK.rg fun kk hkk=>?_;simp only [ix,Nat.reduceAdd])|(with_reducible first|refine hK.cf ?_|refine hK.ct ?_)|(refine hK.uw rfl rfl ?_;walk_nrm)|(refine hV.vl rfl rfl fun J hJ=>?_;go_simp;with_reducible refine hJ _ ?_;clear hJ J;walk_nrm))
 refine yek _ ?_
 clear hK hV key yek K
 have hnW1:=norm_al hn (.cells #[.slice none 0 0] 143)
 refine mua_put (L:=Lone) (v:=.pointer (some ⟨V.heap.size,0,none⟩)) (hM.mua hnW1) (K:=fun g=>KK d g V) (K':=fun g=>KK d g (V.alloc (.cells #[.slice none 0 0] 143))) rfl (.inl rfl) rfl (by kernel_rfl) (fun τ=>?_) ?_
 · go_simp
   first | exact ⟨by first | rfl | assumption | (simp only [re]; omega),rfl⟩ | rfl | (simp; done)
 have kW1:=al_kp V (.cells #[.slice none 0 0] 143)
 have lW1:=al_lt V (.cells #[.slice none 0 0] 143)
 have Bs:=al_at V (.cells #[.slice none 0 0] 143)
 generalize (V.alloc (.cells #[.slice none 0 0] 143)) = W1 at *
 have tW1 : V.heap.size < W1.heap.size ∧ V.heap.size ≤ V.heap.size:=⟨lW1,Nat.le_refl _⟩
 generalize hbW1 : V.heap.size = b_Bs at Bs ⊢
 have l_b_Bs : V.heap.size ≤ b_Bs ∧ b_Bs < W1.heap.size:=by omega
 clear hbW1 tW1
 replace kp : Kp V W1:=⟨Nat.le_trans kp.size (Nat.le_of_lt lW1),fun b hb=>(kW1 b (Nat.lt_of_lt_of_le hb kp.size) (by omega)).trans (kp.keep b hb)⟩
 clear kW1
 walk_nrm
 obtain ⟨K,hK,hV,key,yek⟩:=kKV (L:=Lone) (J:=fun g=>KK d g W1) hM.mu (hM.muv hnW1)
 refine key _ ?_
 repeat (first|(with_reducible first|apply hK.sq|apply hK.sk|(apply hK.re;try subst hkk)|apply hK.bl|apply hK.ib|apply hK.rt|apply hK.nd)|refine hK.ex rfl ?_|(with_reducible refine hK.rg fun kk hkk=>?_;simp only [ix,Nat.reduceAdd])|(with_reducible first|refine hK.cf ?_|refine hK.ct ?_)|(refine hK.uw rfl rfl ?_;walk_nrm)|(refine hV.vl rfl rfl fun J hJ=>?_;go_simp;with_reducible refine hJ _ ?_;clear hJ J;walk_nrm))
 refine yek _ ?_
 clear hK hV key yek K
 have l_s:=(glt Bs)
 have sk:=kp.size
 refine mk_range (F:=137) (fn:=Try.f137) (caps:=#[.pointer (some ⟨bm,0,none⟩)]) hM hnW1 rfl rfl Try.func137 (by kernel_rfl) rfl ?_
 generalize hlo : loopOf _ _ _ _ _ _ _ = LO
 have f1:=al_get W1 (.deferred (some []))
 have g1:=al_size W1 (.deferred (some []))
 have n1 : norm (W1.alloc (.deferred (some []))) = W1.alloc (.deferred (some [])):=norm_al hnW1 _
 generalize (W1.alloc (.deferred (some []))) = U1 at *
 have f2:=al_get U1 LO
 have g2:=al_size U1 LO
 have n2 : norm (U1.alloc LO) = U1.alloc LO:=norm_al n1 _
 generalize U1.alloc LO = U2 at *
 rw [g1] at f2 g2
 have k2 : Kp W1 U2:=⟨by omega,fun b hb=>by rw [f2,if_neg (by omega),f1,if_neg (by omega)]⟩
 have e_d : U2.heap[W1.heap.size]? = some (.deferred (some [])):=by rw [f2,if_neg (by omega),f1,if_pos rfl]
 have e_l : U2.heap[W1.heap.size + 1]? = some LO:=by rw [f2,if_pos rfl]
 have kp2:=kp.trans k2
 clear f1 f2
 show KK d (G (Frame.enter Try.prog 137 #[.func (.yield (W1.heap.size + 1)) #[] #[],.pointer (some ⟨bm,0,none⟩)] .normal) _) U2
 refine keysit_nil hM n2 ((kp2.keep _ l_b).trans e_b) ((kp2.keep _ l_m).trans e_m) fun U3 n3 k3=>?_
 have e_d3:=(k3.keep _ (by omega)).trans e_d
 have e_l3:=(k3.keep _ (by omega)).trans e_l
 have kp3:=kp2.trans k3
 have Bs3:=(k3.keep _ (by have:=k2.size; omega)).trans ((k2.keep _ l_s).trans Bs)
 subst hlo
 refine mk_endrange hM n3 e_l3 (by decide) ?_
 generalize hlo : loopOf _ _ _ _ _ _ .exhausted = LO
 have n4:=setM_norm n3 (W1.heap.size + 1) LO
 have h4 : ∀ b,b ≠ W1.heap.size + 1 → (setM U3 (W1.heap.size + 1) LO).heap[b]? = U3.heap[b]?:=fun b hb=>setM_get _ _ _ _ hb
 have z4:=setM_size U3 (W1.heap.size + 1) LO
 generalize setM U3 (W1.heap.size + 1) LO = U4 at *
 have e_d4:=(h4 _ (by omega)).trans e_d3
 have Bs4:=(h4 _ (by omega)).trans Bs3
 have kp4 : Kp V U4:=⟨by have:=kp3.size; omega,fun b hb=>(h4 b (by omega)).trans (kp3.keep b hb)⟩
 clear h4 hlo Bs3 Bs
 generalize W1.heap.size = db at *
 have r_Bs4_0 : ∀ τ,(re U4 τ 0).cell? ⟨b_Bs,0,none⟩ = some (.slice none 0 0):=fun τ=>cell_of Bs4 (by simp)
 obtain ⟨K,hK,hV,key,yek⟩:=kKV (L:=Lone) (J:=fun g=>KK d g U4) hM.mu (hM.muv n4)
 refine key _ ?_
 repeat (first|(with_reducible first|apply hK.sq|apply hK.sk|(apply hK.re;try subst hkk)|apply hK.bl|apply hK.ib|apply hK.rt|apply hK.nd)|refine hK.ex rfl ?_|(with_reducible refine hK.rg fun kk hkk=>?_;simp only [ix,Nat.reduceAdd])|(with_reducible first|refine hK.cf ?_|refine hK.ct ?_)|(refine hK.uw rfl rfl ?_;walk_nrm)|(refine hV.vl rfl rfl fun J hJ=>?_;go_simp;with_reducible refine hJ _ ?_;clear hJ J;walk_nrm))
 refine yek _ ?_
 clear hK hV key yek K
 clear r_Bs4_0
 refine mk_collect hM n4 e_d4 ?_
 have n5:=setM_norm n4 db (.deferred none)
 have kp5 : Kp V (setM U4 db (.deferred none)):=⟨by rw [setM_size]; exact kp4.size,fun b hb=>(setM_get _ _ _ _ (by omega)).trans (kp4.keep b hb)⟩
 generalize setM U4 db (.deferred none) = U5 at *
 refine mu_leave1 (K:=fun g=>KK d g U5) hM.mu rfl rfl Try.func148 rfl ?_
 exact h U5 n5 kp5
theorem collect_nil (hM : MarkK Try.prog main Z KK) (hn : norm V = V) (e_b : V.heap[bm]? = some (.cells #[.map (some rb)] 188 (0,0))) (e_m : V.heap[rb]? = some (.map #[] clk)) (h : ∀ V2,norm V2 = V2 → Kp V V2 → KK d (G (b₀.at (a₀.put ((ops₀[i₀]?).bind (·.dst)) (.slice none 0 0)) (.inRegion ops₀ rest₀ :: k₀)) cs0) V2) : KK d (G (Frame.enter Try.prog 135 #[.func (.func 137) #[] #[.pointer (some ⟨bm,0,none⟩)]] .normal) (b₀.at a₀ (.inRegion ops₀ (i₀ :: rest₀) :: k₀) :: cs0)) V:=by
 have l_m:=(glt e_m)
 have l_b:=(glt e_b)
 have kp : Kp V V:=⟨Nat.le_refl _,fun _ _=>rfl⟩
 rw [enter_at (P:=Try.prog) _ Try.func135 rfl]
 simp only [Try.f135]
 walk_nrm
 obtain ⟨K,hK,hV,key,yek⟩:=kKV (L:=Lone) (J:=fun g=>KK d g V) hM.mu (hM.muv hn)
 refine key _ ?_
 repeat (first|(with_reducible first|apply hK.sq|apply hK.sk|(apply hK.re;try subst hkk)|apply hK.bl|apply hK.ib|apply hK.rt|apply hK.nd)|refine hK.ex rfl ?_|(with_reducible refine hK.rg fun kk hkk=>?_;simp only [ix,Nat.reduceAdd])|(with_reducible first|refine hK.cf ?_|refine hK.ct ?_)|(refine hK.uw rfl rfl ?_;walk_nrm)|(refine hV.vl rfl rfl fun J hJ=>?_;go_simp;with_reducible refine hJ _ ?_;clear hJ J;walk_nrm))
 refine hK.cl rfl rfl rfl Try.func148 rfl ?_
 walk_nrm
 refine yek _ ?_
 clear hK hV key yek K
 refine appseq_nil hM hn e_b e_m fun V1 n1 k1=>?_
 walk_nrm
 obtain ⟨K,hK,hV,key,yek⟩:=kKV (L:=Lone) (J:=fun g=>KK d g V1) hM.mu (hM.muv n1)
 refine key _ ?_
 repeat (first|(with_reducible first|apply hK.sq|apply hK.sk|(apply hK.re;try subst hkk)|apply hK.bl|apply hK.ib|apply hK.rt|apply hK.nd)|refine hK.ex rfl ?_|(with_reducible refine hK.rg fun kk hkk=>?_;simp only [ix,Nat.reduceAdd])|(with_reducible first|refine hK.cf ?_|refine hK.ct ?_)|(refine hK.uw rfl rfl ?_;walk_nrm)|(refine hV.vl rfl rfl fun J hJ=>?_;go_simp;with_reducible refine hJ _ ?_;clear hJ J;walk_nrm))
 refine yek _ ?_
 clear hK hV key yek K
 refine mu_leave1 (K:=fun g=>KK d g V1) hM.mu rfl rfl Try.func135 rfl ?_
 exact h V1 n1 k1
theorem sorted_nil (hM : MarkK Try.prog main Z KK) (hn : norm V = V) (e_b : V.heap[bm]? = some (.cells #[.map (some rb)] 188 (0,0))) (e_m : V.heap[rb]? = some (.map #[] clk)) (h : ∀ V2,norm V2 = V2 → Kp V V2 → KK d (G (b₀.at (a₀.put ((ops₀[i₀]?).bind (·.dst)) (.slice none 0 0)) (.inRegion ops₀ rest₀ :: k₀)) cs0) V2) : KK d (G (Frame.enter Try.prog 103 #[.func (.func 137) #[] #[.pointer (some ⟨bm,0,none⟩)],.func (.func 105) #[] #[]] .normal) (b₀.at a₀ (.inRegion ops₀ (i₀ :: rest₀) :: k₀) :: cs0)) V:=by
 have l_m:=(glt e_m)
 have l_b:=(glt e_b)
 have kp : Kp V V:=⟨Nat.le_refl _,fun _ _=>rfl⟩
 rw [enter_at (P:=Try.prog) _ Try.func103 rfl]
 simp only [Try.f103]
 walk_nrm
 obtain ⟨K,hK,hV,key,yek⟩:=kKV (L:=Lone) (J:=fun g=>KK d g V) hM.mu (hM.muv hn)
 refine key _ ?_
 repeat (first|(with_reducible first|apply hK.sq|apply hK.sk|(apply hK.re;try subst hkk)|apply hK.bl|apply hK.ib|apply hK.rt|apply hK.nd)|refine hK.ex rfl ?_|(with_reducible refine hK.rg fun kk hkk=>?_;simp only [ix,Nat.reduceAdd])|(with_reducible first|refine hK.cf ?_|refine hK.ct ?_)|(refine hK.uw rfl rfl ?_;walk_nrm)|(refine hV.vl rfl rfl fun J hJ=>?_;go_simp;with_reducible refine hJ _ ?_;clear hJ J;walk_nrm))
 refine hK.cl rfl rfl rfl Try.func135 rfl ?_
 walk_nrm
 refine yek _ ?_
 clear hK hV key yek K
 refine collect_nil hM hn e_b e_m fun V1 n1 k1=>?_
 walk_nrm
 obtain ⟨K,hK,hV,key,yek⟩:=kKV (L:=Lone) (J:=fun g=>KK d g V1) hM.mu (hM.muv n1)
 refine key _ ?_
 repeat (first|(with_reducible first|apply hK.sq|apply hK.sk|(apply hK.re;try subst hkk)|apply hK.bl|apply hK.ib|apply hK.rt|apply hK.nd)|refine hK.ex rfl ?_|(with_reducible refine hK.rg fun kk hkk=>?_;simp only [ix,Nat.reduceAdd])|(with_reducible first|refine hK.cf ?_|refine hK.ct ?_)|(refine hK.uw rfl rfl ?_;walk_nrm)|(refine hV.vl rfl rfl fun J hJ=>?_;go_simp;with_reducible refine hJ _ ?_;clear hJ J;walk_nrm))
 refine hK.cl rfl rfl rfl Try.func136 rfl ?_
 walk_nrm
 refine yek _ ?_
 clear hK hV key yek K
 refine sortF_nil hM n1 ?_
 walk_nrm
 obtain ⟨K,hK,hV,key,yek⟩:=kKV (L:=Lone) (J:=fun g=>KK d g V1) hM.mu (hM.muv n1)
 refine key _ ?_
 repeat (first|(with_reducible first|apply hK.sq|apply hK.sk|(apply hK.re;try subst hkk)|apply hK.bl|apply hK.ib|apply hK.rt|apply hK.nd)|refine hK.ex rfl ?_|(with_reducible refine hK.rg fun kk hkk=>?_;simp only [ix,Nat.reduceAdd])|(with_reducible first|refine hK.cf ?_|refine hK.ct ?_)|(refine hK.uw rfl rfl ?_;walk_nrm)|(refine hV.vl rfl rfl fun J hJ=>?_;go_simp;with_reducible refine hJ _ ?_;clear hJ J;walk_nrm))
 refine yek _ ?_
 clear hK hV key yek K
 refine mu_leave1 (K:=fun g=>KK d g V1) hM.mu rfl rfl Try.func103 rfl ?_
 exact h V1 n1 k1
theorem mkeys_go (hM : MarkK Try.prog main Z KK) (hn : norm V = V) (h : ∀ V2 bm,norm V2 = V2 → Kp V V2 → V2.heap[bm]? = some (.cells #[.map (some rb)] 188 (0,0)) → KK d (G (b₀.at (a₀.put ((ops₀[i₀]?).bind (·.dst)) (.func (.func 137) #[] #[.pointer (some ⟨bm,0,none⟩)])) (.inRegion ops₀ rest₀ :: k₀)) cs0) V2) : KK d (G (Frame.enter Try.prog 104 #[.map (some rb)] .normal) (b₀.at a₀ (.inRegion ops₀ (i₀ :: rest₀) :: k₀) :: cs0)) V:=by
 have kp : Kp V V:=⟨Nat.le_refl _,fun _ _=>rfl⟩
 rw [enter_at (P:=Try.prog) _ Try.func104 rfl]
 simp only [Try.f104]
 walk_nrm
 obtain ⟨K,hK,hV,key,yek⟩:=kKV (L:=Lone) (J:=fun g=>KK d g V) hM.mu (hM.muv hn)
 refine key _ ?_
 repeat (first|(with_reducible first|apply hK.sq|apply hK.sk|(apply hK.re;try subst hkk)|apply hK.bl|apply hK.ib|apply hK.rt|apply hK.nd)|refine hK.ex rfl ?_|(with_reducible refine hK.rg fun kk hkk=>?_;simp only [ix,Nat.reduceAdd])|(with_reducible first|refine hK.cf ?_|refine hK.ct ?_)|(refine hK.uw rfl rfl ?_;walk_nrm)|(refine hV.vl rfl rfl fun J hJ=>?_;go_simp;with_reducible refine hJ _ ?_;clear hJ J;walk_nrm))
 refine yek _ ?_
 clear hK hV key yek K
 have hnW1:=norm_al hn (.cells #[.map (some rb)] 188)
 refine mua_put (L:=Lone) (v:=.pointer (some ⟨V.heap.size,0,none⟩)) (hM.mua hnW1) (K:=fun g=>KK d g V) (K':=fun g=>KK d g (V.alloc (.cells #[.map (some rb)] 188))) rfl (.inl rfl) rfl (by kernel_rfl) (fun τ=>?_) ?_
 · go_simp
   first | exact ⟨by first | rfl | assumption | (simp only [re]; omega),rfl⟩ | rfl | (simp; done)
 have kW1:=al_kp V (.cells #[.map (some rb)] 188)
 have lW1:=al_lt V (.cells #[.map (some rb)] 188)
 have Bm:=al_at V (.cells #[.map (some rb)] 188)
 generalize (V.alloc (.cells #[.map (some rb)] 188)) = W1 at *
 have tW1 : V.heap.size < W1.heap.size ∧ V.heap.size ≤ V.heap.size:=⟨lW1,Nat.le_refl _⟩
 generalize hbW1 : V.heap.size = b_Bm at Bm ⊢
 have l_b_Bm : V.heap.size ≤ b_Bm ∧ b_Bm < W1.heap.size:=by omega
 clear hbW1 tW1
 replace kp : Kp V W1:=⟨Nat.le_trans kp.size (Nat.le_of_lt lW1),fun b hb=>(kW1 b (Nat.lt_of_lt_of_le hb kp.size) (by omega)).trans (kp.keep b hb)⟩
 clear kW1
 walk_nrm
 obtain ⟨K,hK,hV,key,yek⟩:=kKV (L:=Lone) (J:=fun g=>KK d g W1) hM.mu (hM.muv hnW1)
 refine key _ ?_
 repeat (first|(with_reducible first|apply hK.sq|apply hK.sk|(apply hK.re;try subst hkk)|apply hK.bl|apply hK.ib|apply hK.rt|apply hK.nd)|refine hK.ex rfl ?_|(with_reducible refine hK.rg fun kk hkk=>?_;simp only [ix,Nat.reduceAdd])|(with_reducible first|refine hK.cf ?_|refine hK.ct ?_)|(refine hK.uw rfl rfl ?_;walk_nrm)|(refine hV.vl rfl rfl fun J hJ=>?_;go_simp;with_reducible refine hJ _ ?_;clear hJ J;walk_nrm))
 refine yek _ ?_
 clear hK hV key yek K
 refine mu_leave1 (K:=fun g=>KK d g W1) hM.mu rfl rfl Try.func104 rfl ?_
 exact h W1 _ hnW1 kp Bm
theorem keys_none (hM : MarkK Try.prog main Z KK) (hn : norm V = V) (e_g : V.heap[gb]? = some (.cells #[.map (some rb)] 190 (0,0))) (e_m : V.heap[rb]? = some (.map es clk)) (hm : Mp es []) (h : ∀ V2,norm V2 = V2 → Kp V V2 → KK d (G (b₀.at (a₀.put ((ops₀[i₀]?).bind (·.dst)) (.slice none 0 0)) (.inRegion ops₀ rest₀ :: k₀)) cs0) V2) : KK d (G (Frame.enter Try.prog 64 #[.pointer (some ⟨gb,0,none⟩)] .normal) (b₀.at a₀ (.inRegion ops₀ (i₀ :: rest₀) :: k₀) :: cs0)) V:=by
 obtain rfl : es = #[]:=by
   unfold Mp at hm
   simpa using hm
 have l_m:=(glt e_m)
 rw [enter_at (P:=Try.prog) _ Try.func64 rfl]
 simp only [Try.f64]
 walk_nrm
 have r_e_g_0 : ∀ τ,(re V τ 0).cell? ⟨gb,0,none⟩ = some (.map (some rb)):=fun τ=>cell_of e_g (by simp)
 obtain ⟨K,hK,hV,key,yek⟩:=kKV (L:=Lone) (J:=fun g=>KK d g V) hM.mu (hM.muv hn)
 refine key _ ?_
 repeat (first|(with_reducible first|apply hK.sq|apply hK.sk|(apply hK.re;try subst hkk)|apply hK.bl|apply hK.ib|apply hK.rt|apply hK.nd)|refine hK.ex rfl ?_|(with_reducible refine hK.rg fun kk hkk=>?_;simp only [ix,Nat.reduceAdd])|(with_reducible first|refine hK.cf ?_|refine hK.ct ?_)|(refine hK.uw rfl rfl ?_;walk_nrm)|(refine hV.vl rfl rfl fun J hJ=>?_;go_simp;with_reducible refine hJ _ ?_;clear hJ J;walk_nrm))
 refine hK.cl rfl rfl rfl Try.func104 rfl ?_
 walk_nrm
 refine yek _ ?_
 clear hK hV key yek K
 refine mkeys_go hM hn fun V1 bm n1 k1 e_b=>?_
 have e_m1:=(k1.keep _ l_m).trans e_m
 walk_nrm
 obtain ⟨K,hK,hV,key,yek⟩:=kKV (L:=Lone) (J:=fun g=>KK d g V1) hM.mu (hM.muv n1)
 refine key _ ?_
 repeat (first|(with_reducible first|apply hK.sq|apply hK.sk|(apply hK.re;try subst hkk)|apply hK.bl|apply hK.ib|apply hK.rt|apply hK.nd)|refine hK.ex rfl ?_|(with_reducible refine hK.rg fun kk hkk=>?_;simp only [ix,Nat.reduceAdd])|(with_reducible first|refine hK.cf ?_|refine hK.ct ?_)|(refine hK.uw rfl rfl ?_;walk_nrm)|(refine hV.vl rfl rfl fun J hJ=>?_;go_simp;with_reducible refine hJ _ ?_;clear hJ J;walk_nrm))
 refine hK.cl rfl rfl rfl Try.func103 rfl ?_
 walk_nrm
 refine yek _ ?_
 clear hK hV key yek K
 refine sorted_nil hM n1 e_b e_m1 fun V2 n2 k2=>?_
 walk_nrm
 obtain ⟨K,hK,hV,key,yek⟩:=kKV (L:=Lone) (J:=fun g=>KK d g V2) hM.mu (hM.muv n2)
 refine key _ ?_
 repeat (first|(with_reducible first|apply hK.sq|apply hK.sk|(apply hK.re;try subst hkk)|apply hK.bl|apply hK.ib|apply hK.rt|apply hK.nd)|refine hK.ex rfl ?_|(with_reducible refine hK.rg fun kk hkk=>?_;simp only [ix,Nat.reduceAdd])|(with_reducible first|refine hK.cf ?_|refine hK.ct ?_)|(refine hK.uw rfl rfl ?_;walk_nrm)|(refine hV.vl rfl rfl fun J hJ=>?_;go_simp;with_reducible refine hJ _ ?_;clear hJ J;walk_nrm))
 refine yek _ ?_
 clear hK hV key yek K
 refine mu_leave1 (K:=fun g=>KK d g V2) hM.mu rfl rfl Try.func64 rfl ?_
 exact h V2 n2 (k1.trans k2)
end
end Go.Proofs.Ytibcdikfbhmheaa
