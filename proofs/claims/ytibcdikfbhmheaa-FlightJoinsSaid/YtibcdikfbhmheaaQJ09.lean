import Derived.Test.YtibcdikfbhmheaaQJ08
import Derived.Test.YtibcdikfbhmheaaB22
import Derived.Test.YtibcdikfbhmheaaB24
set_option linter.unusedSimpArgs false
set_option linter.unusedVariables false
set_option maxRecDepth 100000
set_option maxHeartbeats 4000000
namespace Go.Proofs.Ytibcdikfbhmheaa
open Go Go.Conc Go.Proofs
noncomputable section
section
variable {main : Bool} {Z : Cuts} {KK : Nat -> Goroutine -> World -> Prop} {d : Nat} {V : World} {bQ fr : Frame} {aQ : Act} {opsQ : Array Oper} {iQ : Nat} {restQ : List Nat} {kQ kt : List Item} {cs0 cs : List Frame} {gb rb clk : Nat} {es : Array MapEntry} {m : List ((Int × Int) × Nat)} {k : Int × Int}
theorem len64_0 (hM : MarkK Try.prog main Z KK) (hn : norm V = V) (h : KK d (G (bQ.at (aQ.put ((opsQ[iQ]?).bind (·.dst)) (.int .i64 0)) (.inRegion opsQ restQ :: kQ)) cs0) V) : KK d (G (Frame.enter Try.prog 173 #[.int .u64 0] .normal) (bQ.at aQ (.inRegion opsQ (iQ :: restQ) :: kQ) :: cs0)) V:=by
 have w8 : IntKind.u8.wrap 0 = 0:=by decide
 have w9 : IntKind.i64.wrap 0 = 0:=by decide
 rw [enter_at (P:=Try.prog) _ Try.func173 rfl]
 simp only [Try.f173]
 walk_nrm
 refine wM hM hn fun kk hkk=>?_
 refine mu_leave1 (K:=fun g=>KK d g V) hM.mu rfl rfl Try.func173 rfl ?_
 exact h
theorem len_0 (hM : MarkK Try.prog main Z KK) (hn : norm V = V) (h : KK d (G (bQ.at (aQ.put ((opsQ[iQ]?).bind (·.dst)) (.int .i64 0)) (.inRegion opsQ restQ :: kQ)) cs0) V) : KK d (G (Frame.enter Try.prog 150 #[.int .u64 0] .normal) (bQ.at aQ (.inRegion opsQ (iQ :: restQ) :: kQ) :: cs0)) V:=by
 rw [enter_at (P:=Try.prog) _ Try.func150 rfl]
 simp only [Try.f150]
 walk_nrm
 refine wM hM hn fun kk hkk=>?_
 refine hM.cl rfl rfl rfl Try.func173 rfl ?_
 walk_nrm
 refine len64_0 hM hn ?_
 walk_nrm
 refine wM hM hn fun kk hkk=>?_
 refine mu_leave1 (K:=fun g=>KK d g V) hM.mu rfl rfl Try.func150 rfl ?_
 exact h
theorem isort_nil {cv : Value} (hM : MarkK Try.prog main Z KK) (hn : norm V = V) (h : KK d (G (bQ.at (aQ.put ((opsQ[iQ]?).bind (·.dst)) (.tuple #[])) (.inRegion opsQ restQ :: kQ)) cs0) V) : KK d (G (Frame.enter Try.prog 164 #[.slice none 0 0,.int .i64 0,.int .i64 0,cv] .normal) (bQ.at aQ (.inRegion opsQ (iQ :: restQ) :: kQ) :: cs0)) V:=by
 have w1 : IntKind.i64.wrap 1 = 1:=by decide
 rw [enter_at (P:=Try.prog) _ Try.func164 rfl]
 simp only [Try.f164]
 walk_nrm
 refine wM hM hn fun kk hkk=>?_
 refine mu_loop (K:=fun g=>KK d g V) hM.mu ?_
 refine wM hM hn fun kk hkk=>?_
 refine mu_leave0 (K:=fun g=>KK d g V) hM.mu rfl rfl Try.func164 rfl ?_
 exact h
theorem pdq_nil {cv lv : Value} (hM : MarkK Try.prog main Z KK) (hn : norm V = V) (h : KK d (G (bQ.at (aQ.put ((opsQ[iQ]?).bind (·.dst)) (.tuple #[])) (.inRegion opsQ restQ :: kQ)) cs0) V) : KK d (G (Frame.enter Try.prog 149 #[.slice none 0 0,.int .i64 0,.int .i64 0,lv,cv] .normal) (bQ.at aQ (.inRegion opsQ (iQ :: restQ) :: kQ) :: cs0)) V:=by
 have w1 : IntKind.i64.wrap 0 = 0:=by decide
 rw [enter_at (P:=Try.prog) _ Try.func149 rfl]
 simp only [Try.f149]
 walk_nrm
 refine wM hM hn fun kk hkk=>?_
 refine mu_loop (K:=fun g=>KK d g V) hM.mu ?_
 refine wM hM hn fun kk hkk=>?_
 refine hM.cl rfl rfl rfl Try.func164 rfl ?_
 walk_nrm
 refine isort_nil hM hn ?_
 walk_nrm
 refine wM hM hn fun kk hkk=>?_
 refine mu_leave0 (K:=fun g=>KK d g V) hM.mu rfl rfl Try.func149 rfl ?_
 exact h
theorem sortF_nil {cv : Value} (hM : MarkK Try.prog main Z KK) (hn : norm V = V) (h : KK d (G (bQ.at (aQ.put ((opsQ[iQ]?).bind (·.dst)) (.tuple #[])) (.inRegion opsQ restQ :: kQ)) cs0) V) : KK d (G (Frame.enter Try.prog 136 #[.slice none 0 0,cv] .normal) (bQ.at aQ (.inRegion opsQ (iQ :: restQ) :: kQ) :: cs0)) V:=by
 have w1 : IntKind.u64.wrap 0 = 0:=by decide
 rw [enter_at (P:=Try.prog) _ Try.func136 rfl]
 simp only [Try.f136]
 walk_nrm
 refine wM hM hn fun kk hkk=>?_
 refine hM.cl rfl rfl rfl Try.func150 rfl ?_
 walk_nrm
 refine len_0 hM hn ?_
 walk_nrm
 refine wM hM hn fun kk hkk=>?_
 refine hM.cl rfl rfl rfl Try.func149 rfl ?_
 walk_nrm
 refine pdq_nil hM hn ?_
 walk_nrm
 refine wM hM hn fun kk hkk=>?_
 refine mu_leave0 (K:=fun g=>KK d g V) hM.mu rfl rfl Try.func136 rfl ?_
 exact h
end
theorem mu_leaveR {P : Program} {R : World -> Prop} {K : Goroutine -> Prop} {b : Frame} {a : Act} {k : List Item} {cs : List Frame} (hK : Mu P R K) {bQ : Frame} {aQ : Act} {l : Nat} {fn : Func} {todo : List Item} (hn : b.kind = .normal) (hd : a.defers = []) (hf : P.funcs[b.fn]? = some fn) (hr : fn.results = #[])
   (h : K (G (bQ.at aQ (.endRangeFunc l :: k)) cs)) : K (G { b.at a todo with mode:=.returning } (bQ.at aQ (.inRangeFunc l :: k) :: cs)) :=
 mu_step hK rfl (fun main w=>by rw [stepG_leave hn hd hf (results_none hr _ P w) (events_results_none hr _ _)]; rfl) h
theorem run_range188 {w : World} {rb clk : Nat} {es : Array MapEntry} (h : w.heap[rb]? = some (.map es clk)) : (Instr.range 188 (.map (some rb))).run Try.prog w = .ok (.pointer (some ⟨w.heap.size,0,none⟩)) (w.alloc (.mapIter (some rb) clk #[] clk)):=by
 simp [Instr.range,run_underlying Try.underlying188,getObj,newObj,Sem.run,h]
theorem run_next_none {w : World} {it rb clk s l : Nat} {t : TypeId} (hi : w.heap[it]? = some (.mapIter (some rb) s #[] l)) (h : w.heap[rb]? = some (.map #[] clk)) : (Instr.next (.pointer (some ⟨it,0,none⟩)) false t).run Try.prog w = .ok (.tuple #[.bool false]) w:=by
 simp [Instr.next,getObj,choose,Sem.run,hi,h,Question.forced]
section
variable {main : Bool} {Z : Cuts} {KK : Nat -> Goroutine -> World -> Prop} {d : Nat} {V : World} {bQ fr : Frame} {aQ : Act} {opsQ : Array Oper} {iQ : Nat} {restQ : List Nat} {kQ kt : List Item} {cs0 cs : List Frame} {gb rb clk : Nat} {es : Array MapEntry} {m : List ((Int × Int) × Nat)} {bm l : Nat} {yv : Value} {k : Int × Int}
theorem keysit_nil (hM : MarkK Try.prog main Z KK) (hn : norm V = V) (e_b : V.heap[bm]? = some (.cells #[.map (some rb)] 188 (0,0))) (e_m : V.heap[rb]? = some (.map #[] clk)) (h : ∀ V2,norm V2 = V2 -> Kp V V2 -> KK d (G (bQ.at aQ (.endRangeFunc l :: kQ)) cs0) V2) :
   KK d (G (Frame.enter Try.prog 137 #[yv,.pointer (some ⟨bm,0,none⟩)] .normal) (bQ.at aQ (.inRangeFunc l :: kQ) :: cs0)) V:=by
 have l_m:=(glt e_m)
 rw [enter_at (P:=Try.prog) _ Try.func137 rfl]
 simp only [Try.f137]
 walk_nrm
 have r_e_b_0:=qc 0 e_b rfl
 refine wM hM hn fun kk hkk=>?_
 clear r_e_b_0
 have hn1:=norm_al hn (.mapIter (some rb) clk #[] clk)
 refine mua_put (L:=Lone) (v:=.pointer (some ⟨V.heap.size,0,none⟩)) (hM.mua hn1) (K:=fun g=>KK d g V) (K':=fun g=>KK d g (V.alloc (.mapIter (some rb) clk #[] clk))) rfl (.inl rfl) rfl (by kernel_rfl) (fun τ=>?_) ?_
 . have h:=run_range188 (w:=re V τ 0) e_m
   simp only [execOp]
   go_simp
   exact ⟨rfl,rfl⟩
 have e_i:=al_at V (.mapIter (some rb) clk #[] clk)
 have e_m1 : (V.alloc (.mapIter (some rb) clk #[] clk)).heap[rb]? = some (.map #[] clk):=by rw [al_get,if_neg (by omega)]; exact e_m
 have k1 : Kp V (V.alloc (.mapIter (some rb) clk #[] clk)):=⟨by rw [al_size]; omega,fun b hb=>by rw [al_get,if_neg (by omega)]⟩
 generalize (V.alloc (.mapIter (some rb) clk #[] clk)) = V1 at *
 generalize V.heap.size = ib at e_i ⊢
 walk_nrm
 refine wM hM hn1 fun kk hkk=>?_
 refine mu_loop (K:=fun g=>KK d g V1) hM.mu ?_
 refine wM hM hn1 fun kk hkk=>?_
 have hMV : MuV Try.prog Lone V1 (fun g=>KK d g V1):=hM.muv hn1
 refine hMV _ _ _ _ _ _ _ _ (.tuple #[.bool false]) (.inl rfl) rfl rfl (by kernel_rfl) (fun τ=>?_) ?_
 . have h:=fun t=>run_next_none (w:=re V1 τ 0) (t:=t) e_i e_m1
   simp only [execOp]
   go_simp
 walk_nrm
 refine wM hM hn1 fun kk hkk=>?_
 refine mu_leaveR (K:=fun g=>KK d g V1) hM.mu rfl rfl Try.func137 rfl ?_
 exact h V1 hn1 k1
theorem appseq_nil (hM : MarkK Try.prog main Z KK) (hn : norm V = V) (e_b : V.heap[bm]? = some (.cells #[.map (some rb)] 188 (0,0))) (e_m : V.heap[rb]? = some (.map #[] clk)) (h : ∀ V2,norm V2 = V2 -> Kp V V2 -> KK d (G (bQ.at (aQ.put ((opsQ[iQ]?).bind (·.dst)) (.slice none 0 0)) (.inRegion opsQ restQ :: kQ)) cs0) V2) : KK d (G (Frame.enter Try.prog 148 #[.slice none 0 0,.func (.func 137) #[] #[.pointer (some ⟨bm,0,none⟩)]] .normal) (bQ.at aQ (.inRegion opsQ (iQ :: restQ) :: kQ) :: cs0)) V:=by
 have l_m:=(glt e_m)
 have l_b:=(glt e_b)
 have kp : Kp V V:=⟨Nat.le_refl _,fun _ _=>rfl⟩
 rw [enter_at (P:=Try.prog) _ Try.func148 rfl]
 simp only [Try.f148]
 walk_nrm
 refine wM hM hn fun kk hkk=>?_
 refine hM.al hn #[.slice none 0 0] 143 (.pointer (some ⟨V.heap.size,0,none⟩)) rfl rfl fun W1 hnW1 kW1 l0 Bs=>?_
 have lW1 : V.heap.size < W1.heap.size:=by omega
 clear l0
 have tW1 : V.heap.size < W1.heap.size /\ V.heap.size <= V.heap.size:=⟨lW1,Nat.le_refl _⟩
 generalize hbW1 : V.heap.size = b_Bs at Bs ⊢
 have l_b_Bs : V.heap.size <= b_Bs /\ b_Bs < W1.heap.size:=by omega
 clear hbW1 tW1
 replace kp:=kp.upA (Nat.le_of_lt lW1) kW1
 clear kW1
 walk_nrm
 refine wM hM hnW1 fun kk hkk=>?_
 have l_s:=(glt Bs)
 have sk:=kp.size
 refine mk_range (F:=137) (fn:=Try.f137) (caps:=#[.pointer (some ⟨bm,0,none⟩)]) hM hnW1 rfl rfl Try.func137 (by kernel_rfl) rfl ?_
 generalize hlo : loopOf _ _ _ _ _ _ _ = LO
 have f1:=al_get W1 (.deferred (some []))
 have g1:=al_size W1 (.deferred (some []))
 have n1 : norm (W1.alloc (.deferred (some []))) = W1.alloc (.deferred (some [])):=norm_al hnW1 _
 generalize (W1.alloc (.deferred (some []))) = U1 at *
 have f2:=al_get U1 LO
 have g2:=al_size U1 LO
 have n2 : norm (U1.alloc LO) = U1.alloc LO:=norm_al n1 _
 generalize U1.alloc LO = U2 at *
 rw [g1] at f2 g2
 have k2 : Kp W1 U2:=⟨by omega,fun b hb=>by rw [f2,if_neg (by omega),f1,if_neg (by omega)]⟩
 have e_d : U2.heap[W1.heap.size]? = some (.deferred (some [])):=by rw [f2,if_neg (by omega),f1,if_pos rfl]
 have e_l : U2.heap[W1.heap.size + 1]? = some LO:=by rw [f2,if_pos rfl]
 have kp2:=kp.trans k2
 clear f1 f2
 show KK d (G (Frame.enter Try.prog 137 #[.func (.yield (W1.heap.size + 1)) #[] #[],.pointer (some ⟨bm,0,none⟩)] .normal) _) U2
 refine keysit_nil hM n2 ((kp2.keep _ l_b).trans e_b) ((kp2.keep _ l_m).trans e_m) fun U3 n3 k3=>?_
 have e_d3:=(k3.keep _ (by omega)).trans e_d
 have e_l3:=(k3.keep _ (by omega)).trans e_l
 have kp3:=kp2.trans k3
 have Bs3:=(k3.keep _ (by have:=k2.size; omega)).trans ((k2.keep _ l_s).trans Bs)
 subst hlo
 refine mk_endrange hM n3 e_l3 (by decide) ?_
 generalize hlo : loopOf _ _ _ _ _ _ .exhausted = LO
 have n4:=setM_norm n3 (W1.heap.size + 1) LO
 have h4 : ∀ b,b ≠ W1.heap.size + 1 -> (setM U3 (W1.heap.size + 1) LO).heap[b]? = U3.heap[b]?:=fun b hb=>setM_get _ _ _ _ hb
 have z4:=setM_size U3 (W1.heap.size + 1) LO
 generalize setM U3 (W1.heap.size + 1) LO = U4 at *
 have e_d4:=(h4 _ (by omega)).trans e_d3
 have Bs4:=(h4 _ (by omega)).trans Bs3
 have kp4 : Kp V U4:=⟨by have:=kp3.size; omega,fun b hb=>(h4 b (by omega)).trans (kp3.keep b hb)⟩
 clear h4 hlo Bs3 Bs
 generalize W1.heap.size = db at *
 have r_Bs4_0:=qc 0 Bs4 rfl
 refine wM hM n4 fun kk hkk=>?_
 clear r_Bs4_0
 refine mk_collect hM n4 e_d4 ?_
 have n5:=setM_norm n4 db (.deferred none)
 have kp5 : Kp V (setM U4 db (.deferred none)):=⟨by rw [setM_size]; exact kp4.size,fun b hb=>(setM_get _ _ _ _ (by omega)).trans (kp4.keep b hb)⟩
 generalize setM U4 db (.deferred none) = U5 at *
 refine mu_leave1 (K:=fun g=>KK d g U5) hM.mu rfl rfl Try.func148 rfl ?_
 exact h U5 n5 kp5
theorem collect_nil (hM : MarkK Try.prog main Z KK) (hn : norm V = V) (e_b : V.heap[bm]? = some (.cells #[.map (some rb)] 188 (0,0))) (e_m : V.heap[rb]? = some (.map #[] clk)) (h : ∀ V2,norm V2 = V2 -> Kp V V2 -> KK d (G (bQ.at (aQ.put ((opsQ[iQ]?).bind (·.dst)) (.slice none 0 0)) (.inRegion opsQ restQ :: kQ)) cs0) V2) : KK d (G (Frame.enter Try.prog 135 #[.func (.func 137) #[] #[.pointer (some ⟨bm,0,none⟩)]] .normal) (bQ.at aQ (.inRegion opsQ (iQ :: restQ) :: kQ) :: cs0)) V:=by
 have l_m:=(glt e_m)
 have l_b:=(glt e_b)
 have kp : Kp V V:=⟨Nat.le_refl _,fun _ _=>rfl⟩
 rw [enter_at (P:=Try.prog) _ Try.func135 rfl]
 simp only [Try.f135]
 walk_nrm
 refine wM hM hn fun kk hkk=>?_
 refine hM.cl rfl rfl rfl Try.func148 rfl ?_
 walk_nrm
 refine appseq_nil hM hn e_b e_m fun V1 n1 k1=>?_
 walk_nrm
 refine wM hM n1 fun kk hkk=>?_
 refine mu_leave1 (K:=fun g=>KK d g V1) hM.mu rfl rfl Try.func135 rfl ?_
 exact h V1 n1 k1
theorem sorted_nil (hM : MarkK Try.prog main Z KK) (hn : norm V = V) (e_b : V.heap[bm]? = some (.cells #[.map (some rb)] 188 (0,0))) (e_m : V.heap[rb]? = some (.map #[] clk)) (h : ∀ V2,norm V2 = V2 -> Kp V V2 -> KK d (G (bQ.at (aQ.put ((opsQ[iQ]?).bind (·.dst)) (.slice none 0 0)) (.inRegion opsQ restQ :: kQ)) cs0) V2) : KK d (G (Frame.enter Try.prog 103 #[.func (.func 137) #[] #[.pointer (some ⟨bm,0,none⟩)],.func (.func 105) #[] #[]] .normal) (bQ.at aQ (.inRegion opsQ (iQ :: restQ) :: kQ) :: cs0)) V:=by
 have l_m:=(glt e_m)
 have l_b:=(glt e_b)
 have kp : Kp V V:=⟨Nat.le_refl _,fun _ _=>rfl⟩
 rw [enter_at (P:=Try.prog) _ Try.func103 rfl]
 simp only [Try.f103]
 walk_nrm
 refine wM hM hn fun kk hkk=>?_
 refine hM.cl rfl rfl rfl Try.func135 rfl ?_
 walk_nrm
 refine collect_nil hM hn e_b e_m fun V1 n1 k1=>?_
 walk_nrm
 refine wM hM n1 fun kk hkk=>?_
 refine hM.cl rfl rfl rfl Try.func136 rfl ?_
 walk_nrm
 refine sortF_nil hM n1 ?_
 walk_nrm
 refine wM hM n1 fun kk hkk=>?_
 refine mu_leave1 (K:=fun g=>KK d g V1) hM.mu rfl rfl Try.func103 rfl ?_
 exact h V1 n1 k1
theorem mkeys_go (hM : MarkK Try.prog main Z KK) (hn : norm V = V) (h : ∀ V2 bm,norm V2 = V2 -> Kp V V2 -> V2.heap[bm]? = some (.cells #[.map (some rb)] 188 (0,0)) -> KK d (G (bQ.at (aQ.put ((opsQ[iQ]?).bind (·.dst)) (.func (.func 137) #[] #[.pointer (some ⟨bm,0,none⟩)])) (.inRegion opsQ restQ :: kQ)) cs0) V2) : KK d (G (Frame.enter Try.prog 104 #[.map (some rb)] .normal) (bQ.at aQ (.inRegion opsQ (iQ :: restQ) :: kQ) :: cs0)) V:=by
 have kp : Kp V V:=⟨Nat.le_refl _,fun _ _=>rfl⟩
 rw [enter_at (P:=Try.prog) _ Try.func104 rfl]
 simp only [Try.f104]
 walk_nrm
 refine wM hM hn fun kk hkk=>?_
 refine hM.al hn #[.map (some rb)] 188 (.pointer (some ⟨V.heap.size,0,none⟩)) rfl rfl fun W1 hnW1 kW1 l0 Bm=>?_
 have lW1 : V.heap.size < W1.heap.size:=by omega
 clear l0
 have tW1 : V.heap.size < W1.heap.size /\ V.heap.size <= V.heap.size:=⟨lW1,Nat.le_refl _⟩
 generalize hbW1 : V.heap.size = b_Bm at Bm ⊢
 have l_b_Bm : V.heap.size <= b_Bm /\ b_Bm < W1.heap.size:=by omega
 clear hbW1 tW1
 replace kp:=kp.upA (Nat.le_of_lt lW1) kW1
 clear kW1
 walk_nrm
 refine wM hM hnW1 fun kk hkk=>?_
 refine mu_leave1 (K:=fun g=>KK d g W1) hM.mu rfl rfl Try.func104 rfl ?_
 exact h W1 _ hnW1 kp Bm
theorem keys_none (hM : MarkK Try.prog main Z KK) (hn : norm V = V) (e_g : V.heap[gb]? = some (.cells #[.map (some rb)] 190 (0,0))) (e_m : V.heap[rb]? = some (.map es clk)) (hm : Mp es []) (h : ∀ V2,norm V2 = V2 -> Kp V V2 -> KK d (G (bQ.at (aQ.put ((opsQ[iQ]?).bind (·.dst)) (.slice none 0 0)) (.inRegion opsQ restQ :: kQ)) cs0) V2) : KK d (G (Frame.enter Try.prog 64 #[.pointer (some ⟨gb,0,none⟩)] .normal) (bQ.at aQ (.inRegion opsQ (iQ :: restQ) :: kQ) :: cs0)) V:=by
 obtain rfl : es = #[]:=by
   unfold Mp at hm
   simpa using hm
 have l_m:=(glt e_m)
 rw [enter_at (P:=Try.prog) _ Try.func64 rfl]
 simp only [Try.f64]
 walk_nrm
 have r_e_g_0:=qc 0 e_g rfl
 refine wM hM hn fun kk hkk=>?_
 refine hM.cl rfl rfl rfl Try.func104 rfl ?_
 walk_nrm
 refine mkeys_go hM hn fun V1 bm n1 k1 e_b=>?_
 have e_m1:=(k1.keep _ l_m).trans e_m
 walk_nrm
 refine wM hM n1 fun kk hkk=>?_
 refine hM.cl rfl rfl rfl Try.func103 rfl ?_
 walk_nrm
 refine sorted_nil hM n1 e_b e_m1 fun V2 n2 k2=>?_
 walk_nrm
 refine wM hM n2 fun kk hkk=>?_
 refine mu_leave1 (K:=fun g=>KK d g V2) hM.mu rfl rfl Try.func64 rfl ?_
 exact h V2 n2 (k1.trans k2)
end
section
variable {P : Program} {L : List FuncId} {main : Bool} {Z : Cuts} {KK : Nat -> Goroutine -> World -> Prop} {d : Nat} {V V' : World} {b bQ : Frame} {a aQ : Act} {k kQ : List Item} {cs : List Frame}
theorem mkR_val (hK : MarkK P main Z KK) {ops : Array Oper} {i : Nat} {rest : List Nat} {o : Oper} {v : Value} (hb : b.kind = .normal) (ho : ops[i]? = some o) (hw : Region.wanted o (yielded ops a.tmps) = true) (hnd : isDefer o.op = false) (hok : opOk P L o.op = true) (hn : norm V' = V')
   (hr : ∀ τ,(execOp a.eval o).run P (re V τ 0) = .ok (.value v) (re V' τ 0)) (h : KK d (G (b.atR (a.put o.dst v) (.inRegion ops rest :: k)) cs) V') : KK d (G (b.atR a (.inRegion ops (i :: rest) :: k)) cs) V :=
 mkR_ex hK hb ho hw hnd hok (fun u W=>u = v /\ W = V') (fun τ=>⟨v,_,.inl (hr τ),rfl,hn⟩) fun u W ⟨e1,e2⟩ _=>by subst e1 e2; exact h
theorem mkR_skip (hK : MarkK P main Z KK) {ops : Array Oper} {i : Nat} {rest : List Nat} {o : Oper} (hb : b.kind = .normal) (ho : ops[i]? = some o) (hw : Region.wanted o (yielded ops a.tmps) = true) (hnd : isDefer o.op = false) (hok : opOk P L o.op = true) (hn : norm V' = V')
   (hr : ∀ τ,(execOp a.eval o).run P (re V τ 0) = .ok .skip (re V' τ 0)) (h : KK d (G (b.atR (a.put o.dst undef) (.inRegion ops rest :: k)) cs) V') : KK d (G (b.atR a (.inRegion ops (i :: rest) :: k)) cs) V :=
 mkR_ex hK hb ho hw hnd hok (fun u W=>u = undef /\ W = V') (fun τ=>⟨undef,_,.inr ⟨hr τ,rfl⟩,rfl,hn⟩) fun u W ⟨e1,e2⟩ _=>by subst e1 e2; exact h
end
def rfA : Code -> Code | .rangeFunc _ _ x _=>x | c=>c
def rfB : Code -> Code | .rangeFunc _ _ _ x=>x | c=>c
noncomputable def aR : Code:=nvk (nvb (nva (nvb (Try.f148.body.getD .skip))))
def aA : Code:=rfA aR
def aB : Code:=rfB aR
def aAo : Array Oper:=rops aA
def aBo : Array Oper:=rops (nvk aB)
theorem aA_eq : aA = .region 2 aAo false:=by kernel_rfl
theorem aB_eq : aB = .block 1 (.region 3 aBo false):=by kernel_rfl
def aT (fv : Value) (sb : Nat) : Array Value:=#[.slice none 0 0,fv,.pointer (some ⟨sb,0,none⟩),undef,.slice none 0 0,undef,fv,undef,undef,undef,undef,undef,undef]
def flat (ks : List (Int × Int)) : List Value:=ks.flatMap fun k=>[.int .i64 k.1,.int .i64 k.2]
theorem flat_add (ks : List (Int × Int)) (k : Int × Int) : flat (ks ++ [k]) = flat ks ++ [.int .i64 k.1,.int .i64 k.2]:=by simp [flat]
theorem flat_len (ks : List (Int × Int)) : (flat ks).length = ks.length * 2:=by
 unfold flat
 rw [List.length_flatMap]
 induction ks with
 | nil=>rfl
 | cons k ks ih=>simp at ih ⊢; omega
section
variable {main : Bool} {Z : Cuts} {KK : Nat -> Goroutine -> World -> Prop} {d : Nat} {V : World} {bQ : Frame} {aQ : Act} {opsQ : Array Oper} {iQ : Nat} {restQ : List Nat} {kQ : List Item} {cs : List Frame} {l D sb lo : Nat} {fv sv : Value} {ks : List (Int × Int)} {k : Int × Int}
theorem round148 (hM : MarkK Try.prog main Z KK) (hn : norm V = V) (e_s : V.heap[sb]? = some (.cells #[sv] 143 (0,0))) (e_l : V.heap[l]? = some (loopOf 148 (aT fv sb) #[7] aA aB D .ready)) (row : V.ownsRow 0 139 2 sv ks.length (flat ks)) (hsv : ∀ b,sv.ownBlock = some b -> b ≠ sb /\ b ≠ l) (hlen : ks.length < 1000)
   (h : ∀ V2 sv2,norm V2 = V2 -> V.heap.size <= V2.heap.size -> V2.heap[sb]? = some (.cells #[sv2] 143 (0,0)) -> V2.heap[l]? = some (loopOf 148 (aT fv sb) #[7] aA aB D .ready) -> V2.ownsRow 0 139 2 sv2 (ks ++ [k]).length (flat (ks ++ [k])) -> (sv2.ownBlock = sv.ownBlock ∨ ∃ b,sv2.ownBlock = some b /\ V.heap.size <= b) -> (∀ b,b < V.heap.size -> b ≠ sb -> b ≠ l -> sv.ownBlock ≠ some b -> V2.heap[b]? = V.heap[b]?) ->
     KK d (G (bQ.at (aQ.put ((opsQ[iQ]?).bind (·.dst)) (.bool true)) (.inRegion opsQ restQ :: kQ)) cs) V2) :
   KK d (G (Frame.round l 148 ((aT fv sb).setIfInBounds 7 (kv k)) aA aB .normal) (bQ.at aQ (.inRegion opsQ (iQ :: restQ) :: kQ) :: cs)) V:=by
 have l_s:=(Array.getElem?_eq_some_iff.1 e_s).1
 have l_l:=(Array.getElem?_eq_some_iff.1 e_l).1
 have hsl : sb ≠ l:=fun e=>by
   subst e
   rw [e_s] at e_l
   cases e_l
 rw [round_at,aA_eq]
 refine mkR_region hM ?_
 rw [show List.range aAo.size = [0,1] by rw [show aAo.size = 2 by kernel_rfl]; rfl]
 have hn1 : norm (V.alloc (.cells #[.int .i64 0,.int .i64 0] 139)) = V.alloc (.cells #[.int .i64 0,.int .i64 0] 139):=norm_al hn _
 obtain ⟨p0,hp0,hd0,hop0,hg0⟩:=opat (ops:=aAo) (i:=0) (d:=some 5) (op:=.alloc 139) (by kernel_rfl)
 refine mkR_val (L:=Lone) (v:=.pointer (some ⟨V.heap.size,0,none⟩)) hM rfl hp0 (wanted_none hg0) (by rw [hop0]; rfl) (by rw [hop0]; kernel_rfl) hn1 (fun τ=>?_) ?_
 . simp only [execOp,hop0]
   go_simp
   exact ⟨rfl,rfl⟩
 rw [hd0]
 clear hp0 hd0 hop0 hg0
 have f1:=al_get V (.cells #[.int .i64 0,.int .i64 0] 139)
 have g1:=al_size V (.cells #[.int .i64 0,.int .i64 0] 139)
 generalize hVb : V.heap.size = vb at *
 generalize V.alloc (.cells #[.int .i64 0,.int .i64 0] 139) = V1 at *
 have e_v : V1.heap[vb]? = some (.cells #[.int .i64 0,.int .i64 0] 139 (0,0)):=by rw [f1,if_pos rfl]
 have q0:=qc 0 e_v rfl
 have q1:=qc 1 e_v rfl
 have z0:=qz 0 e_v
 have z1:=qz 1 e_v
 have hn2 : norm ((V1.setCell ⟨vb,0,none⟩ (.int .i64 k.1)).setCell ⟨vb,1,none⟩ (.int .i64 k.2)) = ((V1.setCell ⟨vb,0,none⟩ (.int .i64 k.1)).setCell ⟨vb,1,none⟩ (.int .i64 k.2)):=norm_set (norm_set hn1 _ _) _ _
 obtain ⟨p0,hp0,hd0,hop0,hg0⟩:=opat (ops:=aAo) (i:=1) (d:=none) (op:=.store 139 (.tmp 5) (.tmp 7)) (by kernel_rfl)
 refine mkR_skip (L:=Lone) hM rfl hp0 (wanted_none hg0) (by rw [hop0]; rfl) (by rw [hop0]; kernel_rfl) hn2 (fun τ=>?_) ?_
 . simp only [execOp,hop0,aT,kv]
   go_simp
   try rfl
 rw [hd0]
 clear hp0 hd0 hop0 hg0 q0 q1 z0 z1
 have f2 : ∀ b,b ≠ vb -> ((V1.setCell ⟨vb,0,none⟩ (.int .i64 k.1)).setCell ⟨vb,1,none⟩ (.int .i64 k.2)).heap[b]? = V1.heap[b]?:=fun b hb=>by rw [setCell_heap,if_neg hb,setCell_heap,if_neg hb]
 have g2 : ((V1.setCell ⟨vb,0,none⟩ (.int .i64 k.1)).setCell ⟨vb,1,none⟩ (.int .i64 k.2)).heap.size = V1.heap.size:=by simp [World.setCell]
 have e_v2 : ((V1.setCell ⟨vb,0,none⟩ (.int .i64 k.1)).setCell ⟨vb,1,none⟩ (.int .i64 k.2)).heap[vb]? = some (.cells #[.int .i64 k.1,.int .i64 k.2] 139 (0,0)):=by
   rw [setCell_heap,if_pos rfl,setCell_heap,if_pos rfl,e_v]
   simp
 generalize (V1.setCell ⟨vb,0,none⟩ (.int .i64 k.1)).setCell ⟨vb,1,none⟩ (.int .i64 k.2) = V2 at *
 refine mkR_region_end hM ?_
 have k2 : ∀ b,b < vb -> V2.heap[b]? = V.heap[b]?:=fun b hb=>(f2 b (by omega)).trans (by rw [f1,if_neg (by omega)])
 have e_l2:=(k2 l (by omega)).trans e_l
 refine mkR_begin hM hn2 rfl rfl e_l2 ?_
 have hn3:=setM_norm hn2 l (loopOf 148 (aT fv sb) #[7] aA aB D .busy)
 have f3 : ∀ b,b ≠ l -> (setM V2 l (loopOf 148 (aT fv sb) #[7] aA aB D .busy)).heap[b]? = V2.heap[b]?:=fun b hb=>setM_get _ _ _ _ hb
 have g3:=setM_size V2 l (loopOf 148 (aT fv sb) #[7] aA aB D .busy)
 have e_l3:=setM_self (loopOf 148 (aT fv sb) #[7] aA aB D .busy) e_l2
 generalize setM V2 l (loopOf 148 (aT fv sb) #[7] aA aB D .busy) = V3 at *
 rw [aB_eq]
 refine mkR_block hM (mkR_region hM ?_)
 rw [show List.range aBo.size = [0,1,2,3,4] by rw [show aBo.size = 5 by kernel_rfl]; rfl]
 have e_s3 : V3.heap[sb]? = some (.cells #[sv] 143 (0,0)):=(f3 sb hsl).trans ((k2 sb (by omega)).trans e_s)
 have e_v3:=(f3 vb (by omega)).trans e_v2
 have s3:=qc 0 e_s3 rfl
 have q0:=qc 0 e_v3 rfl
 have q1:=qc 1 e_v3 rfl
 obtain ⟨p0,hp0,hd0,hop0,hg0⟩:=opat (ops:=aBo) (i:=0) (d:=some 8) (op:=.load 143 (.tmp 2)) (by kernel_rfl)
 refine mkR_val (L:=Lone) (v:=sv) hM rfl hp0 (wanted_none hg0) (by rw [hop0]; rfl) (by rw [hop0]; kernel_rfl) hn3 (fun τ=>?_) ?_
 . simp only [execOp,hop0,aT,kv]
   go_simp
   try rfl
 rw [hd0]
 clear hp0 hd0 hop0 hg0
 obtain ⟨p0,hp0,hd0,hop0,hg0⟩:=opat (ops:=aBo) (i:=1) (d:=some 9) (op:=.load 139 (.tmp 5)) (by kernel_rfl)
 refine mkR_val (L:=Lone) (v:=kv k) hM rfl hp0 (wanted_none hg0) (by rw [hop0]; rfl) (by rw [hop0]; kernel_rfl) hn3 (fun τ=>?_) ?_
 . simp only [execOp,hop0,aT,kv]
   go_simp
   try rfl
 rw [hd0]
 clear hp0 hd0 hop0 hg0 q0 q1 s3
 have hn4 : norm (V3.alloc (.cells #[.int .i64 k.1,.int .i64 k.2] 139)) = V3.alloc (.cells #[.int .i64 k.1,.int .i64 k.2] 139):=norm_al hn3 _
 obtain ⟨p0,hp0,hd0,hop0,hg0⟩:=opat (ops:=aBo) (i:=2) (d:=some 10) (op:=.buildSlice 143 1 #[(0,.tmp 9)]) (by kernel_rfl)
 refine mkR_val (L:=Lone) (v:=.slice (some ⟨V3.heap.size,0,none⟩) 1 1) hM rfl hp0 (wanted_none hg0) (by rw [hop0]; rfl) (by rw [hop0]; kernel_rfl) hn4 (fun τ=>?_) ?_
 . simp only [execOp,hop0,aT,kv]
   go_simp
   exact ⟨by simp only [re]; omega,rfl⟩
 rw [hd0]
 clear hp0 hd0 hop0 hg0
 have f4:=al_get V3 (.cells #[.int .i64 k.1,.int .i64 k.2] 139)
 have g4:=al_size V3 (.cells #[.int .i64 k.1,.int .i64 k.2] 139)
 generalize hrb : V3.heap.size = rb at *
 generalize V3.alloc (.cells #[.int .i64 k.1,.int .i64 k.2] 139) = V4 at *
 have e_r : V4.heap[rb]? = some (.cells #[.int .i64 k.1,.int .i64 k.2] 139 (0,0)):=by rw [f4,if_pos rfl]
 have src : V4.ownsRow 0 139 2 (.slice (some ⟨rb,0,none⟩) 1 1) 1 [.int .i64 k.1,.int .i64 k.2]:=own_lit e_r rfl (by decide)
 have k4 : ∀ b,b < vb -> b ≠ l -> V4.heap[b]? = V.heap[b]?:=fun b hb hbl=>(by rw [f4,if_neg (by omega)] : V4.heap[b]? = V3.heap[b]?).trans ((f3 b hbl).trans (k2 b hb))
 have row4 : V4.ownsRow 0 139 2 sv ks.length (flat ks):=row_keep row fun b hb=>k4 b (by have:=row_at row hb; omega) (hsv b hb).2
 obtain ⟨p0,hp0,hd0,hop0,hg0⟩:=opat (ops:=aBo) (i:=3) (d:=some 11) (op:=.call { callee:=.builtin .append,args:=#[.tmp 8,.tmp 10],argTypes:=#[143,143] }) (by kernel_rfl)
 refine mkR_ex (L:=Lone) hM rfl hp0 (wanted_none hg0) (by rw [hop0]; rfl) (by rw [hop0]; kernel_rfl) (fun v W=>W.ownsRow 0 139 2 v (ks.length + 1) (flat ks ++ [.int .i64 k.1,.int .i64 k.2]) /\ Grw V4 W sv v) (fun τ=>?_) fun sv2 V5 ⟨hA,hB⟩ hn5=>?_
 . obtain ⟨v',w',a1,a2,a3⟩:=app_row (V:=re V4 τ 0) (t:=143) (e:=139) (sz:=2) (z:=.agg #[.int .i64 0,.int .i64 0]) (B:=16) Try.underlying143 (by kernel_rfl) rfl (by decide) (by decide) (owns_re row4) (owns_re src) (fun y hy=>by
     simp only [List.mem_cons,List.not_mem_nil,or_false] at hy
     rcases hy with rfl | rfl <;> rfl) (by omega)
   refine ⟨v',w',.inl ?_,a2,a3⟩
   have ht : p0.type = 143:=by
     have h1 : (aBo[3]?).map (·.type) = some 143:=by kernel_rfl
     rw [hp0] at h1
     exact Option.some.inj h1
   exact run_app_opm hop0 rfl rfl (by rw [ht]; exact a1)
 rw [hd0]
 clear hp0 hd0 hop0 hg0
 obtain ⟨gs,gk,go⟩:=hB
 have e_s5 : V5.heap[sb]? = some (.cells #[sv] 143 (0,0)):=(gk sb (by omega) (fun e=>(hsv sb e).1 rfl)).trans ((k4 sb (by omega) hsl).trans e_s)
 have e_l5 : V5.heap[l]? = some (loopOf 148 (aT fv sb) #[7] aA aB D .busy):=(gk l (by omega) (fun e=>(hsv l e).2 rfl)).trans ((by rw [f4,if_neg (by omega)] : V4.heap[l]? = V3.heap[l]?).trans e_l3)
 have s5:=qc 0 e_s5 rfl
 have z5:=qz 0 e_s5
 have hn6 : norm (V5.setCell ⟨sb,0,none⟩ sv2) = V5.setCell ⟨sb,0,none⟩ sv2:=norm_set hn5 _ _
 have hrow5:=hA
 obtain ⟨xb,xc,rfl⟩:=row_slice hA
 obtain ⟨p0,hp0,hd0,hop0,hg0⟩:=opat (ops:=aBo) (i:=4) (d:=none) (op:=.store 143 (.tmp 2) (.tmp 11)) (by kernel_rfl)
 refine mkR_skip (L:=Lone) hM rfl hp0 (wanted_none hg0) (by rw [hop0]; rfl) (by rw [hop0]; kernel_rfl) hn6 (fun τ=>?_) ?_
 . simp only [execOp,hop0,aT,kv]
   go_simp
   try rfl
 rw [hd0]
 clear hp0 hd0 hop0 hg0 s5 z5
 have f6 : ∀ b,b ≠ sb -> (V5.setCell ⟨sb,0,none⟩ (.slice xb (ks.length + 1) xc)).heap[b]? = V5.heap[b]?:=fun b hb=>by rw [setCell_heap,if_neg hb]
 have g6 : (V5.setCell ⟨sb,0,none⟩ (.slice xb (ks.length + 1) xc)).heap.size = V5.heap.size:=by simp [World.setCell]
 have e_s6 : (V5.setCell ⟨sb,0,none⟩ (.slice xb (ks.length + 1) xc)).heap[sb]? = some (.cells #[.slice xb (ks.length + 1) xc] 143 (0,0)):=by
   rw [setCell_heap,if_pos rfl,e_s5]
   simp
 generalize V5.setCell ⟨sb,0,none⟩ (.slice xb (ks.length + 1) xc) = V6 at *
 refine mkR_region_end hM (mkR_inBlock hM ?_)
 have e_l6:=(f6 l (Ne.symm hsl)).trans e_l5
 refine mkR_end hM hn6 rfl rfl e_l6 ?_
 have hn7:=setM_norm hn6 l (loopOf 148 (aT fv sb) #[7] aA aB D .ready)
 have f7 : ∀ b,b ≠ l -> (setM V6 l (loopOf 148 (aT fv sb) #[7] aA aB D .ready)).heap[b]? = V6.heap[b]?:=fun b hb=>setM_get _ _ _ _ hb
 have g7:=setM_size V6 l (loopOf 148 (aT fv sb) #[7] aA aB D .ready)
 have e_l7:=setM_self (loopOf 148 (aT fv sb) #[7] aA aB D .ready) e_l6
 generalize setM V6 l (loopOf 148 (aT fv sb) #[7] aA aB D .ready) = V7 at *
 have hown : ∀ b,(Value.slice xb (ks.length + 1) xc).ownBlock = some b -> b ≠ sb /\ b ≠ l:=fun b hb=>by
   rcases go with h | h
   . exact hsv b (h ▸ hb)
   . rw [h] at hb
     obtain rfl:=Option.some.inj hb
     exact ⟨by omega,by omega⟩
 refine h V7 (.slice xb (ks.length + 1) xc) hn7 (by omega) ((f7 sb hsl).trans e_s6) e_l7 ?_ ?_ fun b hb h1 h2 h3=>?_
 . rw [flat_add,List.length_append]
   exact row_keep hrow5 fun b hb=>(f7 b (hown b hb).2).trans (f6 b (hown b hb).1)
 . rcases go with h | h
   . exact .inl h
   . exact .inr ⟨_,h,by omega⟩
 . exact (f7 b h2).trans ((f6 b h1).trans ((gk b (by omega) h3).trans (k4 b (by omega) h2)))
end
def nxP (it rb clk : Nat) (seen : Array Nat) (o : Option (Option MapEntry)) : Sem Value:=match o with
 | some (some e)=>do setObj it (.mapIter (some rb) clk (seen.push e.born) clk); pure (.tuple #[.bool true,e.key,e.val])
 | some none=>pure (.tuple #[.bool false])
 | none => stuck "Next: no such candidate"
theorem next_go {P : Program} {w : World} {it rb clk : Nat} {seen : Array Nat} {es : Array MapEntry} {t : TypeId} (hi : w.heap[it]? = some (.mapIter (some rb) clk seen clk)) (hm : w.heap[rb]? = some (.map es clk)) (hb : ∀ e ∈ es,e.born < clk) :
   ((∀ e ∈ es,seen.contains e.born = true) /\ (Instr.next (.pointer (some ⟨it,0,none⟩)) false t).run P w = .ok (.tuple #[.bool false]) w) ∨
   ∃ e ∈ es,seen.contains e.born = false /\ ∃ W,(Instr.next (.pointer (some ⟨it,0,none⟩)) false t).run P w = .ok (.tuple #[.bool true,e.key,e.val]) W /\ norm W = norm (setM w it (.mapIter (some rb) clk (seen.push e.born) clk)):=by
 have hguard : (!seen.isEmpty && !es.isEmpty && es.all (fun e=>decide (e.born ≥ clk))) = false:=by
   cases h : es.isEmpty with
   | true=>simp
   | false =>
     have h0 : 0 < es.size:=by
       rcases Nat.eq_zero_or_pos es.size with h1 | h1
       . rw [Array.isEmpty_iff_size_eq_zero.2 h1] at h; cases h
       . exact h1
     have : es.all (fun e=>decide (e.born ≥ clk)) = false:=by
       rw [Array.all_eq_false]
       have:=hb es[0] (Array.getElem_mem h0)
       exact ⟨0,h0,by simpa using this⟩
     rw [this]
     simp
 obtain ⟨L,hL⟩ : ∃ L,L = es.filter fun e=>!seen.contains e.born:=⟨_,rfl⟩
 have hLm : ∀ e,e ∈ L ↔ e ∈ es /\ seen.contains e.born = false:=fun e=>by
   rw [hL,Array.mem_filter]
   simp
 have ho : L.filter (fun e=>decide (e.born < clk)) = L:=by
   rw [Array.filter_eq_self]
   intro e he
   simpa using hb e ((hLm e).1 he).1
 have hnw : L.filter (fun e=>decide (e.born ≥ clk)) = #[]:=by
   rw [Array.filter_eq_empty_iff]
   intro e he
   have:=hb e ((hLm e).1 he).1
   simp
   omega
 obtain ⟨C,hC⟩ : ∃ C : Array (Option MapEntry),C = (if L.isEmpty then #[none] else #[]) ++ (L ++ #[]).map some:=⟨_,rfl⟩
 have e1 : (Instr.next (.pointer (some ⟨it,0,none⟩)) false t).run P w = ((choose (.mapNext C.size) >>= fun i=>nxP it rb clk seen C[i]?) : Sem Value).run P w:=by
   simp only [Instr.next,getObj,bind,Sem.bind,Sem.run,hi,hm]
   rw [if_neg (by rw [hguard]; simp),← hL,ho,hnw,← hC]
   rfl
 have pick : ∀ (n : Nat) (w' : World),w'.heap = w.heap -> (nxP it rb clk seen C[n]?).run P w' = match C[n]? with
     | some (some (e : MapEntry))=>.ok (.tuple #[.bool true,e.key,e.val]) (setM w' it (.mapIter (some rb) clk (seen.push e.born) clk))
     | some none=>.ok (.tuple #[.bool false]) w'
     | none => (stuck "Next: no such candidate" : Sem Value).run P w' := fun n w' hw => by
   rcases C[n]? with _ | _ | e
   . rfl
   . rfl
   . simp only [nxP,setObj,bind,Sem.bind,Sem.run,hw,hi,setM]
     rfl
 rw [e1]
 by_cases hz : L = #[]
 . refine .inl ⟨fun e he=>?_,?_⟩
   . cases hc : seen.contains e.born with
     | true=>rfl
     | false =>
       have:=(hLm e).2 ⟨he,hc⟩
       rw [hz] at this
       simp at this
   . have hC1 : C = #[none]:=by rw [hC,hz]; simp
     rw [hC1]
     rfl
 . have hLe : L.isEmpty = false:=by
     cases h : L.isEmpty with
     | false=>rfl
     | true=>exact absurd (Array.isEmpty_iff.1 h) hz
   have hC1 : C = L.map some:=by rw [hC,hLe]; simp
   have hsz : 0 < L.size:=by
     rcases Nat.eq_zero_or_pos L.size with h | h
     . exact absurd (Array.eq_empty_of_size_eq_zero h) hz
     . exact h
   have hcs : C.size = L.size:=by rw [hC1]; simp
   have key : ∃ n w',n < L.size /\ w'.heap = w.heap /\ w'.os = w.os /\ w'.output = w.output /\ ((choose (.mapNext C.size) >>= fun i=>nxP it rb clk seen C[i]?) : Sem Value).run P w = (nxP it rb clk seen C[n]?).run P w':=by
     by_cases hf : C.size <= 1
     . refine ⟨0,w,hsz,rfl,rfl,rfl,?_⟩
       simp only [choose,bind,Sem.bind,Sem.run,Question.forced,hf,decide_true,if_true]
     . refine ⟨w.tape w.drawn (.mapNext C.size) % C.size,{ w with drawn:=w.drawn + 1 },by rw [← hcs]; exact Nat.mod_lt _ (by omega),rfl,rfl,rfl,?_⟩
       simp only [choose,bind,Sem.bind,Sem.run,Question.forced,hf,decide_false,if_false,Question.cut,Bool.false_eq_true]
   obtain ⟨n,w',hn,h1,h2,h3,h4⟩:=key
   have hCn : C[n]? = some (some (L[n]'hn)):=by rw [hC1]; simp [hn]
   refine .inr ⟨L[n]'hn,((hLm _).1 (Array.getElem_mem hn)).1,((hLm _).1 (Array.getElem_mem hn)).2,setM w' it (.mapIter (some rb) clk (seen.push (L[n]'hn).born) clk),?_,?_⟩
   . rw [h4,pick n w' h1,hCn]
   . exact norm_eq _ _ (by simp [setM,h1]) h2 h3
theorem entry_go {P : Program} {w : World} {it rb clk : Nat} {seen : Array Nat} {es : Array MapEntry} {e : MapEntry} (hi : w.heap[it]? = some (.mapIter (some rb) clk (seen.push e.born) clk)) (hm : w.heap[rb]? = some (.map es clk)) (he : e ∈ es) (hd : (es.toList.map (·.born)).Nodup) :
   (Instr.entry (.pointer (some ⟨it,0,none⟩))).run P w = .ok (.tuple #[e.key,e.val]) w:=by
 have hf : es.find? (fun x=>x.born == e.born) = some e:=by
   rw [← Array.find?_toList]
   have he' : e ∈ es.toList:=Array.mem_toList_iff.2 he
   generalize es.toList = l at hd he'
   induction l with
   | nil=>cases he'
   | cons x l ih =>
     rw [List.map_cons,List.nodup_cons] at hd
     rw [List.find?_cons]
     rcases List.mem_cons.1 he' with rfl | h
     . simp
     . have hne : (x.born == e.born) = false:=by
         simp only [beq_eq_false_iff_ne,ne_eq]
         intro h2
         exact hd.1 (h2 ▸ List.mem_map_of_mem h)
       rw [hne]
       exact ih hd.2 h
 simp only [Instr.entry,getObj,bind,Sem.bind,Sem.run,hi,hm,Array.back?_push,bne_self_eq_false,Bool.false_eq_true,if_false,hf]
 rfl
end
end Go.Proofs.Ytibcdikfbhmheaa
