import Derived.Test.YtibcdikfbhmheaaB07
import Derived.Laws.Tables
set_option linter.unusedSimpArgs false
set_option linter.unusedVariables false
set_option maxRecDepth 100000
set_option maxHeartbeats 4000000
namespace Go.Proofs.Ytibcdikfbhmheaa
open Go Go.Conc Go.Proofs
theorem info50 : (Try.prog.info? 50).map (fun i=>(i.zero,i.size,i.bytes)) = some (some (.pointer none),1,8):=by kernel_rfl
@[go_sem] theorem eql70n (w : World) : (binOp BinOp.eql 70 .nilFunc .nilFunc).run Try.prog w = .ok (.bool true) w:=by kernel_rfl
@[go_sem] theorem eql70f (fid : FuncId) (g n) (w : World) : (binOp BinOp.eql 70 (.func (.func fid) g n) .nilFunc).run Try.prog w = .ok (.bool false) w:=by kernel_rfl
theorem info4b : (Try.prog.info? 4).map (fun i=>i.bytes) = some 1:=by kernel_rfl
section
variable {Post : Value -> World -> Prop} {Z : Cuts} {V : World} {bQ : Frame} {aQ : Act} {opsQ : Array Oper} {iQ : Nat} {restQ : List Nat} {kQ : List Item} {cs0 : List Frame}
structure FnRow (VQ : World) (fv : Value) (fs : List Value) : Prop where
 v : ∃ b c,fv = .slice b fs.length c /\ (0 < fs.length -> ∃ g o,b = some ⟨g,o,none⟩ /\ g < VQ.heap.size /\ ∀ k,k < fs.length -> VQ.cell? ⟨g,o + k,none⟩ = some (fs.getD k .nilFunc))
 f : ∀ k,k < fs.length -> fs.getD k .nilFunc = .nilFunc ∨ ∃ fid a c,fs.getD k .nilFunc = .func (.func fid) a c
theorem run_mkchan {w : World} {t e : TypeId} {by_ : Nat} {dir : _} (hu : ∀ w,(underlying t).run Try.prog w = .ok (.chan dir e) w) (hi : (Try.prog.info? e).map (fun i=>i.bytes) = some by_) : (Instr.makeChan t (.int .i64 0)).run Try.prog w = .ok (.chan (some w.heap.size)) (w.alloc (.chan 0 #[] false 0 0 false)) /\ ∀ es,(Instr.makeChan t (.int .i64 0)).events Try.prog w es = es:=by
 cases hi' : Try.prog.info? e with
 | none=>rw [hi'] at hi; cases hi
 | some i =>
   constructor
   . unfold Instr.makeChan
     simp [asInt,asIntOf,hu,typeInfo,hi',go_sem]
   . intro es
     unfold Instr.makeChan
     simp [asInt,asIntOf,hu,typeInfo,hi',go_sem]
theorem run_mkchan_op {w : World} {a : Act} {o : Oper} {t e : TypeId} {by_ : Nat} {dir : _} (hop : o.op = .makeChan t (.const (.int .i64 0))) (hu : ∀ w,(underlying t).run Try.prog w = .ok (.chan dir e) w) (hi : (Try.prog.info? e).map (fun i=>i.bytes) = some by_) :
   (execOp a.eval o).run Try.prog w = .ok (.value (.chan (some w.heap.size))) (w.alloc (.chan 0 #[] false 0 0 false)) /\ (execOp a.eval o).events Try.prog w #[] = #[]:=by
 obtain ⟨h1,h2⟩:=run_mkchan (w:=w) hu hi
 have e1 : a.eval (.const (.int .i64 0)) = .int .i64 0:=rfl
 unfold execOp
 constructor
 . simp [hop,e1,h1]
 . simp [hop,e1,h1,h2]
theorem run_app_opm {P : Program} {a : Act} {o : Oper} {s x : Operand} {t : TypeId} {w w' : World} {v vs vx : Value} (hop : o.op = .call { callee:=.builtin .append,args:=#[s,x],argTypes:=#[t,t] }) (hs : a.eval s = vs) (hx : a.eval x = vx) (hr : (Builtin.append_ #[t,t] o.type #[vs,vx]).run P w = .ok v w') : (execOp a.eval o).run P w = .ok (.value v) w':=by
 unfold execOp
 simp only [hop,resolve,invoke,builtin,Sem.run_bind,Sem.run_pure,Result.andThen_ok,List.map_toArray,List.map_cons,List.map_nil,hs,hx,hr]
theorem app_ptr {V : World} {lv : Value} {n : Nat} {xs : List Value} (hrow : V.ownsRow 0 50 1 lv n xs) {ad tb : Nat} {c : Nat} (hc : V.cell? ⟨ad,0,none⟩ = some (.pointer (some ⟨tb,0,none⟩))) (hlen : n < 1000000000000) (τ : Nat -> Question -> Nat) :
   ∃ v' w',(Builtin.append_ #[161,161] 161 #[lv,.slice (some ⟨ad,0,none⟩) 1 c]).run Try.prog (re V τ 0) = .ok v' w' /\ (norm w').ownsRow 0 50 1 v' (n + 1) (xs ++ [.pointer (some ⟨tb,0,none⟩)]) /\ (V.heap.size <= w'.heap.size /\ ∀ b,b < V.heap.size -> lv.ownBlock ≠ some b -> w'.heap[b]? = V.heap[b]?) /\ (v'.ownBlock = lv.ownBlock ∨ v'.ownBlock = some V.heap.size):=by
 obtain ⟨i0,hi0,hz⟩ : ∃ i0,Try.prog.info? 50 = some i0 /\ (i0.zero,i0.size,i0.bytes) = (some (.pointer none),1,8):=by
   have:=info50
   cases e : Try.prog.info? 50 with
   | none=>rw [e] at this; cases this
   | some i0=>rw [e] at this; exact ⟨i0,rfl,by simpa using this⟩
 obtain ⟨hz0,hz1,hz2⟩ : i0.zero = some (.pointer none) /\ i0.size = 1 /\ i0.bytes = 8:=by simpa using hz
 obtain ⟨v',w',h1,h2,h3,_,h5⟩:=run_append_own_at (P:=Try.prog) (w:=re V τ 0) 0 161 161 50 i0 (.pointer none) 1 8 Try.underlying161 hi0 hz0 hz1 hz2 rfl (by decide) lv n xs hrow ⟨ad,0,none⟩ 1 c [.pointer (some ⟨tb,0,none⟩)] rfl (fun j u hu=>by
   cases j with
   | zero=>simp at hu; subst hu; exact hc
   | succ j=>simp at hu) (by simp [Value.oneCell']) (by simp only [maxLen]; omega) (by omega) (Nat.zero_le _)
 exact ⟨v',w',h1,h2,⟨h3.size,fun b hb hne=>h3.block b hb (fun e=>hne e.symm)⟩,h5⟩
theorem muster_loop {ZQ : Cuts} {VQ : World} {fs : List Value} {fv : Value} {cb bk : Nat} (hF : FnRow VQ fv fs) (hlen : fs.length <= 64)
   (Kend : ∀ T tb ch Z V lv,Mst ZQ VQ fs cb bk fs.length tb ch Z V lv -> T.size = 40 -> T[3]? = some (.pointer (some ⟨cb,0,none⟩)) -> To0 Try.prog Post Z V (G ((base 77).at ⟨T,[]⟩ [.code Mz]) (bQ.at aQ (.inRegion opsQ (iQ :: restQ) :: kQ) :: cs0))) :
   ∀ (m k : Nat) T tb ch Z V lv,m + k = fs.length -> Mst ZQ VQ fs cb bk k tb ch Z V lv -> T.size = 40 -> T[3]? = some (.pointer (some ⟨cb,0,none⟩)) -> T[10]? = some fv -> T[11]? = some (.int .i64 (fs.length : Int)) -> T[12]? = some (.int .i64 (k : Int)) ->
     To0 Try.prog Post Z V (G ((base 77).at ⟨T,[]⟩ [.code M1,.inLoop M1,.inBlock 0,.code Mz]) (bQ.at aQ (.inRegion opsQ (iQ :: restQ) :: kQ) :: cs0)):=by
 intro m
 induction m with
 | zero =>
   intro k T tb ch Z V lv hmk M h40 t3 t10 t11 t12
   obtain rfl : k = fs.length:=by omega
   have hn:=M.nrm
   have q1 : decide ((fs.length : Int) < (fs.length : Int)) = false:=decide_eq_false (by omega)
   have Kend':=fun T=>Kend T tb ch Z V lv M
   clear Kend hmk
   obtain ⟨v0,v1,v2,v3,v4,v5,v6,v7,v8,v9,v10,v11,v12,v13,v14,v15,v16,v17,v18,v19,v20,v21,v22,v23,v24,v25,v26,v27,v28,v29,v30,v31,v32,v33,v34,v35,v36,v37,v38,v39,rfl⟩:=array40 T h40
   simp only [List.getElem?_toArray,List.getElem?_cons_zero,List.getElem?_cons_succ,Option.some.injEq] at t3 t10 t11 t12
   subst t3 t10 t11 t12
   refine (fun (h : ∀ X,X = M1 -> To0 Try.prog Post Z V (G ((base 77).at ⟨_,[]⟩ [.code X,.inLoop M1,.inBlock 0,.code Mz]) (bQ.at aQ (.inRegion opsQ (iQ :: restQ) :: kQ) :: cs0)))=>h M1 rfl) ?_
   intro X hX
   simp only [M1,B77,nva,nvb,nvk,nvl,Try.f77,Option.getD_some] at hX
   subst hX
   refine wB (L:=Lone) (J:=fun g=>To0 Try.prog Post Z V g) mu_to0 (muv_to0 hn) fun kk hkk=>?_
   refine Kend' _ ?_ ?_
   . simp
   . rfl
 | succ m ih =>
   intro k T tb ch Z V lv hmk M h40 t3 t10 t11 t12
   have hk : k < fs.length:=by omega
   have hn:=M.nrm
   obtain ⟨pb,pc,rfl,hpb⟩:=hF.v
   obtain ⟨pg,po,rfl,hpq,hpc⟩:=hpb (by omega)
   have hff:=hF.f k hk
   have c1 : ∀ τ,(re V τ 0).cell? ⟨pg,po + k,none⟩ = some (fs.getD k .nilFunc):=fun τ=>by
     have h1:=hpc k hk
     unfold World.cell? at h1 ⊢
     rw [← M.old pg hpq] at h1
     exact h1
   have q1 : decide ((k : Int) < (fs.length : Int)) = true:=decide_eq_true (by omega)
   have q2 : ¬ ((k : Int) < 0):=by omega
   have q3 : ¬ ((fs.length : Int) <= (k : Int)):=by omega
   have w4 : IntKind.i64.wrap ((k : Int) + 1) = ((k + 1 : Nat) : Int):=by rw [IntKind.wrap_i64]; omega
   generalize hfk : fs.getD k .nilFunc = f at *
   clear hpc hpb
   obtain ⟨v0,v1,v2,v3,v4,v5,v6,v7,v8,v9,v10,v11,v12,v13,v14,v15,v16,v17,v18,v19,v20,v21,v22,v23,v24,v25,v26,v27,v28,v29,v30,v31,v32,v33,v34,v35,v36,v37,v38,v39,rfl⟩:=array40 T h40
   simp only [List.getElem?_toArray,List.getElem?_cons_zero,List.getElem?_cons_succ,Option.some.injEq] at t3 t10 t11 t12
   subst t3 t10 t11 t12
   clear h40
   refine (fun (h : ∀ X,X = M1 -> To0 Try.prog Post Z V (G ((base 77).at ⟨_,[]⟩ [.code X,.inLoop M1,.inBlock 0,.code Mz]) (bQ.at aQ (.inRegion opsQ (iQ :: restQ) :: kQ) :: cs0)))=>h M1 rfl) ?_
   intro X hX
   simp only [M1,B77,nva,nvb,nvk,nvl,Try.f77,Option.getD_some] at hX
   subst hX
   refine wB (L:=Lone) (J:=fun g=>To0 Try.prog Post Z V g) mu_to0 (muv_to0 hn) fun kk hkk=>?_
   refine to0_born (ob:=.chan 0 #[] false 0 0 false) (s:=(0,0,0)) (.inr ⟨rfl,rfl⟩) (fun n=>.chan (some n)) (by decide) rfl rfl (fun w=>(run_mkchan_op rfl Try.runUnderlying170 info4b).1) (fun w=>(run_mkchan_op rfl Try.runUnderlying170 info4b).2) ?_
   obtain ⟨V1,eV1⟩ : ∃ V1,V1 = V.alloc (pobj (some (0,0,0)) (.chan 0 #[] false 0 0 false)):=⟨_,rfl⟩
   obtain ⟨Z1,eZ1⟩ : ∃ Z1,Z1 = addZ Z V.heap.size (0,0,0):=⟨_,rfl⟩
   rw [← eV1,← eZ1]
   have hn1 : norm V1 = V1:=by rw [eV1]; exact norm_al hn _
   have s1 : V1.heap.size = V.heap.size + 1:=by rw [eV1]; exact al_size _ _
   have g1 : ∀ b,b < V.heap.size -> V1.heap[b]? = V.heap[b]?:=fun b hb=>by rw [eV1,al_get,if_neg (by omega)]
   clear eV1
   walk_nrm
   rcases hff with rfl | ⟨fid,fg,fn,rfl⟩
   . have hst : st0 fs k = 3:=by unfold st0; rw [hfk]; rfl
     refine wB (L:=Lone) (J:=fun g=>To0 Try.prog Post Z1 V1 g) mu_to0 (muv_to0 hn1) fun kk hkk=>?_
     refine to0_born (ob:=(.cells #[.int .i64 k,.pointer (some ⟨cb,0,none⟩),.nilFunc,.chan (some V.heap.size),.int .i64 0] 172 (0,0))) (s:=(5,0,4)) (.inl ⟨_,_,4,0,4,rfl,rfl,by simp⟩) (fun n=>.pointer (some ⟨n,0,none⟩)) (by decide) rfl rfl (fun w=>by go_simp) (fun w=>rfl) ?_
     obtain ⟨V2,eV2⟩ : ∃ V2,V2 = V1.alloc (pobj (some (5,0,4)) (.cells #[.int .i64 k,.pointer (some ⟨cb,0,none⟩),.nilFunc,.chan (some V.heap.size),.int .i64 0] 172 (0,0))):=⟨_,rfl⟩
     rw [← eV2,s1]
     have hn2 : norm V2 = V2:=by rw [eV2]; exact norm_al hn1 _
     have s2 : V2.heap.size = V.heap.size + 2:=by rw [eV2,al_size,s1]
     have g2 : ∀ b,b < V.heap.size -> V2.heap[b]? = V.heap[b]?:=fun b hb=>by rw [eV2,al_get,s1,if_neg (by omega)]; exact g1 b hb
     have t2 : V2.heap[V.heap.size + 1]? = some (.cells #[.int .i64 k,.pointer (some ⟨cb,0,none⟩),.nilFunc,.chan (some V.heap.size),.int .i64 0] 172 (0,4)):=by rw [eV2,al_get,s1,if_pos rfl]; rfl
     clear eV2 g1 hn1
     have hcb : V2.heap[cb]? = some (.cells #[lv,.chan (some bk),.bool false] 169 (0,0)):=(g2 cb M.lo.2.2).trans M.crew
     have d1 : ∀ τ,(re V2 τ 0).cell? ⟨cb,0,none⟩ = some lv:=fun τ=>cell_of hcb (by simp)
     have d2 : ∀ τ,(re V2 τ 0).cell? ⟨V.heap.size + 1,4,none⟩ = some (.int .i64 0):=fun τ=>cell_of t2 (by simp)
     have d3 : ∀ τ,(re V2 τ 0).frozen? ⟨V.heap.size + 1,4,none⟩ = false:=fun τ=>by simp [World.frozen?,re,t2]
     clear c1
     walk_nrm
     have mrow:=M.row
     refine wB (L:=Lone) (J:=fun g=>To0 Try.prog Post (addZ Z1 (V.heap.size + 1) (5,0,4)) V2 g) mu_to0 (muv_to0 hn2) fun kk hkk=>?_
     have hn3 : norm (V2.setCell ⟨V.heap.size + 1,4,none⟩ (.int .i64 3)) = V2.setCell ⟨V.heap.size + 1,4,none⟩ (.int .i64 3):=norm_set hn2 _ _
     refine mus_put (L:=Lone) (mus_to0 hn3) (K:=fun g=>To0 Try.prog Post (addZ Z1 (V.heap.size + 1) (5,0,4)) V2 g) (K':=fun g=>To0 Try.prog Post (addZ Z1 (V.heap.size + 1) (5,0,4)) (V2.setCell ⟨V.heap.size + 1,4,none⟩ (.int .i64 3)) g) rfl (.inl rfl) rfl (by kernel_rfl) (fun τ=>?_) ?_
     . go_simp
       rfl
     obtain ⟨V3,eV3⟩ : ∃ V3,V3 = V2.setCell ⟨V.heap.size + 1,4,none⟩ (.int .i64 3):=⟨_,rfl⟩
     rw [← eV3]
     rw [← eV3] at hn3
     have s3 : V3.heap.size = V.heap.size + 2:=by rw [eV3,size_setCell]; exact s2
     have g3 : ∀ b,b < V.heap.size -> V3.heap[b]? = V.heap[b]?:=fun b hb=>by rw [eV3,setCell_heap,if_neg (show ¬ b = V.heap.size + 1 by omega)]; exact g2 b hb
     have t3 : V3.heap[V.heap.size + 1]? = some (.cells #[.int .i64 k,.pointer (some ⟨cb,0,none⟩),.nilFunc,.chan (some V.heap.size),.int .i64 3] 172 (0,4)):=by rw [eV3,setCell_heap,if_pos rfl,t2]; simp
     clear eV3 d1 d2 d3 t2 g2 hn2 hcb
     have hcb : V3.heap[cb]? = some (.cells #[lv,.chan (some bk),.bool false] 169 (0,0)):=(g3 cb M.lo.2.2).trans M.crew
     have d1 : ∀ τ,(re V3 τ 0).cell? ⟨cb,0,none⟩ = some lv:=fun τ=>cell_of hcb (by simp)
     walk_nrm
     refine wB (L:=Lone) (J:=fun g=>To0 Try.prog Post (addZ Z1 (V.heap.size + 1) (5,0,4)) V3 g) mu_to0 (muv_to0 hn3) fun kk hkk=>?_
     have hn4:=norm_al hn3 (.cells #[.pointer (some ⟨V.heap.size + 1,0,none⟩)] 50)
     refine mua_put (L:=Lone) (v:=.slice (some ⟨V3.heap.size,0,none⟩) 1 1) (mua_to0 hn4) (K:=fun g=>To0 Try.prog Post (addZ Z1 (V.heap.size + 1) (5,0,4)) V3 g) (K':=fun g=>To0 Try.prog Post (addZ Z1 (V.heap.size + 1) (5,0,4)) (V3.alloc (.cells #[.pointer (some ⟨V.heap.size + 1,0,none⟩)] 50)) g) rfl (.inl rfl) rfl (by kernel_rfl) (fun τ=>?_) ?_
     . go_simp
       exact ⟨s3,rfl⟩
     have s4 : (V3.alloc (.cells #[.pointer (some ⟨V.heap.size + 1,0,none⟩)] 50)).heap.size = V.heap.size + 3:=by rw [al_size,s3]
     have g4 : ∀ b,b < V.heap.size + 2 -> (V3.alloc (.cells #[.pointer (some ⟨V.heap.size + 1,0,none⟩)] 50)).heap[b]? = V3.heap[b]?:=fun b hb=>by rw [al_get,if_neg (by rw [s3]; omega)]
     have c4 : (V3.alloc (.cells #[.pointer (some ⟨V.heap.size + 1,0,none⟩)] 50)).cell? ⟨V3.heap.size,0,none⟩ = some (.pointer (some ⟨V.heap.size + 1,0,none⟩)):=cell_of (b:=V3.heap.size) (k:=0) (cs:=#[.pointer (some ⟨V.heap.size + 1,0,none⟩)]) (t:=50) (f:=(0,0)) (by rw [al_get,if_pos rfl]) (by simp)
     rw [s3] at c4 ⊢
     generalize (V3.alloc (.cells #[.pointer (some ⟨V.heap.size + 1,0,none⟩)] 50)) = V4 at *
     have r4 : V4.ownsRow 0 50 1 lv k (tps tb k):=row_keep mrow fun b hb=>by rw [g4 b (by have:=row_at mrow hb; omega),g3 b (row_at mrow hb)]
     walk_nrm
     refine to0_ex (L:=Lone) rfl rfl rfl (by kernel_rfl) (fun v W=>W.ownsRow 0 50 1 v (k + 1) (tps tb k ++ [.pointer (some ⟨V.heap.size + 1,0,none⟩)]) /\ (V4.heap.size <= W.heap.size /\ ∀ b,b < V4.heap.size -> lv.ownBlock ≠ some b -> W.heap[b]? = V4.heap[b]?) /\ (v.ownBlock = lv.ownBlock ∨ v.ownBlock = some V4.heap.size)) (fun τ=>?_) (fun lv' V5 ⟨r1,r2,r3⟩ hn5=>?_)
     . obtain ⟨v',w',a1,a2,a3,a4⟩:=app_ptr r4 c4 (by omega) τ
       refine ⟨v',w',?_,a2,a3,a4⟩
       exact run_app_opm (s:=.tmp 32) (x:=.tmp 34) rfl rfl rfl a1
     rw [s4] at r2 r3
     have hlo:=M.lo
     have hcb5 : V5.heap[cb]? = some (.cells #[lv,.chan (some bk),.bool false] 169 (0,0)):=by rw [r2.2 cb (by omega) (fun e=>(M.rown cb e).2.1 rfl),g4 cb (by omega)]; exact hcb
     obtain ⟨sb,sn,sc,rfl⟩ : ∃ sb sn sc,lv' = .slice sb sn sc:=by
       obtain ⟨_,h2⟩:=r1
       rcases h2 with ⟨rfl,_⟩ | ⟨g,cap,cur,rfl,_⟩
       . exact ⟨_,_,_,rfl⟩
       . exact ⟨_,_,_,rfl⟩
     have e1 : ∀ τ,(re V5 τ 0).cell? ⟨cb,0,none⟩ = some lv:=fun τ=>cell_of hcb5 (by simp)
     have e2 : ∀ τ,(re V5 τ 0).frozen? ⟨cb,0,none⟩ = false:=fun τ=>by simp [World.frozen?,re,hcb5]
     have M':=mst_next (V3:=V3) M s3 g3 (by rw [hfk,hst]; exact t3) hn5 r1 r2.1 (fun b hb hne=>by rw [r2.2 b (by omega) hne,g4 b hb]) r3
     rw [← eZ1] at M'
     walk_nrm
     refine wB (L:=Lone) (J:=fun g=>To0 Try.prog Post (addZ Z1 (V.heap.size + 1) (5,0,4)) V5 g) mu_to0 (muv_to0 hn5) fun kk hkk=>?_
     refine mus_put (L:=Lone) (mus_to0 M'.nrm) (K:=fun g=>To0 Try.prog Post (addZ Z1 (V.heap.size + 1) (5,0,4)) V5 g) (K':=fun g=>To0 Try.prog Post (addZ Z1 (V.heap.size + 1) (5,0,4)) (V5.setCell ⟨cb,0,none⟩ (.slice sb sn sc)) g) rfl (.inl rfl) rfl (by kernel_rfl) (fun τ=>?_) ?_
     . go_simp
       rfl
     generalize V5.setCell ⟨cb,0,none⟩ (.slice sb sn sc) = V6 at *
     have hn6:=M'.nrm
     walk_nrm
     obtain ⟨K,hK,hV,key,yek⟩:=kKV (L:=Lone) (J:=fun g=>To0 Try.prog Post (addZ Z1 (V.heap.size + 1) (5,0,4)) V6 g) mu_to0 (muv_to0 hn6)
     refine key _ ?_
     refine wA fun kk hkk=>?_
     refine mu_inLoop hK ?_
     refine yek _ ?_
     clear hK hV key yek K
     refine ih (k + 1) _ _ _ _ _ _ (by omega) M' ?_ ?_ ?_ ?_ ?_
     . simp
     . rfl
     . rfl
     . rfl
     . rfl
   . have hst : st0 fs k = 0:=by unfold st0; rw [hfk]; rfl
     refine wB (L:=Lone) (J:=fun g=>To0 Try.prog Post Z1 V1 g) mu_to0 (muv_to0 hn1) fun kk hkk=>?_
     refine to0_born (ob:=(.cells #[.int .i64 k,.pointer (some ⟨cb,0,none⟩),(.func (.func fid) fg fn),.chan (some V.heap.size),.int .i64 0] 172 (0,0))) (s:=(5,0,4)) (.inl ⟨_,_,4,0,4,rfl,rfl,by simp⟩) (fun n=>.pointer (some ⟨n,0,none⟩)) (by decide) rfl rfl (fun w=>by go_simp) (fun w=>rfl) ?_
     obtain ⟨V2,eV2⟩ : ∃ V2,V2 = V1.alloc (pobj (some (5,0,4)) (.cells #[.int .i64 k,.pointer (some ⟨cb,0,none⟩),(.func (.func fid) fg fn),.chan (some V.heap.size),.int .i64 0] 172 (0,0))):=⟨_,rfl⟩
     rw [← eV2,s1]
     have hn2 : norm V2 = V2:=by rw [eV2]; exact norm_al hn1 _
     have s2 : V2.heap.size = V.heap.size + 2:=by rw [eV2,al_size,s1]
     have g2 : ∀ b,b < V.heap.size -> V2.heap[b]? = V.heap[b]?:=fun b hb=>by rw [eV2,al_get,s1,if_neg (by omega)]; exact g1 b hb
     have t2 : V2.heap[V.heap.size + 1]? = some (.cells #[.int .i64 k,.pointer (some ⟨cb,0,none⟩),(.func (.func fid) fg fn),.chan (some V.heap.size),.int .i64 0] 172 (0,4)):=by rw [eV2,al_get,s1,if_pos rfl]; rfl
     clear eV2 g1 hn1
     have hcb : V2.heap[cb]? = some (.cells #[lv,.chan (some bk),.bool false] 169 (0,0)):=(g2 cb M.lo.2.2).trans M.crew
     have d1 : ∀ τ,(re V2 τ 0).cell? ⟨cb,0,none⟩ = some lv:=fun τ=>cell_of hcb (by simp)
     have d2 : ∀ τ,(re V2 τ 0).cell? ⟨V.heap.size + 1,4,none⟩ = some (.int .i64 0):=fun τ=>cell_of t2 (by simp)
     have d3 : ∀ τ,(re V2 τ 0).frozen? ⟨V.heap.size + 1,4,none⟩ = false:=fun τ=>by simp [World.frozen?,re,t2]
     clear c1
     walk_nrm
     have mrow:=M.row
     refine wB (L:=Lone) (J:=fun g=>To0 Try.prog Post (addZ Z1 (V.heap.size + 1) (5,0,4)) V2 g) mu_to0 (muv_to0 hn2) fun kk hkk=>?_
     have hn3:=hn2
     have hn4:=norm_al hn3 (.cells #[.pointer (some ⟨V.heap.size + 1,0,none⟩)] 50)
     refine mua_put (L:=Lone) (v:=.slice (some ⟨V2.heap.size,0,none⟩) 1 1) (mua_to0 hn4) (K:=fun g=>To0 Try.prog Post (addZ Z1 (V.heap.size + 1) (5,0,4)) V2 g) (K':=fun g=>To0 Try.prog Post (addZ Z1 (V.heap.size + 1) (5,0,4)) (V2.alloc (.cells #[.pointer (some ⟨V.heap.size + 1,0,none⟩)] 50)) g) rfl (.inl rfl) rfl (by kernel_rfl) (fun τ=>?_) ?_
     . go_simp
       exact ⟨s2,rfl⟩
     have s4 : (V2.alloc (.cells #[.pointer (some ⟨V.heap.size + 1,0,none⟩)] 50)).heap.size = V.heap.size + 3:=by rw [al_size,s2]
     have g4 : ∀ b,b < V.heap.size + 2 -> (V2.alloc (.cells #[.pointer (some ⟨V.heap.size + 1,0,none⟩)] 50)).heap[b]? = V2.heap[b]?:=fun b hb=>by rw [al_get,if_neg (by rw [s2]; omega)]
     have c4 : (V2.alloc (.cells #[.pointer (some ⟨V.heap.size + 1,0,none⟩)] 50)).cell? ⟨V2.heap.size,0,none⟩ = some (.pointer (some ⟨V.heap.size + 1,0,none⟩)):=cell_of (b:=V2.heap.size) (k:=0) (cs:=#[.pointer (some ⟨V.heap.size + 1,0,none⟩)]) (t:=50) (f:=(0,0)) (by rw [al_get,if_pos rfl]) (by simp)
     rw [s2] at c4 ⊢
     generalize (V2.alloc (.cells #[.pointer (some ⟨V.heap.size + 1,0,none⟩)] 50)) = V4 at *
     have r4 : V4.ownsRow 0 50 1 lv k (tps tb k):=row_keep mrow fun b hb=>by rw [g4 b (by have:=row_at mrow hb; omega),g2 b (row_at mrow hb)]
     walk_nrm
     refine to0_ex (L:=Lone) rfl rfl rfl (by kernel_rfl) (fun v W=>W.ownsRow 0 50 1 v (k + 1) (tps tb k ++ [.pointer (some ⟨V.heap.size + 1,0,none⟩)]) /\ (V4.heap.size <= W.heap.size /\ ∀ b,b < V4.heap.size -> lv.ownBlock ≠ some b -> W.heap[b]? = V4.heap[b]?) /\ (v.ownBlock = lv.ownBlock ∨ v.ownBlock = some V4.heap.size)) (fun τ=>?_) (fun lv' V5 ⟨r1,r2,r3⟩ hn5=>?_)
     . obtain ⟨v',w',a1,a2,a3,a4⟩:=app_ptr r4 c4 (by omega) τ
       refine ⟨v',w',?_,a2,a3,a4⟩
       exact run_app_opm (s:=.tmp 32) (x:=.tmp 34) rfl rfl rfl a1
     rw [s4] at r2 r3
     have hlo:=M.lo
     have hcb5 : V5.heap[cb]? = some (.cells #[lv,.chan (some bk),.bool false] 169 (0,0)):=by rw [r2.2 cb (by omega) (fun e=>(M.rown cb e).2.1 rfl),g4 cb (by omega)]; exact hcb
     obtain ⟨sb,sn,sc,rfl⟩ : ∃ sb sn sc,lv' = .slice sb sn sc:=by
       obtain ⟨_,h2⟩:=r1
       rcases h2 with ⟨rfl,_⟩ | ⟨g,cap,cur,rfl,_⟩
       . exact ⟨_,_,_,rfl⟩
       . exact ⟨_,_,_,rfl⟩
     have e1 : ∀ τ,(re V5 τ 0).cell? ⟨cb,0,none⟩ = some lv:=fun τ=>cell_of hcb5 (by simp)
     have e2 : ∀ τ,(re V5 τ 0).frozen? ⟨cb,0,none⟩ = false:=fun τ=>by simp [World.frozen?,re,hcb5]
     have M':=mst_next (V3:=V2) M s2 g2 (by rw [hfk,hst]; exact t2) hn5 r1 r2.1 (fun b hb hne=>by rw [r2.2 b (by omega) hne,g4 b hb]) r3
     rw [← eZ1] at M'
     walk_nrm
     refine wB (L:=Lone) (J:=fun g=>To0 Try.prog Post (addZ Z1 (V.heap.size + 1) (5,0,4)) V5 g) mu_to0 (muv_to0 hn5) fun kk hkk=>?_
     refine mus_put (L:=Lone) (mus_to0 M'.nrm) (K:=fun g=>To0 Try.prog Post (addZ Z1 (V.heap.size + 1) (5,0,4)) V5 g) (K':=fun g=>To0 Try.prog Post (addZ Z1 (V.heap.size + 1) (5,0,4)) (V5.setCell ⟨cb,0,none⟩ (.slice sb sn sc)) g) rfl (.inl rfl) rfl (by kernel_rfl) (fun τ=>?_) ?_
     . go_simp
       rfl
     generalize V5.setCell ⟨cb,0,none⟩ (.slice sb sn sc) = V6 at *
     have hn6:=M'.nrm
     walk_nrm
     obtain ⟨K,hK,hV,key,yek⟩:=kKV (L:=Lone) (J:=fun g=>To0 Try.prog Post (addZ Z1 (V.heap.size + 1) (5,0,4)) V6 g) mu_to0 (muv_to0 hn6)
     refine key _ ?_
     refine wA fun kk hkk=>?_
     refine mu_inLoop hK ?_
     refine yek _ ?_
     clear hK hV key yek K
     refine ih (k + 1) _ _ _ _ _ _ (by omega) M' ?_ ?_ ?_ ?_ ?_
     . simp
     . rfl
     . rfl
     . rfl
     . rfl
end
theorem info3i : (Try.prog.info? 3).map (fun i=>i.bytes) = some 8:=by kernel_rfl
section
variable {Post : Value -> World -> Prop} {Z : Cuts} {V : World} {bQ : Frame} {aQ : Act} {opsQ : Array Oper} {iQ : Nat} {restQ : List Nat} {kQ : List Item} {cs0 : List Frame}
theorem To0.low {P : Program} {g : Goroutine} (K : (∀ b s,Z b = some s -> b < V.heap.size) -> To0 P Post Z V g) : To0 P Post Z V g:=fun T gs w q sl ha C=>K (fun b s hb=>by
 obtain ⟨_,o,ho,_⟩:=C.fit.cut b s hb
 have h1:=(Array.getElem?_eq_some_iff.1 ho).1
 have h2 : V.heap.size = w.heap.size:=by rw [← C.view]; simp [pz]
 omega) T gs w q sl ha C
theorem muster_go' {fs : List Value} {fv : Value} (hn : norm V = V) (hZ : ∀ b s,Z b = some s -> b < V.heap.size) (hF : FnRow V fv fs) (hlen : fs.length <= 64)
   (K0 : ∀ tb ch Z' V' lv cb bk,Mst Z V fs cb bk fs.length tb ch Z' V' lv -> To0 Try.prog Post Z' V' (G (bQ.at (aQ.put ((opsQ[iQ]?).bind (·.dst)) (.pointer (some ⟨cb,0,none⟩))) (.inRegion opsQ restQ :: kQ)) cs0)) :
   To0 Try.prog Post Z V (G (Frame.enter Try.prog 77 #[fv] .normal) (bQ.at aQ (.inRegion opsQ (iQ :: restQ) :: kQ) :: cs0)):=by
 have hml:=muster_loop (Post:=Post) (bQ:=bQ) (aQ:=aQ) (opsQ:=opsQ) (iQ:=iQ) (restQ:=restQ) (kQ:=kQ) (cs0:=cs0) (ZQ:=Z) hF hlen (cb:=V.heap.size + 1) (bk:=V.heap.size)
 obtain ⟨pb,pc,hfv,-⟩:=hF.v
 subst hfv
 rw [enter_at (P:=Try.prog) _ Try.func77 rfl]
 simp only [Try.f77]
 walk_nrm
 refine wB (L:=Lone) (J:=fun g=>To0 Try.prog Post Z V g) mu_to0 (muv_to0 hn) fun kk hkk=>?_
 refine to0_born (ob:=.chan 0 #[] false 0 0 false) (s:=(0,0,0)) (.inr ⟨rfl,rfl⟩) (fun n=>.chan (some n)) (by decide) rfl rfl (fun w=>(run_mkchan_op rfl Try.runUnderlying162 info3i).1) (fun w=>(run_mkchan_op rfl Try.runUnderlying162 info3i).2) ?_
 obtain ⟨V1,eV1⟩ : ∃ V1,V1 = V.alloc (pobj (some (0,0,0)) (.chan 0 #[] false 0 0 false)):=⟨_,rfl⟩
 rw [← eV1]
 have hn1 : norm V1 = V1:=by rw [eV1]; exact norm_al hn _
 have s1 : V1.heap.size = V.heap.size + 1:=by rw [eV1]; exact al_size _ _
 have g1 : ∀ b,b < V.heap.size -> V1.heap[b]? = V.heap[b]?:=fun b hb=>by rw [eV1,al_get,if_neg (by omega)]
 clear eV1
 walk_nrm
 refine wB (L:=Lone) (J:=fun g=>To0 Try.prog Post (addZ Z V.heap.size (0,0,0)) V1 g) mu_to0 (muv_to0 hn1) fun kk hkk=>?_
 refine to0_born (ob:=(.cells #[.slice none 0 0,.chan (some V.heap.size),.bool false,.int .u64 0,.int .u32 0] 169 (0,0))) (s:=(3,0,0)) (.inl ⟨_,_,2,0,0,rfl,rfl,fun _=>⟨rfl,rfl⟩⟩) (fun n=>.pointer (some ⟨n,0,none⟩)) (by decide) rfl rfl (fun w=>by go_simp) (fun w=>rfl) ?_
 obtain ⟨V2,eV2⟩ : ∃ V2,V2 = V1.alloc (pobj (some (3,0,0)) (.cells #[.slice none 0 0,.chan (some V.heap.size),.bool false,.int .u64 0,.int .u32 0] 169 (0,0))):=⟨_,rfl⟩
 rw [← eV2,s1]
 have hn2 : norm V2 = V2:=by rw [eV2]; exact norm_al hn1 _
 have s2 : V2.heap.size = V.heap.size + 2:=by rw [eV2,al_size,s1]
 have g2 : ∀ b,b < V.heap.size -> V2.heap[b]? = V.heap[b]?:=fun b hb=>by rw [eV2,al_get,s1,if_neg (by omega)]; exact g1 b hb
 have t2 : V2.heap[V.heap.size + 1]? = some (.cells #[.slice none 0 0,.chan (some V.heap.size),.bool false] 169 (0,0)):=by rw [eV2,al_get,s1,if_pos rfl]; rfl
 clear eV2 g1 hn1
 walk_nrm
 have M : Mst Z V fs (V.heap.size + 1) V.heap.size 0 (fun _=>0) (fun _=>0) (addZ (addZ Z V.heap.size (0,0,0)) (V.heap.size + 1) (3,0,0)) V2 (.slice none 0 0):=by
   refine ⟨hn2,by simp [addZ],by simp [addZ],fun i hi=>absurd hi (by omega),fun i hi=>absurd hi (by omega),fun b hb=>by unfold addZ; rw [if_neg (by omega),if_neg (by omega)],fun b s hb=>?_,t2,fun i hi=>absurd hi (by omega),⟨rfl,.inl ⟨rfl,rfl⟩⟩,fun b hb=>(by cases hb),g2,⟨by omega,by omega,by omega⟩,fun i hi=>absurd hi (by omega),fun i j hij hj=>absurd hj (by omega)⟩
   unfold addZ at hb
   split at hb
   . rename_i e
     exact .inr (.inl e)
   . split at hb
     . rename_i e
       exact .inr (.inr (.inl e))
     . exact .inl (hZ b s hb)
 obtain ⟨K,hK,hV,key,yek⟩:=kKV (L:=Lone) (J:=fun g=>To0 Try.prog Post (addZ (addZ Z V.heap.size (0,0,0)) (V.heap.size + 1) (3,0,0)) V2 g) mu_to0 (muv_to0 hn2)
 refine key _ ?_
 refine wA fun kk hkk=>?_
 refine mu_loop hK ?_
 refine yek _ ?_
 clear hK hV key yek K
 refine (fun (h : ∀ Y X,M1 = Y -> Mz = X -> To0 Try.prog Post (addZ (addZ Z V.heap.size (0,0,0)) (V.heap.size + 1) (3,0,0)) V2 (G ((base 77).at _ [.code Y,.inLoop Y,.inBlock 0,.code X]) (bQ.at aQ (.inRegion opsQ (iQ :: restQ) :: kQ) :: cs0)))=>h _ _ (by simp only [M1,B77,nva,nvb,nvk,nvl,Try.f77,Option.getD_some]) (by simp only [Mz,B77,nva,nvb,nvk,nvl,Try.f77,Option.getD_some])) ?_
 intro Y X hY hX
 subst hY hX
 refine hml (fun T tb ch Z' V' lv M' h40 t3=>?_) fs.length 0 _ _ _ _ _ _ (by omega) M (by simp) rfl rfl rfl rfl
 clear hml
 have hn':=M'.nrm
 obtain ⟨v0,v1,v2,v3,v4,v5,v6,v7,v8,v9,v10,v11,v12,v13,v14,v15,v16,v17,v18,v19,v20,v21,v22,v23,v24,v25,v26,v27,v28,v29,v30,v31,v32,v33,v34,v35,v36,v37,v38,v39,rfl⟩:=array40 T h40
 simp only [List.getElem?_toArray,List.getElem?_cons_zero,List.getElem?_cons_succ,Option.some.injEq] at t3
 subst t3
 clear h40
 refine (fun (h : ∀ X,X = Mz -> To0 Try.prog Post Z' V' (G ((base 77).at ⟨_,[]⟩ [.code X]) (bQ.at aQ (.inRegion opsQ (iQ :: restQ) :: kQ) :: cs0)))=>h Mz rfl) ?_
 intro X hX
 simp only [Mz,B77,nva,nvb,nvk,nvl,Try.f77,Option.getD_some] at hX
 subst hX
 obtain ⟨K,hK,hV,key,yek⟩:=kKV (L:=Lone) (J:=fun g=>To0 Try.prog Post Z' V' g) mu_to0 (muv_to0 hn')
 refine key _ ?_
 refine wA fun kk hkk=>?_
 refine mu_leave1 hK rfl rfl Try.func77 rfl ?_
 walk_nrm
 refine yek _ ?_
 exact K0 tb ch Z' V' lv _ _ M'
theorem muster_go {fs : List Value} {fv : Value} (hn : norm V = V) (hF : FnRow V fv fs) (hlen : fs.length <= 64)
   (K0 : ∀ tb ch Z' V' lv cb bk,Mst Z V fs cb bk fs.length tb ch Z' V' lv -> To0 Try.prog Post Z' V' (G (bQ.at (aQ.put ((opsQ[iQ]?).bind (·.dst)) (.pointer (some ⟨cb,0,none⟩))) (.inRegion opsQ restQ :: kQ)) cs0)) :
   To0 Try.prog Post Z V (G (Frame.enter Try.prog 77 #[fv] .normal) (bQ.at aQ (.inRegion opsQ (iQ :: restQ) :: kQ) :: cs0)):=To0.low fun hZ=>muster_go' hn hZ hF hlen K0
end
end Go.Proofs.Ytibcdikfbhmheaa
