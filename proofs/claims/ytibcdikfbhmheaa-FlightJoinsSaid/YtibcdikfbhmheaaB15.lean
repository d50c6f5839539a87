import Derived.Test.YtibcdikfbhmheaaB14
import Derived.Test.YtibcdikfbhmheaaB13
import Derived.Test.YtibcdikfbhmheaaB11
import Derived.Test.YtibcdikfbhmheaaB06
set_option linter.unusedSimpArgs false
set_option linter.unusedVariables false
set_option maxRecDepth 100000
set_option maxHeartbeats 4000000
namespace Go.Proofs.Ytibcdikfbhmheaa
open Go Go.Conc Go.Proofs
open Go.ConcN (sumTo upd sumTo_upd upd_ne upd_same)
noncomputable section
theorem info4i : (Try.prog.info? 4).map (fun i=>(i.zero,i.size,i.bytes)) = some (some (.bool false),1,1):=by kernel_rfl
theorem wpOp_val {P : Program} {ops : Array Oper} {Q : Exit -> Act -> World -> Prop} {i : Nat} {o : Oper} {K : Act -> World -> Prop} {a : Act} {w w' : World} {v : Value} (ho : ops[i]? = some o) (hw : Region.wanted o (yielded ops a.tmps) = true) (hr : (execOp a.eval o).run P w = .ok (.value v) w') (h : K (a.put o.dst v) w') : wpOp P ops Q i K a w:=by
 unfold wpOp
 simp only [ho,hw,if_true]
 left
 unfold Oper.wp
 rw [hr]
 exact h
theorem wpOp_skip {P : Program} {ops : Array Oper} {Q : Exit -> Act -> World -> Prop} {i : Nat} {o : Oper} {K : Act -> World -> Prop} {a : Act} {w w' : World} (ho : ops[i]? = some o) (hw : Region.wanted o (yielded ops a.tmps) = true) (hr : (execOp a.eval o).run P w = .ok .skip w') (h : K (a.put o.dst undef) w') : wpOp P ops Q i K a w:=by
 unfold wpOp
 simp only [ho,hw,if_true]
 left
 unfold Oper.wp
 rw [hr]
 exact h
theorem app_bl {w : World} {v : Value} {n : Nat} {xs : List Value} (hrow : w.ownsRow 0 4 1 v n xs) {ad : Nat} {c : Nat} {x : Bool} (hc : w.cell? ⟨ad,0,none⟩ = some (.bool x)) (hlen : n < 1000000000000) :
   ∃ v' w',(Builtin.append_ #[26,26] 26 #[v,.slice (some ⟨ad,0,none⟩) 1 c]).run Try.prog w = .ok v' w' /\ w'.ownsRow 0 4 1 v' (n + 1) (xs ++ [.bool x]) /\ (w.heap.size <= w'.heap.size /\ ∀ b,b < w.heap.size -> v.ownBlock ≠ some b -> w'.heap[b]? = w.heap[b]?) /\ (v'.ownBlock = v.ownBlock ∨ v'.ownBlock = some w.heap.size):=by
 obtain ⟨i0,hi0,hz⟩ : ∃ i0,Try.prog.info? 4 = some i0 /\ (i0.zero,i0.size,i0.bytes) = (some (.bool false),1,1):=by
   have:=info4i
   cases e : Try.prog.info? 4 with
   | none=>rw [e] at this; cases this
   | some i0=>rw [e] at this; exact ⟨i0,rfl,by simpa using this⟩
 obtain ⟨hz0,hz1,hz2⟩ : i0.zero = some (.bool false) /\ i0.size = 1 /\ i0.bytes = 1:=by simpa using hz
 obtain ⟨v',w',h1,h2,h3,_,h5⟩:=run_append_own_at (P:=Try.prog) (w:=w) 0 26 26 4 i0 (.bool false) 1 1 Try.underlying26 hi0 hz0 hz1 hz2 rfl (by decide) v n xs hrow ⟨ad,0,none⟩ 1 c [.bool x] rfl (fun j u hu=>by
   cases j with
   | zero=>simp at hu; subst hu; exact hc
   | succ j=>simp at hu) (by simp [Value.oneCell']) (by simp only [maxLen]; omega) (by omega) (Nat.zero_le _)
 exact ⟨v',w',h1,h2,⟨h3.size,fun b hb hne=>h3.block b hb (fun e=>hne e.symm)⟩,h5⟩
noncomputable def B23 : Code:=Try.f23.body.getD .skip
def L1 : Code:=nvl (nvk (nvb (nva (nvb (nvb (nvb (nvb B23)))))))
def R8 : Code:=nva (nvb (nvk (nva (nvb (nvb L1)))))
def R9 : Code:=nvb (nvb (nvk (nva (nvb (nvb L1)))))
def HR (T : Array Value) (C : Cw) (rb r2 k : Nat) : Prop:=T.size = 75 /\ T[6]? = some (.pointer (some ⟨rb,0,none⟩)) /\ T[8]? = some (.pointer (some ⟨C.cb,0,none⟩)) /\ T[9]? = some (.pointer (some ⟨r2,0,none⟩)) /\ T[28]? = some C.l /\ T[29]? = some (.int .i64 (C.n : Int)) /\ T[30]? = some (.int .i64 (k : Int))
section
variable {C : Cw} {E : Env} {U : Usr} {Q : Nat -> Prop} {σ : U.S} {xs : List Nat} {ow : Nat -> Nat} {role : Nat -> Role} {N : Nat} {V VQ : World} {ov ovr pkr : Value} {r2 rb k2 k3 k : Nat} {Post : Value -> World -> Prop} {bQ : Frame} {aQ : Act} {opsQ : Array Oper} {iQ : Nat} {restQ : List Nat} {kQ : List Item} {cs0 : List Frame}
theorem rep_over (hO : CwOk E C) (hU : UOk E C U) (hn64 : C.n <= 64) (hQ : ∀ b,Q b -> b < VQ.heap.size) (R : Rp C U Q VQ σ xs ow role N V r2 ov ovr pkr k (k)) (hk : k < C.n) {T : Array Value} (hT : HR T C rb r2 k) (hT11 : T[11]? = some (C.tp k)) {kt : List Item}
   (K : ∀ T' ow' V' ovr',Rp C U Q VQ σ xs ow' role N V' r2 ov ovr' pkr (k + 1) k -> HR T' C rb r2 k -> T'[11]? = some (C.tp k) -> To Try.prog Post E (Las Try.prog E 3) 0 0 0 N role V' (G ((base 23).at ⟨T',[]⟩ kt) cs0)) :
   To Try.prog Post E (Las Try.prog E 3) 0 0 0 N role V (G ((base 23).at ⟨T,[]⟩ (.code R8 :: kt)) cs0):=by
 have hn:=R.sea.nrm
 have c1 : V.cell? ⟨r2,1,none⟩ = some ovr:=cell_of R.rep (by simp)
 have c2 : V.cell? ⟨C.tb k,4,none⟩ = some (.int .i64 (U.st σ k)):=R.sea.cw.t4 hk
 have hrlt : r2 < V.heap.size:=R.sea.lt r2 (by rw [R.r2o.1]; decide)
 have htlt : C.tb k < V.heap.size:=R.sea.lt _ (by rw [R.sea.ot k hk]; decide)
 have hrow:=R.o2
 have hown : ovr.ownBlock ≠ some r2:=fun e=>(R.w2 r2 e).2.2.1 rfl
 obtain ⟨h75,t6,t8,t9,t28,t29,t30⟩:=hT
 refine To.walk hO.ok (will_code (L:=Lone) (R:=fun a' V'=>∃ v' W,HR a'.tmps C rb r2 k /\ a'.tmps[11]? = some (C.tp k) /\ V' = W.setCell ⟨r2,1,none⟩ v' /\ Apd V W 4 ovr v' (k + 1) (bls U σ 3 k ++ [.bool (U.st σ k == 3)])) calm rfl ⟨_,Try.func23⟩ rfl (by kernel_rfl) (fun τ=>?_) fun a' V' ⟨v',W,h1,h2,h3,A⟩ ha'=>?_)
 . obtain ⟨v0,v1,v2,v3,v4,v5,v6,v7,v8,v9,v10,v11,v12,v13,v14,v15,v16,v17,v18,v19,v20,v21,v22,v23,v24,v25,v26,v27,v28,v29,v30,v31,v32,v33,v34,v35,v36,v37,v38,v39,v40,v41,v42,v43,v44,v45,v46,v47,v48,v49,v50,v51,v52,v53,v54,v55,v56,v57,v58,v59,v60,v61,v62,v63,v64,v65,v66,v67,v68,v69,v70,v71,v72,v73,v74,rfl⟩:=array75 T h75
   simp only [List.getElem?_toArray,List.getElem?_cons_zero,List.getElem?_cons_succ,Option.some.injEq,Cw.tp] at t6 t8 t9 t28 t29 t30 hT11
   subst t6 t8 t9 t28 t29 t30 hT11
   simp only [R8,L1,B23,nva,nvb,nvk,nvl,Try.f23,Option.getD_some]
   refine wp_region_any (by kernel_rfl) ?_
   refine wS ?_
   generalize hw0 : ({ re V τ 0 with drawn:=(re V τ 0).drawn + 1 } : World) = w0
   have hh : w0.heap = V.heap:=by rw [← hw0]; rfl
   have hnn : norm w0 = V:=by rw [← hw0]; exact hn
   have d1 : w0.cell? ⟨r2,1,none⟩ = some ovr:=by rw [← hw0]; exact c1
   have d2 : w0.cell? ⟨C.tb k,4,none⟩ = some (.int .i64 (U.st σ k)):=by rw [← hw0]; exact c2
   clear hw0 c1 c2
   refine wpAny_take (i:=0) (v:=.pointer (some ⟨r2,1,none⟩)) rfl (by kernel_rfl) (by kernel_rfl) (by kernel_rfl) (fun _ _ _ h=>h) (.inl ⟨rfl,fun w=>by go_simp⟩) ?_
   walk_nrm
   refine wpAny_take (i:=2) (v:=.pointer (some ⟨C.tb k,0,none⟩)) rfl (by kernel_rfl) (by kernel_rfl) (by kernel_rfl) (fun _ _ _ h=>h) (.inl ⟨rfl,fun w=>by go_simp⟩) ?_
   walk_nrm
   refine wpAny_take (i:=3) (v:=.pointer (some ⟨C.tb k,0,none⟩)) rfl (by kernel_rfl) (by kernel_rfl) (by kernel_rfl) (fun _ _ _ h=>h) (.inl ⟨rfl,fun w=>by go_simp⟩) ?_
   walk_nrm
   refine wpAny_take (i:=4) (v:=.pointer (some ⟨C.tb k,4,none⟩)) rfl (by kernel_rfl) (by kernel_rfl) (by kernel_rfl) (fun _ _ _ h=>h) (.inl ⟨rfl,fun w=>by go_simp⟩) ?_
   walk_nrm
   obtain ⟨w1,hw1⟩ : ∃ w1,w1 = w0.alloc (.cells #[.bool (U.st σ k == 3)] 4):=⟨_,rfl⟩
   have s1 : w1.heap.size = V.heap.size + 1:=by rw [hw1,alloc_size,hh]
   have e2 : ∀ b,b < V.heap.size -> w1.heap[b]? = V.heap[b]?:=fun b hb=>by rw [hw1,alloc_get,hh,if_neg (by omega)]
   have e0 : w1.cell? ⟨V.heap.size,0,none⟩ = some (.bool (U.st σ k == 3)):=cell_of (b:=V.heap.size) (k:=0) (cs:=#[.bool (U.st σ k == 3)]) (t:=4) (f:=(0,0)) (by rw [hw1,alloc_get,hh,if_pos rfl]) (by simp)
   have e1 : w1.cell? ⟨r2,1,none⟩ = some ovr:=cell_of ((e2 r2 hrlt).trans R.rep) (by simp)
   obtain ⟨v',w2,a1,a2,a3,a4⟩:=app_bl (row_keep hrow fun b hb=>e2 b (row_at hrow hb)) e0 (by omega)
   obtain ⟨sb,sn,sc,rfl⟩ : ∃ sb sn sc,v' = .slice sb sn sc:=by
     obtain ⟨_,h2⟩:=a2
     rcases h2 with ⟨rfl,_⟩ | ⟨g,cap,cur,rfl,_⟩
     . exact ⟨_,_,_,rfl⟩
     . exact ⟨_,_,_,rfl⟩
   have hr2 : w2.heap[r2]? = some (.cells #[ov,ovr,pkr] 28 (0,0)):=by rw [a3.2 r2 (by omega) hown,e2 r2 hrlt]; exact R.rep
   have f1 : w2.cell? ⟨r2,1,none⟩ = some ovr:=cell_of hr2 (by simp)
   have f2 : w2.frozen? ⟨r2,1,none⟩ = false:=by simp [World.frozen?,hr2]
   rw [s1] at a3 a4
   have A : Apd V (norm w2) 4 ovr (.slice sb sn sc) (k + 1) (bls U σ 3 k ++ [.bool (U.st σ k == 3)]):=⟨rfl,a3.1,fun b hb hne=>by rw [← e2 b hb]; exact a3.2 b (by omega) hne,a4,a2⟩
   refine wpAny_all (rs:=[1,5]) (by kernel_rfl) (by simp) (fun i hi=>?_)
   rcases (show i = 1 ∨ i = 5 by simpa using hi) with rfl | rfl
   . refine wpOp_val (v:=ovr) (w':=w0) rfl rfl (by go_simp) ?_
     walk_nrm
     refine wpAny_all (rs:=[5]) (by kernel_rfl) (by simp) (fun i hi=>?_)
     obtain rfl : i = 5:=by simpa using hi
     refine wpOp_val (v:=.int .i64 (U.st σ k)) (w':=w0) rfl rfl (by go_simp) ?_
     walk_nrm
     refine wpAny_take (i:=6) (v:=.bool (U.st σ k == 3)) rfl (by kernel_rfl) (by kernel_rfl) (by kernel_rfl) (fun _ _ _ h=>h) (.inl ⟨rfl,fun w=>by go_simp⟩) ?_
     walk_nrm
     refine wpAny_all (rs:=[7]) (by kernel_rfl) (by simp) (fun i hi=>?_)
     obtain rfl : i = 7:=by simpa using hi
     refine wpOp_val (v:=.slice (some ⟨V.heap.size,0,none⟩) 1 1) (w':=w1) rfl rfl (by go_simp) ?_
     walk_nrm
     refine wpAny_all (rs:=[8]) (by kernel_rfl) (by simp) (fun i hi=>?_)
     obtain rfl : i = 8:=by simpa using hi
     refine wpOp_val (v:=.slice sb sn sc) (w':=w2) rfl rfl (run_app_opm (s:=.tmp 35) (x:=.tmp 41) rfl rfl rfl a1) ?_
     walk_nrm
     refine wpAny_take (i:=9) (v:=.pointer (some ⟨r2,1,none⟩)) rfl (by kernel_rfl) (by kernel_rfl) (by kernel_rfl) (fun _ _ _ h=>h) (.inl ⟨rfl,fun w=>by go_simp⟩) ?_
     walk_nrm
     refine wpAny_all (rs:=[10]) (by kernel_rfl) (by simp) (fun i hi=>?_)
     obtain rfl : i = 10:=by simpa using hi
     refine wpOp_skip (w':=w2.setCell ⟨r2,1,none⟩ (.slice sb sn sc)) rfl rfl (by go_simp) ?_
     walk_nrm
     exact wpAny_done (by kernel_rfl) ⟨⟨.slice sb sn sc,norm w2,⟨by simp,rfl,rfl,rfl,rfl,rfl,rfl⟩,rfl,rfl,A⟩,rfl⟩ _
   . refine wpOp_val (v:=.int .i64 (U.st σ k)) (w':=w0) rfl rfl (by go_simp) ?_
     walk_nrm
     refine wpAny_take (i:=6) (v:=.bool (U.st σ k == 3)) rfl (by kernel_rfl) (by kernel_rfl) (by kernel_rfl) (fun _ _ _ h=>h) (.inl ⟨rfl,fun w=>by go_simp⟩) ?_
     walk_nrm
     refine wpAny_all (rs:=[1,7]) (by kernel_rfl) (by simp) (fun i hi=>?_)
     rcases (show i = 1 ∨ i = 7 by simpa using hi) with rfl | rfl
     . refine wpOp_val (v:=ovr) (w':=w0) rfl rfl (by go_simp) ?_
       walk_nrm
       refine wpAny_all (rs:=[7]) (by kernel_rfl) (by simp) (fun i hi=>?_)
       obtain rfl : i = 7:=by simpa using hi
       refine wpOp_val (v:=.slice (some ⟨V.heap.size,0,none⟩) 1 1) (w':=w1) rfl rfl (by go_simp) ?_
       walk_nrm
       refine wpAny_all (rs:=[8]) (by kernel_rfl) (by simp) (fun i hi=>?_)
       obtain rfl : i = 8:=by simpa using hi
       refine wpOp_val (v:=.slice sb sn sc) (w':=w2) rfl rfl (run_app_opm (s:=.tmp 35) (x:=.tmp 41) rfl rfl rfl a1) ?_
       walk_nrm
       refine wpAny_take (i:=9) (v:=.pointer (some ⟨r2,1,none⟩)) rfl (by kernel_rfl) (by kernel_rfl) (by kernel_rfl) (fun _ _ _ h=>h) (.inl ⟨rfl,fun w=>by go_simp⟩) ?_
       walk_nrm
       refine wpAny_all (rs:=[10]) (by kernel_rfl) (by simp) (fun i hi=>?_)
       obtain rfl : i = 10:=by simpa using hi
       refine wpOp_skip (w':=w2.setCell ⟨r2,1,none⟩ (.slice sb sn sc)) rfl rfl (by go_simp) ?_
       walk_nrm
       exact wpAny_done (by kernel_rfl) ⟨⟨.slice sb sn sc,norm w2,⟨by simp,rfl,rfl,rfl,rfl,rfl,rfl⟩,rfl,rfl,A⟩,rfl⟩ _
     . refine wpOp_val (v:=.slice (some ⟨V.heap.size,0,none⟩) 1 1) (w':=w1) rfl rfl (by go_simp) ?_
       walk_nrm
       refine wpAny_all (rs:=[1]) (by kernel_rfl) (by simp) (fun i hi=>?_)
       obtain rfl : i = 1:=by simpa using hi
       refine wpOp_val (v:=ovr) (w':=w1) rfl rfl (by go_simp) ?_
       walk_nrm
       refine wpAny_all (rs:=[8]) (by kernel_rfl) (by simp) (fun i hi=>?_)
       obtain rfl : i = 8:=by simpa using hi
       refine wpOp_val (v:=.slice sb sn sc) (w':=w2) rfl rfl (run_app_opm (s:=.tmp 35) (x:=.tmp 41) rfl rfl rfl a1) ?_
       walk_nrm
       refine wpAny_take (i:=9) (v:=.pointer (some ⟨r2,1,none⟩)) rfl (by kernel_rfl) (by kernel_rfl) (by kernel_rfl) (fun _ _ _ h=>h) (.inl ⟨rfl,fun w=>by go_simp⟩) ?_
       walk_nrm
       refine wpAny_all (rs:=[10]) (by kernel_rfl) (by simp) (fun i hi=>?_)
       obtain rfl : i = 10:=by simpa using hi
       refine wpOp_skip (w':=w2.setCell ⟨r2,1,none⟩ (.slice sb sn sc)) rfl rfl (by go_simp) ?_
       walk_nrm
       exact wpAny_done (by kernel_rfl) ⟨⟨.slice sb sn sc,norm w2,⟨by simp,rfl,rfl,rfl,rfl,rfl,rfl⟩,rfl,rfl,A⟩,rfl⟩ _
 . obtain ⟨T',df⟩:=a'
   simp only at ha' h1 h2
   subst ha' h3
   exact Will.stop (K T' _ _ v' (rp_over hU hQ R A) h1 h2)
theorem rep_park (hO : CwOk E C) (hU : UOk E C U) (hn64 : C.n <= 64) (hQ : ∀ b,Q b -> b < VQ.heap.size) (R : Rp C U Q VQ σ xs ow role N V r2 ov ovr pkr (k + 1) k) (hk : k < C.n) {T : Array Value} (hT : HR T C rb r2 k) (hT11 : T[11]? = some (C.tp k)) {kt : List Item}
   (K : ∀ T' ow' V' pkr',Rp C U Q VQ σ xs ow' role N V' r2 ov ovr pkr' (k + 1) (k + 1) -> HR T' C rb r2 k -> T'[11]? = some (C.tp k) -> To Try.prog Post E (Las Try.prog E 3) 0 0 0 N role V' (G ((base 23).at ⟨T',[]⟩ kt) cs0)) :
   To Try.prog Post E (Las Try.prog E 3) 0 0 0 N role V (G ((base 23).at ⟨T,[]⟩ (.code R9 :: kt)) cs0):=by
 have hn:=R.sea.nrm
 have c1 : V.cell? ⟨r2,2,none⟩ = some pkr:=cell_of R.rep (by simp)
 have c2 : V.cell? ⟨C.tb k,4,none⟩ = some (.int .i64 (U.st σ k)):=R.sea.cw.t4 hk
 have hrlt : r2 < V.heap.size:=R.sea.lt r2 (by rw [R.r2o.1]; decide)
 have htlt : C.tb k < V.heap.size:=R.sea.lt _ (by rw [R.sea.ot k hk]; decide)
 have hrow:=R.o3
 have hown : pkr.ownBlock ≠ some r2:=fun e=>(R.w3 r2 e).2.2.1 rfl
 obtain ⟨h75,t6,t8,t9,t28,t29,t30⟩:=hT
 refine To.walk hO.ok (will_code (L:=Lone) (R:=fun a' V'=>∃ v' W,HR a'.tmps C rb r2 k /\ a'.tmps[11]? = some (C.tp k) /\ V' = W.setCell ⟨r2,2,none⟩ v' /\ Apd V W 4 pkr v' (k + 1) (bls U σ 2 k ++ [.bool (U.st σ k == 2)])) calm rfl ⟨_,Try.func23⟩ rfl (by kernel_rfl) (fun τ=>?_) fun a' V' ⟨v',W,h1,h2,h3,A⟩ ha'=>?_)
 . obtain ⟨v0,v1,v2,v3,v4,v5,v6,v7,v8,v9,v10,v11,v12,v13,v14,v15,v16,v17,v18,v19,v20,v21,v22,v23,v24,v25,v26,v27,v28,v29,v30,v31,v32,v33,v34,v35,v36,v37,v38,v39,v40,v41,v42,v43,v44,v45,v46,v47,v48,v49,v50,v51,v52,v53,v54,v55,v56,v57,v58,v59,v60,v61,v62,v63,v64,v65,v66,v67,v68,v69,v70,v71,v72,v73,v74,rfl⟩:=array75 T h75
   simp only [List.getElem?_toArray,List.getElem?_cons_zero,List.getElem?_cons_succ,Option.some.injEq,Cw.tp] at t6 t8 t9 t28 t29 t30 hT11
   subst t6 t8 t9 t28 t29 t30 hT11
   simp only [R9,L1,B23,nva,nvb,nvk,nvl,Try.f23,Option.getD_some]
   refine wp_region_any (by kernel_rfl) ?_
   refine wS ?_
   generalize hw0 : ({ re V τ 0 with drawn:=(re V τ 0).drawn + 1 } : World) = w0
   have hh : w0.heap = V.heap:=by rw [← hw0]; rfl
   have hnn : norm w0 = V:=by rw [← hw0]; exact hn
   have d1 : w0.cell? ⟨r2,2,none⟩ = some pkr:=by rw [← hw0]; exact c1
   have d2 : w0.cell? ⟨C.tb k,4,none⟩ = some (.int .i64 (U.st σ k)):=by rw [← hw0]; exact c2
   clear hw0 c1 c2
   refine wpAny_take (i:=0) (v:=.pointer (some ⟨r2,2,none⟩)) rfl (by kernel_rfl) (by kernel_rfl) (by kernel_rfl) (fun _ _ _ h=>h) (.inl ⟨rfl,fun w=>by go_simp⟩) ?_
   walk_nrm
   refine wpAny_take (i:=2) (v:=.pointer (some ⟨C.tb k,0,none⟩)) rfl (by kernel_rfl) (by kernel_rfl) (by kernel_rfl) (fun _ _ _ h=>h) (.inl ⟨rfl,fun w=>by go_simp⟩) ?_
   walk_nrm
   refine wpAny_take (i:=3) (v:=.pointer (some ⟨C.tb k,0,none⟩)) rfl (by kernel_rfl) (by kernel_rfl) (by kernel_rfl) (fun _ _ _ h=>h) (.inl ⟨rfl,fun w=>by go_simp⟩) ?_
   walk_nrm
   refine wpAny_take (i:=4) (v:=.pointer (some ⟨C.tb k,4,none⟩)) rfl (by kernel_rfl) (by kernel_rfl) (by kernel_rfl) (fun _ _ _ h=>h) (.inl ⟨rfl,fun w=>by go_simp⟩) ?_
   walk_nrm
   obtain ⟨w1,hw1⟩ : ∃ w1,w1 = w0.alloc (.cells #[.bool (U.st σ k == 2)] 4):=⟨_,rfl⟩
   have s1 : w1.heap.size = V.heap.size + 1:=by rw [hw1,alloc_size,hh]
   have e2 : ∀ b,b < V.heap.size -> w1.heap[b]? = V.heap[b]?:=fun b hb=>by rw [hw1,alloc_get,hh,if_neg (by omega)]
   have e0 : w1.cell? ⟨V.heap.size,0,none⟩ = some (.bool (U.st σ k == 2)):=cell_of (b:=V.heap.size) (k:=0) (cs:=#[.bool (U.st σ k == 2)]) (t:=4) (f:=(0,0)) (by rw [hw1,alloc_get,hh,if_pos rfl]) (by simp)
   have e1 : w1.cell? ⟨r2,2,none⟩ = some pkr:=cell_of ((e2 r2 hrlt).trans R.rep) (by simp)
   obtain ⟨v',w2,a1,a2,a3,a4⟩:=app_bl (row_keep hrow fun b hb=>e2 b (row_at hrow hb)) e0 (by omega)
   obtain ⟨sb,sn,sc,rfl⟩ : ∃ sb sn sc,v' = .slice sb sn sc:=by
     obtain ⟨_,h2⟩:=a2
     rcases h2 with ⟨rfl,_⟩ | ⟨g,cap,cur,rfl,_⟩
     . exact ⟨_,_,_,rfl⟩
     . exact ⟨_,_,_,rfl⟩
   have hr2 : w2.heap[r2]? = some (.cells #[ov,ovr,pkr] 28 (0,0)):=by rw [a3.2 r2 (by omega) hown,e2 r2 hrlt]; exact R.rep
   have f1 : w2.cell? ⟨r2,2,none⟩ = some pkr:=cell_of hr2 (by simp)
   have f2 : w2.frozen? ⟨r2,2,none⟩ = false:=by simp [World.frozen?,hr2]
   rw [s1] at a3 a4
   have A : Apd V (norm w2) 4 pkr (.slice sb sn sc) (k + 1) (bls U σ 2 k ++ [.bool (U.st σ k == 2)]):=⟨rfl,a3.1,fun b hb hne=>by rw [← e2 b hb]; exact a3.2 b (by omega) hne,a4,a2⟩
   refine wpAny_all (rs:=[1,5]) (by kernel_rfl) (by simp) (fun i hi=>?_)
   rcases (show i = 1 ∨ i = 5 by simpa using hi) with rfl | rfl
   . refine wpOp_val (v:=pkr) (w':=w0) rfl rfl (by go_simp) ?_
     walk_nrm
     refine wpAny_all (rs:=[5]) (by kernel_rfl) (by simp) (fun i hi=>?_)
     obtain rfl : i = 5:=by simpa using hi
     refine wpOp_val (v:=.int .i64 (U.st σ k)) (w':=w0) rfl rfl (by go_simp) ?_
     walk_nrm
     refine wpAny_take (i:=6) (v:=.bool (U.st σ k == 2)) rfl (by kernel_rfl) (by kernel_rfl) (by kernel_rfl) (fun _ _ _ h=>h) (.inl ⟨rfl,fun w=>by go_simp⟩) ?_
     walk_nrm
     refine wpAny_all (rs:=[7]) (by kernel_rfl) (by simp) (fun i hi=>?_)
     obtain rfl : i = 7:=by simpa using hi
     refine wpOp_val (v:=.slice (some ⟨V.heap.size,0,none⟩) 1 1) (w':=w1) rfl rfl (by go_simp) ?_
     walk_nrm
     refine wpAny_all (rs:=[8]) (by kernel_rfl) (by simp) (fun i hi=>?_)
     obtain rfl : i = 8:=by simpa using hi
     refine wpOp_val (v:=.slice sb sn sc) (w':=w2) rfl rfl (run_app_opm (s:=.tmp 45) (x:=.tmp 51) rfl rfl rfl a1) ?_
     walk_nrm
     refine wpAny_take (i:=9) (v:=.pointer (some ⟨r2,2,none⟩)) rfl (by kernel_rfl) (by kernel_rfl) (by kernel_rfl) (fun _ _ _ h=>h) (.inl ⟨rfl,fun w=>by go_simp⟩) ?_
     walk_nrm
     refine wpAny_all (rs:=[10]) (by kernel_rfl) (by simp) (fun i hi=>?_)
     obtain rfl : i = 10:=by simpa using hi
     refine wpOp_skip (w':=w2.setCell ⟨r2,2,none⟩ (.slice sb sn sc)) rfl rfl (by go_simp) ?_
     walk_nrm
     exact wpAny_done (by kernel_rfl) ⟨⟨.slice sb sn sc,norm w2,⟨by simp,rfl,rfl,rfl,rfl,rfl,rfl⟩,rfl,rfl,A⟩,rfl⟩ _
   . refine wpOp_val (v:=.int .i64 (U.st σ k)) (w':=w0) rfl rfl (by go_simp) ?_
     walk_nrm
     refine wpAny_take (i:=6) (v:=.bool (U.st σ k == 2)) rfl (by kernel_rfl) (by kernel_rfl) (by kernel_rfl) (fun _ _ _ h=>h) (.inl ⟨rfl,fun w=>by go_simp⟩) ?_
     walk_nrm
     refine wpAny_all (rs:=[1,7]) (by kernel_rfl) (by simp) (fun i hi=>?_)
     rcases (show i = 1 ∨ i = 7 by simpa using hi) with rfl | rfl
     . refine wpOp_val (v:=pkr) (w':=w0) rfl rfl (by go_simp) ?_
       walk_nrm
       refine wpAny_all (rs:=[7]) (by kernel_rfl) (by simp) (fun i hi=>?_)
       obtain rfl : i = 7:=by simpa using hi
       refine wpOp_val (v:=.slice (some ⟨V.heap.size,0,none⟩) 1 1) (w':=w1) rfl rfl (by go_simp) ?_
       walk_nrm
       refine wpAny_all (rs:=[8]) (by kernel_rfl) (by simp) (fun i hi=>?_)
       obtain rfl : i = 8:=by simpa using hi
       refine wpOp_val (v:=.slice sb sn sc) (w':=w2) rfl rfl (run_app_opm (s:=.tmp 45) (x:=.tmp 51) rfl rfl rfl a1) ?_
       walk_nrm
       refine wpAny_take (i:=9) (v:=.pointer (some ⟨r2,2,none⟩)) rfl (by kernel_rfl) (by kernel_rfl) (by kernel_rfl) (fun _ _ _ h=>h) (.inl ⟨rfl,fun w=>by go_simp⟩) ?_
       walk_nrm
       refine wpAny_all (rs:=[10]) (by kernel_rfl) (by simp) (fun i hi=>?_)
       obtain rfl : i = 10:=by simpa using hi
       refine wpOp_skip (w':=w2.setCell ⟨r2,2,none⟩ (.slice sb sn sc)) rfl rfl (by go_simp) ?_
       walk_nrm
       exact wpAny_done (by kernel_rfl) ⟨⟨.slice sb sn sc,norm w2,⟨by simp,rfl,rfl,rfl,rfl,rfl,rfl⟩,rfl,rfl,A⟩,rfl⟩ _
     . refine wpOp_val (v:=.slice (some ⟨V.heap.size,0,none⟩) 1 1) (w':=w1) rfl rfl (by go_simp) ?_
       walk_nrm
       refine wpAny_all (rs:=[1]) (by kernel_rfl) (by simp) (fun i hi=>?_)
       obtain rfl : i = 1:=by simpa using hi
       refine wpOp_val (v:=pkr) (w':=w1) rfl rfl (by go_simp) ?_
       walk_nrm
       refine wpAny_all (rs:=[8]) (by kernel_rfl) (by simp) (fun i hi=>?_)
       obtain rfl : i = 8:=by simpa using hi
       refine wpOp_val (v:=.slice sb sn sc) (w':=w2) rfl rfl (run_app_opm (s:=.tmp 45) (x:=.tmp 51) rfl rfl rfl a1) ?_
       walk_nrm
       refine wpAny_take (i:=9) (v:=.pointer (some ⟨r2,2,none⟩)) rfl (by kernel_rfl) (by kernel_rfl) (by kernel_rfl) (fun _ _ _ h=>h) (.inl ⟨rfl,fun w=>by go_simp⟩) ?_
       walk_nrm
       refine wpAny_all (rs:=[10]) (by kernel_rfl) (by simp) (fun i hi=>?_)
       obtain rfl : i = 10:=by simpa using hi
       refine wpOp_skip (w':=w2.setCell ⟨r2,2,none⟩ (.slice sb sn sc)) rfl rfl (by go_simp) ?_
       walk_nrm
       exact wpAny_done (by kernel_rfl) ⟨⟨.slice sb sn sc,norm w2,⟨by simp,rfl,rfl,rfl,rfl,rfl,rfl⟩,rfl,rfl,A⟩,rfl⟩ _
 . obtain ⟨T',df⟩:=a'
   simp only at ha' h1 h2
   subst ha' h3
   exact Will.stop (K T' _ _ v' (rp_park hU hQ R A) h1 h2)
end
def Y5 : Code:=nvb (nvb (nvb (nvb (nvb B23))))
section
variable {C : Cw} {E : Env} {U : Usr} {Q : Nat -> Prop} {σ : U.S} {xs : List Nat} {ow : Nat -> Nat} {role : Nat -> Role} {N : Nat} {V VQ : World} {ov ovr pkr : Value} {r2 rb k2 k3 k : Nat} {Post : Value -> World -> Prop} {bQ : Frame} {aQ : Act} {opsQ : Array Oper} {iQ : Nat} {restQ : List Nat} {kQ : List Item} {cs0 : List Frame}
theorem rep_loop (hO : CwOk E C) (hU : UOk E C U) (hn64 : C.n <= 64) (hQ : ∀ b,Q b -> b < VQ.heap.size) (L : LsAt C Q VQ)
   (Kend : ∀ T ow V ovr pkr,Rp C U Q VQ σ xs ow role N V r2 ov ovr pkr C.n C.n -> HR T C rb r2 C.n -> To Try.prog Post E (Las Try.prog E 3) 0 0 0 N role V (G ((base 23).at ⟨T,[]⟩ [.code Y5]) cs0)) :
   ∀ (m k : Nat) T ow V ovr pkr,m + k = C.n -> Rp C U Q VQ σ xs ow role N V r2 ov ovr pkr k k -> HR T C rb r2 k ->
     To Try.prog Post E (Las Try.prog E 3) 0 0 0 N role V (G ((base 23).at ⟨T,[]⟩ [.code L1,.inLoop L1,.inBlock 0,.code Y5]) cs0):=by
 intro m
 induction m with
 | zero =>
   intro k T ow V ovr pkr hmk R hT
   obtain rfl : k = C.n:=by omega
   have hn:=R.sea.nrm
   have q1 : decide ((C.n : Int) < (C.n : Int)) = false:=decide_eq_false (by omega)
   have Kend':=fun T=>Kend T ow V ovr pkr R
   clear Kend hmk
   obtain ⟨h75,t6,t8,t9,t28,t29,t30⟩:=hT
   obtain ⟨v0,v1,v2,v3,v4,v5,v6,v7,v8,v9,v10,v11,v12,v13,v14,v15,v16,v17,v18,v19,v20,v21,v22,v23,v24,v25,v26,v27,v28,v29,v30,v31,v32,v33,v34,v35,v36,v37,v38,v39,v40,v41,v42,v43,v44,v45,v46,v47,v48,v49,v50,v51,v52,v53,v54,v55,v56,v57,v58,v59,v60,v61,v62,v63,v64,v65,v66,v67,v68,v69,v70,v71,v72,v73,v74,rfl⟩:=array75 T h75
   simp only [List.getElem?_toArray,List.getElem?_cons_zero,List.getElem?_cons_succ,Option.some.injEq] at t6 t8 t9 t28 t29 t30
   subst t6 t8 t9 t28 t29 t30
   refine (fun (h : ∀ X,X = L1 -> To Try.prog Post E (Las Try.prog E 3) 0 0 0 N role V (G ((base 23).at ⟨_,[]⟩ [.code X,.inLoop L1,.inBlock 0,.code Y5]) cs0))=>h L1 rfl) ?_
   intro X hX
   simp only [L1,B23,nva,nvb,nvk,nvl,Try.f23,Option.getD_some] at hX
   subst hX
   refine wB (L:=Lone) (J:=fun g=>To Try.prog Post E (Las Try.prog E 3) 0 0 0 N role V g) (mu_to hO.ok) (muv_to hO.ok hn) fun kk hkk=>?_
   refine Kend' _ ?_
   exact ⟨by simp,rfl,rfl,rfl,rfl,rfl,rfl⟩
 | succ m ih =>
   intro k T ow V ovr pkr hmk R hT
   have hk : k < C.n:=by omega
   have hn:=R.sea.nrm
   obtain ⟨lb,hl,hlb⟩:=L.l
   obtain rfl:=hlb (by omega)
   have e9 : ∀ τ,(re V τ 0).cell? ⟨C.lb,k,none⟩ = some (.pointer (some ⟨C.tb k,0,none⟩)):=fun τ=>cell_same (L.at_ k hk) (R.q _ (L.q (by omega))).2
   have q1 : decide ((k : Int) < (C.n : Int)) = true:=decide_eq_true (by omega)
   have q2 : ¬ ((k : Int) < 0):=by omega
   have q3 : ¬ ((C.n : Int) <= (k : Int)):=by omega
   have w4 : IntKind.i64.wrap ((k : Int) + 1) = ((k + 1 : Nat) : Int):=by rw [IntKind.wrap_i64]; omega
   obtain ⟨h75,t6,t8,t9,t28,t29,t30⟩:=hT
   rw [hl] at t28
   obtain ⟨v0,v1,v2,v3,v4,v5,v6,v7,v8,v9,v10,v11,v12,v13,v14,v15,v16,v17,v18,v19,v20,v21,v22,v23,v24,v25,v26,v27,v28,v29,v30,v31,v32,v33,v34,v35,v36,v37,v38,v39,v40,v41,v42,v43,v44,v45,v46,v47,v48,v49,v50,v51,v52,v53,v54,v55,v56,v57,v58,v59,v60,v61,v62,v63,v64,v65,v66,v67,v68,v69,v70,v71,v72,v73,v74,rfl⟩:=array75 T h75
   simp only [List.getElem?_toArray,List.getElem?_cons_zero,List.getElem?_cons_succ,Option.some.injEq] at t6 t8 t9 t28 t29 t30
   subst t6 t8 t9 t28 t29 t30
   clear h75
   refine (fun (h : ∀ X,X = L1 -> To Try.prog Post E (Las Try.prog E 3) 0 0 0 N role V (G ((base 23).at ⟨_,[]⟩ [.code X,.inLoop L1,.inBlock 0,.code Y5]) cs0))=>h L1 rfl) ?_
   intro X hX
   simp only [L1,B23,nva,nvb,nvk,nvl,Try.f23,Option.getD_some] at hX
   subst hX
   refine wB (L:=Lone) (J:=fun g=>To Try.prog Post E (Las Try.prog E 3) 0 0 0 N role V g) (mu_to hO.ok) (muv_to hO.ok hn) fun kk hkk=>?_
   refine (fun (h : ∀ X Y,R8 = X -> R9 = Y -> To Try.prog Post E (Las Try.prog E 3) 0 0 0 N role V (G ((base 23).at ⟨_,[]⟩ (.code X :: .code Y :: _)) cs0))=>h _ _ (by simp only [R8,L1,B23,nva,nvb,nvk,nvl,Try.f23,Option.getD_some]) (by simp only [R9,L1,B23,nva,nvb,nvk,nvl,Try.f23,Option.getD_some])) ?_
   intro X Y hX hY
   subst hX hY
   clear e9
   refine rep_over (rb:=rb) hO hU hn64 hQ R hk ⟨by simp,rfl,rfl,rfl,hl.symm ▸ rfl,rfl,rfl⟩ rfl fun T' ow' V' ovr' R' hT' h11'=>?_
   refine rep_park (rb:=rb) hO hU hn64 hQ R' hk hT' h11' fun T2 ow2 V2 pkr2 R2 hT2 h112=>?_
   have hn2:=R2.sea.nrm
   clear hT' h11' R'
   obtain ⟨h75,t6,t8,t9,t28,t29,t30⟩:=hT2
   obtain ⟨v0,v1,v2,v3,v4,v5,v6,v7,v8,v9,v10,v11,v12,v13,v14,v15,v16,v17,v18,v19,v20,v21,v22,v23,v24,v25,v26,v27,v28,v29,v30,v31,v32,v33,v34,v35,v36,v37,v38,v39,v40,v41,v42,v43,v44,v45,v46,v47,v48,v49,v50,v51,v52,v53,v54,v55,v56,v57,v58,v59,v60,v61,v62,v63,v64,v65,v66,v67,v68,v69,v70,v71,v72,v73,v74,rfl⟩:=array75 T2 h75
   simp only [List.getElem?_toArray,List.getElem?_cons_zero,List.getElem?_cons_succ,Option.some.injEq] at t6 t8 t9 t28 t29 t30
   subst t6 t8 t9 t28 t29 t30
   obtain ⟨K,hK,hV,key,yek⟩:=kKV (L:=Lone) (J:=fun g=>To Try.prog Post E (Las Try.prog E 3) 0 0 0 N role V2 g) (mu_to hO.ok) (muv_to hO.ok hn2)
   refine key _ ?_
   refine wA fun kk hkk=>?_
   refine mu_inLoop hK ?_
   refine yek _ ?_
   clear hK hV key yek K
   refine (fun (h : ∀ Y,L1 = Y -> To Try.prog Post E (Las Try.prog E 3) 0 0 0 N role V2 (G ((base 23).at _ [.code Y,.inLoop Y,.inBlock 0,.code Y5]) cs0))=>h _ (by simp only [L1,B23,nva,nvb,nvk,nvl,Try.f23,Option.getD_some])) ?_
   intro Y hY
   subst hY
   exact ih (k + 1) _ ow2 V2 _ _ (by omega) R2 ⟨by simp,rfl,rfl,rfl,rfl,rfl,rfl⟩
end
section
variable {P : Program} {main : Bool} {Z : Cuts} {Stop : Goroutine -> World -> Prop} {V : World}
theorem will_leave {b : Frame} {a : Act} {todo : List Item} {c : Frame} {cs : List Frame} {fn : Func} {v : Value} (hb : b.kind = .normal) (hd : a.defers = []) (hf : P.funcs[b.fn]? = some fn) (hr : ∀ τ,(results fn a.tmps).run P (re V τ 0) = .ok v (re V τ 0))
   (h : Will P main Z Stop (G (c.finish v) cs) V) : Will P main Z Stop (G { b.at a todo with mode:=.returning } (c :: cs)) V:=by
 have hstep : ∀ {w w' : World} {es : Array Event},(results fn a.tmps).runT P w #[] = (.ok v w',es) -> stepG P main (G { b.at a todo with mode:=.returning } (c :: cs)) w = .go (G (c.finish v) cs) w' (seen P b.fn es):=fun hh=>by
   simp [G,stepG,unwind,Frame.at,hd,hf,hh,doReturn,hb,GStep.after,-Sem.runT_eq]
 have key : ∀ w,pz Z w = V -> Fit P Z w -> ∃ w' es,stepG P main (G { b.at a todo with mode:=.returning } (c :: cs)) w = .go (G (c.finish v) cs) w' es /\ Hidden Z w w' /\ Fit P Z w' /\ (∀ e ∈ es,EvZ Z w'.heap.size e) /\ pz Z w' = V:=fun w hV hfit=>by
   subst hV
   have hsim:=sim_results (P:=P) (Z:=Z) (fn:=fn) (tmps:=a.tmps) (re (pz Z w) (glue (fun _ _=>0) 0 w) 0) w #[] rfl hfit
   rw [hr] at hsim
   obtain ⟨_,_,_,hgo⟩:=hsim
   obtain ⟨w',es',e,o'⟩:=hgo glue_ag
   refine ⟨w',_,hstep e,o'.hid,o'.fit,fun x hx=>?_,by rw [← o'.rl]; rfl⟩
   obtain ⟨u,hu,hu'⟩:=o'.evs
   have:=mem_seen hx
   rw [hu] at this
   exact hu' x (by simpa using this)
 refine .step rfl (fun w hV hfit=>?_) fun w g' w' es hV hfit hst=>?_
 . obtain ⟨w',es,e,a1,a2,a3,_⟩:=key w hV hfit
   exact ⟨_,w',es,e,a1,a2,a3⟩
 . obtain ⟨w2,es2,e,a1,a2,a3,a4⟩:=key w hV hfit
   rw [e] at hst
   injection hst with e1 e2 e3
   subst e1 e2
   rw [a4]
   exact h
end
structure Rz (C : Cw) (U : Usr) (Q : Nat -> Prop) (VQ : World) (σ : U.S) (xs : List Nat) (ow : Nat -> Nat) (V : World) (r2 : Nat) (ov ovr pkr : Value) : Prop where
 q : ∀ b,Q b -> ow b = 2 /\ V.heap[b]? = VQ.heap[b]?
 big : VQ.heap.size <= V.heap.size
 rep : V.heap[r2]? = some (.cells #[ov,ovr,pkr] 28 (0,0))
 r2o : ow r2 = 2 /\ ¬ Q r2
 o1 : V.ownsRow 0 3 1 ov xs.length (ints xs)
 o2 : V.ownsRow 0 4 1 ovr C.n (bls U σ 3 C.n)
 o3 : V.ownsRow 0 4 1 pkr C.n (bls U σ 2 C.n)
 w1 : ∀ b,ov.ownBlock = some b -> ow b = 2 /\ ¬ Q b /\ b ≠ r2
 w2 : ∀ b,ovr.ownBlock = some b -> ow b = 2 /\ ¬ Q b /\ b ≠ r2 /\ ov.ownBlock ≠ some b
 w3 : ∀ b,pkr.ownBlock = some b -> ow b = 2 /\ ¬ Q b /\ b ≠ r2 /\ ov.ownBlock ≠ some b /\ ovr.ownBlock ≠ some b
section
variable {C : Cw} {E : Env} {U : Usr} {Q : Nat -> Prop} {σ : U.S} {xs : List Nat} {ow : Nat -> Nat} {role : Nat -> Role} {N : Nat} {V VQ V' : World} {ov ovr pkr : Value} {r2 : Nat}
theorem Rp.rz (R : Rp C U Q VQ σ xs ow role N V r2 ov ovr pkr C.n C.n) : Rz C U Q VQ σ xs ow V r2 ov ovr pkr:=⟨R.q,R.big,R.rep,R.r2o,R.o1,R.o2,R.o3,R.w1,R.w2,R.w3⟩
theorem Rz.keep (R : Rz C U Q VQ σ xs ow V r2 ov ovr pkr) (hs : V.heap.size <= V'.heap.size) (hk : ∀ b,ow b = 2 -> V'.heap[b]? = V.heap[b]?) : Rz C U Q VQ σ xs ow V' r2 ov ovr pkr :=
 ⟨fun b hb=>⟨(R.q b hb).1,by rw [hk b (R.q b hb).1]; exact (R.q b hb).2⟩,by have:=R.big; omega,by rw [hk r2 R.r2o.1]; exact R.rep,R.r2o,owns_keep R.o1 fun b hb=>hk b (R.w1 b hb).1,owns_keep R.o2 fun b hb=>hk b (R.w2 b hb).1,owns_keep R.o3 fun b hb=>hk b (R.w3 b hb).1,R.w1,R.w2,R.w3⟩
theorem Sea.fini (hO : CwOk E C) (hU : UOk E C U) (S : Sea C U σ ow role N V false) : Fini C U σ (U.st σ) ow role N (V.setCell ⟨C.cb,2,none⟩ (.bool true)):=by
 have htc : ∀ i,i < C.n -> C.tb i ≠ C.cb:=fun i hi e=>by
   have h1:=hO.tb i hi
   rw [e,hO.cb] at h1
   cases h1
 have hk : ∀ b,b ≠ C.cb -> (V.setCell ⟨C.cb,2,none⟩ (.bool true)).heap[b]? = V.heap[b]?:=fun b hb=>by rw [setCell_heap,if_neg hb]
 have h0 : ∀ b v,V.cell? ⟨b,0,none⟩ = some v -> (V.setCell ⟨C.cb,2,none⟩ (.bool true)).cell? ⟨b,0,none⟩ = some v:=fun b v h=>by
   by_cases e : b = C.cb
   . subst e
     have h1 : V.cell? ⟨C.cb,0,none⟩ = some C.l:=cell_of S.cw.crew (by simp)
     rw [h1] at h
     rw [← h]
     refine cell_of (cs:=#[C.l,.chan (some C.bk),.bool true]) (t:=169) (f:=(1,2)) ?_ (by simp)
     rw [setCell_heap,if_pos rfl,S.cw.crew]
     simp
   . exact cell_same h (hk b e)
 refine ⟨⟨?_,fun i hi=>?_⟩,?_,norm_set S.nrm _ _,S.n0,S.r0,fun b hb=>by rw [size_setCell]; exact S.lt b hb,S.oc,S.ot,⟨fun i hi hD=>?_,S.sits.only,S.sits.inj⟩,fun i hi=>hU.stR σ i hi⟩
 . rw [setCell_heap,if_pos rfl,S.cw.crew]
   simp
 . rw [hk _ (htc i hi)]
   exact S.cw.thr i hi
 . refine hU.frame _ _ _ _ S.inv (fun b hb=>hk b fun e=>?_) (by rw [size_setCell]; exact Nat.le_refl _)
   subst e
   have:=S.oc
   omega
 . obtain ⟨x,bx,r,fr,cs,Rf,a1,a2,a3,a4,a5,a6,a7,a8,a9⟩:=S.sits.sit i hi hD
   exact ⟨x,bx,r,fr,cs,Rf,a1,a2,a3,a4,⟨a5.1,hU.mframe _ _ _ _ a5.2 (fun b hb=>hk b fun e=>by subst e; have:=S.oc; omega) (by rw [size_setCell]; exact Nat.le_refl _)⟩,a6,a7,a8,h0 _ _ a9⟩
end
def Y7 : Code:=nvb (nvb (nvb (nvb (nvb (nvb (nvb B23))))))
def L2 : Code:=nvl (nvk (nvb (nva (nvb (nvb (nvb (nvb (nvb (nvb B23)))))))))
def HE (T : Array Value) (C : Cw) (rb r2 k : Nat) : Prop:=T.size = 75 /\ T[6]? = some (.pointer (some ⟨rb,0,none⟩)) /\ T[8]? = some (.pointer (some ⟨C.cb,0,none⟩)) /\ T[9]? = some (.pointer (some ⟨r2,0,none⟩)) /\ T[61]? = some C.l /\ T[62]? = some (.int .i64 (C.n : Int)) /\ T[63]? = some (.int .i64 (k : Int))
def HZ (T : Array Value) (C : Cw) (rb r2 : Nat) : Prop:=T.size = 75 /\ T[6]? = some (.pointer (some ⟨rb,0,none⟩)) /\ T[8]? = some (.pointer (some ⟨C.cb,0,none⟩)) /\ T[9]? = some (.pointer (some ⟨r2,0,none⟩))
theorem ended_lt {st' : Nat -> Int} {k : Nat} (h : ∀ i,i < k -> st' i = 0 ∨ st' i = 3) (h4 : st' k = 0 ∨ st' k = 1 ∨ st' k = 2 ∨ st' k = 3) : ∀ i,i < k + 1 -> ended' st' k i = 0 ∨ ended' st' k i = 3:=fun i hi=>by
 unfold ended'
 by_cases e : i = k
 . subst e
   split
   . right; exact upd_same ..
   . rcases h4 with h | h | h | h
     . exact .inl h
     . exact absurd (Or.inl h) (by assumption)
     . exact absurd (Or.inr h) (by assumption)
     . exact .inr h
 . split
   . rw [upd_ne _ _ e]; exact h i (by omega)
   . exact h i (by omega)
section
variable {C : Cw} {E : Env} {U : Usr} {Q : Nat -> Prop} {σ : U.S} {xs : List Nat} {ow : Nat -> Nat} {role : Nat -> Role} {N : Nat} {V VQ : World} {ov ovr pkr : Value} {r2 rb k2 k3 k : Nat} {Post : Value -> World -> Prop} {bQ : Frame} {aQ : Act} {opsQ : Array Oper} {iQ : Nat} {restQ : List Nat} {kQ : List Item} {cs0 : List Frame}
theorem end_loop (hO : CwOk E C) (hU : UOk E C U) (hn64 : C.n <= 64) (L : LsAt C Q VQ)
   (Kend : ∀ T st' role V,Fini C U σ st' ow role N V -> Rz C U Q VQ σ xs ow V r2 ov ovr pkr -> (∀ i,i < C.n -> st' i = 0 ∨ st' i = 3) -> HZ T C rb r2 -> To Try.prog Post E (Las Try.prog E 3) 0 0 0 N role V (G ((base 23).at ⟨T,[]⟩ [.code Y7]) cs0)) :
   ∀ (m k : Nat) T st' role V,m + k = C.n -> Fini C U σ st' ow role N V -> Rz C U Q VQ σ xs ow V r2 ov ovr pkr -> (∀ i,i < k -> st' i = 0 ∨ st' i = 3) -> HE T C rb r2 k ->
     To Try.prog Post E (Las Try.prog E 3) 0 0 0 N role V (G ((base 23).at ⟨T,[]⟩ [.code L2,.inLoop L2,.inBlock 2,.code Y7]) cs0):=by
 intro m
 induction m with
 | zero =>
   intro k T st' role V hmk F R hst hT
   obtain rfl : k = C.n:=by omega
   have hn:=F.nrm
   have q1 : decide ((C.n : Int) < (C.n : Int)) = false:=decide_eq_false (by omega)
   have Kend':=fun T=>Kend T st' role V F R hst
   clear Kend hmk
   obtain ⟨h75,t6,t8,t9,t28,t29,t30⟩:=hT
   obtain ⟨v0,v1,v2,v3,v4,v5,v6,v7,v8,v9,v10,v11,v12,v13,v14,v15,v16,v17,v18,v19,v20,v21,v22,v23,v24,v25,v26,v27,v28,v29,v30,v31,v32,v33,v34,v35,v36,v37,v38,v39,v40,v41,v42,v43,v44,v45,v46,v47,v48,v49,v50,v51,v52,v53,v54,v55,v56,v57,v58,v59,v60,v61,v62,v63,v64,v65,v66,v67,v68,v69,v70,v71,v72,v73,v74,rfl⟩:=array75 T h75
   simp only [List.getElem?_toArray,List.getElem?_cons_zero,List.getElem?_cons_succ,Option.some.injEq] at t6 t8 t9 t28 t29 t30
   subst t6 t8 t9 t28 t29 t30
   refine (fun (h : ∀ X,X = L2 -> To Try.prog Post E (Las Try.prog E 3) 0 0 0 N role V (G ((base 23).at ⟨_,[]⟩ [.code X,.inLoop L2,.inBlock 2,.code Y7]) cs0))=>h L2 rfl) ?_
   intro X hX
   simp only [L2,B23,nva,nvb,nvk,nvl,Try.f23,Option.getD_some] at hX
   subst hX
   refine wB (L:=Lone) (J:=fun g=>To Try.prog Post E (Las Try.prog E 3) 0 0 0 N role V g) (mu_to hO.ok) (muv_to hO.ok hn) fun kk hkk=>?_
   refine Kend' _ ?_
   exact ⟨by simp,rfl,rfl,rfl⟩
 | succ m ih =>
   intro k T st' role V hmk F R hst hT
   have hk : k < C.n:=by omega
   have hn:=F.nrm
   obtain ⟨lb,hl,hlb⟩:=L.l
   obtain rfl:=hlb (by omega)
   have e9 : ∀ τ,(re V τ 0).cell? ⟨C.lb,k,none⟩ = some (.pointer (some ⟨C.tb k,0,none⟩)):=fun τ=>cell_same (L.at_ k hk) (R.q _ (L.q (by omega))).2
   have q1 : decide ((k : Int) < (C.n : Int)) = true:=decide_eq_true (by omega)
   have q2 : ¬ ((k : Int) < 0):=by omega
   have q3 : ¬ ((C.n : Int) <= (k : Int)):=by omega
   have w4 : IntKind.i64.wrap ((k : Int) + 1) = ((k + 1 : Nat) : Int):=by rw [IntKind.wrap_i64]; omega
   obtain ⟨h75,t6,t8,t9,t28,t29,t30⟩:=hT
   rw [hl] at t28
   obtain ⟨v0,v1,v2,v3,v4,v5,v6,v7,v8,v9,v10,v11,v12,v13,v14,v15,v16,v17,v18,v19,v20,v21,v22,v23,v24,v25,v26,v27,v28,v29,v30,v31,v32,v33,v34,v35,v36,v37,v38,v39,v40,v41,v42,v43,v44,v45,v46,v47,v48,v49,v50,v51,v52,v53,v54,v55,v56,v57,v58,v59,v60,v61,v62,v63,v64,v65,v66,v67,v68,v69,v70,v71,v72,v73,v74,rfl⟩:=array75 T h75
   simp only [List.getElem?_toArray,List.getElem?_cons_zero,List.getElem?_cons_succ,Option.some.injEq] at t6 t8 t9 t28 t29 t30
   subst t6 t8 t9 t28 t29 t30
   clear h75
   refine (fun (h : ∀ X,X = L2 -> To Try.prog Post E (Las Try.prog E 3) 0 0 0 N role V (G ((base 23).at ⟨_,[]⟩ [.code X,.inLoop L2,.inBlock 2,.code Y7]) cs0))=>h L2 rfl) ?_
   intro X hX
   simp only [L2,B23,nva,nvb,nvk,nvl,Try.f23,Option.getD_some] at hX
   subst hX
   obtain ⟨K,hK,hV,key,yek⟩:=kKV (L:=Lone) (J:=fun g=>To Try.prog Post E (Las Try.prog E 3) 0 0 0 N role V g) (mu_to hO.ok) (muv_to hO.ok hn)
   refine key _ ?_
   refine wA fun kk hkk=>?_
   refine hK.cl rfl rfl rfl Try.func79 rfl ?_
   walk_nrm
   refine yek _ ?_
   clear hK hV key yek K
   clear e9
   refine end_turn hO hU F hk fun role2 V2 F2 hs2 hk2=>?_
   walk_nrm
   have hn2:=F2.nrm
   have R2 : Rz C U Q VQ σ xs ow V2 r2 ov ovr pkr:=R.keep (by omega) fun b hb=>hk2 b fun j hj e=>by
     have:=F.ot j hj
     rw [← e] at this
     omega
   obtain ⟨K,hK,hV,key,yek⟩:=kKV (L:=Lone) (J:=fun g=>To Try.prog Post E (Las Try.prog E 3) 0 0 0 N role2 V2 g) (mu_to hO.ok) (muv_to hO.ok hn2)
   refine key _ ?_
   refine wA fun kk hkk=>?_
   refine mu_inLoop hK ?_
   refine yek _ ?_
   clear hK hV key yek K
   refine (fun (h : ∀ Y,L2 = Y -> To Try.prog Post E (Las Try.prog E 3) 0 0 0 N role2 V2 (G ((base 23).at _ [.code Y,.inLoop Y,.inBlock 2,.code Y7]) cs0))=>h _ (by simp only [L2,B23,nva,nvb,nvk,nvl,Try.f23,Option.getD_some])) ?_
   intro Y hY
   subst hY
   exact ih (k + 1) _ _ role2 V2 (by omega) F2 R2 (ended_lt hst (F.four k hk)) ⟨by simp,rfl,rfl,rfl,hl.symm ▸ rfl,rfl,rfl⟩
end
open Go.Conc.Lib
structure Ran (C : Cw) (U : Usr) (Q : Nat -> Prop) (VQ : World) (rb : Nat) (σ : U.S) (xs : List Nat) (ow : Nat -> Nat) (V : World) (ov ovr pkr : Value) : Prop where
 nrm : norm V = V
 big : VQ.heap.size <= V.heap.size
 inv : U.inv σ (fun b=>ow b = 3) V
 lt : ∀ b,ow b = 3 -> b < V.heap.size
 q : ∀ b,Q b -> ow b = 2
 keep : ∀ b,Q b -> b ≠ rb -> V.heap[b]? = VQ.heap[b]?
 o1 : V.ownsRow 0 3 1 ov xs.length (ints xs)
 o2 : V.ownsRow 0 4 1 ovr C.n (bls U σ 3 C.n)
 o3 : V.ownsRow 0 4 1 pkr C.n (bls U σ 2 C.n)
 w1 : ∀ b,ov.ownBlock = some b -> ow b = 2 /\ ¬ Q b
 w2 : ∀ b,ovr.ownBlock = some b -> ow b = 2 /\ ¬ Q b
 w3 : ∀ b,pkr.ownBlock = some b -> ow b = 2 /\ ¬ Q b
theorem slice_of {w : World} {e : TypeId} {v : Value} {n : Nat} {xs : List Value} (h : w.ownsRow 0 e 1 v n xs) : ∃ b n c,v = .slice b n c:=by
 obtain ⟨_,h2⟩:=h
 rcases h2 with ⟨rfl,_⟩ | ⟨g,cap,cur,rfl,_⟩
 . exact ⟨_,_,_,rfl⟩
 . exact ⟨_,_,_,rfl⟩
def set3 (V : World) (rb : Nat) (x y z : Value) : World:=((V.setCell ⟨rb,0,none⟩ x).setCell ⟨rb,1,none⟩ y).setCell ⟨rb,2,none⟩ z
theorem set3_get {V : World} {rb b : Nat} {x y z : Value} (h : b ≠ rb) : (set3 V rb x y z).heap[b]? = V.heap[b]?:=by
 unfold set3
 rw [setCell_heap,if_neg h,setCell_heap,if_neg h,setCell_heap,if_neg h]
theorem set3_size {V : World} {rb : Nat} {x y z : Value} : (set3 V rb x y z).heap.size = V.heap.size:=by
 unfold set3
 rw [size_setCell,size_setCell,size_setCell]
section
variable {C : Cw} {E : Env} {U : Usr} {Q : Nat -> Prop} {σ : U.S} {xs : List Nat} {ow : Nat -> Nat} {role : Nat -> Role} {N : Nat} {V VQ : World} {ov ovr pkr : Value} {r2 rb k2 k3 k : Nat} {Post : Value -> World -> Prop} {bQ : Frame} {aQ : Act} {opsQ : Array Oper} {iQ : Nat} {restQ : List Nat} {kQ : List Item} {cs0 : List Frame}
theorem run_fin (hO : CwOk E C) (hU : UOk E C U) {st' : Nat -> Int} (F : Fini C U σ st' ow role N V) (R : Rz C U Q VQ σ xs ow V r2 ov ovr pkr) (hst : ∀ i,i < C.n -> st' i = 0 ∨ st' i = 3) (hz0 : ∀ b,E.Z b ≠ some (3,0,0)) (hrb : Q rb) (hrb0 : VQ.heap[rb]? = some (.cells #[.slice none 0 0,.slice none 0 0,.slice none 0 0] 28 (0,0))) {T : Array Value} (hT : HZ T C rb r2)
   (K0 : ∀ V',Ran C U Q VQ rb σ xs ow V' ov ovr pkr -> To0 Try.prog Post E.Z V' (G (bQ.at (aQ.put ((opsQ[iQ]?).bind (·.dst)) (.tuple #[.agg #[ov,ovr,pkr],.int .i64 0])) (.inRegion opsQ restQ :: kQ)) cs0)) :
   To Try.prog Post E (Las Try.prog E 3) 0 0 0 N role V (G ((base 23).at ⟨T,[]⟩ [.code Y7]) (bQ.at aQ (.inRegion opsQ (iQ :: restQ) :: kQ) :: cs0)):=by
 have hn:=F.nrm
 have hns:=F.noSeat hst
 obtain ⟨ovb,ovn,ovc,rfl⟩:=slice_of R.o1
 obtain ⟨rrb,rrn,rrc,rfl⟩:=slice_of R.o2
 obtain ⟨pkb,pkn,pkc,rfl⟩:=slice_of R.o3
 have hrbV : V.heap[rb]? = some (.cells #[.slice none 0 0,.slice none 0 0,.slice none 0 0] 28 (0,0)):=by rw [(R.q rb hrb).2]; exact hrb0
 have hr2 : r2 ≠ rb:=fun e=>R.r2o.2 (e ▸ hrb)
 have d0 : ∀ τ,(re V τ 0).cell? ⟨r2,0,none⟩ = some (.slice ovb ovn ovc):=fun τ=>cell_of R.rep (by simp)
 have d1 : ∀ τ,(re V τ 0).cell? ⟨r2,1,none⟩ = some (.slice rrb rrn rrc):=fun τ=>cell_of R.rep (by simp)
 have d2 : ∀ τ,(re V τ 0).cell? ⟨r2,2,none⟩ = some (.slice pkb pkn pkc):=fun τ=>cell_of R.rep (by simp)
 have f0 : ∀ τ,(re V τ 0).cell? ⟨rb,0,none⟩ = some (.slice none 0 0):=fun τ=>cell_of hrbV (by simp)
 have f1 : ∀ τ,(re V τ 0).cell? ⟨rb,1,none⟩ = some (.slice none 0 0):=fun τ=>cell_of hrbV (by simp)
 have f2 : ∀ τ,(re V τ 0).cell? ⟨rb,2,none⟩ = some (.slice none 0 0):=fun τ=>cell_of hrbV (by simp)
 have f3 : ∀ τ,(re V τ 0).frozen? ⟨rb,0,none⟩ = false:=fun τ=>by simp [World.frozen?,re,hrbV]
 have f4 : ∀ τ,(re V τ 0).frozen? ⟨rb,1,none⟩ = false:=fun τ=>by simp [World.frozen?,re,hrbV]
 have f5 : ∀ τ,(re V τ 0).frozen? ⟨rb,2,none⟩ = false:=fun τ=>by simp [World.frozen?,re,hrbV]
 obtain ⟨h75,t6,t8,t9⟩:=hT
 obtain ⟨v0,v1,v2,v3,v4,v5,v6,v7,v8,v9,v10,v11,v12,v13,v14,v15,v16,v17,v18,v19,v20,v21,v22,v23,v24,v25,v26,v27,v28,v29,v30,v31,v32,v33,v34,v35,v36,v37,v38,v39,v40,v41,v42,v43,v44,v45,v46,v47,v48,v49,v50,v51,v52,v53,v54,v55,v56,v57,v58,v59,v60,v61,v62,v63,v64,v65,v66,v67,v68,v69,v70,v71,v72,v73,v74,rfl⟩:=array75 T h75
 simp only [List.getElem?_toArray,List.getElem?_cons_zero,List.getElem?_cons_succ,Option.some.injEq] at t6 t8 t9
 subst t6 t8 t9
 clear h75
 refine (fun (h : ∀ X,X = Y7 -> To Try.prog Post E (Las Try.prog E 3) 0 0 0 N role V (G ((base 23).at ⟨_,[]⟩ [.code X]) (bQ.at aQ (.inRegion opsQ (iQ :: restQ) :: kQ) :: cs0)))=>h Y7 rfl) ?_
 intro X hX
 simp only [Y7,B23,nva,nvb,nvk,nvl,Try.f23,Option.getD_some] at hX
 subst hX
 obtain ⟨K,hK,hV,key,yek⟩:=kKV (L:=Lone) (J:=fun g=>To Try.prog Post E (Las Try.prog E 3) 0 0 0 N role V g) (mu_to hO.ok) (muv_to hO.ok hn)
 refine key _ ?_
 refine wA fun kk hkk=>?_
 refine mu_call (c:=(waitFn Try.link).body.getD .skip) hK rfl rfl (by decide) rfl Try.wgLib.f_wait (by kernel_rfl) rfl ?_
 have hnt : (waitFn Try.link).ntmps = 84:=rfl
 rw [hnt]
 walk_nrm
 refine yek _ ?_
 clear hK hV key yek K
 refine waitT Try.wgLib hO.ok hO.st hO.sm hns ?_
 refine To.close ?_ hz0 (fun x hx=>by unfold role0; rw [if_neg (by omega)])
 walk_nrm
 refine wB (L:=Lone) (J:=fun g=>To0 Try.prog Post E.Z V g) mu_to0 (muv_to0 hn) fun kk hkk=>?_
 have hn' : norm (set3 V rb (.slice ovb ovn ovc) (.slice rrb rrn rrc) (.slice pkb pkn pkc)) = (set3 V rb (.slice ovb ovn ovc) (.slice rrb rrn rrc) (.slice pkb pkn pkc)):=norm_set (norm_set (norm_set hn _ _) _ _) _ _
 refine mus_put (L:=Lone) (mus_to0 hn') (K:=fun g=>To0 Try.prog Post E.Z V g) (K':=fun g=>To0 Try.prog Post E.Z (set3 V rb (.slice ovb ovn ovc) (.slice rrb rrn rrc) (.slice pkb pkn pkc)) g) rfl (.inl rfl) rfl (by kernel_rfl) (fun τ=>?_) ?_
 . go_simp
   rfl
 have hrb' : (set3 V rb (.slice ovb ovn ovc) (.slice rrb rrn rrc) (.slice pkb pkn pkc)).heap[rb]? = some (.cells #[.slice ovb ovn ovc,.slice rrb rrn rrc,.slice pkb pkn pkc] 28 (0,0)):=by
   unfold set3
   rw [setCell_heap,if_pos rfl,setCell_heap,if_pos rfl,setCell_heap,if_pos rfl,hrbV]
   simp
 have hA : Ran C U Q VQ rb σ xs ow (set3 V rb (.slice ovb ovn ovc) (.slice rrb rrn rrc) (.slice pkb pkn pkc)) (.slice ovb ovn ovc) (.slice rrb rrn rrc) (.slice pkb pkn pkc):=by
   have hne : ∀ b,(ow b = 2 /\ ¬ Q b) ∨ ow b = 3 -> b ≠ rb:=fun b hb e=>by
     subst e
     rcases hb with h | h
     . exact h.2 hrb
     . rw [(R.q _ hrb).1] at h; cases h
   exact ⟨hn',by rw [set3_size]; exact R.big,hU.frame _ _ _ _ F.inv (fun b hb=>set3_get (hne b (.inr hb))) (by rw [set3_size]; exact Nat.le_refl _),fun b hb=>by rw [set3_size]; exact F.lt b (by omega),fun b hb=>(R.q b hb).1,fun b hb hr=>(set3_get hr).trans (R.q b hb).2,owns_keep R.o1 fun b hb=>set3_get (hne b (.inl ⟨(R.w1 b hb).1,(R.w1 b hb).2.1⟩)),owns_keep R.o2 fun b hb=>set3_get (hne b (.inl ⟨(R.w2 b hb).1,(R.w2 b hb).2.1⟩)),owns_keep R.o3 fun b hb=>set3_get (hne b (.inl ⟨(R.w3 b hb).1,(R.w3 b hb).2.1⟩)),fun b hb=>⟨(R.w1 b hb).1,(R.w1 b hb).2.1⟩,fun b hb=>⟨(R.w2 b hb).1,(R.w2 b hb).2.1⟩,fun b hb=>⟨(R.w3 b hb).1,(R.w3 b hb).2.1⟩⟩
 have K0':=K0 _ hA
 clear K0 hA d0 d1 d2 f0 f1 f2 f3 f4 f5
 generalize (set3 V rb (.slice ovb ovn ovc) (.slice rrb rrn rrc) (.slice pkb pkn pkc)) = V' at *
 have g0 : ∀ τ,(re V' τ 0).cell? ⟨rb,0,none⟩ = some (.slice ovb ovn ovc):=fun τ=>cell_of hrb' (by simp)
 have g1 : ∀ τ,(re V' τ 0).cell? ⟨rb,1,none⟩ = some (.slice rrb rrn rrc):=fun τ=>cell_of hrb' (by simp)
 have g2 : ∀ τ,(re V' τ 0).cell? ⟨rb,2,none⟩ = some (.slice pkb pkn pkc):=fun τ=>cell_of hrb' (by simp)
 walk_nrm
 refine wB (L:=Lone) (J:=fun g=>To0 Try.prog Post E.Z V' g) mu_to0 (muv_to0 hn') fun kk hkk=>?_
 refine To0.walk (will_leave (fn:=Try.f23) rfl rfl Try.func23 (v:=.tuple #[.agg #[.slice ovb ovn ovc,.slice rrb rrn rrc,.slice pkb pkn pkc],.int .i64 0]) (fun τ=>?_) (Will.stop ?_))
 . simp only [results,Try.f23]
   go_simp
 . rw [Frame.finish_at]
   exact K0'
end
end
end Go.Proofs.Ytibcdikfbhmheaa
