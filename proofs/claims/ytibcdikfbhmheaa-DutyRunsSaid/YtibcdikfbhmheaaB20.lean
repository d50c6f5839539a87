import Derived.Test.YtibcdikfbhmheaaB19
import Derived.Test.YtibcdikfbhmheaaB16
set_option linter.unusedSimpArgs false
set_option linter.unusedVariables false
set_option maxRecDepth 100000
set_option maxHeartbeats 4000000
namespace Go.Proofs.Ytibcdikfbhmheaa
open Go Go.Conc Go.Proofs
open Go.ConcN (sumTo upd sumTo_upd upd_ne upd_same)
set_option linter.unusedVariables false
theorem array43 (T : Array Value) (h : T.size = 43) : ∃ v0 v1 v2 v3 v4 v5 v6 v7 v8 v9 v10 v11 v12 v13 v14 v15 v16 v17 v18 v19 v20 v21 v22 v23 v24 v25 v26 v27 v28 v29 v30 v31 v32 v33 v34 v35 v36 v37 v38 v39 v40 v41 v42 : Value,T = #[v0,v1,v2,v3,v4,v5,v6,v7,v8,v9,v10,v11,v12,v13,v14,v15,v16,v17,v18,v19,v20,v21,v22,v23,v24,v25,v26,v27,v28,v29,v30,v31,v32,v33,v34,v35,v36,v37,v38,v39,v40,v41,v42]:=by
 obtain ⟨l⟩:=T
 simp only [List.size_toArray] at h
 rcases l with _ | ⟨v0,l⟩
 · simp at h
 rcases l with _ | ⟨v1,l⟩
 · simp at h
 rcases l with _ | ⟨v2,l⟩
 · simp at h
 rcases l with _ | ⟨v3,l⟩
 · simp at h
 rcases l with _ | ⟨v4,l⟩
 · simp at h
 rcases l with _ | ⟨v5,l⟩
 · simp at h
 rcases l with _ | ⟨v6,l⟩
 · simp at h
 rcases l with _ | ⟨v7,l⟩
 · simp at h
 rcases l with _ | ⟨v8,l⟩
 · simp at h
 rcases l with _ | ⟨v9,l⟩
 · simp at h
 rcases l with _ | ⟨v10,l⟩
 · simp at h
 rcases l with _ | ⟨v11,l⟩
 · simp at h
 rcases l with _ | ⟨v12,l⟩
 · simp at h
 rcases l with _ | ⟨v13,l⟩
 · simp at h
 rcases l with _ | ⟨v14,l⟩
 · simp at h
 rcases l with _ | ⟨v15,l⟩
 · simp at h
 rcases l with _ | ⟨v16,l⟩
 · simp at h
 rcases l with _ | ⟨v17,l⟩
 · simp at h
 rcases l with _ | ⟨v18,l⟩
 · simp at h
 rcases l with _ | ⟨v19,l⟩
 · simp at h
 rcases l with _ | ⟨v20,l⟩
 · simp at h
 rcases l with _ | ⟨v21,l⟩
 · simp at h
 rcases l with _ | ⟨v22,l⟩
 · simp at h
 rcases l with _ | ⟨v23,l⟩
 · simp at h
 rcases l with _ | ⟨v24,l⟩
 · simp at h
 rcases l with _ | ⟨v25,l⟩
 · simp at h
 rcases l with _ | ⟨v26,l⟩
 · simp at h
 rcases l with _ | ⟨v27,l⟩
 · simp at h
 rcases l with _ | ⟨v28,l⟩
 · simp at h
 rcases l with _ | ⟨v29,l⟩
 · simp at h
 rcases l with _ | ⟨v30,l⟩
 · simp at h
 rcases l with _ | ⟨v31,l⟩
 · simp at h
 rcases l with _ | ⟨v32,l⟩
 · simp at h
 rcases l with _ | ⟨v33,l⟩
 · simp at h
 rcases l with _ | ⟨v34,l⟩
 · simp at h
 rcases l with _ | ⟨v35,l⟩
 · simp at h
 rcases l with _ | ⟨v36,l⟩
 · simp at h
 rcases l with _ | ⟨v37,l⟩
 · simp at h
 rcases l with _ | ⟨v38,l⟩
 · simp at h
 rcases l with _ | ⟨v39,l⟩
 · simp at h
 rcases l with _ | ⟨v40,l⟩
 · simp at h
 rcases l with _ | ⟨v41,l⟩
 · simp at h
 rcases l with _ | ⟨v42,l⟩
 · simp at h
 rcases l with _ | ⟨x,l⟩
 · exact ⟨v0,v1,v2,v3,v4,v5,v6,v7,v8,v9,v10,v11,v12,v13,v14,v15,v16,v17,v18,v19,v20,v21,v22,v23,v24,v25,v26,v27,v28,v29,v30,v31,v32,v33,v34,v35,v36,v37,v38,v39,v40,v41,v42,rfl⟩
 · simp at h
structure Rw (V : World) (la : Option Addr) (n : Nat) (acts : Nat → List (Int × Int)) (ra : Nat → Option Addr) (rc : Nat → Nat) : Prop where
 out : 0 < n → ∃ g o,la = some ⟨g,o,none⟩ ∧ g < V.heap.size ∧ ∀ j,j < n → V.cell? ⟨g,o + j,none⟩ = some (.slice (ra j) (acts j).length (rc j))
 inn : ∀ i,i < n → 0 < (acts i).length → ∃ g o,ra i = some ⟨g,o,none⟩ ∧ g < V.heap.size ∧ ∀ j (hj : j < (acts i).length),V.cell? ⟨g,o + j * 2,none⟩ = some (.int .i64 ((acts i)[j]'hj).1) ∧ V.cell? ⟨g,o + j * 2 + 1,none⟩ = some (.int .i64 ((acts i)[j]'hj).2)
theorem Rw.kp {V V' : World} {la : Option Addr} {n : Nat} {acts : Nat → List (Int × Int)} {ra : Nat → Option Addr} {rc : Nat → Nat} (h : Rw V la n acts ra rc) (k : Kp V V') : Rw V' la n acts ra rc:=⟨fun h0=>by
 obtain ⟨g,o,e,hg,c⟩:=h.out h0
 exact ⟨g,o,e,Nat.lt_of_lt_of_le hg k.size,fun j hj=>k.cell (c j hj)⟩,fun i hi h0=>by
 obtain ⟨g,o,e,hg,c⟩:=h.inn i hi h0
 exact ⟨g,o,e,Nat.lt_of_lt_of_le hg k.size,fun j hj=>⟨k.cell (c j hj).1,k.cell (c j hj).2⟩⟩⟩
theorem app_one {t e : TypeId} {z : Value} {B : Nat} (ht : Try.prog.underlying t = some (.slice e)) (hi : (Try.prog.info? e).map (fun i=>(i.zero,i.size,i.bytes)) = some (some z,1,B)) (hzs : z.cells.size = 1) (hB : B ≤ 100) {V : World} {v : Value} {n : Nat} {xs : List Value} (hrow : V.ownsRow 0 e 1 v n xs) {ad : Nat} {c : Nat} {x : Value} (hc : V.cell? ⟨ad,0,none⟩ = some x) (h1 : x.oneCell' = true) (hlen : n < 1000000000) (τ : Nat → Question → Nat) :
   ∃ v' w',(Builtin.append_ #[t,t] t #[v,.slice (some ⟨ad,0,none⟩) 1 c]).run Try.prog (re V τ 0) = .ok v' w' ∧ (norm w').ownsRow 0 e 1 v' (n + 1) (xs ++ [x]) ∧ (V.heap.size ≤ (norm w').heap.size ∧ ∀ b,b < V.heap.size → v.ownBlock ≠ some b → (norm w').heap[b]? = V.heap[b]?) ∧ (v'.ownBlock = v.ownBlock ∨ v'.ownBlock = some V.heap.size):=by
 obtain ⟨i0,hi0,hz⟩ : ∃ i0,Try.prog.info? e = some i0 ∧ (i0.zero,i0.size,i0.bytes) = (some z,1,B):=by
   cases e : Try.prog.info? e with
   | none=>rw [e] at hi; cases hi
   | some i0=>rw [e] at hi; exact ⟨i0,rfl,by simpa using hi⟩
 obtain ⟨hz0,hz1,hz2⟩ : i0.zero = some z ∧ i0.size = 1 ∧ i0.bytes = B:=by simpa using hz
 obtain ⟨v',w',h1,h2,h3,_,h5⟩:=run_append_own_at (P:=Try.prog) (w:=re V τ 0) 0 t t e i0 z 1 B ht hi0 hz0 hz1 hz2 hzs (by decide) v n xs (owns_re hrow) ⟨ad,0,none⟩ 1 c [x] rfl (fun j u hu=>by
   cases j with
   | zero=>simp at hu; subst hu; exact hc
   | succ j=>simp at hu) (by simpa using h1) (by simp only [maxLen]; omega) (by
     have : (n + 1) * B ≤ (n + 1) * 100:=Nat.mul_le_mul_left _ hB
     omega) (Nat.zero_le _)
 exact ⟨v',w',h1,owns_norm h2,⟨h3.size,fun b hb hne=>h3.block b hb (fun e=>hne e.symm)⟩,h5⟩
theorem info70 : (Try.prog.info? 70).map (fun i=>(i.zero,i.size,i.bytes)) = some (some .nilFunc,1,8):=by kernel_rfl
def thf (wb ib lb : Nat → Nat) (j : Nat) : Value:=.func (.func 107) #[] #[bp (wb j),bp (ib j),bp (lb j)]
def fns (wb ib lb : Nat → Nat) (k : Nat) : List Value:=(List.range k).map (thf wb ib lb)
theorem fns_succ (wb ib lb : Nat → Nat) (k x y z : Nat) : fns (upd wb k x) (upd ib k y) (upd lb k z) (k + 1) = fns wb ib lb k ++ [.func (.func 107) #[] #[bp x,bp y,bp z]]:=by
 unfold fns
 rw [List.range_succ,List.map_append]
 congr 1
 · apply List.map_congr_left
   intro j hj
   have : j < k:=List.mem_range.1 hj
   unfold thf
   rw [upd_ne _ _ (by omega),upd_ne _ _ (by omega),upd_ne _ _ (by omega)]
 · simp [thf,upd_same]
structure Pl (acts : Nat → List (Int × Int)) (ra : Nat → Option Addr) (rc : Nat → Nat) (wp : Nat) (V0 : World) (k : Nat) (wb ib lb : Nat → Nat) (V : World) (fv : Value) : Prop where
 nrm : norm V = V
 kp : Kp V0 V
 row : V.ownsRow 0 70 1 fv k (fns wb ib lb k)
 rown : ∀ b,fv.ownBlock = some b → V0.heap.size ≤ b
 wb : ∀ j,j < k → V0.heap.size ≤ wb j ∧ V.heap[wb j]? = some (.cells #[.pointer (some ⟨wp,0,none⟩)] 29 (0,0))
 ib : ∀ j,j < k → V0.heap.size ≤ ib j ∧ V.heap[ib j]? = some (.cells #[.int .i64 (j : Int)] 3 (0,0))
 lb : ∀ j,j < k → V0.heap.size ≤ lb j ∧ V.heap[lb j]? = some (.cells #[.slice (ra j) (acts j).length (rc j)] 44 (0,0))
theorem own_ty {V : World} {e t : TypeId} {v : Value} {n : Nat} {xs : List Value} {b : Nat} {c : Array Value} {f : Nat × Nat} (h : V.ownsRow 0 e 1 v n xs) (hb : V.heap[b]? = some (.cells c t f)) (hne : e ≠ t) : v.ownBlock ≠ some b:=fun he=>by
 obtain ⟨_,h2⟩:=h
 rcases h2 with ⟨rfl,_⟩ | ⟨g,cap,cur,rfl,_,h4,_⟩
 · cases he
 · obtain rfl : g = b:=by simpa [Value.ownBlock] using he
   rw [h4] at hb
   injection hb with hb
   injection hb with _ hb _
   exact hne hb
theorem pl_next {acts : Nat → List (Int × Int)} {ra : Nat → Option Addr} {rc : Nat → Nat} {wp : Nat} {V0 : World} {k : Nat} {wb ib lb : Nat → Nat} {V V4 V5 : World} {fv fv' : Value} (M : Pl acts ra rc wp V0 k wb ib lb V fv) (s4 : V4.heap.size = V.heap.size + 4) (k4 : Kp V V4)
   (c1 : V4.heap[V.heap.size]? = some (.cells #[.pointer (some ⟨wp,0,none⟩)] 29 (0,0))) (c2 : V4.heap[V.heap.size + 1]? = some (.cells #[.int .i64 (k : Int)] 3 (0,0))) (c3 : V4.heap[V.heap.size + 2]? = some (.cells #[.slice (ra k) (acts k).length (rc k)] 44 (0,0)))
   (hn5 : norm V5 = V5) (h5 : V5.ownsRow 0 70 1 fv' (k + 1) (fns wb ib lb k ++ [.func (.func 107) #[] #[bp V.heap.size,bp (V.heap.size + 1),bp (V.heap.size + 2)]])) (h6 : V4.heap.size ≤ V5.heap.size ∧ ∀ b,b < V4.heap.size → fv.ownBlock ≠ some b → V5.heap[b]? = V4.heap[b]?) (h7 : fv'.ownBlock = fv.ownBlock ∨ fv'.ownBlock = some V4.heap.size) :
   Pl acts ra rc wp V0 (k + 1) (upd wb k V.heap.size) (upd ib k (V.heap.size + 1)) (upd lb k (V.heap.size + 2)) V5 fv':=by
 have hrow4:=M.kp.size
 have hof : ∀ b,fv.ownBlock = some b → b < V.heap.size:=fun b hb=>row_at M.row hb
 have keep : ∀ (b : Nat) (c : Array Value) (t : TypeId) (f : Nat × Nat),V.heap[b]? = some (.cells c t f) → 70 ≠ t → V5.heap[b]? = some (.cells c t f):=fun b c t f hb hne=>by
   have hlt:=(Array.getElem?_eq_some_iff.1 hb).1
   rw [h6.2 b (by omega) (own_ty M.row hb hne),k4.keep b hlt]
   exact hb
 have new : ∀ (b : Nat) (c : Array Value) (t : TypeId) (f : Nat × Nat),V4.heap[b]? = some (.cells c t f) → V.heap.size ≤ b → V5.heap[b]? = some (.cells c t f):=fun b c t f hb hle=>by
   have hlt:=(Array.getElem?_eq_some_iff.1 hb).1
   rw [h6.2 b hlt (fun e=>by have:=hof b e; omega)]
   exact hb
 refine ⟨hn5,⟨by omega,fun b hb=>by rw [h6.2 b (by omega) (fun e=>by have:=M.rown b e; omega),k4.keep b (by omega),M.kp.keep b hb]⟩,by rw [fns_succ]; exact h5,fun b hb=>?_,fun j hj=>?_,fun j hj=>?_,fun j hj=>?_⟩
 · rcases h7 with h | h
   · exact M.rown b (by rw [← h]; exact hb)
   · rw [h] at hb
     obtain rfl : V4.heap.size = b:=by simpa using hb
     omega
 · by_cases e : j = k
   · subst e; rw [upd_same]; exact ⟨by omega,new _ _ _ _ c1 (by omega)⟩
   · rw [upd_ne _ _ e]
     obtain ⟨h1,h2⟩:=M.wb j (by omega)
     exact ⟨h1,keep _ _ _ _ h2 (by decide)⟩
 · by_cases e : j = k
   · subst e; rw [upd_same]; exact ⟨by omega,new _ _ _ _ c2 (by omega)⟩
   · rw [upd_ne _ _ e]
     obtain ⟨h1,h2⟩:=M.ib j (by omega)
     exact ⟨h1,keep _ _ _ _ h2 (by decide)⟩
 · by_cases e : j = k
   · subst e; rw [upd_same]; exact ⟨by omega,new _ _ _ _ c3 (by omega)⟩
   · rw [upd_ne _ _ e]
     obtain ⟨h1,h2⟩:=M.lb j (by omega)
     exact ⟨h1,keep _ _ _ _ h2 (by decide)⟩
noncomputable def B19 : Code:=Try.f19.body.getD .skip
noncomputable def PL : Code:=nvl (nvk (nvb (nva (nvb (nvb (nvb B19))))))
noncomputable def P7 : Code:=nvb (nvb (nvb (nvb B19)))
def HP (T : Array Value) (l pv : Value) (rounds : Int) (R wp : Nat) (fv : Value) : Prop:=T.size = 43 ∧ T[0]? = some l ∧ T[1]? = some pv ∧ T[2]? = some (.int .i64 rounds) ∧ T[6]? = some (.pointer (some ⟨R,0,none⟩)) ∧ T[9]? = some (.pointer (some ⟨wp,0,none⟩)) ∧ T[10]? = some fv
section
variable {n lc : Nat} {la : Option Addr} {acts : Nat → List (Int × Int)} {ra : Nat → Option Addr} {rc : Nat → Nat} {wp : Nat} {V V0 : World} {Z : Cuts} {Post : Value → World → Prop} {b₀ : Frame} {a₀ : Act} {ops₀ : Array Oper} {i₀ : Nat} {rest₀ : List Nat} {k₀ : List Item} {cs0 : List Frame}
theorem ply_loop {pv : Value} {rounds : Int} {R : Nat} (hn64 : n ≤ 64) (hR : Rw V0 la n acts ra rc)
   (Kend : ∀ T V wb ib lb fv,Pl acts ra rc wp V0 n wb ib lb V fv → HP T (.slice la n lc) pv rounds R wp fv → To0 Try.prog Post Z V (G ((base 19).at ⟨T,[]⟩ [.code P7]) (b₀.at a₀ (.inRegion ops₀ (i₀ :: rest₀) :: k₀) :: cs0))) :
   ∀ (m k : Nat) T V wb ib lb fv,m + k = n → Pl acts ra rc wp V0 k wb ib lb V fv → HP T (.slice la n lc) pv rounds R wp fv → T[11]? = some (.int .i64 (k : Int)) → To0 Try.prog Post Z V (G ((base 19).at ⟨T,[]⟩ [.code PL,.inLoop PL,.inBlock 0,.code P7]) (b₀.at a₀ (.inRegion ops₀ (i₀ :: rest₀) :: k₀) :: cs0)):=by
 intro m
 induction m with
 | zero =>
   intro k T V wb ib lb fv hmk M ⟨hs,t0,t1,t2,t6,t9,t10⟩ t11
   obtain rfl : k = n:=by omega
   have hn:=M.nrm
   have q1 : decide ((k : Int) < (k : Int)) = false:=decide_eq_false (by omega)
   have Kend':=fun T h=>Kend T V wb ib lb fv M h
   clear Kend
   obtain ⟨v0,v1,v2,v3,v4,v5,v6,v7,v8,v9,v10,v11,v12,v13,v14,v15,v16,v17,v18,v19,v20,v21,v22,v23,v24,v25,v26,v27,v28,v29,v30,v31,v32,v33,v34,v35,v36,v37,v38,v39,v40,v41,v42,rfl⟩:=array43 T hs
   simp only [List.getElem?_toArray,List.getElem?_cons_zero,List.getElem?_cons_succ,Option.some.injEq] at t0 t1 t2 t6 t9 t10 t11
   subst t0 t1 t2 t6 t9 t10 t11
   refine (fun (h : ∀ X,X = PL → To0 Try.prog Post Z V (G ((base 19).at ⟨_,[]⟩ [.code X,.inLoop PL,.inBlock 0,.code P7]) (b₀.at a₀ (.inRegion ops₀ (i₀ :: rest₀) :: k₀) :: cs0)))=>h PL rfl) ?_
   intro X hX
   simp only [PL,P7,B19,nva,nvb,nvk,nvl,Try.f19,Option.getD_some] at hX
   subst hX
   obtain ⟨K,hK,hV,key,yek⟩:=kKV (L:=Lone) (J:=fun g=>To0 Try.prog Post Z V g) mu_to0 (muv_to0 hn)
   refine key _ ?_
   repeat (first|(with_reducible first|refine mu_seq hK ?_|refine mu_skip hK ?_|(refine mu_region_end hK ?_;try subst hkk)|refine mu_block hK ?_|refine mu_inBlock hK ?_|refine mu_ret hK ?_|refine mu_end hK ?_)|refine mu_exit hK rfl ?_|(with_reducible refine mu_regionH hK (fun kk hkk=>?_); simp only [List.size_toArray,List.length_cons,List.length_nil,Nat.reduceAdd,Nat.zero_add,List.range,List.range.loop])|(with_reducible refine mu_cf hK ?_ ?_;(· first | (walk_nrm; done) | (simp [Act.eval]; done)))|(with_reducible refine mu_ct hK ?_ ?_;(· first | (walk_nrm; done) | (simp [Act.eval]; done)))|(refine mu_unwanted hK rfl rfl ?_; walk_nrm)|(refine muv_val hV rfl (by first | exact .inl rfl | exact .inr rfl) rfl (by kernel_rfl) (fun J hJ=>?_); go_simp; with_reducible refine hJ _ ?_; clear hJ J; walk_nrm))
   refine yek _ ?_
   clear hK hV key yek K
   refine Kend' _ ?_
   exact ⟨by simp,rfl,rfl,rfl,rfl,rfl,rfl⟩
 | succ m ih =>
   intro k T V wb ib lb fv hmk M ⟨hs,t0,t1,t2,t6,t9,t10⟩ t11
   have hk : k < n:=by omega
   have hn:=M.nrm
   obtain ⟨g,o,hla,hg,hc⟩:=(hR.kp M.kp).out (by omega)
   have d1 : ∀ τ,(re V τ 0).cell? ⟨g,o + k,none⟩ = some (.slice (ra k) (acts k).length (rc k)):=fun τ=>hc k hk
   have q1 : decide ((k : Int) < (n : Int)) = true:=decide_eq_true (by omega)
   have q2 : ¬ ((k : Int) < 0):=by omega
   have q3 : ¬ ((n : Int) ≤ (k : Int)):=by omega
   have w4 : IntKind.i64.wrap ((k : Int) + 1) = ((k + 1 : Nat) : Int):=by rw [IntKind.wrap_i64]; omega
   subst hla
   clear hc hR Kend
   obtain ⟨v0,v1,v2,v3,v4,v5,v6,v7,v8,v9,v10,v11,v12,v13,v14,v15,v16,v17,v18,v19,v20,v21,v22,v23,v24,v25,v26,v27,v28,v29,v30,v31,v32,v33,v34,v35,v36,v37,v38,v39,v40,v41,v42,rfl⟩:=array43 T hs
   simp only [List.getElem?_toArray,List.getElem?_cons_zero,List.getElem?_cons_succ,Option.some.injEq] at t0 t1 t2 t6 t9 t10 t11
   subst t0 t1 t2 t6 t9 t10 t11
   refine (fun (h : ∀ X,X = PL → To0 Try.prog Post Z V (G ((base 19).at ⟨_,[]⟩ [.code X,.inLoop PL,.inBlock 0,.code P7]) (b₀.at a₀ (.inRegion ops₀ (i₀ :: rest₀) :: k₀) :: cs0)))=>h PL rfl) ?_
   intro X hX
   simp only [PL,P7,B19,nva,nvb,nvk,nvl,Try.f19,Option.getD_some] at hX
   subst hX
   obtain ⟨K,hK,hV,key,yek⟩:=kKV (L:=Lone) (J:=fun g=>To0 Try.prog Post Z V g) mu_to0 (muv_to0 hn)
   refine key _ ?_
   repeat (first|(with_reducible first|refine mu_seq hK ?_|refine mu_skip hK ?_|(refine mu_region_end hK ?_;try subst hkk)|refine mu_block hK ?_|refine mu_inBlock hK ?_|refine mu_ret hK ?_|refine mu_end hK ?_)|refine mu_exit hK rfl ?_|(with_reducible refine mu_regionH hK (fun kk hkk=>?_); simp only [List.size_toArray,List.length_cons,List.length_nil,Nat.reduceAdd,Nat.zero_add,List.range,List.range.loop])|(with_reducible refine mu_cf hK ?_ ?_;(· first | (walk_nrm; done) | (simp [Act.eval]; done)))|(with_reducible refine mu_ct hK ?_ ?_;(· first | (walk_nrm; done) | (simp [Act.eval]; done)))|(refine mu_unwanted hK rfl rfl ?_; walk_nrm)|(refine muv_val hV rfl (by first | exact .inl rfl | exact .inr rfl) rfl (by kernel_rfl) (fun J hJ=>?_); go_simp; with_reducible refine hJ _ ?_; clear hJ J; walk_nrm))
   refine mu_call hK rfl rfl (by decide) rfl Try.func74 (by kernel_rfl) rfl ?_
   have hnt74 : Try.f74.ntmps = 8:=rfl
   rw [hnt74]
   clear hnt74
   walk_nrm
   repeat (first|(with_reducible first|refine mu_seq hK ?_|refine mu_skip hK ?_|(refine mu_region_end hK ?_;try subst hkk)|refine mu_block hK ?_|refine mu_inBlock hK ?_|refine mu_ret hK ?_|refine mu_end hK ?_)|refine mu_exit hK rfl ?_|(with_reducible refine mu_regionH hK (fun kk hkk=>?_); simp only [List.size_toArray,List.length_cons,List.length_nil,Nat.reduceAdd,Nat.zero_add,List.range,List.range.loop])|(with_reducible refine mu_cf hK ?_ ?_;(· first | (walk_nrm; done) | (simp [Act.eval]; done)))|(with_reducible refine mu_ct hK ?_ ?_;(· first | (walk_nrm; done) | (simp [Act.eval]; done)))|(refine mu_unwanted hK rfl rfl ?_; walk_nrm)|(refine muv_val hV rfl (by first | exact .inl rfl | exact .inr rfl) rfl (by kernel_rfl) (fun J hJ=>?_); go_simp; with_reducible refine hJ _ ?_; clear hJ J; walk_nrm))
   refine yek _ ?_
   clear hK hV key yek K
   have hn1 : norm (V.alloc (.cells #[.pointer (some ⟨wp,0,none⟩)] 29)) = (V.alloc (.cells #[.pointer (some ⟨wp,0,none⟩)] 29)):=norm_al hn _
   refine mua_put (L:=Lone) (v:=.pointer (some ⟨V.heap.size,0,none⟩)) (mua_to0 hn1) (K:=fun g=>To0 Try.prog Post Z V g) (K':=fun g=>To0 Try.prog Post Z (V.alloc (.cells #[.pointer (some ⟨wp,0,none⟩)] 29)) g) rfl (.inl rfl) rfl (by kernel_rfl) (fun τ=>?_) ?_
   · go_simp
     first | exact ⟨by first | rfl | assumption | (simp only [re]; omega),rfl⟩ | rfl | (simp; done)
   have sV1 : (V.alloc (.cells #[.pointer (some ⟨wp,0,none⟩)] 29)).heap.size = V.heap.size + 1:=al_size _ _
   have kV1 : Kp V (V.alloc (.cells #[.pointer (some ⟨wp,0,none⟩)] 29)):=kp_alloc _ _
   have rV1 : (V.alloc (.cells #[.pointer (some ⟨wp,0,none⟩)] 29)).heap[V.heap.size]? = some (.cells #[.pointer (some ⟨wp,0,none⟩)] 29):=by rw [al_get,if_pos rfl]
   generalize (V.alloc (.cells #[.pointer (some ⟨wp,0,none⟩)] 29)) = V1 at *
   walk_nrm
   obtain ⟨K,hK,hV,key,yek⟩:=kKV (L:=Lone) (J:=fun g=>To0 Try.prog Post Z V1 g) mu_to0 (muv_to0 hn1)
   refine key _ ?_
   repeat (first|(with_reducible first|refine mu_seq hK ?_|refine mu_skip hK ?_|(refine mu_region_end hK ?_;try subst hkk)|refine mu_block hK ?_|refine mu_inBlock hK ?_|refine mu_ret hK ?_|refine mu_end hK ?_)|refine mu_exit hK rfl ?_|(with_reducible refine mu_regionH hK (fun kk hkk=>?_); simp only [List.size_toArray,List.length_cons,List.length_nil,Nat.reduceAdd,Nat.zero_add,List.range,List.range.loop])|(with_reducible refine mu_cf hK ?_ ?_;(· first | (walk_nrm; done) | (simp [Act.eval]; done)))|(with_reducible refine mu_ct hK ?_ ?_;(· first | (walk_nrm; done) | (simp [Act.eval]; done)))|(refine mu_unwanted hK rfl rfl ?_; walk_nrm)|(refine muv_val hV rfl (by first | exact .inl rfl | exact .inr rfl) rfl (by kernel_rfl) (fun J hJ=>?_); go_simp; with_reducible refine hJ _ ?_; clear hJ J; walk_nrm))
   refine yek _ ?_
   clear hK hV key yek K
   have hn2 : norm (V1.alloc (.cells #[.int .i64 (k : Int)] 3)) = (V1.alloc (.cells #[.int .i64 (k : Int)] 3)):=norm_al hn1 _
   refine mua_put (L:=Lone) (v:=.pointer (some ⟨V1.heap.size,0,none⟩)) (mua_to0 hn2) (K:=fun g=>To0 Try.prog Post Z V1 g) (K':=fun g=>To0 Try.prog Post Z (V1.alloc (.cells #[.int .i64 (k : Int)] 3)) g) rfl (.inl rfl) rfl (by kernel_rfl) (fun τ=>?_) ?_
   · go_simp
     first | exact ⟨by first | rfl | assumption | (simp only [re]; omega),rfl⟩ | rfl | (simp; done)
   have sV2 : (V1.alloc (.cells #[.int .i64 (k : Int)] 3)).heap.size = V1.heap.size + 1:=al_size _ _
   have kV2 : Kp V1 (V1.alloc (.cells #[.int .i64 (k : Int)] 3)):=kp_alloc _ _
   have rV2 : (V1.alloc (.cells #[.int .i64 (k : Int)] 3)).heap[V1.heap.size]? = some (.cells #[.int .i64 (k : Int)] 3):=by rw [al_get,if_pos rfl]
   generalize (V1.alloc (.cells #[.int .i64 (k : Int)] 3)) = V2 at *
   walk_nrm
   obtain ⟨K,hK,hV,key,yek⟩:=kKV (L:=Lone) (J:=fun g=>To0 Try.prog Post Z V2 g) mu_to0 (muv_to0 hn2)
   refine key _ ?_
   repeat (first|(with_reducible first|refine mu_seq hK ?_|refine mu_skip hK ?_|(refine mu_region_end hK ?_;try subst hkk)|refine mu_block hK ?_|refine mu_inBlock hK ?_|refine mu_ret hK ?_|refine mu_end hK ?_)|refine mu_exit hK rfl ?_|(with_reducible refine mu_regionH hK (fun kk hkk=>?_); simp only [List.size_toArray,List.length_cons,List.length_nil,Nat.reduceAdd,Nat.zero_add,List.range,List.range.loop])|(with_reducible refine mu_cf hK ?_ ?_;(· first | (walk_nrm; done) | (simp [Act.eval]; done)))|(with_reducible refine mu_ct hK ?_ ?_;(· first | (walk_nrm; done) | (simp [Act.eval]; done)))|(refine mu_unwanted hK rfl rfl ?_; walk_nrm)|(refine muv_val hV rfl (by first | exact .inl rfl | exact .inr rfl) rfl (by kernel_rfl) (fun J hJ=>?_); go_simp; with_reducible refine hJ _ ?_; clear hJ J; walk_nrm))
   refine yek _ ?_
   clear hK hV key yek K
   have hn3 : norm (V2.alloc (.cells #[.slice (ra k) (acts k).length (rc k)] 44)) = (V2.alloc (.cells #[.slice (ra k) (acts k).length (rc k)] 44)):=norm_al hn2 _
   refine mua_put (L:=Lone) (v:=.pointer (some ⟨V2.heap.size,0,none⟩)) (mua_to0 hn3) (K:=fun g=>To0 Try.prog Post Z V2 g) (K':=fun g=>To0 Try.prog Post Z (V2.alloc (.cells #[.slice (ra k) (acts k).length (rc k)] 44)) g) rfl (.inl rfl) rfl (by kernel_rfl) (fun τ=>?_) ?_
   · go_simp
     first | exact ⟨by first | rfl | assumption | (simp only [re]; omega),rfl⟩ | rfl | (simp; done)
   have sV3 : (V2.alloc (.cells #[.slice (ra k) (acts k).length (rc k)] 44)).heap.size = V2.heap.size + 1:=al_size _ _
   have kV3 : Kp V2 (V2.alloc (.cells #[.slice (ra k) (acts k).length (rc k)] 44)):=kp_alloc _ _
   have rV3 : (V2.alloc (.cells #[.slice (ra k) (acts k).length (rc k)] 44)).heap[V2.heap.size]? = some (.cells #[.slice (ra k) (acts k).length (rc k)] 44):=by rw [al_get,if_pos rfl]
   generalize (V2.alloc (.cells #[.slice (ra k) (acts k).length (rc k)] 44)) = V3 at *
   walk_nrm
   obtain ⟨K,hK,hV,key,yek⟩:=kKV (L:=Lone) (J:=fun g=>To0 Try.prog Post Z V3 g) mu_to0 (muv_to0 hn3)
   refine key _ ?_
   repeat (first|(with_reducible first|refine mu_seq hK ?_|refine mu_skip hK ?_|(refine mu_region_end hK ?_;try subst hkk)|refine mu_block hK ?_|refine mu_inBlock hK ?_|refine mu_ret hK ?_|refine mu_end hK ?_)|refine mu_exit hK rfl ?_|(with_reducible refine mu_regionH hK (fun kk hkk=>?_); simp only [List.size_toArray,List.length_cons,List.length_nil,Nat.reduceAdd,Nat.zero_add,List.range,List.range.loop])|(with_reducible refine mu_cf hK ?_ ?_;(· first | (walk_nrm; done) | (simp [Act.eval]; done)))|(with_reducible refine mu_ct hK ?_ ?_;(· first | (walk_nrm; done) | (simp [Act.eval]; done)))|(refine mu_unwanted hK rfl rfl ?_; walk_nrm)|(refine muv_val hV rfl (by first | exact .inl rfl | exact .inr rfl) rfl (by kernel_rfl) (fun J hJ=>?_); go_simp; with_reducible refine hJ _ ?_; clear hJ J; walk_nrm))
   refine mu_leave1 hK rfl rfl Try.func74 rfl ?_
   walk_nrm
   repeat (first|(with_reducible first|refine mu_seq hK ?_|refine mu_skip hK ?_|(refine mu_region_end hK ?_;try subst hkk)|refine mu_block hK ?_|refine mu_inBlock hK ?_|refine mu_ret hK ?_|refine mu_end hK ?_)|refine mu_exit hK rfl ?_|(with_reducible refine mu_regionH hK (fun kk hkk=>?_); simp only [List.size_toArray,List.length_cons,List.length_nil,Nat.reduceAdd,Nat.zero_add,List.range,List.range.loop])|(with_reducible refine mu_cf hK ?_ ?_;(· first | (walk_nrm; done) | (simp [Act.eval]; done)))|(with_reducible refine mu_ct hK ?_ ?_;(· first | (walk_nrm; done) | (simp [Act.eval]; done)))|(refine mu_unwanted hK rfl rfl ?_; walk_nrm)|(refine muv_val hV rfl (by first | exact .inl rfl | exact .inr rfl) rfl (by kernel_rfl) (fun J hJ=>?_); go_simp; with_reducible refine hJ _ ?_; clear hJ J; walk_nrm))
   refine yek _ ?_
   clear hK hV key yek K
   have hn4 : norm (V3.alloc (.cells #[.func (.func 107) #[] #[.pointer (some ⟨V.heap.size,0,none⟩),.pointer (some ⟨V1.heap.size,0,none⟩),.pointer (some ⟨V2.heap.size,0,none⟩)]] 70)) = (V3.alloc (.cells #[.func (.func 107) #[] #[.pointer (some ⟨V.heap.size,0,none⟩),.pointer (some ⟨V1.heap.size,0,none⟩),.pointer (some ⟨V2.heap.size,0,none⟩)]] 70)):=norm_al hn3 _
   refine mua_put (L:=Lone) (v:=.slice (some ⟨V3.heap.size,0,none⟩) 1 1) (mua_to0 hn4) (K:=fun g=>To0 Try.prog Post Z V3 g) (K':=fun g=>To0 Try.prog Post Z (V3.alloc (.cells #[.func (.func 107) #[] #[.pointer (some ⟨V.heap.size,0,none⟩),.pointer (some ⟨V1.heap.size,0,none⟩),.pointer (some ⟨V2.heap.size,0,none⟩)]] 70)) g) rfl (.inl rfl) rfl (by kernel_rfl) (fun τ=>?_) ?_
   · go_simp
     first | exact ⟨by first | rfl | assumption | (simp only [re]; omega),rfl⟩ | rfl | (simp; done)
   have sV4 : (V3.alloc (.cells #[.func (.func 107) #[] #[.pointer (some ⟨V.heap.size,0,none⟩),.pointer (some ⟨V1.heap.size,0,none⟩),.pointer (some ⟨V2.heap.size,0,none⟩)]] 70)).heap.size = V3.heap.size + 1:=al_size _ _
   have kV4 : Kp V3 (V3.alloc (.cells #[.func (.func 107) #[] #[.pointer (some ⟨V.heap.size,0,none⟩),.pointer (some ⟨V1.heap.size,0,none⟩),.pointer (some ⟨V2.heap.size,0,none⟩)]] 70)):=kp_alloc _ _
   have rV4 : (V3.alloc (.cells #[.func (.func 107) #[] #[.pointer (some ⟨V.heap.size,0,none⟩),.pointer (some ⟨V1.heap.size,0,none⟩),.pointer (some ⟨V2.heap.size,0,none⟩)]] 70)).heap[V3.heap.size]? = some (.cells #[.func (.func 107) #[] #[.pointer (some ⟨V.heap.size,0,none⟩),.pointer (some ⟨V1.heap.size,0,none⟩),.pointer (some ⟨V2.heap.size,0,none⟩)]] 70):=by rw [al_get,if_pos rfl]
   generalize (V3.alloc (.cells #[.func (.func 107) #[] #[.pointer (some ⟨V.heap.size,0,none⟩),.pointer (some ⟨V1.heap.size,0,none⟩),.pointer (some ⟨V2.heap.size,0,none⟩)]] 70)) = V4 at *
   walk_nrm
   have k4 : Kp V V4:=kV1.trans (kV2.trans (kV3.trans kV4))
   have s4 : V4.heap.size = V.heap.size + 4:=by omega
   have c4 : V4.cell? ⟨V3.heap.size,0,none⟩ = some (.func (.func 107) #[] #[.pointer (some ⟨V.heap.size,0,none⟩),.pointer (some ⟨V1.heap.size,0,none⟩),.pointer (some ⟨V2.heap.size,0,none⟩)]):=cell_of rV4 (by simp)
   have e1 : V4.heap[V.heap.size]? = some (.cells #[.pointer (some ⟨wp,0,none⟩)] 29 (0,0)):=by rw [(kV2.trans (kV3.trans kV4)).keep _ (by omega)]; exact rV1
   have e2 : V4.heap[V.heap.size + 1]? = some (.cells #[.int .i64 (k : Int)] 3 (0,0)):=by rw [← sV1,(kV3.trans kV4).keep _ (by omega)]; exact rV2
   have e3 : V4.heap[V.heap.size + 2]? = some (.cells #[.slice (ra k) (acts k).length (rc k)] 44 (0,0)):=by rw [show V.heap.size + 2 = V2.heap.size by omega,kV4.keep _ (by omega)]; exact rV3
   have r4 : V4.ownsRow 0 70 1 v10 k (fns wb ib lb k):=row_keep M.row fun b hb=>k4.keep b (row_at M.row hb)
   obtain ⟨K,hK,hV,key,yek⟩:=kKV (L:=Lone) (J:=fun g=>To0 Try.prog Post Z V4 g) mu_to0 (muv_to0 hn4)
   refine key _ ?_
   repeat (first|(with_reducible first|refine mu_seq hK ?_|refine mu_skip hK ?_|(refine mu_region_end hK ?_;try subst hkk)|refine mu_block hK ?_|refine mu_inBlock hK ?_|refine mu_ret hK ?_|refine mu_end hK ?_)|refine mu_exit hK rfl ?_|(with_reducible refine mu_regionH hK (fun kk hkk=>?_); simp only [List.size_toArray,List.length_cons,List.length_nil,Nat.reduceAdd,Nat.zero_add,List.range,List.range.loop])|(with_reducible refine mu_cf hK ?_ ?_;(· first | (walk_nrm; done) | (simp [Act.eval]; done)))|(with_reducible refine mu_ct hK ?_ ?_;(· first | (walk_nrm; done) | (simp [Act.eval]; done)))|(refine mu_unwanted hK rfl rfl ?_; walk_nrm)|(refine muv_val hV rfl (by first | exact .inl rfl | exact .inr rfl) rfl (by kernel_rfl) (fun J hJ=>?_); go_simp; with_reducible refine hJ _ ?_; clear hJ J; walk_nrm))
   refine yek _ ?_
   clear hK hV key yek K
   refine to0_ex (L:=Lone) rfl rfl rfl (by kernel_rfl) (fun v W=>W.ownsRow 0 70 1 v (k + 1) (fns wb ib lb k ++ [.func (.func 107) #[] #[.pointer (some ⟨V.heap.size,0,none⟩),.pointer (some ⟨V1.heap.size,0,none⟩),.pointer (some ⟨V2.heap.size,0,none⟩)]]) ∧ (V4.heap.size ≤ W.heap.size ∧ ∀ b,b < V4.heap.size → v10.ownBlock ≠ some b → W.heap[b]? = V4.heap[b]?) ∧ (v.ownBlock = v10.ownBlock ∨ v.ownBlock = some V4.heap.size)) (fun τ=>?_) (fun fv' V5 ⟨r1,r2,r3⟩ hn5=>?_)
   · obtain ⟨v',w',a1,a2,a3,a4⟩:=app_one (t:=49) Try.underlying49 info70 rfl (by decide) r4 c4 rfl (by omega) τ
     refine ⟨v',w',?_,a2,a3,a4⟩
     exact run_app_opm (s:=.tmp 22) (x:=.tmp 30) rfl rfl rfl a1
   rw [show V2.heap.size = V.heap.size + 2 by omega,sV1] at r1
   have M':=pl_next M s4 k4 e1 e2 e3 hn5 r1 r2 r3
   walk_nrm
   obtain ⟨K,hK,hV,key,yek⟩:=kKV (L:=Lone) (J:=fun g=>To0 Try.prog Post Z V5 g) mu_to0 (muv_to0 hn5)
   refine key _ ?_
   repeat (first|(with_reducible first|refine mu_seq hK ?_|refine mu_skip hK ?_|(refine mu_region_end hK ?_;try subst hkk)|refine mu_block hK ?_|refine mu_inBlock hK ?_|refine mu_ret hK ?_|refine mu_end hK ?_)|refine mu_exit hK rfl ?_|(with_reducible refine mu_regionH hK (fun kk hkk=>?_); simp only [List.size_toArray,List.length_cons,List.length_nil,Nat.reduceAdd,Nat.zero_add,List.range,List.range.loop])|(with_reducible refine mu_cf hK ?_ ?_;(· first | (walk_nrm; done) | (simp [Act.eval]; done)))|(with_reducible refine mu_ct hK ?_ ?_;(· first | (walk_nrm; done) | (simp [Act.eval]; done)))|(refine mu_unwanted hK rfl rfl ?_; walk_nrm)|(refine muv_val hV rfl (by first | exact .inl rfl | exact .inr rfl) rfl (by kernel_rfl) (fun J hJ=>?_); go_simp; with_reducible refine hJ _ ?_; clear hJ J; walk_nrm))
   refine mu_inLoop hK ?_
   refine yek _ ?_
   clear hK hV key yek K
   refine (fun (h : ∀ Y,PL = Y → To0 Try.prog Post Z V5 (G ((base 19).at _ [.code Y,.inLoop Y,.inBlock 0,.code P7]) (b₀.at a₀ (.inRegion ops₀ (i₀ :: rest₀) :: k₀) :: cs0)))=>h _ (by simp only [PL,P7,B19,nva,nvb,nvk,nvl,Try.f19,Option.getD_some])) ?_
   intro Y hY
   subst hY
   refine ih (k + 1) _ V5 _ _ _ fv' (by omega) M' ?_ ?_
   · exact ⟨by simp,rfl,rfl,rfl,rfl,rfl,rfl⟩
   · rfl
end
end Go.Proofs.Ytibcdikfbhmheaa

namespace Go.Proofs.Ytibcdikfbhmheaa
open Go Go.Conc Go.Proofs
open Go.ConcN (sumTo upd sumTo_upd upd_ne upd_same)
set_option linter.unusedVariables false
def tstp (n : Nat) (acts : Nat → List (Int × Int)) (x : TS × List Nat) (i : Nat) : TS × List Nat:=if cl (x.1.st i) = 0 ∨ cl (x.1.st i) = 1 then (tgo n i ((acts i).drop (x.1.at_ i)) (x.1.at_ i) x.1,x.2 ++ [i]) else x
def tpk (n : Nat) (acts : Nat → List (Int × Int)) (x : TS × List Nat) (p : Int) : TS × List Nat:=if n = 0 then x else tstp n acts x (pidx n p)
def trnd (n : Nat) (acts : Nat → List (Int × Int)) (x : TS × List Nat) : TS × List Nat:=(List.range n).foldl (tstp n acts) x
def trnds (n : Nat) (acts : Nat → List (Int × Int)) : Nat → TS × List Nat → TS × List Nat
 | 0,x=>x
 | m + 1,x=>if (trnd n acts x).2.length = x.2.length then trnd n acts x else trnds n acts m (trnd n acts x)
def tzero : TS:=⟨fun _=>0,fun _=>0,[]⟩
def trun (n : Nat) (acts : Nat → List (Int × Int)) (Rn : Nat) (ps : List Int) : TS × List Nat:=trnds n acts Rn (ps.foldl (tpk n acts) (tzero,[]))
theorem stp_eq (D : Th) (C : Cw) (x : TS × List Nat) (i : Nat) : stp (Uth D C) x i = tstp D.n D.acts x i:=rfl
theorem foldl_eq {α β : Type} {f g : α → β → α} (h : ∀ x b,f x b = g x b) : ∀ (l : List β) (x : α),l.foldl f x = l.foldl g x:=by
 intro l
 induction l with
 | nil=>intro x; rfl
 | cons b l ih=>intro x; rw [List.foldl_cons,List.foldl_cons,h]; exact ih _
theorem rnd_eq (D : Th) (C : Cw) (x : TS × List Nat) : rnd (Uth D C) D.n x = trnd D.n D.acts x:=foldl_eq (fun x b=>stp_eq D C x b) _ _
theorem rnds_eq (D : Th) (C : Cw) (R : Nat) : ∀ x : TS × List Nat,rnds (Uth D C) D.n R x = trnds D.n D.acts R x:=by
 induction R with
 | zero=>intro x; rfl
 | succ R ih =>
   intro x
   have e:=rnd_eq D C x
   show (if (rnd (Uth D C) D.n x).2.length = x.2.length then rnd (Uth D C) D.n x else rnds (Uth D C) D.n R (rnd (Uth D C) D.n x)) = if (trnd D.n D.acts x).2.length = x.2.length then trnd D.n D.acts x else trnds D.n D.acts R (trnd D.n D.acts x)
   rw [e]
   by_cases h : (trnd D.n D.acts x).2.length = x.2.length
   · exact (if_pos h).trans (if_pos h).symm
   · exact (if_neg h).trans ((ih _).trans (if_neg h).symm)
theorem run_eq (D : Th) (C : Cw) (R : Nat) (ps : List Int) : rnds (Uth D C) D.n R (ps.foldl (pk (Uth D C) D.n) (tzero,[])) = trun D.n D.acts R ps:=by
 have h : ps.foldl (pk (Uth D C) D.n) (tzero,[]) = ps.foldl (tpk D.n D.acts) (tzero,[]):=foldl_eq (fun x b=>rfl) _ _
 exact (congrArg (rnds (Uth D C) D.n R) h).trans (rnds_eq D C R _)
def tbl (s : TS) (c : Int) (n : Nat) : List Value:=(List.range n).map fun i=>.bool (cl (s.st i) == c)
structure PlPost (n : Nat) (acts : Nat → List (Int × Int)) (V : World) (s : TS) (xs : List Nat) (Z Z' : Cuts) (V' : World) (ov ovr pkr lv : Value) (wp : Nat) : Prop where
 nrm : norm V' = V'
 z : ∀ b,Z' b ≠ some (3,0,0)
 zo : ∀ b,b < V.heap.size → Z' b = Z b
 kp : Kp V V'
 o1 : V'.ownsRow 0 3 1 ov xs.length (ints xs)
 o2 : V'.ownsRow 0 4 1 ovr n (tbl s 3 n)
 o3 : V'.ownsRow 0 4 1 pkr n (tbl s 2 n)
 w : V'.heap[wp]? = some (.cells #[lv,.bool false] 37 (0,0))
 lg : V'.ownsRow 0 41 2 lv s.log.length (notes s.log)
 wpl : V.heap.size ≤ wp
@[go_sem] theorem build37n (w : World) : (Instr.build 37 #[]).run Try.prog w = .ok (.agg #[.slice none 0 0,.bool false]) w:=run_build w 37 _ _ (by kernel_rfl)
theorem sum_zero (n : Nat) : sumTo n (fun _=>0) = 0:=by
 induction n with
 | zero=>rfl
 | succ n ih=>simp only [sumTo,ih]
section
variable {n lc : Nat} {la : Option Addr} {acts : Nat → List (Int × Int)} {ra : Nat → Option Addr} {rc : Nat → Nat} {wp : Nat} {V V0 : World} {Z : Cuts} {Post : Value → World → Prop} {b₀ : Frame} {a₀ : Act} {ops₀ : Array Oper} {i₀ : Nat} {rest₀ : List Nat} {k₀ : List Item} {cs0 : List Frame}
theorem play_go (hn : norm V = V) (hz : ∀ b,Z b ≠ some (3,0,0)) (hn64 : n ≤ 64) (hR : Rw V la n acts ra rc) (hsm : sumTo n (fun i=>(acts i).length) < 1000000000) (hln : ∀ i,i < n → (acts i).length < 1000000000) {pv : Value} {ps : List Int} {rounds : Int} {Rn : Nat} (hp : Pks V (fun _=>False) pv ps) (hpl : ps.length < 100000000)
   (hRn : (Rn : Int) = if 1048576 < (if rounds < 0 then 0 else rounds) then 1048576 else if rounds < 0 then 0 else rounds)
   (K0 : ∀ s xs Z' V' ov ovr pkr lv wp,(s,xs) = trun n acts Rn ps → PlPost n acts V s xs Z Z' V' ov ovr pkr lv wp → To0 Try.prog Post Z' V' (G (b₀.at (a₀.put ((ops₀[i₀]?).bind (·.dst)) (.tuple #[.agg #[ov,ovr,pkr],.pointer (some ⟨wp,0,none⟩),.bool true])) (.inRegion ops₀ rest₀ :: k₀)) cs0)) :
   To0 Try.prog Post Z V (G (Frame.enter Try.prog 19 #[.slice la n lc,pv,.int .i64 rounds] .normal) (b₀.at a₀ (.inRegion ops₀ (i₀ :: rest₀) :: k₀) :: cs0)):=by
 rw [enter_at (P:=Try.prog) _ Try.func19 rfl]
 simp only [Try.f19]
 walk_nrm
 obtain ⟨K,hK,hV,key,yek⟩:=kKV (L:=Lone) (J:=fun g=>To0 Try.prog Post Z V g) mu_to0 (muv_to0 hn)
 refine key _ ?_
 repeat (first|(with_reducible first|refine mu_seq hK ?_|refine mu_skip hK ?_|(refine mu_region_end hK ?_;try subst hkk)|refine mu_block hK ?_|refine mu_inBlock hK ?_|refine mu_ret hK ?_|refine mu_end hK ?_)|refine mu_exit hK rfl ?_|(with_reducible refine mu_regionH hK (fun kk hkk=>?_); simp only [List.size_toArray,List.length_cons,List.length_nil,Nat.reduceAdd,Nat.zero_add,List.range,List.range.loop])|(with_reducible refine mu_cf hK ?_ ?_;(· first | (walk_nrm; done) | (simp [Act.eval]; done)))|(with_reducible refine mu_ct hK ?_ ?_;(· first | (walk_nrm; done) | (simp [Act.eval]; done)))|(refine mu_unwanted hK rfl rfl ?_; walk_nrm)|(refine muv_val hV rfl (by first | exact .inl rfl | exact .inr rfl) rfl (by kernel_rfl) (fun J hJ=>?_); go_simp; with_reducible refine hJ _ ?_; clear hJ J; walk_nrm))
 refine yek _ ?_
 clear hK hV key yek K
 have hna : norm (V.alloc (.cells #[.slice none 0 0,.slice none 0 0,.slice none 0 0] 28)) = (V.alloc (.cells #[.slice none 0 0,.slice none 0 0,.slice none 0 0] 28)):=norm_al hn _
 refine mua_put (L:=Lone) (v:=.pointer (some ⟨V.heap.size,0,none⟩)) (mua_to0 hna) (K:=fun g=>To0 Try.prog Post Z V g) (K':=fun g=>To0 Try.prog Post Z (V.alloc (.cells #[.slice none 0 0,.slice none 0 0,.slice none 0 0] 28)) g) rfl (.inl rfl) rfl (by kernel_rfl) (fun τ=>?_) ?_
 · go_simp
   first | exact ⟨by first | rfl | assumption | (simp only [re]; omega),rfl⟩ | rfl | (simp; done)
 have sVa : (V.alloc (.cells #[.slice none 0 0,.slice none 0 0,.slice none 0 0] 28)).heap.size = V.heap.size + 1:=al_size _ _
 have kVa : Kp V (V.alloc (.cells #[.slice none 0 0,.slice none 0 0,.slice none 0 0] 28)):=kp_alloc _ _
 have rVa : (V.alloc (.cells #[.slice none 0 0,.slice none 0 0,.slice none 0 0] 28)).heap[V.heap.size]? = some (.cells #[.slice none 0 0,.slice none 0 0,.slice none 0 0] 28):=by rw [al_get,if_pos rfl]
 generalize (V.alloc (.cells #[.slice none 0 0,.slice none 0 0,.slice none 0 0] 28)) = Va at *
 walk_nrm
 obtain ⟨K,hK,hV,key,yek⟩:=kKV (L:=Lone) (J:=fun g=>To0 Try.prog Post Z Va g) mu_to0 (muv_to0 hna)
 refine key _ ?_
 repeat (first|(with_reducible first|refine mu_seq hK ?_|refine mu_skip hK ?_|(refine mu_region_end hK ?_;try subst hkk)|refine mu_block hK ?_|refine mu_inBlock hK ?_|refine mu_ret hK ?_|refine mu_end hK ?_)|refine mu_exit hK rfl ?_|(with_reducible refine mu_regionH hK (fun kk hkk=>?_); simp only [List.size_toArray,List.length_cons,List.length_nil,Nat.reduceAdd,Nat.zero_add,List.range,List.range.loop])|(with_reducible refine mu_cf hK ?_ ?_;(· first | (walk_nrm; done) | (simp [Act.eval]; done)))|(with_reducible refine mu_ct hK ?_ ?_;(· first | (walk_nrm; done) | (simp [Act.eval]; done)))|(refine mu_unwanted hK rfl rfl ?_; walk_nrm)|(refine muv_val hV rfl (by first | exact .inl rfl | exact .inr rfl) rfl (by kernel_rfl) (fun J hJ=>?_); go_simp; with_reducible refine hJ _ ?_; clear hJ J; walk_nrm))
 refine yek _ ?_
 clear hK hV key yek K
 have hnb : norm (Va.alloc (.cells #[.slice none 0 0,.bool false] 37)) = (Va.alloc (.cells #[.slice none 0 0,.bool false] 37)):=norm_al hna _
 refine mua_put (L:=Lone) (v:=.pointer (some ⟨Va.heap.size,0,none⟩)) (mua_to0 hnb) (K:=fun g=>To0 Try.prog Post Z Va g) (K':=fun g=>To0 Try.prog Post Z (Va.alloc (.cells #[.slice none 0 0,.bool false] 37)) g) rfl (.inl rfl) rfl (by kernel_rfl) (fun τ=>?_) ?_
 · go_simp
   first | exact ⟨by first | rfl | assumption | (simp only [re]; omega),rfl⟩ | rfl | (simp; done)
 have sVb : (Va.alloc (.cells #[.slice none 0 0,.bool false] 37)).heap.size = Va.heap.size + 1:=al_size _ _
 have kVb : Kp Va (Va.alloc (.cells #[.slice none 0 0,.bool false] 37)):=kp_alloc _ _
 have rVb : (Va.alloc (.cells #[.slice none 0 0,.bool false] 37)).heap[Va.heap.size]? = some (.cells #[.slice none 0 0,.bool false] 37):=by rw [al_get,if_pos rfl]
 generalize (Va.alloc (.cells #[.slice none 0 0,.bool false] 37)) = Vb at *
 walk_nrm
 obtain ⟨R,eR⟩ : ∃ R,R = V.heap.size:=⟨_,rfl⟩
 obtain ⟨wp,ew⟩ : ∃ wp,wp = Va.heap.size:=⟨_,rfl⟩
 rw [← eR] at rVa ⊢
 rw [← ew] at rVb ⊢
 have eR1 : V.heap.size ≤ R:=by omega
 have eR2 : R ≤ V.heap.size:=by omega
 have ew1 : Va.heap.size ≤ wp:=by omega
 have ew2 : wp ≤ Va.heap.size:=by omega
 clear eR ew
 obtain ⟨K,hK,hV,key,yek⟩:=kKV (L:=Lone) (J:=fun g=>To0 Try.prog Post Z Vb g) mu_to0 (muv_to0 hnb)
 refine key _ ?_
 repeat (first|(with_reducible first|refine mu_seq hK ?_|refine mu_skip hK ?_|(refine mu_region_end hK ?_;try subst hkk)|refine mu_block hK ?_|refine mu_inBlock hK ?_|refine mu_ret hK ?_|refine mu_end hK ?_)|refine mu_exit hK rfl ?_|(with_reducible refine mu_regionH hK (fun kk hkk=>?_); simp only [List.size_toArray,List.length_cons,List.length_nil,Nat.reduceAdd,Nat.zero_add,List.range,List.range.loop])|(with_reducible refine mu_cf hK ?_ ?_;(· first | (walk_nrm; done) | (simp [Act.eval]; done)))|(with_reducible refine mu_ct hK ?_ ?_;(· first | (walk_nrm; done) | (simp [Act.eval]; done)))|(refine mu_unwanted hK rfl rfl ?_; walk_nrm)|(refine muv_val hV rfl (by first | exact .inl rfl | exact .inr rfl) rfl (by kernel_rfl) (fun J hJ=>?_); go_simp; with_reducible refine hJ _ ?_; clear hJ J; walk_nrm))
 refine mu_loop hK ?_
 refine yek _ ?_
 clear hK hV key yek K
 refine (fun (h : ∀ X Y,PL = X → P7 = Y → To0 Try.prog Post Z Vb (G ((base 19).at _ [.code X,.inLoop X,.inBlock 0,.code Y]) (b₀.at a₀ (.inRegion ops₀ (i₀ :: rest₀) :: k₀) :: cs0)))=>h _ _ (by simp only [PL,P7,B19,nva,nvb,nvk,nvl,Try.f19,Option.getD_some]) (by simp only [PL,P7,B19,nva,nvb,nvk,nvl,Try.f19,Option.getD_some])) ?_
 intro X Y hX hY
 subst hX hY
 have hkab : Kp V Vb:=kVa.trans kVb
 have hRb : Vb.heap[R]? = some (.cells #[.slice none 0 0,.slice none 0 0,.slice none 0 0] 28 (0,0)):=by rw [kVb.keep _ (by omega)]; exact rVa
 refine ply_loop (V0:=Vb) (wp:=wp) (R:=R) hn64 (hR.kp hkab) (fun T V1 wb ib lb fv M hT=>?_) n 0 _ Vb (fun _=>0) (fun _=>0) (fun _=>0) (.slice none 0 0) (by omega) ⟨hnb,Kp.refl _,World.ownsRow_nil _ _ _ _,fun b hb=>(by cases hb),fun j hj=>absurd hj (by omega),fun j hj=>absurd hj (by omega),fun j hj=>absurd hj (by omega)⟩ ⟨by simp,rfl,rfl,rfl,rfl,rfl,rfl⟩ rfl
 have hn1:=M.nrm
 have hsz1:=M.kp.size
 have hw1 : V1.heap[wp]? = some (.cells #[.slice none 0 0,.bool false] 37 (0,0)):=by rw [M.kp.keep _ (by omega)]; exact rVb
 have hR1 : V1.heap[R]? = some (.cells #[.slice none 0 0,.slice none 0 0,.slice none 0 0] 28 (0,0)):=by rw [M.kp.keep _ (by omega)]; exact hRb
 have hkV1 : Kp V V1:=hkab.trans M.kp
 have hfl : (fns wb ib lb n).length = n:=by simp [fns]
 have hfg : ∀ i,i < n → (fns wb ib lb n).getD i .nilFunc = thf wb ib lb i:=fun i hi=>by simp [fns,List.getD_eq_getElem?_getD,List.getElem?_map,List.getElem?_range,hi]
 obtain ⟨fA,fc,rfl,fR⟩:=rds_own M.row
 have fR:=fR (fun j=>thf wb ib lb j) (fun j hj=>by simp [fns,List.getElem?_map,List.getElem?_range,hj])
 have hF : FnRow V1 (.slice fA n fc) (fns wb ib lb n):=by
   refine ⟨⟨fA,fc,by rw [hfl],fun h0=>?_⟩,fun j hj=>.inr ⟨107,#[],#[bp (wb j),bp (ib j),bp (lb j)],by rw [hfl] at hj; rw [hfg j hj]; rfl⟩⟩
   rw [hfl] at h0
   obtain ⟨g,o,e,hg,c⟩:=fR.2 h0
   exact ⟨g,o,e,hg,fun j hj=>by rw [hfl] at hj; rw [hfg j hj]; exact c j hj⟩
 obtain ⟨D,hD⟩ : ∃ D : Th,D = { n:=n,acts:=acts,wp:=wp,wb:=wb,ib:=ib,lb:=lb,la:=ra,lc:=rc,Vr:=V1 }:=⟨_,rfl⟩
 have hO : ThOk D:=by
   subst hD
   refine ⟨by show wp < V1.heap.size; omega,fun i hi=>?_,fun i hi=>?_,fun i hi=>?_,fun i hi h0=>?_,hsm,hln⟩
   · obtain ⟨h1,h2⟩:=M.wb i hi
     exact ⟨(Array.getElem?_eq_some_iff.1 h2).1,by show wb i ≠ wp; omega,h2⟩
   · obtain ⟨h1,h2⟩:=M.ib i hi
     exact ⟨(Array.getElem?_eq_some_iff.1 h2).1,by show ib i ≠ wp; omega,h2⟩
   · obtain ⟨h1,h2⟩:=M.lb i hi
     exact ⟨(Array.getElem?_eq_some_iff.1 h2).1,by show lb i ≠ wp; omega,h2⟩
   · obtain ⟨g,o,e,hg,c⟩:=hR.inn i hi h0
     have:=hkV1.size
     exact ⟨g,o,e,by show g < V1.heap.size; omega,by show g ≠ wp; omega,fun j hj=>⟨hkV1.cell (c j hj).1,hkV1.cell (c j hj).2⟩⟩
 have hDn : D.n = n:=by rw [hD]
 have hDa : D.acts = acts:=by rw [hD]
 have hDw : D.wp = wp:=by rw [hD]
 have hDV : D.Vr = V1:=by rw [hD]
 have hDf : ∀ i,thf wb ib lb i = .func (.func 107) #[] #[bp (D.wb i),bp (D.ib i),bp (D.lb i)]:=fun i=>by rw [hD]; rfl
 have hI0 : TInv D tzero (fun b=>b < V1.heap.size) V1:=⟨by rw [hDV]; exact Nat.le_refl _,⟨.slice none 0 0,by rw [hDw]; exact hw1,World.ownsRow_nil _ _ _ _,fun b hb=>(by cases hb)⟩,fun b hb=>⟨by rw [hDV] at hb; exact hb,fun _=>by rw [hDV]⟩,(sum_zero _).symm,fun i hi=>Nat.zero_le _,fun i hi _=>rfl⟩
 have hP : PksU (fun C=>Uth D C) (fns wb ib lb n).length V1 (fun b=>b < V1.heap.size) pv ps:=⟨by
   obtain ⟨b,c,e,h⟩:=hp.v
   refine ⟨b,c,e,fun h0=>?_⟩
   obtain ⟨g,o,e1,h1,h2,h3⟩:=h h0
   refine ⟨g,o,e1,.inr fun C _ σ own V' I k hk=>?_⟩
   have h4:=hkV1.size
   have hI : TInv D σ own V':=I
   have h5:=(hI.old g (by rw [hDV]; omega)).2 (by rw [hDw]; omega)
   rw [hDV] at h5
   exact cell_same (hkV1.cell (h3 k hk)) h5,hp.r⟩
 obtain ⟨hs,t0,t1,t2,t6,t9,t10⟩:=hT
 obtain ⟨v0,v1,v2,v3,v4,v5,v6,v7,v8,v9,v10,v11,v12,v13,v14,v15,v16,v17,v18,v19,v20,v21,v22,v23,v24,v25,v26,v27,v28,v29,v30,v31,v32,v33,v34,v35,v36,v37,v38,v39,v40,v41,v42,rfl⟩:=array43 T hs
 simp only [List.getElem?_toArray,List.getElem?_cons_zero,List.getElem?_cons_succ,Option.some.injEq] at t0 t1 t2 t6 t9 t10
 subst t0 t1 t2 t6 t9 t10
 refine (fun (h : ∀ X,X = P7 → To0 Try.prog Post Z V1 (G ((base 19).at ⟨_,[]⟩ [.code X]) (b₀.at a₀ (.inRegion ops₀ (i₀ :: rest₀) :: k₀) :: cs0)))=>h P7 rfl) ?_
 intro X hX
 simp only [PL,P7,B19,nva,nvb,nvk,nvl,Try.f19,Option.getD_some] at hX
 subst hX
 obtain ⟨K,hK,hV,key,yek⟩:=kKV (L:=Lone) (J:=fun g=>To0 Try.prog Post Z V1 g) mu_to0 (muv_to0 hn1)
 refine key _ ?_
 repeat (first|(with_reducible first|refine mu_seq hK ?_|refine mu_skip hK ?_|(refine mu_region_end hK ?_;try subst hkk)|refine mu_block hK ?_|refine mu_inBlock hK ?_|refine mu_ret hK ?_|refine mu_end hK ?_)|refine mu_exit hK rfl ?_|(with_reducible refine mu_regionH hK (fun kk hkk=>?_); simp only [List.size_toArray,List.length_cons,List.length_nil,Nat.reduceAdd,Nat.zero_add,List.range,List.range.loop])|(with_reducible refine mu_cf hK ?_ ?_;(· first | (walk_nrm; done) | (simp [Act.eval]; done)))|(with_reducible refine mu_ct hK ?_ ?_;(· first | (walk_nrm; done) | (simp [Act.eval]; done)))|(refine mu_unwanted hK rfl rfl ?_; walk_nrm)|(refine muv_val hV rfl (by first | exact .inl rfl | exact .inr rfl) rfl (by kernel_rfl) (fun J hJ=>?_); go_simp; with_reducible refine hJ _ ?_; clear hJ J; walk_nrm))
 refine mu_call hK rfl rfl (by decide) rfl Try.func23 (by kernel_rfl) rfl ?_
 rw [← enter_at (P:=Try.prog) _ Try.func23 rfl]
 walk_nrm
 refine yek _ ?_
 clear hK hV key yek K
 refine run_go (U:=fun C=>Uth D C) (σ0:=fun _=>tzero) (own0:=fun b=>b < V1.heap.size) (Rn:=Rn) hn1 hF (by rw [hfl]; omega) hz (fun b h=>h) hP hpl hRn (fun C E hOk hCn hf=>uth_ok hO hOk (by rw [hCn,hfl,hDn]) (by rw [hCn,hfl]; omega) fun i hi=>?_) (fun C hCn i hi=>?_) (fun C _=>hI0) fun C σ' xs' Z' V2 ov ovr pkr own' hCn he A=>?_
 · rw [hf i]
   rw [hCn,hfl] at hi
   rw [hfg i hi]
   exact hDf i
 · rw [hfl] at hi
   show cl 0 = st0 (fns wb ib lb n) i
   unfold st0
   rw [hfg i hi]
   rfl
 rw [hfl,← hDn] at he
 rw [run_eq,hDn,hDa] at he
 rw [hfl] at A
 have hI : TInv D σ' own' V2:=A.inv
 have hn2:=A.nrm
 have hold : ∀ b,b < V1.heap.size → b ≠ wp → V2.heap[b]? = V1.heap[b]?:=fun b h1 h2=>by
   have:=(hI.old b (by rw [hDV]; exact h1)).2 (by rw [hDw]; exact h2)
   rw [hDV] at this
   exact this
 have hownR : own' R:=(hI.old R (by rw [hDV]; omega)).1
 have hownw : own' wp:=(hI.old wp (by rw [hDV]; omega)).1
 have hR2 : V2.heap[R]? = some (.cells #[.slice none 0 0,.slice none 0 0,.slice none 0 0] 28 (0,0)):=by rw [hold R (by omega) (by omega)]; exact hR1
 obtain ⟨lv,hw2,hlg,hlv⟩:=hI.world
 rw [hDw] at hw2
 have o1:=A.o1
 have o2 : V2.ownsRow 0 4 1 ovr n (tbl σ' 3 n):=A.o2
 have o3 : V2.ownsRow 0 4 1 pkr n (tbl σ' 2 n):=A.o3
 have w1:=A.w1
 have w2:=A.w2
 have w3:=A.w3
 have hzs:=A.shut
 have hzo:=A.zold
 have hbig:=A.big
 obtain ⟨sx1,sn1,sc1,rfl⟩:=slice_of o1
 obtain ⟨sx2,sn2,sc2,rfl⟩:=slice_of o2
 obtain ⟨sx3,sn3,sc3,rfl⟩:=slice_of o3
 clear A hF hP fR hI0
 walk_nrm
 obtain ⟨K,hK,hV,key,yek⟩:=kKV (L:=Lone) (J:=fun g=>To0 Try.prog Post Z' V2 g) mu_to0 (muv_to0 hn2)
 refine key _ ?_
 repeat (first|(with_reducible first|refine mu_seq hK ?_|refine mu_skip hK ?_|(refine mu_region_end hK ?_;try subst hkk)|refine mu_block hK ?_|refine mu_inBlock hK ?_|refine mu_ret hK ?_|refine mu_end hK ?_)|refine mu_exit hK rfl ?_|(with_reducible refine mu_regionH hK (fun kk hkk=>?_); simp only [List.size_toArray,List.length_cons,List.length_nil,Nat.reduceAdd,Nat.zero_add,List.range,List.range.loop])|(with_reducible refine mu_cf hK ?_ ?_;(· first | (walk_nrm; done) | (simp [Act.eval]; done)))|(with_reducible refine mu_ct hK ?_ ?_;(· first | (walk_nrm; done) | (simp [Act.eval]; done)))|(refine mu_unwanted hK rfl rfl ?_; walk_nrm)|(refine muv_val hV rfl (by first | exact .inl rfl | exact .inr rfl) rfl (by kernel_rfl) (fun J hJ=>?_); go_simp; with_reducible refine hJ _ ?_; clear hJ J; walk_nrm))
 refine yek _ ?_
 clear hK hV key yek K
 have hnV3 : norm (V2.alloc (.cells #[.slice none 0 0,.slice none 0 0,.slice none 0 0] 28)) = (V2.alloc (.cells #[.slice none 0 0,.slice none 0 0,.slice none 0 0] 28)):=norm_al hn2 _
 refine mua_put (L:=Lone) (v:=.pointer (some ⟨V2.heap.size,0,none⟩)) (mua_to0 hnV3) (K:=fun g=>To0 Try.prog Post Z' V2 g) (K':=fun g=>To0 Try.prog Post Z' (V2.alloc (.cells #[.slice none 0 0,.slice none 0 0,.slice none 0 0] 28)) g) rfl (.inl rfl) rfl (by kernel_rfl) (fun τ=>?_) ?_
 · go_simp
   first | exact ⟨by first | rfl | assumption | (simp only [re]; omega),rfl⟩ | rfl | (simp; done)
 have sV3 : (V2.alloc (.cells #[.slice none 0 0,.slice none 0 0,.slice none 0 0] 28)).heap.size = V2.heap.size + 1:=al_size _ _
 have kV3 : Kp V2 (V2.alloc (.cells #[.slice none 0 0,.slice none 0 0,.slice none 0 0] 28)):=kp_alloc _ _
 have rV3 : (V2.alloc (.cells #[.slice none 0 0,.slice none 0 0,.slice none 0 0] 28)).heap[V2.heap.size]? = some (.cells #[.slice none 0 0,.slice none 0 0,.slice none 0 0] 28):=by rw [al_get,if_pos rfl]
 generalize (V2.alloc (.cells #[.slice none 0 0,.slice none 0 0,.slice none 0 0] 28)) = V3 at *
 walk_nrm
 have f0 : ∀ τ,(re V3 τ 0).cell? ⟨V2.heap.size,0,none⟩ = some (.slice none 0 0):=fun τ=>cell_of rV3 (by simp)
 have z0 : ∀ τ,(re V3 τ 0).frozen? ⟨V2.heap.size,0,none⟩ = false:=fun τ=>by simp [World.frozen?,re,rV3]
 have f1 : ∀ τ,(re V3 τ 0).cell? ⟨V2.heap.size,1,none⟩ = some (.slice none 0 0):=fun τ=>cell_of rV3 (by simp)
 have z1 : ∀ τ,(re V3 τ 0).frozen? ⟨V2.heap.size,1,none⟩ = false:=fun τ=>by simp [World.frozen?,re,rV3]
 have f2 : ∀ τ,(re V3 τ 0).cell? ⟨V2.heap.size,2,none⟩ = some (.slice none 0 0):=fun τ=>cell_of rV3 (by simp)
 have z2 : ∀ τ,(re V3 τ 0).frozen? ⟨V2.heap.size,2,none⟩ = false:=fun τ=>by simp [World.frozen?,re,rV3]
 have hnV4 : norm (set3 V3 V2.heap.size (.slice sx1 sn1 sc1) (.slice sx2 sn2 sc2) (.slice sx3 sn3 sc3)) = (set3 V3 V2.heap.size (.slice sx1 sn1 sc1) (.slice sx2 sn2 sc2) (.slice sx3 sn3 sc3)):=norm_set (norm_set (norm_set hnV3 _ _) _ _) _ _
 have kV4 : Kp V2 (set3 V3 V2.heap.size (.slice sx1 sn1 sc1) (.slice sx2 sn2 sc2) (.slice sx3 sn3 sc3)):=kp_set3 kV3 (Nat.le_refl _)
 have rV4 : (set3 V3 V2.heap.size (.slice sx1 sn1 sc1) (.slice sx2 sn2 sc2) (.slice sx3 sn3 sc3)).heap[V2.heap.size]? = some (.cells #[(.slice sx1 sn1 sc1),(.slice sx2 sn2 sc2),(.slice sx3 sn3 sc3)] 28 (0,0)):=by
   unfold set3
   rw [setCell_heap,if_pos rfl,setCell_heap,if_pos rfl,setCell_heap,if_pos rfl,rV3]
   simp
 refine mus_put (L:=Lone) (mus_to0 hnV4) (K:=fun g=>To0 Try.prog Post Z' V3 g) (K':=fun g=>To0 Try.prog Post Z' (set3 V3 V2.heap.size (.slice sx1 sn1 sc1) (.slice sx2 sn2 sc2) (.slice sx3 sn3 sc3)) g) rfl (.inl rfl) rfl (by kernel_rfl) (fun τ=>?_) ?_
 · go_simp
   rfl
 clear f0 f1 f2 z0 z1 z2
 generalize (set3 V3 V2.heap.size (.slice sx1 sn1 sc1) (.slice sx2 sn2 sc2) (.slice sx3 sn3 sc3)) = V4 at *
 walk_nrm
 have f0 : ∀ τ,(re V4 τ 0).cell? ⟨V2.heap.size,0,none⟩ = some (.slice sx1 sn1 sc1):=fun τ=>cell_of rV4 (by simp)
 have f1 : ∀ τ,(re V4 τ 0).cell? ⟨V2.heap.size,1,none⟩ = some (.slice sx2 sn2 sc2):=fun τ=>cell_of rV4 (by simp)
 have f2 : ∀ τ,(re V4 τ 0).cell? ⟨V2.heap.size,2,none⟩ = some (.slice sx3 sn3 sc3):=fun τ=>cell_of rV4 (by simp)
 have hR4 : V4.heap[R]? = some (.cells #[.slice none 0 0,.slice none 0 0,.slice none 0 0] 28 (0,0)):=by rw [kV4.keep _ (Array.getElem?_eq_some_iff.1 hR2).1]; exact hR2
 have g0 : ∀ τ,(re V4 τ 0).cell? ⟨R,0,none⟩ = some (.slice none 0 0):=fun τ=>cell_of hR4 (by simp)
 have g1 : ∀ τ,(re V4 τ 0).cell? ⟨R,1,none⟩ = some (.slice none 0 0):=fun τ=>cell_of hR4 (by simp)
 have g2 : ∀ τ,(re V4 τ 0).cell? ⟨R,2,none⟩ = some (.slice none 0 0):=fun τ=>cell_of hR4 (by simp)
 have y0 : ∀ τ,(re V4 τ 0).frozen? ⟨R,0,none⟩ = false:=fun τ=>by simp [World.frozen?,re,hR4]
 have y1' : ∀ τ,(re V4 τ 0).frozen? ⟨R,1,none⟩ = false:=fun τ=>by simp [World.frozen?,re,hR4]
 have y2' : ∀ τ,(re V4 τ 0).frozen? ⟨R,2,none⟩ = false:=fun τ=>by simp [World.frozen?,re,hR4]
 obtain ⟨K,hK,hV,key,yek⟩:=kKV (L:=Lone) (J:=fun g=>To0 Try.prog Post Z' V4 g) mu_to0 (muv_to0 hnV4)
 refine key _ ?_
 repeat (first|(with_reducible first|refine mu_seq hK ?_|refine mu_skip hK ?_|(refine mu_region_end hK ?_;try subst hkk)|refine mu_block hK ?_|refine mu_inBlock hK ?_|refine mu_ret hK ?_|refine mu_end hK ?_)|refine mu_exit hK rfl ?_|(with_reducible refine mu_regionH hK (fun kk hkk=>?_); simp only [List.size_toArray,List.length_cons,List.length_nil,Nat.reduceAdd,Nat.zero_add,List.range,List.range.loop])|(with_reducible refine mu_cf hK ?_ ?_;(· first | (walk_nrm; done) | (simp [Act.eval]; done)))|(with_reducible refine mu_ct hK ?_ ?_;(· first | (walk_nrm; done) | (simp [Act.eval]; done)))|(refine mu_unwanted hK rfl rfl ?_; walk_nrm)|(refine muv_val hV rfl (by first | exact .inl rfl | exact .inr rfl) rfl (by kernel_rfl) (fun J hJ=>?_); go_simp; with_reducible refine hJ _ ?_; clear hJ J; walk_nrm))
 refine yek _ ?_
 clear hK hV key yek K
 have hn5 : norm (set3 V4 R (.slice sx1 sn1 sc1) (.slice sx2 sn2 sc2) (.slice sx3 sn3 sc3)) = (set3 V4 R (.slice sx1 sn1 sc1) (.slice sx2 sn2 sc2) (.slice sx3 sn3 sc3)):=norm_set (norm_set (norm_set hnV4 _ _) _ _) _ _
 have r5 : (set3 V4 R (.slice sx1 sn1 sc1) (.slice sx2 sn2 sc2) (.slice sx3 sn3 sc3)).heap[R]? = some (.cells #[(.slice sx1 sn1 sc1),(.slice sx2 sn2 sc2),(.slice sx3 sn3 sc3)] 28 (0,0)):=by
   unfold set3
   rw [setCell_heap,if_pos rfl,setCell_heap,if_pos rfl,setCell_heap,if_pos rfl,hR4]
   simp
 have s5 : (set3 V4 R (.slice sx1 sn1 sc1) (.slice sx2 sn2 sc2) (.slice sx3 sn3 sc3)).heap.size = V4.heap.size:=set3_size
 have k5 : ∀ b,b ≠ R → (set3 V4 R (.slice sx1 sn1 sc1) (.slice sx2 sn2 sc2) (.slice sx3 sn3 sc3)).heap[b]? = V4.heap[b]?:=fun b hb=>set3_get hb
 refine mus_put (L:=Lone) (mus_to0 hn5) (K:=fun g=>To0 Try.prog Post Z' V4 g) (K':=fun g=>To0 Try.prog Post Z' (set3 V4 R (.slice sx1 sn1 sc1) (.slice sx2 sn2 sc2) (.slice sx3 sn3 sc3)) g) rfl (.inl rfl) rfl (by kernel_rfl) (fun τ=>?_) ?_
 · go_simp
   rfl
 clear f0 f1 f2 g0 g1 g2 y0 y1' y2'
 generalize (set3 V4 R (.slice sx1 sn1 sc1) (.slice sx2 sn2 sc2) (.slice sx3 sn3 sc3)) = V5 at *
 walk_nrm
 have f0 : ∀ τ,(re V5 τ 0).cell? ⟨R,0,none⟩ = some (.slice sx1 sn1 sc1):=fun τ=>cell_of r5 (by simp)
 have f1 : ∀ τ,(re V5 τ 0).cell? ⟨R,1,none⟩ = some (.slice sx2 sn2 sc2):=fun τ=>cell_of r5 (by simp)
 have f2 : ∀ τ,(re V5 τ 0).cell? ⟨R,2,none⟩ = some (.slice sx3 sn3 sc3):=fun τ=>cell_of r5 (by simp)
 obtain ⟨K,hK,hV,key,yek⟩:=kKV (L:=Lone) (J:=fun g=>To0 Try.prog Post Z' V5 g) mu_to0 (muv_to0 hn5)
 refine key _ ?_
 repeat (first|(with_reducible first|refine mu_seq hK ?_|refine mu_skip hK ?_|(refine mu_region_end hK ?_;try subst hkk)|refine mu_block hK ?_|refine mu_inBlock hK ?_|refine mu_ret hK ?_|refine mu_end hK ?_)|refine mu_exit hK rfl ?_|(with_reducible refine mu_regionH hK (fun kk hkk=>?_); simp only [List.size_toArray,List.length_cons,List.length_nil,Nat.reduceAdd,Nat.zero_add,List.range,List.range.loop])|(with_reducible refine mu_cf hK ?_ ?_;(· first | (walk_nrm; done) | (simp [Act.eval]; done)))|(with_reducible refine mu_ct hK ?_ ?_;(· first | (walk_nrm; done) | (simp [Act.eval]; done)))|(refine mu_unwanted hK rfl rfl ?_; walk_nrm)|(refine muv_val hV rfl (by first | exact .inl rfl | exact .inr rfl) rfl (by kernel_rfl) (fun J hJ=>?_); go_simp; with_reducible refine hJ _ ?_; clear hJ J; walk_nrm))
 refine yek _ ?_
 clear hK hV key yek K
 have hk25 : ∀ b,b < V2.heap.size → b ≠ R → V5.heap[b]? = V2.heap[b]?:=fun b h1 h2=>by rw [k5 b h2,kV4.keep b h1]
 refine To0.walk (will_leave (fn:=Try.f19) rfl rfl Try.func19 (v:=.tuple #[.agg #[(.slice sx1 sn1 sc1),(.slice sx2 sn2 sc2),(.slice sx3 sn3 sc3)],.pointer (some ⟨wp,0,none⟩),.bool true]) (fun τ=>?_) (Will.stop ?_))
 · simp only [results,Try.f19]
   go_simp
 · rw [Frame.finish_at]
   refine K0 σ' xs' Z' V5 _ _ _ lv wp he ⟨hn5,hzs,fun b hb=>hzo b (by have:=hkV1.size; omega),⟨by have:=hkV1.size; have:=kV4.size; omega,fun b hb=>?_⟩,row_keep o1 fun b hb=>hk25 b (row_at o1 hb) (fun e=>w1 b hb (by rw [e]; exact hownR)),row_keep o2 fun b hb=>hk25 b (row_at o2 hb) (fun e=>w2 b hb (by rw [e]; exact hownR)),row_keep o3 fun b hb=>hk25 b (row_at o3 hb) (fun e=>w3 b hb (by rw [e]; exact hownR)),by rw [hk25 wp (Array.getElem?_eq_some_iff.1 hw2).1 (by omega)]; exact hw2,row_keep hlg fun b hb=>hk25 b (row_at hlg hb) (fun e=>by have:=(hlv b hb).2; rw [hDV] at this; omega),by omega⟩
   have:=hkV1.size
   rw [hk25 b (by omega) (by omega),hold b (by omega) (by omega)]
   exact hkV1.keep b hb
end
end Go.Proofs.Ytibcdikfbhmheaa
