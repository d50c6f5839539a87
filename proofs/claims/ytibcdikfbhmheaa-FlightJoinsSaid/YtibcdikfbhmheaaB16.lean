import Derived.Test.YtibcdikfbhmheaaB15
import Derived.WalkSpells
import Derived.WalkLawsBesides
import Derived.Deep.Draws
import Derived.Lib.Hide
import Derived.Deep.LoopGhost
import Derived.Deep.QuietTactic
set_option linter.unusedSimpArgs false
set_option linter.unusedVariables false
set_option maxRecDepth 100000
set_option maxHeartbeats 4000000
namespace Go.Proofs.Ytibcdikfbhmheaa
open Go Go.Conc Go.Proofs
open Go.Conc.Lib
noncomputable def Y4 : Code:=nvb (nvb (nvb (nvb B23)))
section
variable {C : Cw} {E : Env} {U : Usr} {Q : Nat -> Prop} {σ : U.S} {xs : List Nat} {ow : Nat -> Nat} {role : Nat -> Role} {N : Nat} {V VQ : World} {ov ovr pkr : Value} {r2 rb k2 k3 k : Nat} {Post : Value -> World -> Prop} {bQ : Frame} {aQ : Act} {opsQ : Array Oper} {iQ : Nat} {restQ : List Nat} {kQ : List Item} {cs0 : List Frame}
theorem run_tail (hO : CwOk E C) (hU : UOk E C U) (hn64 : C.n <= 64) (hQ : ∀ b,Q b -> b < VQ.heap.size) (L : LsAt C Q VQ) (R : Rp C U Q VQ σ xs ow role N V r2 ov ovr pkr 0 0) (hz0 : ∀ b,E.Z b ≠ some (3,0,0)) (hrb : Q rb) (hrb0 : VQ.heap[rb]? = some (.cells #[.slice none 0 0,.slice none 0 0,.slice none 0 0] 28 (0,0))) {T : Array Value} (hT : HZ T C rb r2)
   (K0 : ∀ ow V' ovr pkr,Ran C U Q VQ rb σ xs ow V' ov ovr pkr -> To0 Try.prog Post E.Z V' (G (bQ.at (aQ.put ((opsQ[iQ]?).bind (·.dst)) (.tuple #[.agg #[ov,ovr,pkr],.int .i64 0])) (.inRegion opsQ restQ :: kQ)) cs0)) :
   To Try.prog Post E (Las Try.prog E 3) 0 0 0 N role V (G ((base 23).at ⟨T,[]⟩ [.code Y4]) (bQ.at aQ (.inRegion opsQ (iQ :: restQ) :: kQ) :: cs0)):=by
 have hn:=R.sea.nrm
 obtain ⟨lb,hl,hlb⟩:=L.l
 have e0 : ∀ τ,(re V τ 0).cell? ⟨C.cb,0,none⟩ = some (.slice lb C.n C.cap):=fun τ=>by
   rw [re_cell,← hl]
   exact cell_of R.sea.cw.crew (by simp)
 obtain ⟨h75,t6,t8,t9⟩:=hT
 obtain ⟨v0,v1,v2,v3,v4,v5,v6,v7,v8,v9,v10,v11,v12,v13,v14,v15,v16,v17,v18,v19,v20,v21,v22,v23,v24,v25,v26,v27,v28,v29,v30,v31,v32,v33,v34,v35,v36,v37,v38,v39,v40,v41,v42,v43,v44,v45,v46,v47,v48,v49,v50,v51,v52,v53,v54,v55,v56,v57,v58,v59,v60,v61,v62,v63,v64,v65,v66,v67,v68,v69,v70,v71,v72,v73,v74,rfl⟩:=array75 T h75
 simp only [List.getElem?_toArray,List.getElem?_cons_zero,List.getElem?_cons_succ,Option.some.injEq] at t6 t8 t9
 subst t6 t8 t9
 clear h75
 refine (fun (h : ∀ X,X = Y4 -> To Try.prog Post E (Las Try.prog E 3) 0 0 0 N role V (G ((base 23).at ⟨_,[]⟩ [.code X]) (bQ.at aQ (.inRegion opsQ (iQ :: restQ) :: kQ) :: cs0)))=>h Y4 rfl) ?_
 intro X hX
 simp only [Y4,B23,nva,nvb,nvk,nvl,Try.f23,Option.getD_some] at hX
 subst hX
 obtain ⟨K,hK,hV,key,yek⟩:=kKV (L:=Lone) (J:=fun g=>To Try.prog Post E (Las Try.prog E 3) 0 0 0 N role V g) (mu_to hO.ok) (muv_to hO.ok hn)
 refine key _ ?_
 refine wA fun kk hkk=>?_
 refine mu_loop hK ?_
 refine yek _ ?_
 clear hK hV key yek K
 refine (fun (h : ∀ X Y,L1 = X -> Y5 = Y -> To Try.prog Post E (Las Try.prog E 3) 0 0 0 N role V (G ((base 23).at _ [.code X,.inLoop X,.inBlock 0,.code Y]) (bQ.at aQ (.inRegion opsQ (iQ :: restQ) :: kQ) :: cs0)))=>h _ _ (by simp only [L1,B23,nva,nvb,nvk,nvl,Try.f23,Option.getD_some]) (by simp only [Y5,B23,nva,nvb,nvk,nvl,Try.f23,Option.getD_some])) ?_
 intro X Y hX hY
 subst hX hY
 clear e0
 refine rep_loop (rb:=rb) hO hU hn64 hQ L (fun T2 ow2 V2 ovr2 pkr2 R2 hT2=>?_) C.n 0 _ ow V ovr pkr (by omega) R ⟨by simp,rfl,rfl,rfl,hl.symm ▸ rfl,rfl,rfl⟩
 have hn2:=R2.sea.nrm
 have F2:=R2.sea.fini hO hU
 have hk2 : ∀ b,ow2 b = 2 -> (V2.setCell ⟨C.cb,2,none⟩ (.bool true)).heap[b]? = V2.heap[b]?:=fun b hb=>by
   rw [setCell_heap,if_neg]
   intro e
   have:=R2.sea.oc
   rw [show b = C.cb from e] at hb
   omega
 have R3:=R2.rz.keep (V':=V2.setCell ⟨C.cb,2,none⟩ (.bool true)) (by rw [size_setCell]; exact Nat.le_refl _) hk2
 have c2 : ∀ τ,(re V2 τ 0).cell? ⟨C.cb,2,none⟩ = some (.bool false):=fun τ=>R2.sea.cw.c2
 have c3 : ∀ τ,(re V2 τ 0).frozen? ⟨C.cb,2,none⟩ = false:=fun τ=>by simp [World.frozen?,re,R2.sea.cw.crew]
 clear hk2 R2
 obtain ⟨h75,t6,t8,t9,-,-,-⟩:=hT2
 obtain ⟨v0,v1,v2,v3,v4,v5,v6,v7,v8,v9,v10,v11,v12,v13,v14,v15,v16,v17,v18,v19,v20,v21,v22,v23,v24,v25,v26,v27,v28,v29,v30,v31,v32,v33,v34,v35,v36,v37,v38,v39,v40,v41,v42,v43,v44,v45,v46,v47,v48,v49,v50,v51,v52,v53,v54,v55,v56,v57,v58,v59,v60,v61,v62,v63,v64,v65,v66,v67,v68,v69,v70,v71,v72,v73,v74,rfl⟩:=array75 T2 h75
 simp only [List.getElem?_toArray,List.getElem?_cons_zero,List.getElem?_cons_succ,Option.some.injEq] at t6 t8 t9
 subst t6 t8 t9
 clear h75
 refine (fun (h : ∀ X,X = Y5 -> To Try.prog Post E (Las Try.prog E 3) 0 0 0 N role V2 (G ((base 23).at ⟨_,[]⟩ [.code X]) (bQ.at aQ (.inRegion opsQ (iQ :: restQ) :: kQ) :: cs0)))=>h Y5 rfl) ?_
 intro X hX
 simp only [Y5,B23,nva,nvb,nvk,nvl,Try.f23,Option.getD_some] at hX
 subst hX
 refine wB (L:=Lone) (J:=fun g=>To Try.prog Post E (Las Try.prog E 3) 0 0 0 N role V2 g) (mu_to hO.ok) (muv_to hO.ok hn2) fun kk hkk=>?_
 have hn3:=F2.nrm
 refine mus_put (L:=Lone) (mus_to hO.ok hn3) (K:=fun g=>To Try.prog Post E (Las Try.prog E 3) 0 0 0 N role V2 g) (K':=fun g=>To Try.prog Post E (Las Try.prog E 3) 0 0 0 N role (V2.setCell ⟨C.cb,2,none⟩ (.bool true)) g) rfl (.inl rfl) rfl (by kernel_rfl) (fun τ=>?_) ?_
 . go_simp
   rfl
 generalize (V2.setCell ⟨C.cb,2,none⟩ (.bool true)) = V3 at *
 clear c2 c3
 have e0 : ∀ τ,(re V3 τ 0).cell? ⟨C.cb,0,none⟩ = some (.slice lb C.n C.cap):=fun τ=>by
   rw [re_cell,← hl]
   exact cell_of F2.cw.crew (by simp)
 walk_nrm
 obtain ⟨K,hK,hV,key,yek⟩:=kKV (L:=Lone) (J:=fun g=>To Try.prog Post E (Las Try.prog E 3) 0 0 0 N role V3 g) (mu_to hO.ok) (muv_to hO.ok hn3)
 refine key _ ?_
 refine wA fun kk hkk=>?_
 refine mu_loop hK ?_
 refine yek _ ?_
 clear hK hV key yek K
 refine (fun (h : ∀ X Y,L2 = X -> Y7 = Y -> To Try.prog Post E (Las Try.prog E 3) 0 0 0 N role V3 (G ((base 23).at _ [.code X,.inLoop X,.inBlock 2,.code Y]) (bQ.at aQ (.inRegion opsQ (iQ :: restQ) :: kQ) :: cs0)))=>h _ _ (by simp only [L2,B23,nva,nvb,nvk,nvl,Try.f23,Option.getD_some]) (by simp only [Y7,B23,nva,nvb,nvk,nvl,Try.f23,Option.getD_some])) ?_
 intro X Y hX hY
 subst hX hY
 clear e0
 exact end_loop (rb:=rb) hO hU hn64 L (fun T4 st4 role4 V4 F4 R4 h4 hT4=>run_fin hO hU F4 R4 h4 hz0 hrb hrb0 hT4 fun V5 hA=>K0 _ V5 _ _ hA) C.n 0 _ _ role V3 (by omega) F2 R3 (fun i hi=>absurd hi (by omega)) ⟨by simp,rfl,rfl,rfl,hl.symm ▸ rfl,rfl,rfl⟩
end
structure Pks (V : World) (own0 : Nat -> Prop) (pv : Value) (ps : List Int) : Prop where
 v : ∃ b c,pv = .slice b ps.length c /\ (0 < ps.length -> ∃ g o,b = some ⟨g,o,none⟩ /\ g < V.heap.size /\ ¬ own0 g /\ ∀ k (hk : k < ps.length),V.cell? ⟨g,o + k,none⟩ = some (.int .i64 (ps[k]'hk)))
 r : ∀ p ∈ ps,-9223372036854775808 <= p /\ p <= 9223372036854775807
structure PksU (U : Cw -> Usr) (n : Nat) (V : World) (own0 : Nat -> Prop) (pv : Value) (ps : List Int) : Prop where
 v : ∃ b c,pv = .slice b ps.length c /\ (0 < ps.length -> ∃ g o,b = some ⟨g,o,none⟩ /\ ((g < V.heap.size /\ ¬ own0 g /\ ∀ k (hk : k < ps.length),V.cell? ⟨g,o + k,none⟩ = some (.int .i64 (ps[k]'hk))) ∨ ∀ C : Cw,C.n = n -> ∀ σ own V',(U C).inv σ own V' -> ∀ k (hk : k < ps.length),V'.cell? ⟨g,o + k,none⟩ = some (.int .i64 (ps[k]'hk))))
 r : ∀ p ∈ ps,-9223372036854775808 <= p /\ p <= 9223372036854775807
theorem Pks.u {U : Cw -> Usr} {n : Nat} {V : World} {own0 : Nat -> Prop} {pv : Value} {ps : List Int} (h : Pks V own0 pv ps) : PksU U n V own0 pv ps:=⟨by
 obtain ⟨b,c,e,k⟩:=h.v
 refine ⟨b,c,e,fun h0=>?_⟩
 obtain ⟨g,o,e1,h1,h2,h3⟩:=k h0
 exact ⟨g,o,e1,.inl ⟨h1,h2,h3⟩⟩,h.r⟩
structure RunPost (V : World) (own0 : Nat -> Prop) (n : Nat) (U : Usr) (σ : U.S) (xs : List Nat) (Z Z' : Cuts) (V' : World) (ov ovr pkr : Value) (own' : Nat -> Prop) : Prop where
 nrm : norm V' = V'
 big : V.heap.size <= V'.heap.size
 keep : ∀ b,b < V.heap.size -> ¬ own0 b -> V'.heap[b]? = V.heap[b]?
 inv : U.inv σ own' V'
 own : ∀ b,own' b -> b < V'.heap.size /\ (own0 b ∨ V.heap.size <= b)
 o1 : V'.ownsRow 0 3 1 ov xs.length (ints xs)
 o2 : V'.ownsRow 0 4 1 ovr n (bls U σ 3 n)
 o3 : V'.ownsRow 0 4 1 pkr n (bls U σ 2 n)
 w1 : ∀ b,ov.ownBlock = some b -> ¬ own' b
 w2 : ∀ b,ovr.ownBlock = some b -> ¬ own' b
 w3 : ∀ b,pkr.ownBlock = some b -> ¬ own' b
 shut : ∀ b,Z' b ≠ some (3,0,0)
 zold : ∀ b,b < V.heap.size -> Z' b = Z b
theorem cell_keep {V V' : World} {b k : Nat} {v : Value} (h : V.cell? ⟨b,k,none⟩ = some v) (he : V'.heap[b]? = V.heap[b]?) : V'.cell? ⟨b,k,none⟩ = some v:=by
 unfold World.cell? at *
 simp only at *
 rw [he]; exact h
theorem ms_rp {C : Cw} {E : Env} {U : Usr} {Q : Nat -> Prop} {VQ V : World} {σ : U.S} {xs : List Nat} {ow : Nat -> Nat} {role : Nat -> Role} {N : Nat} {ov : Value} (hU : UOk E C U) (hQ : ∀ b,Q b -> b < VQ.heap.size) (M : Ms C U Q VQ σ xs ow role N V ov) :
   Rp C U Q VQ σ xs (fun b=>if b = V.heap.size then 2 else ow b) role N (set3 (V.alloc (.cells #[.slice none 0 0,.slice none 0 0,.slice none 0 0] 28)) V.heap.size ov (.slice none 0 0) (.slice none 0 0)) V.heap.size ov (.slice none 0 0) (.slice none 0 0) 0 0:=by
 have how : ow V.heap.size = 0:=by
   apply Classical.byContradiction
   intro h
   have:=M.sea.lt _ h
   omega
 have hg : ∀ b,b < V.heap.size -> (set3 (V.alloc (.cells #[.slice none 0 0,.slice none 0 0,.slice none 0 0] 28)) V.heap.size ov (.slice none 0 0) (.slice none 0 0)).heap[b]? = V.heap[b]?:=fun b hb=>by
   rw [set3_get (by omega),alloc_get,if_neg (by omega)]
 have hsz : (set3 (V.alloc (.cells #[.slice none 0 0,.slice none 0 0,.slice none 0 0] 28)) V.heap.size ov (.slice none 0 0) (.slice none 0 0)).heap.size = V.heap.size + 1:=by rw [set3_size,alloc_size]
 have hrow : ∀ b,ov.ownBlock = some b -> b < V.heap.size:=fun b hb=>M.sea.lt b (by rw [(M.rown b hb).1]; decide)
 refine ⟨M.sea.main hU (norm_set (norm_set (norm_set (norm_alloc M.sea.nrm _) _ _) _ _) _ _) (by rw [hsz]; omega) (fun b hb=>hg b (M.sea.lt b (by omega))) (fun b=>?_) (fun b=>?_) (fun b hb=>?_),fun b hb=>⟨?_,by rw [hg b (M.sea.lt b (by rw [(M.q b hb).1]; decide))]; exact (M.q b hb).2⟩,by rw [hsz]; have:=M.big; omega,?_,⟨by simp,fun h=>by have:=hQ _ h; have:=M.big; omega⟩,owns_keep M.row fun b hb=>hg b (hrow b hb),⟨rfl,.inl ⟨rfl,rfl⟩⟩,⟨rfl,.inl ⟨rfl,rfl⟩⟩,fun b hb=>⟨?_,(M.rown b hb).2,?_⟩,fun b hb=>(by cases hb),fun b hb=>(by cases hb)⟩
 . by_cases e : b = V.heap.size
   . subst e; simp [how]
   . simp [e]
 . by_cases e : b = V.heap.size
   . subst e; simp [how]
   . simp [e]
 . rw [hsz]
   by_cases e : b = V.heap.size
   . omega
   . simp only [e,if_false] at hb
     have:=M.sea.lt b hb
     omega
 . have:=M.sea.lt b (by rw [(M.q b hb).1]; decide)
   simp only [show ¬ b = V.heap.size by omega,if_false]
   exact (M.q b hb).1
 . unfold set3
   rw [setCell_heap,if_pos rfl,setCell_heap,if_pos rfl,setCell_heap,if_pos rfl,alloc_get,if_pos rfl]
   simp
 . have:=hrow b hb
   simp only [show ¬ b = V.heap.size by omega,if_false]
   exact (M.rown b hb).1
 . have:=hrow b hb
   omega
@[go_sem] theorem build28 (s1 : Option Addr) (n c : Nat) (w : World) : (Instr.build 28 #[(0,.slice s1 n c)]).run Try.prog w = .ok (.agg #[.slice s1 n c,.slice none 0 0,.slice none 0 0]) w:=run_build w 28 _ _ (by kernel_rfl)
section
variable {C : Cw} {E : Env} {U : Usr} {Q : Nat -> Prop} {σ : U.S} {xs : List Nat} {ow : Nat -> Nat} {role : Nat -> Role} {N : Nat} {V VQ : World} {ov ovr pkr : Value} {r2 rb k2 k3 k : Nat} {Post : Value -> World -> Prop} {bQ : Frame} {aQ : Act} {opsQ : Array Oper} {iQ : Nat} {restQ : List Nat} {kQ : List Item} {cs0 : List Frame}
theorem run_go {Z : Cuts} {fs : List Value} {fv pv : Value} {ps : List Int} {rounds : Int} {Rn : Nat} {U : Cw -> Usr} {σ0 : ∀ C,(U C).S} {own0 : Nat -> Prop} (hn : norm V = V) (hF : FnRow V fv fs) (hlen : fs.length <= 64) (hz : ∀ b,Z b ≠ some (3,0,0)) (hown : ∀ b,own0 b -> b < V.heap.size) (hp : PksU U fs.length V own0 pv ps) (hpl : ps.length < 100000000)
   (hR : (Rn : Int) = if 1048576 < (if rounds < 0 then 0 else rounds) then 1048576 else if rounds < 0 then 0 else rounds)
   (hU : ∀ C E,CwOk E C -> C.n = fs.length -> (∀ i,C.f i = fs.getD i .nilFunc) -> UOk E C (U C)) (hst : ∀ C : Cw,C.n = fs.length -> ∀ i,i < fs.length -> (U C).st (σ0 C) i = st0 fs i) (hinv : ∀ C : Cw,C.n = fs.length -> (U C).inv (σ0 C) own0 V)
   (K0 : ∀ C σ' xs' Z' V' ov ovr pkr own',C.n = fs.length -> (σ',xs') = rnds (U C) fs.length Rn (ps.foldl (pk (U C) fs.length) (σ0 C,[])) -> RunPost V own0 fs.length (U C) σ' xs' Z Z' V' ov ovr pkr own' -> To0 Try.prog Post Z' V' (G (bQ.at (aQ.put ((opsQ[iQ]?).bind (·.dst)) (.tuple #[.agg #[ov,ovr,pkr],.int .i64 0])) (.inRegion opsQ restQ :: kQ)) cs0)) :
   To0 Try.prog Post Z V (G (Frame.enter Try.prog 23 #[fv,pv,.int .i64 rounds] .normal) (bQ.at aQ (.inRegion opsQ (iQ :: restQ) :: kQ) :: cs0)):=by
 have hF':=hF
 obtain ⟨fb,fc,hfv,-⟩:=hF.v
 subst hfv
 have q1 : decide ((64 : Int) < (fs.length : Int)) = false:=decide_eq_false (by omega)
 rw [enter_at (P:=Try.prog) _ Try.func23 rfl]
 simp only [Try.f23]
 walk_nrm
 refine wB (L:=Lone) (J:=fun g=>To0 Try.prog Post Z V g) mu_to0 (muv_to0 hn) fun kk hkk=>?_
 have hn1:=norm_al hn (.cells #[.slice none 0 0,.slice none 0 0,.slice none 0 0] 28)
 refine mua_put (L:=Lone) (v:=.pointer (some ⟨V.heap.size,0,none⟩)) (mua_to0 hn1) (K:=fun g=>To0 Try.prog Post Z V g) (K':=fun g=>To0 Try.prog Post Z (V.alloc (.cells #[.slice none 0 0,.slice none 0 0,.slice none 0 0] 28)) g) rfl (.inl rfl) rfl (by kernel_rfl) (fun τ=>?_) ?_
 . go_simp
   exact ⟨rfl,rfl⟩
 have s1 : (V.alloc (.cells #[.slice none 0 0,.slice none 0 0,.slice none 0 0] 28)).heap.size = V.heap.size + 1:=al_size _ _
 have g1 : ∀ b,b < V.heap.size -> (V.alloc (.cells #[.slice none 0 0,.slice none 0 0,.slice none 0 0] 28)).heap[b]? = V.heap[b]?:=fun b hb=>by rw [al_get,if_neg (by omega)]
 have r1:=al_at V (.cells #[.slice none 0 0,.slice none 0 0,.slice none 0 0] 28)
 generalize (V.alloc (.cells #[.slice none 0 0,.slice none 0 0,.slice none 0 0] 28)) = V1 at *
 have hF1 : FnRow V1 (.slice fb fs.length fc) fs:=by
   refine ⟨?_,hF.f⟩
   obtain ⟨b,c,e,h⟩:=hF.v
   refine ⟨b,c,e,fun h0=>?_⟩
   obtain ⟨g,o,e1,h1,h2⟩:=h h0
   exact ⟨g,o,e1,by omega,fun k hk=>cell_keep (h2 k hk) (g1 g h1)⟩
 walk_nrm
 obtain ⟨K,hK,hV,key,yek⟩:=kKV (L:=Lone) (J:=fun g=>To0 Try.prog Post Z V1 g) mu_to0 (muv_to0 hn1)
 refine key _ ?_
 refine wA fun kk hkk=>?_
 refine hK.cl rfl rfl rfl Try.func77 rfl ?_
 walk_nrm
 refine yek _ ?_
 clear hK hV key yek K
 refine muster_go hn1 hF1 hlen fun tb ch Z2 V2 lv cb bk M=>?_
 walk_nrm
 refine M.begin (Lst:=Las Try.prog (envOf Z2 V2 (cwOf fs lv cb bk tb ch)) 3) fun N hN=>?_
 have hO:=M.ok
 have hown1 : ∀ b,own0 b -> b < V1.heap.size:=fun b hb=>by have:=hown b hb; omega
 have hU1:=hU (cwOf fs lv cb bk tb ch) _ hO rfl (fun i=>rfl)
 have hinv1 : (U (cwOf fs lv cb bk tb ch)).inv (σ0 _) own0 V1:=hU1.frame _ _ _ _ (hinv _ rfl) (fun b hb=>g1 b (hown b hb)) (by omega)
 have hst1:=hst (cwOf fs lv cb bk tb ch) rfl
 have hMs:=M.ms (N:=N) hown1 hU1 hst1 hinv1 hN
 have hL:=M.lsAt own0 hown1
 have hQ : ∀ b,owOf (cwOf fs lv cb bk tb ch) own0 V2.heap.size b = 2 -> b < (frz V2 cb).heap.size:=fun b hb=>owOf_lt M hb
 have htwo : ∀ b,b < V1.heap.size -> ¬ own0 b -> owOf (cwOf fs lv cb bk tb ch) own0 V2.heap.size b = 2 /\ (frz V2 cb).heap[b]? = V1.heap[b]?:=fun b h1 h2=>M.two h1 h2
 have hshut:=M.shut hz
 have hzold : ∀ b,b < V1.heap.size -> (envOf Z2 V2 (cwOf fs lv cb bk tb ch)).Z b = Z b:=fun b hb=>by
   show begZ Z2 cb b = _
   unfold begZ
   rw [if_neg (by have:=M.lo; omega)]
   exact M.zold b hb
 have hC : (cwOf fs lv cb bk tb ch).n = fs.length:=rfl
 have hcbe : (cwOf fs lv cb bk tb ch).cb = cb:=rfl
 have hnf:=frz_norm V2 cb M.nrm
 have hsz3 : V1.heap.size <= (frz V2 cb).heap.size:=by rw [frz_size]; have:=M.lo; omega
 generalize envOf Z2 V2 (cwOf fs lv cb bk tb ch) = E at *
 generalize hCe : cwOf fs lv cb bk tb ch = C at *
 generalize frz V2 cb = V3 at *
 obtain ⟨Q,hQe⟩ : ∃ Q : Nat -> Prop,Q = fun b=>owOf C own0 V2.heap.size b = 2:=⟨_,rfl⟩
 rw [← hQe] at hMs hL
 have hQ' : ∀ b,Q b -> b < V3.heap.size:=fun b hb=>hQ b (by rw [hQe] at hb; exact hb)
 have htwo' : ∀ b,b < V1.heap.size -> ¬ own0 b -> Q b /\ V3.heap[b]? = V1.heap[b]?:=fun b h1 h2=>⟨by rw [hQe]; exact (htwo b h1 h2).1,(htwo b h1 h2).2⟩
 generalize owOf C own0 V2.heap.size = ow at *
 have hRdr : Rdr (U C) Q V3 pv ps:=by
   obtain ⟨b,c,e,h⟩:=hp.v
   refine ⟨⟨b,c,e,fun h0=>?_⟩,hp.r⟩
   obtain ⟨g,o,e1,h⟩:=h h0
   rcases h with ⟨h1,h2,h3⟩ | h
   . have h4:=htwo' g (by omega) h2
     exact ⟨g,o,e1,.inl ⟨h4.1,fun k hk=>cell_keep (h3 k hk) (h4.2.trans (g1 g h1))⟩⟩
   . exact ⟨g,o,e1,.inr (h C hC)⟩
 have hrbQ:=htwo' V.heap.size (by omega) (fun h=>by have:=hown _ h; omega)
 obtain ⟨cn,hcn⟩ : ∃ cn,cn = fs.length:=⟨_,rfl⟩
 obtain ⟨K,hK,hV,key,yek⟩:=kKV (L:=Lone) (J:=fun g=>To Try.prog Post E (Las Try.prog E 3) 0 0 0 N role0 V3 g) (mu_to hO.ok) (muv_to hO.ok hnf)
 refine key _ ?_
 refine wA fun kk hkk=>?_
 refine hK.cl rfl rfl rfl Try.func78 rfl ?_
 walk_nrm
 refine yek _ ?_
 clear hK hV key yek K
 rw [← hcbe]
 refine turns_go hO hU1 (by omega) hQ' hL hRdr hpl hR hMs fun σ' xs' ow' role' N' V4 ov' M4 h4=>?_
 have hn4:=M4.sea.nrm
 obtain ⟨ob,on,oc,rfl⟩:=slice_of M4.row
 have R6:=ms_rp hU1 hQ' M4
 walk_nrm
 refine wB (L:=Lone) (J:=fun g=>To Try.prog Post E (Las Try.prog E 3) 0 0 0 N' role' V4 g) (mu_to hO.ok) (muv_to hO.ok hn4) fun kk hkk=>?_
 have hn5:=norm_al hn4 (.cells #[.slice none 0 0,.slice none 0 0,.slice none 0 0] 28)
 refine mua_put (L:=Lone) (v:=.pointer (some ⟨V4.heap.size,0,none⟩)) (mua_to hO.ok hn5) (K:=fun g=>To Try.prog Post E (Las Try.prog E 3) 0 0 0 N' role' V4 g) (K':=fun g=>To Try.prog Post E (Las Try.prog E 3) 0 0 0 N' role' (V4.alloc (.cells #[.slice none 0 0,.slice none 0 0,.slice none 0 0] 28)) g) rfl (.inl rfl) rfl (by kernel_rfl) (fun τ=>?_) ?_
 . go_simp
   exact ⟨rfl,rfl⟩
 have hr5:=al_at V4 (.cells #[.slice none 0 0,.slice none 0 0,.slice none 0 0] 28)
 generalize hV5 : (V4.alloc (.cells #[.slice none 0 0,.slice none 0 0,.slice none 0 0] 28)) = V5 at *
 have f0 : ∀ τ,(re V5 τ 0).cell? ⟨V4.heap.size,0,none⟩ = some (.slice none 0 0):=fun τ=>cell_of hr5 (by simp)
 have f1 : ∀ τ,(re V5 τ 0).cell? ⟨V4.heap.size,1,none⟩ = some (.slice none 0 0):=fun τ=>cell_of hr5 (by simp)
 have f2 : ∀ τ,(re V5 τ 0).cell? ⟨V4.heap.size,2,none⟩ = some (.slice none 0 0):=fun τ=>cell_of hr5 (by simp)
 have f3 : ∀ τ,(re V5 τ 0).frozen? ⟨V4.heap.size,0,none⟩ = false:=fun τ=>by simp [World.frozen?,re,hr5]
 have f4 : ∀ τ,(re V5 τ 0).frozen? ⟨V4.heap.size,1,none⟩ = false:=fun τ=>by simp [World.frozen?,re,hr5]
 have f5 : ∀ τ,(re V5 τ 0).frozen? ⟨V4.heap.size,2,none⟩ = false:=fun τ=>by simp [World.frozen?,re,hr5]
 walk_nrm
 have hn6:=R6.sea.nrm
 refine mus_put (L:=Lone) (mus_to hO.ok hn6) (K:=fun g=>To Try.prog Post E (Las Try.prog E 3) 0 0 0 N' role' V5 g) (K':=fun g=>To Try.prog Post E (Las Try.prog E 3) 0 0 0 N' role' (set3 V5 V4.heap.size (.slice ob on oc) (.slice none 0 0) (.slice none 0 0)) g) rfl (.inl rfl) rfl (by kernel_rfl) (fun τ=>?_) ?_
 . go_simp
   rfl
 generalize (set3 V5 V4.heap.size (.slice ob on oc) (.slice none 0 0) (.slice none 0 0)) = V6 at *
 clear f0 f1 f2 f3 f4 f5 hr5
 walk_nrm
 obtain ⟨K,hK,hV,key,yek⟩:=kKV (L:=Lone) (J:=fun g=>To Try.prog Post E (Las Try.prog E 3) 0 0 0 N' role' V6 g) (mu_to hO.ok) (muv_to hO.ok hn6)
 refine key _ ?_
 with_reducible refine mu_region_end hK ?_
 try subst hkk
 refine yek _ ?_
 clear hK hV key yek K
 refine (fun (h : ∀ X,Y4 = X -> To Try.prog Post E (Las Try.prog E 3) 0 0 0 N' role' V6 (G ((base 23).at _ [.code X]) (bQ.at aQ (.inRegion opsQ (iQ :: restQ) :: kQ) :: cs0)))=>h _ (by simp only [Y4,B23,nva,nvb,nvk,nvl,Try.f23,Option.getD_some])) ?_
 intro X hX
 subst hX
 refine run_tail hO hU1 (by omega) hQ' hL R6 hshut hrbQ.1 (hrbQ.2.trans r1) ⟨by simp,rfl,rfl,rfl⟩ fun ow7 V7 ovr pkr A=>?_
 rw [hC] at h4
 have A2:=A.o2
 have A3:=A.o3
 rw [hC] at A2 A3
 refine K0 C σ' xs' E.Z V7 _ _ _ (fun b=>ow7 b = 3) hC h4 ⟨A.nrm,by have:=A.big; omega,fun b hb hno=>?_,A.inv,fun b hb=>⟨A.lt b hb,?_⟩,A.o1,A2,A3,fun b hb e=>by have:=(A.w1 b hb).1; omega,fun b hb e=>by have:=(A.w2 b hb).1; omega,fun b hb e=>by have:=(A.w3 b hb).1; omega,hshut,fun b hb=>hzold b (by omega)⟩
 . have h5:=htwo' b (by omega) hno
   rw [A.keep b h5.1 (by omega),h5.2]
   exact g1 b hb
 . by_cases h6 : own0 b
   . exact .inl h6
   . refine .inr (Nat.le_of_not_lt fun h7=>?_)
     have h5:=htwo' b (by omega) h6
     rw [A.q b h5.1] at hb
     cases hb
end
def rops : Code -> Array Oper | .region _ ops _=>ops | _=>#[]
theorem at_inj {b b' : Frame} {a a' : Act} {t t' : List Item} (h : b.at a t = b'.at a' t') : a = a' /\ t = t' /\ ∀ a t,b.at a t = b'.at a t:=by
 obtain ⟨_,_⟩:=a
 obtain ⟨_,_⟩:=a'
 cases b
 cases b'
 simp only [Frame.at,Frame.mk.injEq] at h
 refine ⟨?_,?_,fun a t=>?_⟩
 . simp [h]
 . simp [h]
 . simp [Frame.at,h]
theorem item_inj {ops ops' : Array Oper} {r r' : List Nat} {k k' : List Item} (h : (Item.inRegion ops r :: k) = Item.inRegion ops' r' :: k') : ops = ops' /\ r = r' /\ k = k':=by
 simpa [and_assoc] using h
theorem uf_at {b : Frame} {a : Act} {ops : Array Oper} {i : Nat} {rest : List Nat} {k : List Item} (h1 : b.mode = .run) (h2 : b.kind = .normal) (h3 : a.defers = []) (h4 : ∃ fn,Try.prog.funcs[b.fn]? = some fn) : UF (b.at a (.inRegion ops (i :: rest) :: k)):=⟨by first | rfl | exact h1,h2,h3,h4,b,a,ops,i,rest,k,rfl⟩
open Go.RowKit
def New (w w' : World) : Prop:=Below w.heap.size w w'
section
variable {a w w' : World}
theorem New.refl (w : World) : New w w:=Below.refl _ _
theorem New.trans {a b c : World} (h : New a b) (k : New b c) : New a c:=Below.trans h (Below.mono k h.size)
theorem New.drew (h : New a w) : New a w.drew:=⟨h.os,h.tape,h.output,h.size,h.block⟩
theorem New.alloc (h : New a w) (o : Obj) : New a (w.alloc o):=Below.alloc h h.size o
theorem New.cell (h : New w w') {p : Addr} (hp : p.block < w.heap.size) : w'.cell? p = w.cell? p:=Below.cell h hp
end
def Rds (w : World) (A : Option Addr) (n : Nat) (f : Nat -> Value) : Prop:=n <= 9223372036854775807 /\ (0 < n -> ∃ g o,A = some ⟨g,o,none⟩ /\ g < w.heap.size /\ ∀ j,j < n -> w.cell? ⟨g,o + j,none⟩ = some (f j))
theorem Rds.new {w w' : World} {A : Option Addr} {n : Nat} {f : Nat -> Value} (h : Rds w A n f) (hn : New w w') : Rds w' A n f:=⟨h.1,fun h0=>by
 obtain ⟨g,o,e,hg,k⟩:=h.2 h0
 exact ⟨g,o,e,Nat.lt_of_lt_of_le hg hn.size,fun j hj=>(hn.cell (p:=⟨g,o + j,none⟩) hg).trans (k j hj)⟩⟩
structure Kp (V V' : World) : Prop where
 size : V.heap.size <= V'.heap.size
 keep : ∀ b,b < V.heap.size -> V'.heap[b]? = V.heap[b]?
theorem Kp.upA {V W W' : World} (k : Kp V W) (l : W.heap.size <= W'.heap.size) (h : ∀ b,b < W.heap.size -> b = b -> W'.heap[b]? = W.heap[b]?) : Kp V W':=⟨Nat.le_trans k.size l,fun b hb=>(h b (Nat.lt_of_lt_of_le hb k.size) rfl).trans (k.keep b hb)⟩
theorem Kp.upB {V W W' : World} (k : Kp V W) (l : W.heap.size <= W'.heap.size) {X : Nat} (h : ∀ b,b < W.heap.size -> b ≠ X -> W'.heap[b]? = W.heap[b]?) (hx : ∀ b,b < V.heap.size -> b ≠ X:=by intro b hb; omega) : Kp V W':=⟨Nat.le_trans k.size l,fun b hb=>(h b (Nat.lt_of_lt_of_le hb k.size) (hx b hb)).trans (k.keep b hb)⟩
theorem Kp.refl (V : World) : Kp V V:=⟨Nat.le_refl _,fun _ _=>rfl⟩
theorem Kp.trans {a b c : World} (h : Kp a b) (k : Kp b c) : Kp a c:=⟨Nat.le_trans h.size k.size,fun x hx=>(k.keep x (Nat.lt_of_lt_of_le hx h.size)).trans (h.keep x hx)⟩
theorem kp_new {V w' : World} {τ : Nat -> Question -> Nat} (h : New (re V τ 0) w') : Kp V (norm w'):=⟨h.size,fun b hb=>h.block b hb⟩
theorem Kp.cell {V V' : World} (h : Kp V V') {b k : Nat} {v : Value} (hc : V.cell? ⟨b,k,none⟩ = some v) : V'.cell? ⟨b,k,none⟩ = some v:=by
 have hb : b < V.heap.size:=by
   apply Nat.lt_of_not_le
   intro hge
   simp [World.cell?,Array.getElem?_eq_none hge] at hc
 exact cell_keep hc (h.keep b hb)
theorem Kp.row {V V' : World} (h : Kp V V') {e : TypeId} {v : Value} {n : Nat} {xs : List Value} (r : V.ownsRow 0 e 1 v n xs) : V'.ownsRow 0 e 1 v n xs:=row_keep r fun b hb=>h.keep b (row_at r hb)
section
variable {V : World} {Z : Cuts} {Post : Value -> World -> Prop} {bQ : Frame} {aQ : Act} {opsQ : Array Oper} {iQ : Nat} {restQ : List Nat} {kQ : List Item} {cs0 : List Frame}
end
end Go.Proofs.Ytibcdikfbhmheaa
